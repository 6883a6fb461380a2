/- Closed facts of FnExactRenameOuter and of its row, reckoned by the kernel. -/
import Derived.Test.YthbdmcobpcoajaaGreatDoorCards
import Derived.Test.YthbdmcobpcoajaaGreatDoorTie
import Derived.ProofKit
import Derived.JoinedOf
import Derived.KernelRfl
namespace Go.Proofs.YthbdmcobpcoajaaGreatDoor.fnExactRenameOuter
open Go Go.ChangeShapes Go.WideShapes Go.ChangeAt
theorem k_fn : Tryz.pinned.checked.prog.funcNamed Rows.fnExactRenameOuterRow.func = some 12 := by kernel_rfl
theorem k_wf : Rows.fnExactRenameOuterRow.wfByText (OpenSpec.ofChange Rows.fnExactRenameOuterSpec) = true := by kernel_rfl
theorem k_goes : false = Rows.fnExactRenameOuterRow.goesBy Tryz.pinned.checked.prog := by kernel_rfl
end Go.Proofs.YthbdmcobpcoajaaGreatDoor.fnExactRenameOuter
