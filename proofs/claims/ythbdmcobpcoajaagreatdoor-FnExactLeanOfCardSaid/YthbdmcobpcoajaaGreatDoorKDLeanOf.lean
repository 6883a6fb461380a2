/- Closed facts of FnExactLeanOf and of its row, reckoned by the kernel. -/
import Derived.Test.YthbdmcobpcoajaaGreatDoorCards
import Derived.Test.YthbdmcobpcoajaaGreatDoorTie
import Derived.ProofKit
import Derived.JoinedOf
import Derived.KernelRfl
namespace Go.Proofs.YthbdmcobpcoajaaGreatDoor.fnExactLeanOf
open Go Go.ChangeShapes Go.WideShapes Go.ChangeAt
theorem k_fn : Tryz.pinned.checked.prog.funcNamed Rows.fnExactLeanOfRow.func = some 4 := by kernel_rfl
theorem k_wf : Rows.fnExactLeanOfRow.wfByText (OpenSpec.ofChange Rows.fnExactLeanOfSpec) = true := by kernel_rfl
theorem k_goes : false = Rows.fnExactLeanOfRow.goesBy Tryz.pinned.checked.prog := by kernel_rfl
end Go.Proofs.YthbdmcobpcoajaaGreatDoor.fnExactLeanOf
