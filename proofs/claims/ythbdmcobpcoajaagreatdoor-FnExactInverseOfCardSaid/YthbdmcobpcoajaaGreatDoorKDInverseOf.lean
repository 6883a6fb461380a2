/- Closed facts of FnExactInverseOf and of its row, reckoned by the kernel. -/
import Derived.Test.YthbdmcobpcoajaaGreatDoorCards
import Derived.Test.YthbdmcobpcoajaaGreatDoorTie
import Derived.ProofKit
import Derived.JoinedOf
import Derived.KernelRfl
namespace Go.Proofs.YthbdmcobpcoajaaGreatDoor.fnExactInverseOf
open Go Go.ChangeShapes Go.WideShapes Go.ChangeAt
theorem k_fn : Tryz.pinned.checked.prog.funcNamed Rows.fnExactInverseOfRow.func = some 3 := by kernel_rfl
theorem k_wf : Rows.fnExactInverseOfRow.wfByText (OpenSpec.ofChange Rows.fnExactInverseOfSpec) = true := by kernel_rfl
theorem k_goes : false = Rows.fnExactInverseOfRow.goesBy Tryz.pinned.checked.prog := by kernel_rfl
end Go.Proofs.YthbdmcobpcoajaaGreatDoor.fnExactInverseOf
