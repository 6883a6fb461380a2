/- Closed facts of FnExactDiscreteOf and of its row, reckoned by the kernel. -/
import Derived.Test.YthbdmcobpcoajaaGreatDoorCards
import Derived.Test.YthbdmcobpcoajaaGreatDoorTie
import Derived.ProofKit
import Derived.JoinedOf
import Derived.KernelRfl
namespace Go.Proofs.YthbdmcobpcoajaaGreatDoor.fnExactDiscreteOf
open Go Go.ChangeShapes Go.WideShapes Go.ChangeAt
theorem k_fn : Tryz.pinned.checked.prog.funcNamed Rows.fnExactDiscreteOfRow.func = some 7 := by kernel_rfl
theorem k_wf : Rows.fnExactDiscreteOfRow.wfByText (OpenSpec.ofChange Rows.fnExactDiscreteOfSpec) = true := by kernel_rfl
theorem k_goes : false = Rows.fnExactDiscreteOfRow.goesBy Tryz.pinned.checked.prog := by kernel_rfl
end Go.Proofs.YthbdmcobpcoajaaGreatDoor.fnExactDiscreteOf
