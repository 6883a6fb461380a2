/- Closed facts of FnExactBigraphText and of its row, reckoned by the kernel. -/
import Derived.Test.YthbdmcobpcoajaaGreatDoorCards
import Derived.Test.YthbdmcobpcoajaaGreatDoorTie
import Derived.ProofKit
import Derived.JoinedOf
import Derived.KernelRfl
namespace Go.Proofs.YthbdmcobpcoajaaGreatDoor.fnExactBigraphText
open Go Go.ChangeShapes Go.WideShapes Go.ChangeAt
theorem k_fn : Tryz.pinned.checked.prog.funcNamed Rows.fnExactBigraphTextRow.func = some 8 := by kernel_rfl
theorem k_wf : Rows.fnExactBigraphTextRow.wfByText (OpenSpec.ofChange Rows.fnExactBigraphTextSpec) = true := by kernel_rfl
theorem k_goes : false = Rows.fnExactBigraphTextRow.goesBy Tryz.pinned.checked.prog := by kernel_rfl
end Go.Proofs.YthbdmcobpcoajaaGreatDoor.fnExactBigraphText
