/- Closed facts of FnExactBigraphText and of its row, reckoned by the kernel. -/
import Derived.Test.YthbdmcobpcoajaaGreatDoorKABigraphText
import Derived.Test.YthbdmcobpcoajaaGreatDoorKCBigraphText
import Derived.Test.YthbdmcobpcoajaaGreatDoorKDBigraphText
import Derived.Test.YthbdmcobpcoajaaGreatDoorKP
namespace Go.Proofs.YthbdmcobpcoajaaGreatDoor.fnExactBigraphText
open Go Go.ChangeShapes Go.WideShapes Go.ChangeAt
theorem k_closed : joinedFacts Tryz.prog 8 Tryz.f8 (OpenSpec.ofChange Rows.fnExactBigraphTextSpec).bare Rows.fnExactBigraphTextRow = true := by
  unfold joinedFacts
  rw [k_in, k_unf, k_rec, k_named]
  kernel_rfl
end Go.Proofs.YthbdmcobpcoajaaGreatDoor.fnExactBigraphText
