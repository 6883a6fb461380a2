/- Closed facts of FnExactDiscreteOf and of its row, reckoned by the kernel. -/
import Derived.Test.YthbdmcobpcoajaaGreatDoorKADiscreteOf
import Derived.Test.YthbdmcobpcoajaaGreatDoorKCDiscreteOf
import Derived.Test.YthbdmcobpcoajaaGreatDoorKDDiscreteOf
import Derived.Test.YthbdmcobpcoajaaGreatDoorKP
namespace Go.Proofs.YthbdmcobpcoajaaGreatDoor.fnExactDiscreteOf
open Go Go.ChangeShapes Go.WideShapes Go.ChangeAt
theorem k_closed : joinedFacts Tryz.prog 7 Tryz.f7 (OpenSpec.ofChange Rows.fnExactDiscreteOfSpec).bare Rows.fnExactDiscreteOfRow = true := by
  unfold joinedFacts
  rw [k_in, k_unf, k_rec, k_named]
  kernel_rfl
end Go.Proofs.YthbdmcobpcoajaaGreatDoor.fnExactDiscreteOf
