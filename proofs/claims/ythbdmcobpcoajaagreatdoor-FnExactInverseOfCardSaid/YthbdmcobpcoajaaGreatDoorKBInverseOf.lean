/- Closed facts of FnExactInverseOf and of its row, reckoned by the kernel. -/
import Derived.Test.YthbdmcobpcoajaaGreatDoorKAInverseOf
import Derived.Test.YthbdmcobpcoajaaGreatDoorKCInverseOf
import Derived.Test.YthbdmcobpcoajaaGreatDoorKDInverseOf
import Derived.Test.YthbdmcobpcoajaaGreatDoorKP
namespace Go.Proofs.YthbdmcobpcoajaaGreatDoor.fnExactInverseOf
open Go Go.ChangeShapes Go.WideShapes Go.ChangeAt
theorem k_closed : joinedFacts Tryz.prog 3 Tryz.f3 (OpenSpec.ofChange Rows.fnExactInverseOfSpec).bare Rows.fnExactInverseOfRow = true := by
  unfold joinedFacts
  rw [k_in, k_unf, k_rec, k_named]
  kernel_rfl
end Go.Proofs.YthbdmcobpcoajaaGreatDoor.fnExactInverseOf
