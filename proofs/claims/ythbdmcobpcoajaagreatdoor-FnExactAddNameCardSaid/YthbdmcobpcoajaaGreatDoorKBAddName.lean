/- Closed facts of FnExactAddName and of its row, reckoned by the kernel. -/
import Derived.Test.YthbdmcobpcoajaaGreatDoorKAAddName
import Derived.Test.YthbdmcobpcoajaaGreatDoorKCAddName
import Derived.Test.YthbdmcobpcoajaaGreatDoorKDAddName
import Derived.Test.YthbdmcobpcoajaaGreatDoorKP
namespace Go.Proofs.YthbdmcobpcoajaaGreatDoor.fnExactAddName
open Go Go.ChangeShapes Go.WideShapes Go.ChangeAt
theorem k_closed : joinedFacts Tryz.prog 11 Tryz.f11 (OpenSpec.ofChange Rows.fnExactAddNameSpec).bare Rows.fnExactAddNameRow = true := by
  unfold joinedFacts
  rw [k_in, k_unf, k_rec, k_named]
  kernel_rfl
end Go.Proofs.YthbdmcobpcoajaaGreatDoor.fnExactAddName
