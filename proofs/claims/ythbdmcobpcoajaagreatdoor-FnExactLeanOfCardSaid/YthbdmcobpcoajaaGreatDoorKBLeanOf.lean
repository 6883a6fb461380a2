/- Closed facts of FnExactLeanOf and of its row, reckoned by the kernel. -/
import Derived.Test.YthbdmcobpcoajaaGreatDoorKALeanOf
import Derived.Test.YthbdmcobpcoajaaGreatDoorKCLeanOf
import Derived.Test.YthbdmcobpcoajaaGreatDoorKDLeanOf
import Derived.Test.YthbdmcobpcoajaaGreatDoorKP
namespace Go.Proofs.YthbdmcobpcoajaaGreatDoor.fnExactLeanOf
open Go Go.ChangeShapes Go.WideShapes Go.ChangeAt
theorem k_closed : joinedFacts Tryz.prog 4 Tryz.f4 (OpenSpec.ofChange Rows.fnExactLeanOfSpec).bare Rows.fnExactLeanOfRow = true := by
  unfold joinedFacts
  rw [k_in, k_unf, k_rec, k_named]
  kernel_rfl
end Go.Proofs.YthbdmcobpcoajaaGreatDoor.fnExactLeanOf
