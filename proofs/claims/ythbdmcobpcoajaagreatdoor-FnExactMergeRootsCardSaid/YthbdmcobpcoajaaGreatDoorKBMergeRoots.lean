/- Closed facts of FnExactMergeRoots and of its row, reckoned by the kernel. -/
import Derived.Test.YthbdmcobpcoajaaGreatDoorKAMergeRoots
import Derived.Test.YthbdmcobpcoajaaGreatDoorKCMergeRoots
import Derived.Test.YthbdmcobpcoajaaGreatDoorKDMergeRoots
import Derived.Test.YthbdmcobpcoajaaGreatDoorKP
namespace Go.Proofs.YthbdmcobpcoajaaGreatDoor.fnExactMergeRoots
open Go Go.ChangeShapes Go.WideShapes Go.ChangeAt
theorem k_closed : joinedFacts Tryz.prog 6 Tryz.f6 (OpenSpec.ofChange Rows.fnExactMergeRootsSpec).bare Rows.fnExactMergeRootsRow = true := by
  unfold joinedFacts
  rw [k_in, k_unf, k_rec, k_named]
  kernel_rfl
end Go.Proofs.YthbdmcobpcoajaaGreatDoor.fnExactMergeRoots
