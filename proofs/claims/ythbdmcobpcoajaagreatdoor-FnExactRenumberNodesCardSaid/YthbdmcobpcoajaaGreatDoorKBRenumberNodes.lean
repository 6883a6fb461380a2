/- Closed facts of FnExactRenumberNodes and of its row, reckoned by the kernel. -/
import Derived.Test.YthbdmcobpcoajaaGreatDoorKARenumberNodes
import Derived.Test.YthbdmcobpcoajaaGreatDoorKCRenumberNodes
import Derived.Test.YthbdmcobpcoajaaGreatDoorKDRenumberNodes
import Derived.Test.YthbdmcobpcoajaaGreatDoorKP
namespace Go.Proofs.YthbdmcobpcoajaaGreatDoor.fnExactRenumberNodes
open Go Go.ChangeShapes Go.WideShapes Go.ChangeAt
theorem k_closed : joinedFacts Tryz.prog 9 Tryz.f9 (OpenSpec.ofChange Rows.fnExactRenumberNodesSpec).bare Rows.fnExactRenumberNodesRow = true := by
  unfold joinedFacts
  rw [k_in, k_unf, k_rec, k_named]
  kernel_rfl
end Go.Proofs.YthbdmcobpcoajaaGreatDoor.fnExactRenumberNodes
