/- Closed facts of FnExactRenumberNodes and of its row, reckoned by the kernel. -/
import Derived.Test.YthbdmcobpcoajaaGreatDoorCards
import Derived.Test.YthbdmcobpcoajaaGreatDoorTie
import Derived.ProofKit
import Derived.JoinedOf
import Derived.KernelRfl
namespace Go.Proofs.YthbdmcobpcoajaaGreatDoor.fnExactRenumberNodes
open Go Go.ChangeShapes Go.WideShapes Go.ChangeAt
theorem k_in : (Rows.fnExactRenumberNodesRow.inPlace == Tryz.prog.inPlace 9) = true := by kernel_rfl
theorem k_unf : (Rows.fnExactRenumberNodesRow.unfollowed == Tryz.prog.unfollowed 9) = true := by kernel_rfl
end Go.Proofs.YthbdmcobpcoajaaGreatDoor.fnExactRenumberNodes
