/- Closed facts of FnExactAddName and of its row, reckoned by the kernel. -/
import Derived.Test.YthbdmcobpcoajaaGreatDoorCards
import Derived.Test.YthbdmcobpcoajaaGreatDoorTie
import Derived.ProofKit
import Derived.JoinedOf
import Derived.KernelRfl
namespace Go.Proofs.YthbdmcobpcoajaaGreatDoor.fnExactAddName
open Go Go.ChangeShapes Go.WideShapes Go.ChangeAt
theorem k_in : (Rows.fnExactAddNameRow.inPlace == Tryz.prog.inPlace 11) = true := by kernel_rfl
theorem k_unf : (Rows.fnExactAddNameRow.unfollowed == Tryz.prog.unfollowed 11) = true := by kernel_rfl
end Go.Proofs.YthbdmcobpcoajaaGreatDoor.fnExactAddName
