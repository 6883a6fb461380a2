/- Closed facts of FnExactInverseOf and of its row, reckoned by the kernel. -/
import Derived.Test.YthbdmcobpcoajaaGreatDoorCards
import Derived.Test.YthbdmcobpcoajaaGreatDoorTie
import Derived.ProofKit
import Derived.JoinedOf
import Derived.KernelRfl
namespace Go.Proofs.YthbdmcobpcoajaaGreatDoor.fnExactInverseOf
open Go Go.ChangeShapes Go.WideShapes Go.ChangeAt
theorem k_in : (Rows.fnExactInverseOfRow.inPlace == Tryz.prog.inPlace 3) = true := by kernel_rfl
theorem k_unf : (Rows.fnExactInverseOfRow.unfollowed == Tryz.prog.unfollowed 3) = true := by kernel_rfl
end Go.Proofs.YthbdmcobpcoajaaGreatDoor.fnExactInverseOf
