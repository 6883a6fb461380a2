/- Closed facts of FnExactDiscreteOf and of its row, reckoned by the kernel. -/
import Derived.Test.YthbdmcobpcoajaaGreatDoorCards
import Derived.Test.YthbdmcobpcoajaaGreatDoorTie
import Derived.ProofKit
import Derived.JoinedOf
import Derived.KernelRfl
namespace Go.Proofs.YthbdmcobpcoajaaGreatDoor.fnExactDiscreteOf
open Go Go.ChangeShapes Go.WideShapes Go.ChangeAt
theorem k_in : (Rows.fnExactDiscreteOfRow.inPlace == Tryz.prog.inPlace 7) = true := by kernel_rfl
theorem k_unf : (Rows.fnExactDiscreteOfRow.unfollowed == Tryz.prog.unfollowed 7) = true := by kernel_rfl
end Go.Proofs.YthbdmcobpcoajaaGreatDoor.fnExactDiscreteOf
