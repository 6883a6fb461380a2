/- Closed facts of FnExactDiscreteOf and of its row, reckoned by the kernel. -/
import Derived.Test.YthbdmcobpcoajaaGreatDoorCards
import Derived.Test.YthbdmcobpcoajaaGreatDoorTie
import Derived.ProofKit
import Derived.JoinedOf
import Derived.KernelRfl
namespace Go.Proofs.YthbdmcobpcoajaaGreatDoor.fnExactDiscreteOf
open Go Go.ChangeShapes Go.WideShapes Go.ChangeAt
theorem k_rec : (Rows.fnExactDiscreteOfRow.recurses == Tryz.prog.recurses 7) = true := by kernel_rfl
theorem k_named : (Rows.fnExactDiscreteOfRow.named == Tryz.prog.varsNamed 7) = true := by kernel_rfl
end Go.Proofs.YthbdmcobpcoajaaGreatDoor.fnExactDiscreteOf
