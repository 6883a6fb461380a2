/- Closed facts of FnExactBigraphText and of its row, reckoned by the kernel. -/
import Derived.Test.YthbdmcobpcoajaaGreatDoorCards
import Derived.Test.YthbdmcobpcoajaaGreatDoorTie
import Derived.ProofKit
import Derived.JoinedOf
import Derived.KernelRfl
namespace Go.Proofs.YthbdmcobpcoajaaGreatDoor.fnExactBigraphText
open Go Go.ChangeShapes Go.WideShapes Go.ChangeAt
theorem k_rec : (Rows.fnExactBigraphTextRow.recurses == Tryz.prog.recurses 8) = true := by kernel_rfl
theorem k_named : (Rows.fnExactBigraphTextRow.named == Tryz.prog.varsNamed 8) = true := by kernel_rfl
end Go.Proofs.YthbdmcobpcoajaaGreatDoor.fnExactBigraphText
