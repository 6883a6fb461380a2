/- Closed facts of FnExactLeanOf and of its row, reckoned by the kernel. -/
import Derived.Test.YthbdmcobpcoajaaGreatDoorCards
import Derived.Test.YthbdmcobpcoajaaGreatDoorTie
import Derived.ProofKit
import Derived.JoinedOf
import Derived.KernelRfl
namespace Go.Proofs.YthbdmcobpcoajaaGreatDoor.fnExactLeanOf
open Go Go.ChangeShapes Go.WideShapes Go.ChangeAt
theorem k_rec : (Rows.fnExactLeanOfRow.recurses == Tryz.prog.recurses 4) = true := by kernel_rfl
theorem k_named : (Rows.fnExactLeanOfRow.named == Tryz.prog.varsNamed 4) = true := by kernel_rfl
end Go.Proofs.YthbdmcobpcoajaaGreatDoor.fnExactLeanOf
