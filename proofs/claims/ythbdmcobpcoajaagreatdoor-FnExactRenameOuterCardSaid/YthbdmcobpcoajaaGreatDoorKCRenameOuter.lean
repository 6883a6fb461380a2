/- Closed facts of FnExactRenameOuter and of its row, reckoned by the kernel. -/
import Derived.Test.YthbdmcobpcoajaaGreatDoorCards
import Derived.Test.YthbdmcobpcoajaaGreatDoorTie
import Derived.ProofKit
import Derived.JoinedOf
import Derived.KernelRfl
namespace Go.Proofs.YthbdmcobpcoajaaGreatDoor.fnExactRenameOuter
open Go Go.ChangeShapes Go.WideShapes Go.ChangeAt
theorem k_rec : (Rows.fnExactRenameOuterRow.recurses == Tryz.prog.recurses 12) = true := by kernel_rfl
theorem k_named : (Rows.fnExactRenameOuterRow.named == Tryz.prog.varsNamed 12) = true := by kernel_rfl
end Go.Proofs.YthbdmcobpcoajaaGreatDoor.fnExactRenameOuter
