/- Closed facts of FnExactMergeRoots and of its row, reckoned by the kernel. -/
import Derived.Test.YthbdmcobpcoajaaGreatDoorCards
import Derived.Test.YthbdmcobpcoajaaGreatDoorTie
import Derived.ProofKit
import Derived.JoinedOf
import Derived.KernelRfl
namespace Go.Proofs.YthbdmcobpcoajaaGreatDoor.fnExactMergeRoots
open Go Go.ChangeShapes Go.WideShapes Go.ChangeAt
theorem k_rec : (Rows.fnExactMergeRootsRow.recurses == Tryz.prog.recurses 6) = true := by kernel_rfl
theorem k_named : (Rows.fnExactMergeRootsRow.named == Tryz.prog.varsNamed 6) = true := by kernel_rfl
end Go.Proofs.YthbdmcobpcoajaaGreatDoor.fnExactMergeRoots
