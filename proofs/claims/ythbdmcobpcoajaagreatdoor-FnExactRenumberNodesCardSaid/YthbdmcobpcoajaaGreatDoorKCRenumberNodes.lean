/- Closed facts of FnExactRenumberNodes and of its row, reckoned by the kernel. -/
import Derived.Test.YthbdmcobpcoajaaGreatDoorCards
import Derived.Test.YthbdmcobpcoajaaGreatDoorTie
import Derived.ProofKit
import Derived.JoinedOf
import Derived.KernelRfl
namespace Go.Proofs.YthbdmcobpcoajaaGreatDoor.fnExactRenumberNodes
open Go Go.ChangeShapes Go.WideShapes Go.ChangeAt
theorem k_rec : (Rows.fnExactRenumberNodesRow.recurses == Tryz.prog.recurses 9) = true := by kernel_rfl
theorem k_named : (Rows.fnExactRenumberNodesRow.named == Tryz.prog.varsNamed 9) = true := by kernel_rfl
end Go.Proofs.YthbdmcobpcoajaaGreatDoor.fnExactRenumberNodes
