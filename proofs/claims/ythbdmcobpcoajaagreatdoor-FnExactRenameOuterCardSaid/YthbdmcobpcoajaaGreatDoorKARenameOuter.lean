/- Closed facts of FnExactRenameOuter and of its row, reckoned by the kernel. -/
import Derived.Test.YthbdmcobpcoajaaGreatDoorCards
import Derived.Test.YthbdmcobpcoajaaGreatDoorTie
import Derived.ProofKit
import Derived.JoinedOf
import Derived.KernelRfl
namespace Go.Proofs.YthbdmcobpcoajaaGreatDoor.fnExactRenameOuter
open Go Go.ChangeShapes Go.WideShapes Go.ChangeAt
theorem k_in : (Rows.fnExactRenameOuterRow.inPlace == Tryz.prog.inPlace 12) = true := by kernel_rfl
theorem k_unf : (Rows.fnExactRenameOuterRow.unfollowed == Tryz.prog.unfollowed 12) = true := by kernel_rfl
end Go.Proofs.YthbdmcobpcoajaaGreatDoor.fnExactRenameOuter
