/- Closed facts of FnExactComposeWirings and of its row, reckoned by the kernel. -/
import Derived.Test.YthgelhglfbgagaaGreatDoorCards
import Derived.Test.YthgelhglfbgagaaGreatDoorTie
import Derived.ProofKit
import Derived.JoinedOf
import Derived.KernelRfl
namespace Go.Proofs.YthgelhglfbgagaaGreatDoor.fnExactComposeWirings
open Go Go.ChangeShapes Go.WideShapes Go.ChangeAt
theorem k_in : (Rows.fnExactComposeWiringsRow.inPlace == Tryz.prog.inPlace 4) = true := by kernel_rfl
theorem k_unf : (Rows.fnExactComposeWiringsRow.unfollowed == Tryz.prog.unfollowed 4) = true := by kernel_rfl
end Go.Proofs.YthgelhglfbgagaaGreatDoor.fnExactComposeWirings
