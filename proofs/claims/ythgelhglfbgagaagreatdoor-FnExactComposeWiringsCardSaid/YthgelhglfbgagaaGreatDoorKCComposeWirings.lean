/- Closed facts of FnExactComposeWirings and of its row, reckoned by the kernel. -/
import Derived.Test.YthgelhglfbgagaaGreatDoorCards
import Derived.Test.YthgelhglfbgagaaGreatDoorTie
import Derived.ProofKit
import Derived.JoinedOf
import Derived.KernelRfl
namespace Go.Proofs.YthgelhglfbgagaaGreatDoor.fnExactComposeWirings
open Go Go.ChangeShapes Go.WideShapes Go.ChangeAt
theorem k_rec : (Rows.fnExactComposeWiringsRow.recurses == Tryz.prog.recurses 4) = true := by kernel_rfl
theorem k_named : (Rows.fnExactComposeWiringsRow.named == Tryz.prog.varsNamed 4) = true := by kernel_rfl
end Go.Proofs.YthgelhglfbgagaaGreatDoor.fnExactComposeWirings
