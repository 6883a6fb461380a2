/- Closed facts of FnExactParseBigraph and of its row, reckoned by the kernel. -/
import Derived.Test.YthgelhglfbgagaaGreatDoorCards
import Derived.Test.YthgelhglfbgagaaGreatDoorTie
import Derived.ProofKit
import Derived.JoinedOf
import Derived.KernelRfl
namespace Go.Proofs.YthgelhglfbgagaaGreatDoor.fnExactParseBigraph
open Go Go.ChangeShapes Go.WideShapes Go.ChangeAt
theorem k_rec : (Rows.fnExactParseBigraphRow.recurses == Tryz.prog.recurses 3) = true := by kernel_rfl
theorem k_named : (Rows.fnExactParseBigraphRow.named == Tryz.prog.varsNamed 3) = true := by kernel_rfl
end Go.Proofs.YthgelhglfbgagaaGreatDoor.fnExactParseBigraph
