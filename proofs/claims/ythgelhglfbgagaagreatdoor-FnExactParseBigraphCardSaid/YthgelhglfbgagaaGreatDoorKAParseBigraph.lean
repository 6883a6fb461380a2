/- Closed facts of FnExactParseBigraph and of its row, reckoned by the kernel. -/
import Derived.Test.YthgelhglfbgagaaGreatDoorCards
import Derived.Test.YthgelhglfbgagaaGreatDoorTie
import Derived.ProofKit
import Derived.JoinedOf
import Derived.KernelRfl
namespace Go.Proofs.YthgelhglfbgagaaGreatDoor.fnExactParseBigraph
open Go Go.ChangeShapes Go.WideShapes Go.ChangeAt
theorem k_in : (Rows.fnExactParseBigraphRow.inPlace == Tryz.prog.inPlace 3) = true := by kernel_rfl
theorem k_unf : (Rows.fnExactParseBigraphRow.unfollowed == Tryz.prog.unfollowed 3) = true := by kernel_rfl
end Go.Proofs.YthgelhglfbgagaaGreatDoor.fnExactParseBigraph
