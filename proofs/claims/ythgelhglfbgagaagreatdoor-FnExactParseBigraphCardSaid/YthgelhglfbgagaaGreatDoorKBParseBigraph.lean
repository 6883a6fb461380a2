/- Closed facts of FnExactParseBigraph and of its row, reckoned by the kernel. -/
import Derived.Test.YthgelhglfbgagaaGreatDoorKAParseBigraph
import Derived.Test.YthgelhglfbgagaaGreatDoorKCParseBigraph
import Derived.Test.YthgelhglfbgagaaGreatDoorKDParseBigraph
import Derived.Test.YthgelhglfbgagaaGreatDoorKP
namespace Go.Proofs.YthgelhglfbgagaaGreatDoor.fnExactParseBigraph
open Go Go.ChangeShapes Go.WideShapes Go.ChangeAt
theorem k_closed : joinedFacts Tryz.prog 3 Tryz.f3 (OpenSpec.ofChange Rows.fnExactParseBigraphSpec).bare Rows.fnExactParseBigraphRow = true := by
  unfold joinedFacts
  rw [k_in, k_unf, k_rec, k_named]
  kernel_rfl
end Go.Proofs.YthgelhglfbgagaaGreatDoor.fnExactParseBigraph
