/- Closed facts of FnExactComposeWirings and of its row, reckoned by the kernel. -/
import Derived.Test.YthgelhglfbgagaaGreatDoorKAComposeWirings
import Derived.Test.YthgelhglfbgagaaGreatDoorKCComposeWirings
import Derived.Test.YthgelhglfbgagaaGreatDoorKDComposeWirings
import Derived.Test.YthgelhglfbgagaaGreatDoorKP
namespace Go.Proofs.YthgelhglfbgagaaGreatDoor.fnExactComposeWirings
open Go Go.ChangeShapes Go.WideShapes Go.ChangeAt
theorem k_closed : joinedFacts Tryz.prog 4 Tryz.f4 (OpenSpec.ofChange Rows.fnExactComposeWiringsSpec).bare Rows.fnExactComposeWiringsRow = true := by
  unfold joinedFacts
  rw [k_in, k_unf, k_rec, k_named]
  kernel_rfl
end Go.Proofs.YthgelhglfbgagaaGreatDoor.fnExactComposeWirings
