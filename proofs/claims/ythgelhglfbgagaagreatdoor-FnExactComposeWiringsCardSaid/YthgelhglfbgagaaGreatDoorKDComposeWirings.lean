/- Closed facts of FnExactComposeWirings and of its row, reckoned by the kernel. -/
import Derived.Test.YthgelhglfbgagaaGreatDoorCards
import Derived.Test.YthgelhglfbgagaaGreatDoorTie
import Derived.ProofKit
import Derived.JoinedOf
import Derived.KernelRfl
namespace Go.Proofs.YthgelhglfbgagaaGreatDoor.fnExactComposeWirings
open Go Go.ChangeShapes Go.WideShapes Go.ChangeAt
theorem k_fn : Tryz.pinned.checked.prog.funcNamed Rows.fnExactComposeWiringsRow.func = some 4 := by kernel_rfl
theorem k_wf : Rows.fnExactComposeWiringsRow.wfByText (OpenSpec.ofChange Rows.fnExactComposeWiringsSpec) = true := by kernel_rfl
theorem k_goes : false = Rows.fnExactComposeWiringsRow.goesBy Tryz.pinned.checked.prog := by kernel_rfl
end Go.Proofs.YthgelhglfbgagaaGreatDoor.fnExactComposeWirings
