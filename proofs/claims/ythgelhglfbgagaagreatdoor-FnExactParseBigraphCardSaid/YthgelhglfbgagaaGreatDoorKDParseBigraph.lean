/- Closed facts of FnExactParseBigraph and of its row, reckoned by the kernel. -/
import Derived.Test.YthgelhglfbgagaaGreatDoorCards
import Derived.Test.YthgelhglfbgagaaGreatDoorTie
import Derived.ProofKit
import Derived.JoinedOf
import Derived.KernelRfl
namespace Go.Proofs.YthgelhglfbgagaaGreatDoor.fnExactParseBigraph
open Go Go.ChangeShapes Go.WideShapes Go.ChangeAt
theorem k_fn : Tryz.pinned.checked.prog.funcNamed Rows.fnExactParseBigraphRow.func = some 3 := by kernel_rfl
theorem k_wf : Rows.fnExactParseBigraphRow.wfByText (OpenSpec.ofChange Rows.fnExactParseBigraphSpec) = true := by kernel_rfl
theorem k_goes : false = Rows.fnExactParseBigraphRow.goesBy Tryz.pinned.checked.prog := by kernel_rfl
end Go.Proofs.YthgelhglfbgagaaGreatDoor.fnExactParseBigraph
