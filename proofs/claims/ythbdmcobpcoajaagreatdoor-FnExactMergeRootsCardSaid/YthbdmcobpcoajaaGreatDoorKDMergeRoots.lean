/- Closed facts of FnExactMergeRoots and of its row, reckoned by the kernel. -/
import Derived.Test.YthbdmcobpcoajaaGreatDoorCards
import Derived.Test.YthbdmcobpcoajaaGreatDoorTie
import Derived.ProofKit
import Derived.JoinedOf
import Derived.KernelRfl
namespace Go.Proofs.YthbdmcobpcoajaaGreatDoor.fnExactMergeRoots
open Go Go.ChangeShapes Go.WideShapes Go.ChangeAt
theorem k_fn : Tryz.pinned.checked.prog.funcNamed Rows.fnExactMergeRootsRow.func = some 6 := by kernel_rfl
theorem k_wf : Rows.fnExactMergeRootsRow.wfByText (OpenSpec.ofChange Rows.fnExactMergeRootsSpec) = true := by kernel_rfl
theorem k_goes : false = Rows.fnExactMergeRootsRow.goesBy Tryz.pinned.checked.prog := by kernel_rfl
end Go.Proofs.YthbdmcobpcoajaaGreatDoor.fnExactMergeRoots
