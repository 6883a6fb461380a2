/- Closed facts of FnExactRenumberNodes and of its row, reckoned by the kernel. -/
import Derived.Test.YthbdmcobpcoajaaGreatDoorCards
import Derived.Test.YthbdmcobpcoajaaGreatDoorTie
import Derived.ProofKit
import Derived.JoinedOf
import Derived.KernelRfl
namespace Go.Proofs.YthbdmcobpcoajaaGreatDoor.fnExactRenumberNodes
open Go Go.ChangeShapes Go.WideShapes Go.ChangeAt
theorem k_fn : Tryz.pinned.checked.prog.funcNamed Rows.fnExactRenumberNodesRow.func = some 9 := by kernel_rfl
theorem k_wf : Rows.fnExactRenumberNodesRow.wfByText (OpenSpec.ofChange Rows.fnExactRenumberNodesSpec) = true := by kernel_rfl
theorem k_goes : false = Rows.fnExactRenumberNodesRow.goesBy Tryz.pinned.checked.prog := by kernel_rfl
end Go.Proofs.YthbdmcobpcoajaaGreatDoor.fnExactRenumberNodes
