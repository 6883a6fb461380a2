/- Closed facts of FnExactAddName and of its row, reckoned by the kernel. -/
import Derived.Test.YthbdmcobpcoajaaGreatDoorCards
import Derived.Test.YthbdmcobpcoajaaGreatDoorTie
import Derived.ProofKit
import Derived.JoinedOf
import Derived.KernelRfl
namespace Go.Proofs.YthbdmcobpcoajaaGreatDoor.fnExactAddName
open Go Go.ChangeShapes Go.WideShapes Go.ChangeAt
theorem k_fn : Tryz.pinned.checked.prog.funcNamed Rows.fnExactAddNameRow.func = some 11 := by kernel_rfl
theorem k_wf : Rows.fnExactAddNameRow.wfByText (OpenSpec.ofChange Rows.fnExactAddNameSpec) = true := by kernel_rfl
theorem k_goes : false = Rows.fnExactAddNameRow.goesBy Tryz.pinned.checked.prog := by kernel_rfl
end Go.Proofs.YthbdmcobpcoajaaGreatDoor.fnExactAddName
