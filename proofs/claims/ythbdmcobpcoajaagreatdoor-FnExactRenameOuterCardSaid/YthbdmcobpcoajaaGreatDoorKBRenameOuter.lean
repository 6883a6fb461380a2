/- Closed facts of FnExactRenameOuter and of its row, reckoned by the kernel. -/
import Derived.Test.YthbdmcobpcoajaaGreatDoorKARenameOuter
import Derived.Test.YthbdmcobpcoajaaGreatDoorKCRenameOuter
import Derived.Test.YthbdmcobpcoajaaGreatDoorKDRenameOuter
import Derived.Test.YthbdmcobpcoajaaGreatDoorKP
namespace Go.Proofs.YthbdmcobpcoajaaGreatDoor.fnExactRenameOuter
open Go Go.ChangeShapes Go.WideShapes Go.ChangeAt
theorem k_closed : joinedFacts Tryz.prog 12 Tryz.f12 (OpenSpec.ofChange Rows.fnExactRenameOuterSpec).bare Rows.fnExactRenameOuterRow = true := by
  unfold joinedFacts
  rw [k_in, k_unf, k_rec, k_named]
  kernel_rfl
end Go.Proofs.YthbdmcobpcoajaaGreatDoor.fnExactRenameOuter
