/- Closed facts of the program, reckoned by the kernel. -/
import Derived.Test.YthbdmcobpcoajaaGreatDoorCards
import Derived.Test.YthbdmcobpcoajaaGreatDoorTie
import Derived.ProofKit
import Derived.JoinedOf
import Derived.KernelRfl
namespace Go.Proofs.YthbdmcobpcoajaaGreatDoor
open Go Go.ChangeShapes Go.WideShapes Go.ChangeAt
theorem k_own : ownKnob Tryz.prog.godebug = none := by kernel_rfl
theorem k_laidOut : laidOutB Tryz.prog = true := by kernel_rfl
theorem k_looks : true = Tryz.pinned.checked.prog.looks [] := by kernel_rfl
end Go.Proofs.YthbdmcobpcoajaaGreatDoor
