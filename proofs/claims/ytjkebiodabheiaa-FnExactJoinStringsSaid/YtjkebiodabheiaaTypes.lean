/- Rows of the program's table of types. -/
import Derived.Test.YtjkebiodabheiaaProg
import Derived.Test.YtjkebiodabheiaaOwn
namespace Go.Proofs.Ytjkebiodabheiaa
open Go Go.RowKit

theorem inf_int : (Try.prog.info? 3).map (fun i => (i.zero, i.size, i.bytes)) = some (some (.int .i64 0), 1, 8) := by kernel_rfl
theorem inf_str : (Try.prog.info? 9).map (fun i => (i.zero, i.size, i.bytes)) = some (some (.string ⟨#[]⟩), 1, 16) := by kernel_rfl

end Go.Proofs.Ytjkebiodabheiaa
