/- Rows of the program's table of types. -/
import Derived.Test.YtjbiphaeinbgbaaDoorProg
import Derived.Test.YtjbiphaeinbgbaaDoorOwn
namespace Go.Proofs.YtjbiphaeinbgbaaDoor
open Go Go.RowKit

theorem inf_int : (Tryd.prog.info? 3).map (fun i => (i.zero, i.size, i.bytes)) = some (some (.int .i64 0), 1, 8) := by kernel_rfl
theorem inf_str : (Tryd.prog.info? 9).map (fun i => (i.zero, i.size, i.bytes)) = some (some (.string ⟨#[]⟩), 1, 16) := by kernel_rfl

end Go.Proofs.YtjbiphaeinbgbaaDoor
