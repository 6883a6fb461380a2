/- Small functions of numbers. -/
import Derived.Test.YtjbiphaeinbgbaaDoorTypes
namespace Go.Proofs.YtjbiphaeinbgbaaDoor
open Go Go.RowKit Go.BigFrame

theorem dec_of {b : Bool} {p : Prop} [Decidable p] (h : b = true ↔ p) : b = decide p := by
  cases b <;> simp_all

set_option maxHeartbeats 400000 in
theorem l1In_ct (x lo hi : Int) (b : Bool) (hb : b = true ↔ lo ≤ x ∧ x ≤ hi) (w : World) :
    Calls Tryd.prog 9 #[.int .i64 x, .int .i64 lo, .int .i64 hi] w fun e w' => e = .returned (.bool b) ∧ w' = w := by
  obtain rfl := dec_of hb
  clear hb
  by_cases h1 : lo ≤ x <;> by_cases h2 : x ≤ hi
  all_goals
    go_enter Tryd.func9, Tryd.ntmps9
    go_wp2
    go_ret
    exact ⟨ret_bool (by simp; try omega), rfl⟩
set_option maxHeartbeats 400000 in
theorem within_ct (x lo hi : Int) (b : Bool) (hb : b = true ↔ lo ≤ x ∧ x ≤ hi) (w : World) :
    Calls Tryd.prog 11 #[.int .i64 x, .int .i64 lo, .int .i64 hi] w fun e w' => e = .returned (.bool b) ∧ w' = w := by
  obtain rfl := dec_of hb
  clear hb
  by_cases h1 : lo ≤ x <;> by_cases h2 : x ≤ hi
  all_goals
    go_enter Tryd.func11, Tryd.ntmps11
    go_wp2
    go_ret
    exact ⟨ret_bool (by simp; try omega), rfl⟩

end Go.Proofs.YtjbiphaeinbgbaaDoor
