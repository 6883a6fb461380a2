/- Small functions of numbers. -/
import Derived.Test.YtjkebiodabheiaaGreatDoorTypes
namespace Go.Proofs.YtjkebiodabheiaaGreatDoor
open Go Go.RowKit Go.BigFrame

theorem dec_of {b : Bool} {p : Prop} [Decidable p] (h : b = true ↔ p) : b = decide p := by
  cases b <;> simp_all

set_option maxHeartbeats 400000 in
theorem l1In_ct (x lo hi : Int) (b : Bool) (hb : b = true ↔ lo ≤ x ∧ x ≤ hi) (w : World) :
    Calls Tryz.prog 65 #[.int .i64 x, .int .i64 lo, .int .i64 hi] w fun e w' => e = .returned (.bool b) ∧ w' = w := by
  obtain rfl := dec_of hb
  clear hb
  by_cases h1 : lo ≤ x <;> by_cases h2 : x ≤ hi
  all_goals
    go_enter Tryz.func65, Tryz.ntmps65
    go_wp2
    go_ret
    exact ⟨ret_bool (by simp; try omega), rfl⟩
set_option maxHeartbeats 400000 in
theorem within_ct (x lo hi : Int) (b : Bool) (hb : b = true ↔ lo ≤ x ∧ x ≤ hi) (w : World) :
    Calls Tryz.prog 77 #[.int .i64 x, .int .i64 lo, .int .i64 hi] w fun e w' => e = .returned (.bool b) ∧ w' = w := by
  obtain rfl := dec_of hb
  clear hb
  by_cases h1 : lo ≤ x <;> by_cases h2 : x ≤ hi
  all_goals
    go_enter Tryz.func77, Tryz.ntmps77
    go_wp2
    go_ret
    exact ⟨ret_bool (by simp; try omega), rfl⟩

end Go.Proofs.YtjkebiodabheiaaGreatDoor
