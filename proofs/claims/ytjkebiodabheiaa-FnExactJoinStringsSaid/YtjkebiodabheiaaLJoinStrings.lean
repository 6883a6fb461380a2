import Derived.Test.YtjkebiodabheiaaJoinL
import Derived.Test.YtjkebiodabheiaaSz
import Derived.Test.YtjkebiodabheiaaTo
import Derived.Test.YtjkebiodabheiaaEq
import Derived.Deep.RegionHeld3
namespace Go.Proofs.Ytjkebiodabheiaa
open Go Go.RowKit Go.BigFrame

set_option maxRecDepth 100000 in
set_option maxHeartbeats 8000000 in
theorem lawJoinStrings (v0 : Value) (l : List ByteArray) (p : ByteArray) (w : World) (h0 : StrsM 9223372036854775807 w v0 l) (hz1 : p.size ≤ maxLen) : Calls Try.prog 3 #[v0, .string p] w fun e w' => e = .returned (.bool true) ∧ Below w.heap.size w w' := by
  by_cases ts : p.size ≤ 1048576
  case neg =>
    go_enter Try.func3, Try.ntmps3
    go_wp2_with fail
    go_ret
    exact ⟨rfl, Below.refl _ _⟩
  by_cases t0 : totS l ≤ 1048576
  case neg =>
    go_enter Try.func3, Try.ntmps3
    go_wp2_with fail
    have hb : Below w.heap.size w w := Below.refl _ _
    refine (szStringS_ct _ l (1048576) _ (-1) (by show _ = _; unfold left; rw [if_pos (by omega)]) (h0.below hb) (by omega) (by omega)).mono ?_
    rintro e w1 ⟨rfl, b⟩
    have hb := bthen hb b
    clear b
    go_wp2_with fail
    go_ret
    exact ⟨rfl, hb⟩
  obtain ⟨r0, r1, hss, hi⟩ : ∃ (r0 : ByteArray) (r1 : Bool), (∀ v0 W, StrsAt W v0 l → Calls Try.prog 5 #[v0, .string p] W fun e w' => e = .returned (.tuple #[.string r0, .bool r1]) ∧ Below W.heap.size W w') ∧ (∀ v0 W, StrsAt W v0 l → Calls Try.prog 7 #[v0, .string p] W fun e w' => e = .returned (.tuple #[.string r0, .bool r1]) ∧ Below W.heap.size W w') :=
    ⟨joinR l p, joinB l p, fun v0 W h0 => specJoinStrings_ct v0 l p W h0 t0 ts, fun v0 W h0 => implJoinStrings_ct v0 l p W h0 t0 ts⟩
  have HS : Hid _ := hss
  have HI : Hid _ := hi
  clear hss hi
  have g0 : StrsAt w v0 l := h0.small (by omega)
  go_enter Try.func3, Try.ntmps3
  go_wp2_with fail
  have hb : Below w.heap.size w w := Below.refl _ _
  refine (szStringS_ct _ l (1048576) _ (1048576 - (totS l : Int)) (by show _ = _; unfold left; rw [if_neg (by omega)]) (h0.below hb) (by omega) (by omega)).mono ?_
  rintro e w1 ⟨rfl, b⟩
  have hb := bthen hb b
  clear b
  go_wp2_with fail
  refine (toStringS_ct _ l _ (g0.below hb)).mono ?_
  rintro e w2 ⟨s0, rfl, os0, b⟩
  have os0 := os0.at
  have hb := bthen hb b
  clear b
  go_wp2_with fail
  refine (HS.out _ _ os0).mono ?_
  rintro e w3 ⟨rfl, b⟩
  have os0 := os0.below b
  have hb := bthen hb b
  clear b
  clear os0
  go_wp2_with fail
  refine (toStringS_ct _ l _ (g0.below hb)).mono ?_
  rintro e w4 ⟨x0, rfl, ox0, b⟩
  have ox0 := ox0.at
  have hb := bthen hb b
  clear b
  go_wp2_with fail
  refine (HI.out _ _ ox0).mono ?_
  rintro e w5 ⟨rfl, b⟩
  have ox0 := ox0.below b
  have hb := bthen hb b
  clear b
  go_wp2_with fail
  refine (toStringS_ct _ l _ (g0.below hb)).mono ?_
  rintro e w6 ⟨y0, rfl, oy0, b⟩
  have oy0 := oy0.at
  have ox0 := ox0.below b
  have hb := bthen hb b
  clear b
  go_wp2_with fail
  refine (eqStringS_ct _ _ l _ ox0 oy0).mono ?_
  rintro e w7 ⟨rfl, b⟩
  have ox0 := ox0.below b
  have hb := bthen hb b
  clear b
  clear oy0
  go_wp2_with fail
  go_ret
  exact ⟨rfl, hb⟩
end Go.Proofs.Ytjkebiodabheiaa
