import Derived.Test.YtlkadcmicjencaaDoorSig
import Derived.Test.YtlkadcmicjencaaDoorLaw0
import Derived.Test.YtlkadcmicjencaaDoorSz
import Derived.Test.YtlkadcmicjencaaDoorTo
import Derived.Test.YtlkadcmicjencaaDoorEq
import Derived.Deep.RegionHeld3
namespace Go.Proofs.YtlkadcmicjencaaDoor
open Go Go.RowKit Go.BigFrame

set_option maxRecDepth 100000 in
set_option maxHeartbeats 8000000 in
theorem lawIsSignature (v0 : Value) (sig : List Ctl) (w : World) (h0 : CtlsM 9223372036854775807 w v0 sig) : Calls Tryd.prog 4 #[v0] w fun e w' => e = .returned (.bool true) ∧ Below w.heap.size w w' := by
  by_cases t0 : totC sig ≤ 1048576
  case neg =>
    go_enter Tryd.func4, Tryd.ntmps4
    go_wp2_with fail
    have hb : Below w.heap.size w w := Below.refl _ _
    refine (szControlS_ct _ sig (1048576) _ (-1) (by show _ = _; unfold left; rw [if_pos (by omega)]) (h0.below hb) (by omega) (by omega)).mono ?_
    rintro e w1 ⟨rfl, b⟩
    have hb := bthen hb b
    clear b
    go_wp2_with fail
    go_ret
    exact ⟨rfl, hb⟩
  obtain ⟨r0, hss, hi⟩ : ∃ (r0 : Bool), (∀ v0 W, CtlsAt W v0 sig → Calls Tryd.prog 14 #[v0] W fun e w' => e = .returned (.bool r0) ∧ Below W.heap.size W w') ∧ (∀ v0 W, CtlsAt W v0 sig → Calls Tryd.prog 16 #[v0] W fun e w' => e = .returned (.bool r0) ∧ Below W.heap.size W w') :=
    ⟨sigB sig, fun v0 W h0 => specIsSignature_ct v0 sig _ W h0 rfl, fun v0 W h0 => implIsSignature_ct v0 sig _ W h0 rfl⟩
  have HS : Hid _ := hss
  have HI : Hid _ := hi
  clear hss hi
  have g0 : CtlsAt w v0 sig := h0.small (by omega)
  go_enter Tryd.func4, Tryd.ntmps4
  go_wp2_with fail
  have hb : Below w.heap.size w w := Below.refl _ _
  refine (szControlS_ct _ sig (1048576) _ (1048576 - (totC sig : Int)) (by show _ = _; unfold left; rw [if_neg (by omega)]) (h0.below hb) (by omega) (by omega)).mono ?_
  rintro e w1 ⟨rfl, b⟩
  have hb := bthen hb b
  clear b
  go_wp2_with fail
  refine (toControlS_ct _ sig _ (g0.below hb)).mono ?_
  rintro e w2 ⟨s0, rfl, os0, b⟩
  have os0 := os0.at
  have hb := bthen hb b
  clear b
  go_wp2_with fail
  refine (HS.out _ _ os0).mono ?_
  rintro e w3 ⟨rfl, b⟩
  have os0 := os0.below b
  have hb := bthen hb b
  clear b
  clear os0
  go_wp2_with fail
  refine (toControlS_ct _ sig _ (g0.below hb)).mono ?_
  rintro e w4 ⟨x0, rfl, ox0, b⟩
  have ox0 := ox0.at
  have hb := bthen hb b
  clear b
  go_wp2_with fail
  refine (HI.out _ _ ox0).mono ?_
  rintro e w5 ⟨rfl, b⟩
  have ox0 := ox0.below b
  have hb := bthen hb b
  clear b
  go_wp2_with fail
  refine (toControlS_ct _ sig _ (g0.below hb)).mono ?_
  rintro e w6 ⟨y0, rfl, oy0, b⟩
  have oy0 := oy0.at
  have ox0 := ox0.below b
  have hb := bthen hb b
  clear b
  go_wp2_with fail
  refine (eqControlS_ct _ _ sig _ ox0 oy0).mono ?_
  rintro e w7 ⟨rfl, b⟩
  have ox0 := ox0.below b
  have hb := bthen hb b
  clear b
  clear oy0
  go_wp2_with fail
  go_ret
  exact ⟨rfl, hb⟩
end Go.Proofs.YtlkadcmicjencaaDoor
