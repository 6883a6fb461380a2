import Derived.Test.YthljfglibnlmkaaSplit
import Derived.Test.YthljfglibnlmkaaHeld
import Derived.Test.YthljfglibnlmkaaEq
namespace Go.Proofs.Ythljfglibnlmkaa
open Go Go.RowKit Go.BigFrame

theorem strs_no (B : Nat) (w : World) (a : Option Addr) (c : Nat) : StrsOwn B w (.slice a 0 c) [] := ⟨⟨fun r hr => (by cases hr), .inl ⟨rfl, _, _, rfl⟩⟩, by simp, fun n hn => (by cases hn)⟩
def GivesStrs (R : List ByteArray) (ok : Bool) (w : World) (e : Ending) (w' : World) : Prop :=
  ∃ v, e = .returned (.tuple #[v, .bool ok]) ∧ StrsOwn w.heap.size w' v R ∧ Below w.heap.size w w'
def splitOk (s p : ByteArray) : Prop := p.size = 1 ∧ s.size ≤ 4000
instance (s p : ByteArray) : Decidable (splitOk s p) := by unfold splitOk; infer_instance
def splitR (s p : ByteArray) : List ByteArray := if splitOk s p then splitP s ((p.data.toList[0]?).getD 0) else []
def splitB (s p : ByteArray) : Bool := decide (splitOk s p)

set_option maxHeartbeats 1000000 in
theorem specSplitString_ct (s p : ByteArray) (w : World) (hs : s.size ≤ 1048576) (_ : p.size ≤ 1048576) : Calls Try.prog 12 #[.string s, .string p] w (GivesStrs (splitR s p) (splitB s p) w) := by
  by_cases ho : splitOk s p
  · have HP : Hid (splitR s p = splitP s ((p.data.toList[0]?).getD 0)) := if_pos ho
    have HB : Hid (splitB s p = true) := decide_eq_true ho
    rw [HP.out, HB.out]
    clear HP HB
    unfold splitOk at ho
    have hp1 : 0 < p.size := by omega
    have h0 : (p.data.toList[0]?).getD 0 = p[0] := by rw [get_byte hp1]; rfl
    rw [h0]
    clear h0
    go_enter Try.func12, Try.ntmps12
    go_wp2_with (go_at_call 23; refine (l1Split_ct s _ _ (by omega)).mono ?_; rintro e w2 ⟨v, rfl, hv, hb⟩)
    exact bodyPost_ret (v := .tuple #[v, .bool true]) (by simp [results, Try.results12, go_sem]) rfl ⟨_, rfl, hv, hb⟩
  · have HP : Hid (splitR s p = []) := if_neg ho
    have HB : Hid (splitB s p = false) := decide_eq_false ho
    rw [HP.out, HB.out]
    clear HP HB
    by_cases h4 : s.size ≤ 4000
    · have h5 : p.size ≠ 1 := fun h => ho ⟨h, h4⟩
      have h6 : ((p.size : Int) != 1) = true := by simp; omega
      clear ho
      go_enter Try.func12, Try.ntmps12
      go_wp2
      exact bodyPost_ret (v := .tuple #[.slice (some ⟨w.heap.size, 0, none⟩) 0 0, .bool false]) (by simp [results, Try.results12, go_sem]) rfl ⟨_, rfl, strs_no _ _ _ _, balloc _ _⟩
    · clear ho
      by_cases h5 : p.size = 1
      · go_enter Try.func12, Try.ntmps12
        go_wp2
        exact bodyPost_ret (v := .tuple #[.slice (some ⟨w.heap.size, 0, none⟩) 0 0, .bool false]) (by simp [results, Try.results12, go_sem]) rfl ⟨_, rfl, strs_no _ _ _ _, balloc _ _⟩
      · go_enter Try.func12, Try.ntmps12
        go_wp2
        exact bodyPost_ret (v := .tuple #[.slice (some ⟨w.heap.size, 0, none⟩) 0 0, .bool false]) (by simp [results, Try.results12, go_sem]) rfl ⟨_, rfl, strs_no _ _ _ _, balloc _ _⟩

set_option maxHeartbeats 1000000 in
theorem implSplitString_ct (s p : ByteArray) (w : World) (hs : s.size ≤ 1048576) (_ : p.size ≤ 1048576) : Calls Try.prog 13 #[.string s, .string p] w (GivesStrs (splitR s p) (splitB s p) w) := by
  by_cases ho : splitOk s p
  · have HP : Hid (splitR s p = splitP s ((p.data.toList[0]?).getD 0)) := if_pos ho
    have HB : Hid (splitB s p = true) := decide_eq_true ho
    rw [HP.out, HB.out]
    clear HP HB
    unfold splitOk at ho
    have hp1 : 0 < p.size := by omega
    have h0 : (p.data.toList[0]?).getD 0 = p[0] := by rw [get_byte hp1]; rfl
    rw [h0]
    clear h0
    go_enter Try.func13, Try.ntmps13
    go_wp2_with (go_at_call 24; refine (splitAt_ct s _ _ (by omega)).mono ?_; rintro e w2 ⟨v, rfl, hv, hb⟩)
    exact bodyPost_ret (v := .tuple #[v, .bool true]) (by simp [results, Try.results13, go_sem]) rfl ⟨_, rfl, hv, hb⟩
  · have HP : Hid (splitR s p = []) := if_neg ho
    have HB : Hid (splitB s p = false) := decide_eq_false ho
    rw [HP.out, HB.out]
    clear HP HB
    by_cases h4 : s.size ≤ 4000
    · have h5 : p.size ≠ 1 := fun h => ho ⟨h, h4⟩
      have h6 : ((p.size : Int) != 1) = true := by simp; omega
      clear ho
      go_enter Try.func13, Try.ntmps13
      go_wp2
      exact bodyPost_ret (v := .tuple #[.slice none 0 0, .bool false]) (by simp [results, Try.results13, go_sem]) rfl ⟨_, rfl, strs_no _ _ _ _, Below.refl _ _⟩
    · clear ho
      by_cases h5 : p.size = 1
      · go_enter Try.func13, Try.ntmps13
        go_wp2
        exact bodyPost_ret (v := .tuple #[.slice none 0 0, .bool false]) (by simp [results, Try.results13, go_sem]) rfl ⟨_, rfl, strs_no _ _ _ _, Below.refl _ _⟩
      · go_enter Try.func13, Try.ntmps13
        go_wp2
        exact bodyPost_ret (v := .tuple #[.slice none 0 0, .bool false]) (by simp [results, Try.results13, go_sem]) rfl ⟨_, rfl, strs_no _ _ _ _, Below.refl _ _⟩

set_option maxHeartbeats 1000000 in
theorem lawSplitString (s : ByteArray) (hm : s.size ≤ maxLen) (p : ByteArray) (hm2 : p.size ≤ maxLen) (w : World) : Calls Try.prog 6 #[.string s, .string p] w fun e w' => e = .returned (.bool true) ∧ Below w.heap.size w w' := by
  have hm' : s.size ≤ 9223372036854775807 := hm
  have hm2' : p.size ≤ 9223372036854775807 := hm2
  clear hm hm2
  by_cases hs : s.size ≤ 1048576
  · by_cases hp : p.size ≤ 1048576
    · obtain ⟨R, ok, hspec, himpl, hR⟩ : ∃ R ok, (∀ W, Calls Try.prog 12 #[.string s, .string p] W (GivesStrs R ok W)) ∧ (∀ W, Calls Try.prog 13 #[.string s, .string p] W (GivesStrs R ok W)) ∧ R.length ≤ 4001 :=
        ⟨splitR s p, splitB s p, fun W => specSplitString_ct s p W hs hp, fun W => implSplitString_ct s p W hs hp, by
          unfold splitR; split
          · rename_i h; have := splitP_length s ((p.data.toList[0]?).getD 0); have := h.2; omega
          · simp⟩
      have HS : Hid _ := hspec
      have HI : Hid _ := himpl
      clear hspec himpl
      go_enter Try.func6, Try.ntmps6
      go_wp2_with fail
      refine (HS.out _).mono ?_
      rintro e w1 ⟨v1, rfl, p1, b1⟩
      have r1 := p1.at
      clear p1
      go_wp2_with fail
      refine (HI.out _).mono ?_
      rintro e w2 ⟨v2, rfl, g, k1⟩
      have hb := bthen b1 k1
      have HSZ : Hid (w.heap.size ≤ w1.heap.size) := b1.size
      have hg := g.lt
      clear b1
      go_wp2_with fail
      refine (eqStringS_ct _ _ R _ g.at (r1.below k1)).mono ?_
      rintro e w3 ⟨rfl, b⟩
      have g := g.keep (keep_below b (fun p hp => (g.lt p hp).2))
      have hb := bthen hb b
      have k1 := bthen k1 b
      clear b
      go_wp2_with fail
      refine (markStringS_ct _ R 1 _ _ g (by omega) (by omega)).mono ?_
      rintro e w4 ⟨rfl, m, o⟩
      have hb4 : Below w1.heap.size w3 w4 := o.below (fun p hp => (hg p hp).1) k1.size
      have k1 := k1.trans hb4
      have hb := hb.trans (hb4.mono HSZ.out)
      clear o g
      go_wp2_with fail
      refine (heldStringS_ct _ R 1 _ m.at (by omega) (by omega)).mono ?_
      rintro e w5 ⟨rfl, b⟩
      have m := m.keep (keep_below b (fun p hp => (m.lt p hp).2))
      have k1 := bthen k1 b
      have hb := bthen hb b
      clear b
      go_wp2_with fail
      refine (HI.out _).mono ?_
      rintro e w6 ⟨v6, rfl, g6, b⟩
      have m := m.keep (keep_below b (fun p hp => (m.lt p hp).2))
      have k1 := bthen k1 b
      have hb := bthen hb b
      clear b
      go_wp2_with fail
      refine (eqStringS_ct _ _ R _ g6.at (r1.below k1)).mono ?_
      rintro e w7 ⟨rfl, b⟩
      have m := m.keep (keep_below b (fun p hp => (m.lt p hp).2))
      have hb := bthen hb b
      clear b g6
      go_wp2_with fail
      refine (heldStringS_ct _ R 1 _ m.at (by omega) (by omega)).mono ?_
      rintro e w8 ⟨rfl, b⟩
      have hb := bthen hb b
      clear b
      go_wp2
      go_ret
      exact ⟨rfl, hb⟩
    · go_enter Try.func6, Try.ntmps6
      go_wp2
      go_ret
      exact ⟨rfl, Below.refl _ _⟩
  · go_enter Try.func6, Try.ntmps6
    go_wp2
    go_ret
    exact ⟨rfl, Below.refl _ _⟩
end Go.Proofs.Ythljfglibnlmkaa
