/- Swaps. -/
import Derived.Test.YtlkadcmicjencaaPerm
namespace Go.Proofs.Ytlkadcmicjencaa
open Go Go.RowKit Go.BigFrame

def swapL (m n : Nat) : List Int := (List.range (m + n)).map fun i => if i < m then (n : Int) + (i : Int) else (i : Int) - (m : Int)
theorem swapL_length (m n : Nat) : (swapL m n).length = m + n := by simp [swapL]
theorem swapL_lo {m n k : Nat} (h : k < m) : (swapL m n)[k]? = some ((n : Int) + (k : Int)) := by
  unfold swapL
  rw [List.getElem?_map, List.getElem?_range (by omega)]
  simp [h]
theorem swapL_hi {m n k : Nat} (h : k < m + n) (h' : ¬ k < m) : (swapL m n)[k]? = some ((k : Int) - (m : Int)) := by
  unfold swapL
  rw [List.getElem?_map, List.getElem?_range (by omega)]
  simp [h']
theorem swapL_bd {m n : Nat} (h : m + n ≤ 4) : ∀ x ∈ swapL m n, -1000 ≤ x ∧ x ≤ 1000 := by
  intro x hx
  simp only [swapL, List.mem_map, List.mem_range] at hx
  obtain ⟨i, hi, rfl⟩ := hx
  split <;> omega
theorem take_rows (l : List Int) (k : Nat) (h : k ≤ l.length) : (intRows (l.take k)).length = k := by simp [intRows]; omega
theorem Acc.ints {w : World} {B e : Nat} {v : Value} {l : List Int} (h : Acc w B e 1 v (intRows l)) (hl : l.length ≤ 4) (hx : ∀ x ∈ l, -1000 ≤ x ∧ x ≤ 1000) : IntsOwn B w v l :=
  ⟨h.own, by omega, fun x hm => by have := hx x hm; unfold I64; omega⟩
def swapOk (m n : Int) : Prop := 0 ≤ m ∧ m ≤ 4 ∧ 0 ≤ n ∧ n ≤ 4 - m
instance (m n : Int) : Decidable (swapOk m n) := by unfold swapOk; infer_instance
def swapP (m n : Int) : Big := if swapOk m n then permP (swapL m.toNat n.toNat) else noBig
def swapB (m n : Int) : Bool := decide (swapOk m n)

set_option maxRecDepth 100000 in
set_option maxHeartbeats 2000000 in
theorem specSwapOf_ct (m n : Int) (w : World) : Calls Try.prog 12 #[.int .i64 m, .int .i64 n] w (GivesBig (swapP m n) (swapB m n) w) := by
  by_cases ho : swapOk m n
  · have HP : Hid (swapP m n = permP (swapL m.toNat n.toNat)) := if_pos ho
    have HB : Hid (swapB m n = true) := decide_eq_true ho
    rw [HP.out, HB.out]
    clear HP HB
    unfold swapOk at ho
    obtain ⟨m, rfl⟩ := Int.eq_ofNat_of_zero_le ho.1
    obtain ⟨n, rfl⟩ := Int.eq_ofNat_of_zero_le ho.2.2.1
    simp only [Int.toNat_natCast] at ho ⊢
    go_enter Try.func12, Try.ntmps12
    go_wp2_with (go_at_call 21; first | (refine (l1In_ct _ _ _ true (by simp; omega) _).mono ?_; rintro e w2 ⟨rfl, rfl⟩) | (refine (l1In_ct _ _ _ false (by simp; omega) _).mono ?_; rintro e w2 ⟨rfl, rfl⟩))
    obtain ⟨W0, hW0⟩ : ∃ W, W = (w.alloc (.cells #[.int .i64 0, .slice none 0 0, .slice none 0 0, .int .i64 0, .slice none 0 0, .slice none 0 0] 27)).alloc (.cells #[] 3) := ⟨_, rfl⟩
    rw [← hW0]
    have BA : Box W0 w.heap.size #[.int .i64 0, .slice none 0 0, .slice none 0 0, .int .i64 0, .slice none 0 0, .slice none 0 0] 27 := by rw [hW0]; exact (Box.new _ _ _).alloc _
    have acc : Acc W0 (w.heap.size + 1) 3 1 (.slice (some ⟨w.heap.size + 1, 0, none⟩) 0 0) (intRows ((swapL m n).take 0)) := by rw [hW0, show w.heap.size + 1 = (w.alloc (.cells #[.int .i64 0, .slice none 0 0, .slice none 0 0, .int .i64 0, .slice none 0 0, .slice none 0 0] 27)).heap.size by simp]; exact Acc.lit0 _ _ _ _ (Nat.le_refl _)
    have hb : Below w.heap.size w W0 := by rw [hW0]; exact bthen (balloc _ _) (balloc _ _)
    have hs : w.heap.size + 1 ≤ W0.heap.size := by rw [hW0]; simp
    clear hW0
    go_loopw [6, 7] (fun to i W => ∃ k : Nat, k ≤ m + n ∧ i = .int .i64 k ∧ Below w.heap.size w W ∧ w.heap.size + 1 ≤ W.heap.size ∧ Box W w.heap.size #[.int .i64 0, .slice none 0 0, .slice none 0 0, .int .i64 0, .slice none 0 0, .slice none 0 0] 27 ∧ Acc W (w.heap.size + 1) 3 1 to (intRows ((swapL m n).take k))) (fun _ i _ => m + n - (intOf i).toNat)
    case atStart => exact ⟨0, Nat.zero_le _, rfl, hb, hs, BA, acc⟩
    case round =>
      clear BA hb hs acc
      obtain ⟨k, hk, rfl, hb, hs, BA, acc⟩ := hrel
      obtain ⟨av, cv, rfl⟩ := acc.shape
      have HL : Hid ((intRows ((swapL m n).take k)).length = k) := take_rows _ _ (by rw [swapL_length]; omega)
      rw [HL.out] at acc ⊢
      by_cases hkl : k < m + n
      · by_cases hkm : k < m
        · skip
          have HT : Hid (intRows ((swapL m n).take (k + 1)) = intRows ((swapL m n).take k) ++ [[.int .i64 ((n : Int) + (k : Int))]]) := by show _ = _; rw [take_snoc_l (l := swapL m n) (x := (n : Int) + (k : Int)) (swapL_lo hkm)]; simp [intRows]
          go_wp2_with (at_builtin; refine app1 _ rfl (.tmp 30) (.tmp 34) 23 rfl (w.heap.size + 1) 3 1 8 (.int .i64 0) Try.underlying23 inf_int rfl (by decide) (by decide) _ (intRows ((swapL m n).take k)) rfl acc [.int .i64 ((n : Int) + (k : Int))] _ rfl (by simp [Value.oneCell']) rfl (by rw [HL.out]; omega) hs ?_)
          intro g c2 w2 acc2 hg
          rw [HL.out, ← HT.out] at acc2
          rw [HL.out]
          have hb2 := grown_below hb acc hg (by omega) (by omega)
          have hs2 : w.heap.size + 1 ≤ w2.heap.size := Nat.le_trans hs hg.size
          have BA2 := BA.keep (grown_block acc hg (by omega) BA.lt)
          clear acc hg BA hb hs
          go_wp2_with fail
          go_roundw
          case rel => exact ⟨k + 1, by omega, by go_num, hb2, hs2, BA2, acc2⟩
          case measure => simp [intOf]; omega
        · skip
          have HT : Hid (intRows ((swapL m n).take (k + 1)) = intRows ((swapL m n).take k) ++ [[.int .i64 ((k : Int) - (m : Int))]]) := by show _ = _; rw [take_snoc_l (l := swapL m n) (x := (k : Int) - (m : Int)) (swapL_hi hkl hkm)]; simp [intRows]
          go_wp2_with (at_builtin; refine app1 _ rfl (.tmp 36) (.tmp 40) 23 rfl (w.heap.size + 1) 3 1 8 (.int .i64 0) Try.underlying23 inf_int rfl (by decide) (by decide) _ (intRows ((swapL m n).take k)) rfl acc [.int .i64 ((k : Int) - (m : Int))] _ rfl (by simp [Value.oneCell']) rfl (by rw [HL.out]; omega) hs ?_)
          intro g c2 w2 acc2 hg
          rw [HL.out, ← HT.out] at acc2
          rw [HL.out]
          have hb2 := grown_below hb acc hg (by omega) (by omega)
          have hs2 : w.heap.size + 1 ≤ w2.heap.size := Nat.le_trans hs hg.size
          have BA2 := BA.keep (grown_block acc hg (by omega) BA.lt)
          clear acc hg BA hb hs
          go_wp2_with fail
          go_roundw
          case rel => exact ⟨k + 1, by omega, by go_num, hb2, hs2, BA2, acc2⟩
          case measure => simp [intOf]; omega
      · have e : m + n = k := by omega
        subst e
        rw [List.take_of_length_le (by rw [swapL_length]; exact Nat.le_refl _)] at acc
        go_wp2_with fail
        refine (l3Permutation_ct (swapL m n) _ _ (acc.ints (by rw [swapL_length]; omega) (swapL_bd (by omega))).at (by rw [swapL_length]; omega) (swapL_bd (by omega))).mono ?_
        rintro e w3 ⟨u, bs, rfl, p, nd, b3⟩
        obtain ⟨a1, c1, a2, c2, a3, c3, a4, c4, rfl⟩ := p.at.shape
        have hln := p.lt
        have BA := BA.below b3
        have hb := bthen hb b3
        have q := BA.cell
        have f := BA.free
        clear acc b3
        go_wp2_with fail
        refine bodyPost_ret (v := .tuple #[.agg #[.int .i64 (permP (swapL m n)).roots, .slice a1 (permP (swapL m n)).nodes.length c1, .slice a2 (permP (swapL m n)).sites.length c2, .int .i64 (permP (swapL m n)).edges, .slice a3 (permP (swapL m n)).outer.length c3, .slice a4 (permP (swapL m n)).inner.length c4], .bool true]) (by simp [results, Try.results12, go_sem, q]) rfl ⟨_, bs, rfl, (p.keep ?_).mono (by omega), nd, ?_⟩
        · intro g hg; have := hln g hg; repeat rw [heap_setCell_other _ _ _ _ (by simp <;> omega)]
        · iterate 6 refine Below.setCell ?_ (by simp) _
          exact hb
  · have HP : Hid (swapP m n = noBig) := if_neg ho
    have HB : Hid (swapB m n = false) := decide_eq_false ho
    have ho' : m < 0 ∨ 4 < m ∨ (0 ≤ m ∧ m ≤ 4 ∧ (n < 0 ∨ 4 - m < n)) := by unfold swapOk at ho; omega
    clear ho
    rw [HP.out, HB.out]
    clear HP HB
    rcases ho' with ho | ho | ho
    · go_enter Try.func12, Try.ntmps12
      go_wp2_with (go_at_call 21; first | (refine (l1In_ct _ _ _ true (by simp; omega) _).mono ?_; rintro e w2 ⟨rfl, rfl⟩) | (refine (l1In_ct _ _ _ false (by simp; omega) _).mono ?_; rintro e w2 ⟨rfl, rfl⟩))
      exact bodyPost_ret (v := .tuple #[.agg #[.int .i64 0, .slice none 0 0, .slice none 0 0, .int .i64 0, .slice none 0 0, .slice none 0 0], .bool false]) (by simp [results, Try.results12, go_sem]) rfl ⟨_, _, rfl, noBig_own _ _, by simp, bthen (balloc _ _) (balloc _ _)⟩
    · go_enter Try.func12, Try.ntmps12
      go_wp2_with (go_at_call 21; first | (refine (l1In_ct _ _ _ true (by simp; omega) _).mono ?_; rintro e w2 ⟨rfl, rfl⟩) | (refine (l1In_ct _ _ _ false (by simp; omega) _).mono ?_; rintro e w2 ⟨rfl, rfl⟩))
      exact bodyPost_ret (v := .tuple #[.agg #[.int .i64 0, .slice none 0 0, .slice none 0 0, .int .i64 0, .slice none 0 0, .slice none 0 0], .bool false]) (by simp [results, Try.results12, go_sem]) rfl ⟨_, _, rfl, noBig_own _ _, by simp, bthen (balloc _ _) (balloc _ _)⟩
    · go_enter Try.func12, Try.ntmps12
      go_wp2_with (go_at_call 21; first | (refine (l1In_ct _ _ _ true (by simp; omega) _).mono ?_; rintro e w2 ⟨rfl, rfl⟩) | (refine (l1In_ct _ _ _ false (by simp; omega) _).mono ?_; rintro e w2 ⟨rfl, rfl⟩))
      exact bodyPost_ret (v := .tuple #[.agg #[.int .i64 0, .slice none 0 0, .slice none 0 0, .int .i64 0, .slice none 0 0, .slice none 0 0], .bool false]) (by simp [results, Try.results12, go_sem]) rfl ⟨_, _, rfl, noBig_own _ _, by simp, bthen (balloc _ _) (balloc _ _)⟩

set_option maxRecDepth 100000 in
set_option maxHeartbeats 2000000 in
theorem implSwapOf_ct (m n : Int) (w : World) : Calls Try.prog 13 #[.int .i64 m, .int .i64 n] w (GivesBig (swapP m n) (swapB m n) w) := by
  by_cases ho : swapOk m n
  · have HP : Hid (swapP m n = permP (swapL m.toNat n.toNat)) := if_pos ho
    have HB : Hid (swapB m n = true) := decide_eq_true ho
    rw [HP.out, HB.out]
    clear HP HB
    unfold swapOk at ho
    obtain ⟨m, rfl⟩ := Int.eq_ofNat_of_zero_le ho.1
    obtain ⟨n, rfl⟩ := Int.eq_ofNat_of_zero_le ho.2.2.1
    simp only [Int.toNat_natCast] at ho ⊢
    go_enter Try.func13, Try.ntmps13
    go_wp2_with (go_at_call 22; first | (refine (within_ct _ _ _ true (by simp; omega) _).mono ?_; rintro e w2 ⟨rfl, rfl⟩) | (refine (within_ct _ _ _ false (by simp; omega) _).mono ?_; rintro e w2 ⟨rfl, rfl⟩))
    obtain ⟨W0, hW0⟩ : ∃ W, W = (w.alloc (.cells #[.int .i64 0, .slice none 0 0, .slice none 0 0, .int .i64 0, .slice none 0 0, .slice none 0 0] 27)).alloc (.cells #[] 3) := ⟨_, rfl⟩
    rw [← hW0]
    have BA : Box W0 w.heap.size #[.int .i64 0, .slice none 0 0, .slice none 0 0, .int .i64 0, .slice none 0 0, .slice none 0 0] 27 := by rw [hW0]; exact (Box.new _ _ _).alloc _
    have acc : Acc W0 (w.heap.size + 1) 3 1 (.slice (some ⟨w.heap.size + 1, 0, none⟩) 0 0) (intRows ((swapL m n).take 0)) := by rw [hW0, show w.heap.size + 1 = (w.alloc (.cells #[.int .i64 0, .slice none 0 0, .slice none 0 0, .int .i64 0, .slice none 0 0, .slice none 0 0] 27)).heap.size by simp]; exact Acc.lit0 _ _ _ _ (Nat.le_refl _)
    have hb : Below w.heap.size w W0 := by rw [hW0]; exact bthen (balloc _ _) (balloc _ _)
    have hs : w.heap.size + 1 ≤ W0.heap.size := by rw [hW0]; simp
    clear hW0
    go_loopw [6, 22] (fun to i W => ∃ k : Nat, k ≤ m ∧ i = .int .i64 k ∧ Below w.heap.size w W ∧ w.heap.size + 1 ≤ W.heap.size ∧ Box W w.heap.size #[.int .i64 0, .slice none 0 0, .slice none 0 0, .int .i64 0, .slice none 0 0, .slice none 0 0] 27 ∧ Acc W (w.heap.size + 1) 3 1 to (intRows ((swapL m n).take k))) (fun _ i _ => m - (intOf i).toNat)
    case atStart => exact ⟨0, Nat.zero_le _, rfl, hb, hs, BA, acc⟩
    case round =>
      clear BA hb hs acc
      obtain ⟨k, hk, rfl, hb, hs, BA, acc⟩ := hrel
      obtain ⟨av, cv, rfl⟩ := acc.shape
      have HL : Hid ((intRows ((swapL m n).take k)).length = k) := take_rows _ _ (by rw [swapL_length]; omega)
      rw [HL.out] at acc ⊢
      by_cases hkl : k < m
      · skip
        have HT : Hid (intRows ((swapL m n).take (k + 1)) = intRows ((swapL m n).take k) ++ [[.int .i64 ((n : Int) + (k : Int))]]) := by show _ = _; rw [take_snoc_l (l := swapL m n) (x := (n : Int) + (k : Int)) (swapL_lo hkl)]; simp [intRows]
        go_wp2_with (at_builtin; refine app1 _ rfl (.tmp 25) (.tmp 29) 23 rfl (w.heap.size + 1) 3 1 8 (.int .i64 0) Try.underlying23 inf_int rfl (by decide) (by decide) _ (intRows ((swapL m n).take k)) rfl acc [.int .i64 ((n : Int) + (k : Int))] _ rfl (by simp [Value.oneCell']) rfl (by rw [HL.out]; omega) hs ?_)
        intro g c2 w2 acc2 hg
        rw [HL.out, ← HT.out] at acc2
        rw [HL.out]
        have hb2 := grown_below hb acc hg (by omega) (by omega)
        have hs2 : w.heap.size + 1 ≤ w2.heap.size := Nat.le_trans hs hg.size
        have BA2 := BA.keep (grown_block acc hg (by omega) BA.lt)
        clear acc hg BA hb hs
        go_wp2_with fail
        go_roundw
        case rel => exact ⟨k + 1, by omega, by go_num, hb2, hs2, BA2, acc2⟩
        case measure => simp [intOf]; omega
      · have e : m = k := by omega
        subst e
        go_wp2_with fail
        go_loopw [6, 33] (fun to i W => ∃ k : Nat, k ≤ n ∧ i = .int .i64 k ∧ Below w.heap.size w W ∧ w.heap.size + 1 ≤ W.heap.size ∧ Box W w.heap.size #[.int .i64 0, .slice none 0 0, .slice none 0 0, .int .i64 0, .slice none 0 0, .slice none 0 0] 27 ∧ Acc W (w.heap.size + 1) 3 1 to (intRows ((swapL m n).take (m + k)))) (fun _ i _ => n - (intOf i).toNat)
        case atStart => exact ⟨0, Nat.zero_le _, rfl, hb, hs, BA, acc⟩
        case round =>
          clear BA hb hs acc
          obtain ⟨k, hk, rfl, hb, hs, BA, acc⟩ := hrel
          obtain ⟨av, cv, rfl⟩ := acc.shape
          have HL : Hid ((intRows ((swapL m n).take (m + k))).length = m + k) := take_rows _ _ (by rw [swapL_length]; omega)
          rw [HL.out] at acc ⊢
          by_cases hkl : k < n
          · skip
            have HT : Hid (intRows ((swapL m n).take (m + k + 1)) = intRows ((swapL m n).take (m + k)) ++ [[.int .i64 ((k : Int))]]) := by show _ = _; rw [take_snoc_l (l := swapL m n) (x := (k : Int)) (by have := swapL_hi (m := m) (n := n) (k := m + k) (by omega) (by omega); rw [this]; congr 1; omega)]; simp [intRows]
            go_wp2_with (at_builtin; refine app1 _ rfl (.tmp 36) (.tmp 38) 23 rfl (w.heap.size + 1) 3 1 8 (.int .i64 0) Try.underlying23 inf_int rfl (by decide) (by decide) _ (intRows ((swapL m n).take (m + k))) rfl acc [.int .i64 ((k : Int))] _ rfl (by simp [Value.oneCell']) rfl (by rw [HL.out]; omega) hs ?_)
            intro g c2 w2 acc2 hg
            rw [HL.out, ← HT.out] at acc2
            rw [HL.out]
            have hb2 := grown_below hb acc hg (by omega) (by omega)
            have hs2 : w.heap.size + 1 ≤ w2.heap.size := Nat.le_trans hs hg.size
            have BA2 := BA.keep (grown_block acc hg (by omega) BA.lt)
            clear acc hg BA hb hs
            go_wp2_with fail
            go_roundw
            case rel => exact ⟨k + 1, by omega, by go_num, hb2, hs2, BA2, acc2⟩
            case measure => simp [intOf]; omega
          · have e : n = k := by omega
            subst e
            rw [List.take_of_length_le (by rw [swapL_length]; exact Nat.le_refl _)] at acc
            go_wp2_with fail
            refine (permutation_ct (swapL m n) _ _ (acc.ints (by rw [swapL_length]; omega) (swapL_bd (by omega))).at (by rw [swapL_length]; omega) (swapL_bd (by omega))).mono ?_
            rintro e w3 ⟨u, bs, rfl, p, nd, b3⟩
            obtain ⟨a1, c1, a2, c2, a3, c3, a4, c4, rfl⟩ := p.at.shape
            have hln := p.lt
            have BA := BA.below b3
            have hb := bthen hb b3
            have q := BA.cell
            have f := BA.free
            clear acc b3
            go_wp2_with fail
            refine bodyPost_ret (v := .tuple #[.agg #[.int .i64 (permP (swapL m n)).roots, .slice a1 (permP (swapL m n)).nodes.length c1, .slice a2 (permP (swapL m n)).sites.length c2, .int .i64 (permP (swapL m n)).edges, .slice a3 (permP (swapL m n)).outer.length c3, .slice a4 (permP (swapL m n)).inner.length c4], .bool true]) (by simp [results, Try.results13, go_sem, q]) rfl ⟨_, bs, rfl, (p.keep ?_).mono (by omega), nd, ?_⟩
            · intro g hg; have := hln g hg; repeat rw [heap_setCell_other _ _ _ _ (by simp <;> omega)]
            · iterate 6 refine Below.setCell ?_ (by simp) _
              exact hb
  · have HP : Hid (swapP m n = noBig) := if_neg ho
    have HB : Hid (swapB m n = false) := decide_eq_false ho
    have ho' : m < 0 ∨ 4 < m ∨ (0 ≤ m ∧ m ≤ 4 ∧ (n < 0 ∨ 4 - m < n)) := by unfold swapOk at ho; omega
    clear ho
    rw [HP.out, HB.out]
    clear HP HB
    rcases ho' with ho | ho | ho
    · go_enter Try.func13, Try.ntmps13
      go_wp2_with (go_at_call 22; first | (refine (within_ct _ _ _ true (by simp; omega) _).mono ?_; rintro e w2 ⟨rfl, rfl⟩) | (refine (within_ct _ _ _ false (by simp; omega) _).mono ?_; rintro e w2 ⟨rfl, rfl⟩))
      exact bodyPost_ret (v := .tuple #[.agg #[.int .i64 0, .slice none 0 0, .slice none 0 0, .int .i64 0, .slice none 0 0, .slice none 0 0], .bool false]) (by simp [results, Try.results13, go_sem]) rfl ⟨_, _, rfl, noBig_own _ _, by simp, balloc _ _⟩
    · go_enter Try.func13, Try.ntmps13
      go_wp2_with (go_at_call 22; first | (refine (within_ct _ _ _ true (by simp; omega) _).mono ?_; rintro e w2 ⟨rfl, rfl⟩) | (refine (within_ct _ _ _ false (by simp; omega) _).mono ?_; rintro e w2 ⟨rfl, rfl⟩))
      exact bodyPost_ret (v := .tuple #[.agg #[.int .i64 0, .slice none 0 0, .slice none 0 0, .int .i64 0, .slice none 0 0, .slice none 0 0], .bool false]) (by simp [results, Try.results13, go_sem]) rfl ⟨_, _, rfl, noBig_own _ _, by simp, balloc _ _⟩
    · go_enter Try.func13, Try.ntmps13
      go_wp2_with (go_at_call 22; first | (refine (within_ct _ _ _ true (by simp; omega) _).mono ?_; rintro e w2 ⟨rfl, rfl⟩) | (refine (within_ct _ _ _ false (by simp; omega) _).mono ?_; rintro e w2 ⟨rfl, rfl⟩))
      exact bodyPost_ret (v := .tuple #[.agg #[.int .i64 0, .slice none 0 0, .slice none 0 0, .int .i64 0, .slice none 0 0, .slice none 0 0], .bool false]) (by simp [results, Try.results13, go_sem]) rfl ⟨_, _, rfl, noBig_own _ _, by simp, balloc _ _⟩

end Go.Proofs.Ytlkadcmicjencaa
