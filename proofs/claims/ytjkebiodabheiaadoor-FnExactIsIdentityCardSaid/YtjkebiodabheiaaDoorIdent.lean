/- Identities. -/
import Derived.Test.YtjkebiodabheiaaDoorClos
namespace Go.Proofs.YtjkebiodabheiaaDoor
open Go Go.RowKit Go.BigFrame

def sitesL (n : Nat) : List Int := (List.range n).map fun (i : Nat) => -1 - (i : Int)
theorem sitesL_length (n : Nat) : (sitesL n).length = n := by simp [sitesL]
def siteRows (n k : Nat) : List (List Value) := intRows ((sitesL n).take k)
theorem siteRows_len {n k : Nat} (h : k ≤ n) : (siteRows n k).length = k := by simp [siteRows, intRows, sitesL]; omega
theorem siteRows_full (n : Nat) : siteRows n n = intRows (sitesL n) := by unfold siteRows; rw [List.take_of_length_le (by simp [sitesL])]
theorem siteRows_snoc {n k : Nat} (h : k < n) : siteRows n (k + 1) = siteRows n k ++ [[.int .i64 (-1 - (k : Int))]] := by
  unfold siteRows
  rw [take_snoc_l (l := sitesL n) (x := -1 - (k : Int)) (by unfold sitesL; rw [List.getElem?_map, List.getElem?_range h]; rfl)]
  simp [intRows]
def idBig (n : Nat) (l : List ByteArray) : Big := ⟨n, [], sitesL n, 0, l, wires l⟩

set_option maxRecDepth 100000 in
set_option maxHeartbeats 4000000 in
theorem identity_ct (n : Nat) (v : Value) (l : List ByteArray) (w : World) (hn4 : n ≤ 4) (h16 : l.length ≤ 16) (h : StrsAt w v l) : Calls Tryd.prog 59 #[.int .i64 n, v] w fun e w' => ∃ u bs, e = .returned u ∧ BigOwn w.heap.size w' u (idBig n l) bs ∧ bs.Nodup ∧ Below w.heap.size w w' := by
  have HSS : Hid (∀ s ∈ l, s.size ≤ 1073741824) := h.2
  have HW : Hid (∀ c ∈ wires l, c.name.size ≤ 1073741824 ∧ I64 c.link) := wires_ok h.2 (by omega)
  obtain ⟨a, c, rfl, hlc, hl30, h3⟩ := h.open
  go_enter Tryd.func59, Tryd.ntmps59
  go_wp2_with fail
  have BA : Box (w.alloc (.cells #[.int .i64 0, .slice none 0 0, .slice none 0 0, .int .i64 0, .slice none 0 0, .slice none 0 0] 43)) w.heap.size #[.int .i64 0, .slice none 0 0, .slice none 0 0, .int .i64 0, .slice none 0 0, .slice none 0 0] 43 := Box.new _ _ _
  refine (clone_ct _ l _ (h.below (balloc _ _)) h16).mono ?_
  rintro e w3 ⟨v4, rfl, own4, b⟩
  have BA := BA.below b
  have hb := bthen (balloc w _) b
  have own4 : RowOwn (w.heap.size + 1) w3 v4 1 (strRows l) := own4.mono (by simp)
  obtain ⟨a4, c4, rfl⟩ : ∃ a c, v4 = .slice a l.length c := by have := own4.shape; simpa [strRows] using this
  clear b h
  go_wp2_with fail
  obtain ⟨W1, hW1⟩ : ∃ W, W = w3.alloc (.cells #[.int .i64 n, .slice none 0 0, .slice none 0 0, .int .i64 0, .slice a4 l.length c4, .slice none 0 0] 43) := ⟨_, rfl⟩
  rw [← hW1]
  have H4 : Hid (∀ p ∈ blks (.slice a4 l.length c4), p < w3.heap.size) := fun p hp => (own4.lt p hp).2
  have hA3 : w.heap.size + 1 ≤ w3.heap.size := BA.lt
  have BC : Box W1 w3.heap.size #[.int .i64 n, .slice none 0 0, .slice none 0 0, .int .i64 0, .slice a4 l.length c4, .slice none 0 0] 43 := by rw [hW1]; exact Box.new _ _ _
  have b : Below w3.heap.size w3 W1 := by rw [hW1]; exact balloc _ _
  have BA := BA.below b
  have hb := bthen hb b
  have own4 := own4.keep (keep_below b (fun p hp => (own4.lt p hp).2))
  have hs : w3.heap.size + 1 ≤ W1.heap.size := by rw [hW1]; simp
  clear b hW1
  go_loopw [14] (fun i W => ∃ k : Nat, k ≤ n ∧ i = .int .i64 k ∧ Below w.heap.size w W ∧ w3.heap.size + 1 ≤ W.heap.size ∧ Box W w.heap.size #[.int .i64 0, .slice none 0 0, .slice none 0 0, .int .i64 0, .slice none 0 0, .slice none 0 0] 43 ∧ RowOwn (w.heap.size + 1) W (.slice a4 l.length c4) 1 (strRows l) ∧ ∃ vs, Box W w3.heap.size #[.int .i64 n, .slice none 0 0, vs, .int .i64 0, .slice a4 l.length c4, .slice none 0 0] 43 ∧ Acc W (w3.heap.size + 1) 3 1 vs (siteRows n k)) (fun i _ => n - (intOf i).toNat)
  case atStart => exact ⟨0, Nat.zero_le _, rfl, hb, hs, BA, own4, _, BC, Acc.nil _ _ _ _⟩
  case round =>
    clear BA BC hb hs own4
    obtain ⟨k, hk, rfl, hb, hs, BA, own4, vs, BC, acc⟩ := hrel
    obtain ⟨av, cv, rfl⟩ := acc.shape
    have HL : Hid ((siteRows n k).length = k) := siteRows_len hk
    rw [HL.out] at BC acc
    by_cases hkl : k < n
    · have HT : Hid (siteRows n (k + 1) = (siteRows n k) ++ [[.int .i64 (-1 - (k : Int))]]) := siteRows_snoc hkl
      have q := BC.cell
      have f := BC.free
      go_wp2_with (at_builtin; refine app1 _ rfl (.tmp 18) (.tmp 21) 30 rfl (w3.heap.size + 1) 3 1 8 (.int .i64 0) Tryd.underlying30 inf_int rfl (by decide) (by decide) _ (siteRows n k) rfl acc [.int .i64 (-1 - (k : Int))] _ rfl (by simp [Value.oneCell']) rfl (by rw [HL.out]; omega) hs ?_)
      intro g c2 w2 acc2 hg
      rw [HL.out, ← HT.out] at acc2
      rw [HL.out]
      have hb2 := grown_below hb acc hg (by omega) (by omega)
      have hs2 : w3.heap.size + 1 ≤ w2.heap.size := Nat.le_trans hs hg.size
      have BA2 := BA.keep (grown_block acc hg (by omega) BA.lt)
      have BC2 := BC.keep (grown_block acc hg (by omega) BC.lt)
      have own2 := own4.keep (fun p hp => grown_block acc hg (by have := H4.out p hp; omega) (own4.lt p hp).2)
      clear acc hg BA BC q f hb hs own4
      have q := BC2.cell
      have f := BC2.free
      go_wp2_with fail
      go_roundw
      case rel => exact ⟨k + 1, by omega, by go_num, hb2.setCell (by simp <;> omega) _, by simpa [size_setCell] using hs2, BA2.other _ (by simp <;> omega), own2.keep (keep_setCell (fun h => by have := H4.out _ h; simp at this)), _, BC2.set 2 _, acc2.keep (fun j hj _ => heap_setCell_other _ _ _ _ (by simp; omega))⟩
      case measure => simp [intOf]; omega
    · have e : n = k := by omega
      subst e
      have si := acc.own
      rw [siteRows_full] at si
      clear HL acc
      go_wp2_with fail
      obtain ⟨sa, hAS⟩ : ∃ sa, sa = av := ⟨_, rfl⟩
      obtain ⟨sc, hCS⟩ : ∃ sc, sc = cv := ⟨_, rfl⟩
      rw [← hAS, ← hCS] at si BC
      try rw [← hAS, ← hCS]
      clear hAS hCS
      obtain ⟨W9, hW9⟩ : ∃ W, W = wr := ⟨_, rfl⟩
      have H9 : Hid (∀ p ∈ blks (.slice sa n sc), w3.heap.size + 1 ≤ p ∧ p < W9.heap.size) := by rw [hW9]; exact si.lt
      have hs9 : W9.heap.size ≤ wr.heap.size := by rw [hW9]; exact Nat.le_refl _
      have hc9 : w3.heap.size + 1 ≤ W9.heap.size := by rw [hW9]; exact hs
      clear hW9 hs
      go_loopw [27] (fun i W => ∃ k : Nat, k ≤ l.length ∧ i = .int .i64 k ∧ Below w.heap.size w W ∧ W9.heap.size ≤ W.heap.size ∧ Box W w.heap.size #[.int .i64 0, .slice none 0 0, .slice none 0 0, .int .i64 0, .slice none 0 0, .slice none 0 0] 43 ∧ RowOwn (w.heap.size + 1) W (.slice a4 l.length c4) 1 (strRows l) ∧ RowOwn (w3.heap.size + 1) W (.slice sa n sc) 1 (intRows (sitesL n)) ∧ ∃ vs, Box W w3.heap.size #[.int .i64 n, .slice none 0 0, .slice sa n sc, .int .i64 0, .slice a4 l.length c4, vs] 43 ∧ Acc W W9.heap.size 85 2 vs (wrRows l k)) (fun i _ => l.length - (intOf i).toNat)
      case atStart => exact ⟨0, Nat.zero_le _, rfl, hb, hs9, BA, own4, si, _, BC, Acc.nil _ _ _ _⟩
      case round =>
        clear BA BC hb hs9 own4 si
        obtain ⟨k, hk, rfl, hb, hs, BA, own4, si, vs, BC, acc⟩ := hrel
        obtain ⟨av, cv, rfl⟩ := acc.shape
        have HL : Hid ((wrRows l k).length = k) := by show _ = _; simp [wrRows, wires_length]; omega
        rw [HL.out] at BC acc
        by_cases hkl : k < l.length
        · obtain ⟨x, hx1⟩ := getElem?_of_lt hkl
          have HT : Hid (wrRows l (k + 1) = (wrRows l k) ++ [[.string x, .int .i64 k]]) := by show _ = _; unfold wrRows; rw [take_snoc_l (wires_get hx1)]; simp [Wr.cells]
          obtain ⟨_, b, o, eA, hc⟩ := h3 k x hx1
          first | subst eA | (obtain rfl := Option.some.inj eA)
          have hc := (hb.cell (World.block_lt_of_cell? w _ hc)).trans hc
          have q := BC.cell
          have f := BC.free
          clear h3 hx1
          go_wp2_with (at_builtin; refine app1 _ rfl (.tmp 33) (.tmp 37) 41 rfl W9.heap.size 85 2 24 (.agg #[.string ⟨#[]⟩, .int .i64 0]) Tryd.underlying41 inf_wr rfl (by decide) (by decide) _ (wrRows l k) rfl acc [.string x, .int .i64 k] _ rfl (by simp [Value.oneCell']) rfl (by rw [HL.out]; omega) hs ?_)
          (intro g c2 w2 acc2 hg; rw [HL.out, ← HT.out] at acc2; rw [HL.out]; have hb2 := grown_below hb acc hg (by omega) (by omega); have hs2 : W9.heap.size ≤ w2.heap.size := Nat.le_trans hs hg.size; have BA2 := BA.keep (grown_block acc hg (by omega) BA.lt); have BC2 := BC.keep (grown_block acc hg (by omega) BC.lt); have own2 := own4.keep (fun p hp => grown_block acc hg (by have := H4.out p hp; omega) (own4.lt p hp).2); have si2 := si.keep (fun p hp => grown_block acc hg (H9.out p hp).2 (si.lt p hp).2); clear acc hg BA BC q f hb hs own4 si; have q := BC2.cell; have f := BC2.free)
          go_wp2_with fail
          go_roundw
          case rel => exact ⟨k + 1, by omega, by go_num, hb2.setCell (by simp <;> omega) _, by simpa [size_setCell] using hs2, BA2.other _ (by simp <;> omega), own2.keep (keep_setCell (fun h => by have := H4.out _ h; simp at this)), si2.keep (keep_setCell (fun h => by have := (H9.out _ h).1; simp at this; omega)), _, BC2.set 5 _, acc2.keep (fun j hj _ => heap_setCell_other _ _ _ _ (by simp; omega))⟩
          case measure => simp [intOf]; omega
        · have e : k = l.length := by omega
          subst e
          have hT : wrRows l l.length = (wires l).map Wr.cells := by unfold wrRows; rw [List.take_of_length_le (by rw [wires_length]; exact Nat.le_refl _)]
          rw [hT] at acc
          clear hT
          have q := BC.cell
          have q0 := BA.cell
          have f0 := BA.free
          clear h3
          go_wp2_with fail
          have hsi := H9.out
          have ho4 := H4.out
          have hwi := acc.own.lt
          refine bodyPost_ret (v := .agg #[.int .i64 n, .slice none 0 0, .slice sa n sc, .int .i64 0, .slice a4 l.length c4, .slice av l.length cv]) (by simp [results, Tryd.results59, go_sem, q0]) rfl ⟨_, _, rfl, ⟨_, _, _, _, [], rfl, nds_none _ _, ⟨(si.keep ?_).mono (by omega), ?_, ?_⟩, ⟨(own4.keep ?_).mono (by omega), by simp only [idBig]; omega, HSS.out⟩, ⟨(acc.own.keep ?_).mono (by omega), ?_, ?_⟩, ?_, ?_, rfl⟩, ?_, ?_⟩
          · intro g hg; have := (hsi g hg); repeat rw [heap_setCell_other _ _ _ _ (by simp <;> omega)]
          · simp [idBig, sitesL]; omega
          · intro y hy; simp only [idBig, sitesL, List.mem_map, List.mem_range] at hy; obtain ⟨z, hz, rfl⟩ := hy; unfold I64; omega
          · intro g hg; have := (own4.lt g hg); repeat rw [heap_setCell_other _ _ _ _ (by simp <;> omega)]
          · intro g hg; have := (hwi g hg); repeat rw [heap_setCell_other _ _ _ _ (by simp <;> omega)]
          · simp only [idBig, wires_length]; omega
          · exact HW.out
          · unfold I64; simp only [idBig]; omega
          · unfold I64; simp only [idBig]; omega
          · have nd : ∀ (a : Option Addr) (n c : Nat), (blks (.slice a n c)).Nodup := by intro a n c; cases a <;> cases n <;> simp [blks]
            rw [List.nil_append, List.nodup_append, List.nodup_append]
            refine ⟨nd _ _ _, ⟨nd _ _ _, nd _ _ _, ?_⟩, ?_⟩
            · intro p hp q hq; have := ho4 p hp; have := hwi q hq; omega
            · intro p hp q hq; have := hsi p hp; rcases List.mem_append.1 hq with hq | hq
              · have := ho4 q hq; omega
              · have := hwi q hq; omega
          · iterate 6 refine Below.setCell ?_ (by simp) _
            exact hb
set_option maxRecDepth 100000 in
set_option maxHeartbeats 4000000 in
theorem l3Identity_ct (n : Nat) (v : Value) (l : List ByteArray) (w : World) (hn4 : n ≤ 4) (h16 : l.length ≤ 16) (h : StrsAt w v l) : Calls Tryd.prog 52 #[.int .i64 n, v] w fun e w' => ∃ u bs, e = .returned u ∧ BigOwn w.heap.size w' u (idBig n l) bs ∧ bs.Nodup ∧ Below w.heap.size w w' := by
  have HSS : Hid (∀ s ∈ l, s.size ≤ 1073741824) := h.2
  have HW : Hid (∀ c ∈ wires l, c.name.size ≤ 1073741824 ∧ I64 c.link) := wires_ok h.2 (by omega)
  obtain ⟨a, c, rfl, hlc, hl30, h3⟩ := h.open
  have BA : Box (w.alloc (.cells #[.int .i64 0, .slice none 0 0, .slice none 0 0, .int .i64 0, .slice none 0 0, .slice none 0 0] 43)) w.heap.size #[.int .i64 0, .slice none 0 0, .slice none 0 0, .int .i64 0, .slice none 0 0, .slice none 0 0] 43 := Box.new _ _ _
  have hlit : Below (w.alloc (.cells #[.int .i64 0, .slice none 0 0, .slice none 0 0, .int .i64 0, .slice none 0 0, .slice none 0 0] 43)).heap.size (w.alloc (.cells #[.int .i64 0, .slice none 0 0, .slice none 0 0, .int .i64 0, .slice none 0 0, .slice none 0 0] 43)) ((w.alloc (.cells #[.int .i64 0, .slice none 0 0, .slice none 0 0, .int .i64 0, .slice none 0 0, .slice none 0 0] 43)).alloc (.cells #[] 9)) := balloc _ _
  have acc : Acc ((w.alloc (.cells #[.int .i64 0, .slice none 0 0, .slice none 0 0, .int .i64 0, .slice none 0 0, .slice none 0 0] 43)).alloc (.cells #[] 9)) (w.heap.size + 1) 9 1 (.slice (some ⟨w.heap.size + 1, 0, none⟩) 0 0) [] := by
    rw [show w.heap.size + 1 = (w.alloc (.cells #[.int .i64 0, .slice none 0 0, .slice none 0 0, .int .i64 0, .slice none 0 0, .slice none 0 0] 43)).heap.size by simp]; exact Acc.lit0 _ _ _ _ (Nat.le_refl _)
  have hb0 : Below w.heap.size w ((w.alloc (.cells #[.int .i64 0, .slice none 0 0, .slice none 0 0, .int .i64 0, .slice none 0 0, .slice none 0 0] 43)).alloc (.cells #[] 9)) := bthen (balloc _ _) (balloc _ _)
  have BA := BA.below hlit
  obtain ⟨i0, hi, hz0, hz1, hz2⟩ := info_parts inf_str
  cases a with
  | none =>
    have hl : l = [] := by
      cases l with
      | nil => rfl
      | cons s l => obtain ⟨_, b, o, e, _⟩ := h3 0 s rfl; cases e
    clear hi hz0 hz1 hz2
    subst hl
    have own4 : RowOwn (w.heap.size + 1) ((w.alloc (.cells #[.int .i64 0, .slice none 0 0, .slice none 0 0, .int .i64 0, .slice none 0 0, .slice none 0 0] 43)).alloc (.cells #[] 9)) (.slice (some ⟨w.heap.size + 1, 0, none⟩) 0 0) 1 (strRows []) := acc.own
    clear acc hlit
    go_enter Tryd.func52, Tryd.ntmps52
    go_wp2_with fail
    obtain ⟨w3, hw3⟩ : ∃ W, W = (w.alloc (.cells #[.int .i64 0, .slice none 0 0, .slice none 0 0, .int .i64 0, .slice none 0 0, .slice none 0 0] 43)).alloc (.cells #[] 9) := ⟨_, rfl⟩
    have e3 : w.heap.size + 1 + 1 = w3.heap.size := by rw [hw3]; simp
    rw [← hw3] at BA hb0 own4 ⊢
    rw [e3]
    clear hw3
    have hb := hb0
    obtain ⟨W1, hW1⟩ : ∃ W, W = w3.alloc (.cells #[.int .i64 n, .slice none 0 0, .slice none 0 0, .int .i64 0, .slice (some ⟨w.heap.size + 1, 0, none⟩) 0 0, .slice none 0 0] 43) := ⟨_, rfl⟩
    rw [← hW1]
    have H4 : Hid (∀ p ∈ blks (.slice (some ⟨w.heap.size + 1, 0, none⟩) 0 0), p < w3.heap.size) := fun p hp => (own4.lt p hp).2
    have hA3 : w.heap.size + 1 ≤ w3.heap.size := BA.lt
    have BC : Box W1 w3.heap.size #[.int .i64 n, .slice none 0 0, .slice none 0 0, .int .i64 0, .slice (some ⟨w.heap.size + 1, 0, none⟩) 0 0, .slice none 0 0] 43 := by rw [hW1]; exact Box.new _ _ _
    have b : Below w3.heap.size w3 W1 := by rw [hW1]; exact balloc _ _
    have BA := BA.below b
    have hb := bthen hb b
    have own4 := own4.keep (keep_below b (fun p hp => (own4.lt p hp).2))
    have hs : w3.heap.size + 1 ≤ W1.heap.size := by rw [hW1]; simp
    clear b hW1
    go_loopw [6] (fun i W => ∃ k : Nat, k ≤ n ∧ i = .int .i64 k ∧ Below w.heap.size w W ∧ w3.heap.size + 1 ≤ W.heap.size ∧ Box W w.heap.size #[.int .i64 0, .slice none 0 0, .slice none 0 0, .int .i64 0, .slice none 0 0, .slice none 0 0] 43 ∧ RowOwn (w.heap.size + 1) W (.slice (some ⟨w.heap.size + 1, 0, none⟩) 0 0) 1 (strRows []) ∧ ∃ vs, Box W w3.heap.size #[.int .i64 n, .slice none 0 0, vs, .int .i64 0, .slice (some ⟨w.heap.size + 1, 0, none⟩) 0 0, .slice none 0 0] 43 ∧ Acc W (w3.heap.size + 1) 3 1 vs (siteRows n k)) (fun i _ => n - (intOf i).toNat)
    case atStart => exact ⟨0, Nat.zero_le _, rfl, hb, hs, BA, own4, _, BC, Acc.nil _ _ _ _⟩
    case round =>
      clear BA BC hb hs own4
      obtain ⟨k, hk, rfl, hb, hs, BA, own4, vs, BC, acc⟩ := hrel
      obtain ⟨av, cv, rfl⟩ := acc.shape
      have HL : Hid ((siteRows n k).length = k) := siteRows_len hk
      rw [HL.out] at BC acc
      by_cases hkl : k < n
      · have HT : Hid (siteRows n (k + 1) = (siteRows n k) ++ [[.int .i64 (-1 - (k : Int))]]) := siteRows_snoc hkl
        have q := BC.cell
        have f := BC.free
        go_wp2_with (at_builtin; refine app1 _ rfl (.tmp 19) (.tmp 22) 30 rfl (w3.heap.size + 1) 3 1 8 (.int .i64 0) Tryd.underlying30 inf_int rfl (by decide) (by decide) _ (siteRows n k) rfl acc [.int .i64 (-1 - (k : Int))] _ rfl (by simp [Value.oneCell']) rfl (by rw [HL.out]; omega) hs ?_)
        intro g c2 w2 acc2 hg
        rw [HL.out, ← HT.out] at acc2
        rw [HL.out]
        have hb2 := grown_below hb acc hg (by omega) (by omega)
        have hs2 : w3.heap.size + 1 ≤ w2.heap.size := Nat.le_trans hs hg.size
        have BA2 := BA.keep (grown_block acc hg (by omega) BA.lt)
        have BC2 := BC.keep (grown_block acc hg (by omega) BC.lt)
        have own2 := own4.keep (fun p hp => grown_block acc hg (by have := H4.out p hp; omega) (own4.lt p hp).2)
        clear acc hg BA BC q f hb hs own4
        have q := BC2.cell
        have f := BC2.free
        go_wp2_with fail
        go_roundw
        case rel => exact ⟨k + 1, by omega, by go_num, hb2.setCell (by simp <;> omega) _, by simpa [size_setCell] using hs2, BA2.other _ (by simp <;> omega), own2.keep (keep_setCell (fun h => by have := H4.out _ h; simp at this)), _, BC2.set 2 _, acc2.keep (fun j hj _ => heap_setCell_other _ _ _ _ (by simp; omega))⟩
        case measure => simp [intOf]; omega
      · have e : n = k := by omega
        subst e
        have si := acc.own
        rw [siteRows_full] at si
        clear HL acc
        go_wp2_with fail
        obtain ⟨sa, hAS⟩ : ∃ sa, sa = av := ⟨_, rfl⟩
        obtain ⟨sc, hCS⟩ : ∃ sc, sc = cv := ⟨_, rfl⟩
        rw [← hAS, ← hCS] at si BC
        try rw [← hAS, ← hCS]
        clear hAS hCS
        obtain ⟨W9, hW9⟩ : ∃ W, W = wr := ⟨_, rfl⟩
        have H9 : Hid (∀ p ∈ blks (.slice sa n sc), w3.heap.size + 1 ≤ p ∧ p < W9.heap.size) := by rw [hW9]; exact si.lt
        have hs9 : W9.heap.size ≤ wr.heap.size := by rw [hW9]; exact Nat.le_refl _
        have hc9 : w3.heap.size + 1 ≤ W9.heap.size := by rw [hW9]; exact hs
        clear hW9 hs
        go_loopw [7] (fun i W => ∃ k : Nat, k ≤ 0 ∧ i = .int .i64 k ∧ Below w.heap.size w W ∧ W9.heap.size ≤ W.heap.size ∧ Box W w.heap.size #[.int .i64 0, .slice none 0 0, .slice none 0 0, .int .i64 0, .slice none 0 0, .slice none 0 0] 43 ∧ RowOwn (w.heap.size + 1) W (.slice (some ⟨w.heap.size + 1, 0, none⟩) 0 0) 1 (strRows []) ∧ RowOwn (w3.heap.size + 1) W (.slice sa n sc) 1 (intRows (sitesL n)) ∧ ∃ vs, Box W w3.heap.size #[.int .i64 n, .slice none 0 0, .slice sa n sc, .int .i64 0, .slice (some ⟨w.heap.size + 1, 0, none⟩) 0 0, vs] 43 ∧ Acc W W9.heap.size 85 2 vs (wrRows [] k)) (fun i _ => 0 - (intOf i).toNat)
        case atStart => exact ⟨0, Nat.zero_le _, rfl, hb, hs9, BA, own4, si, _, BC, Acc.nil _ _ _ _⟩
        case round =>
          clear BA BC hb hs9 own4 si
          obtain ⟨k, hk, rfl, hb, hs, BA, own4, si, vs, BC, acc⟩ := hrel
          obtain ⟨av, cv, rfl⟩ := acc.shape
          have HL : Hid ((wrRows [] k).length = k) := by show _ = _; simp [wrRows, wires_length]; omega
          rw [HL.out] at BC acc
          by_cases hkl : k < 0
          · omega
          · have e : k = 0 := by omega
            subst e
            have hT : wrRows [] 0 = (wires []).map Wr.cells := by unfold wrRows; rw [List.take_of_length_le (by rw [wires_length]; exact Nat.le_refl _)]
            rw [hT] at acc
            clear hT
            have q := BC.cell
            have q0 := BA.cell
            have f0 := BA.free
            clear h3
            go_wp2_with fail
            have hsi := H9.out
            have ho4 := H4.out
            have hwi := acc.own.lt
            refine bodyPost_ret (v := .agg #[.int .i64 n, .slice none 0 0, .slice sa n sc, .int .i64 0, .slice (some ⟨w.heap.size + 1, 0, none⟩) 0 0, .slice av 0 cv]) (by simp [results, Tryd.results52, go_sem, q0]) rfl ⟨_, _, rfl, ⟨_, _, _, _, [], rfl, nds_none _ _, ⟨(si.keep ?_).mono (by omega), ?_, ?_⟩, ⟨(own4.keep ?_).mono (by omega), by simp only [idBig]; omega, HSS.out⟩, ⟨(acc.own.keep ?_).mono (by omega), ?_, ?_⟩, ?_, ?_, rfl⟩, ?_, ?_⟩
            · intro g hg; have := (hsi g hg); repeat rw [heap_setCell_other _ _ _ _ (by simp <;> omega)]
            · simp [idBig, sitesL]; omega
            · intro y hy; simp only [idBig, sitesL, List.mem_map, List.mem_range] at hy; obtain ⟨z, hz, rfl⟩ := hy; unfold I64; omega
            · intro g hg; have := (own4.lt g hg); repeat rw [heap_setCell_other _ _ _ _ (by simp <;> omega)]
            · intro g hg; have := (hwi g hg); repeat rw [heap_setCell_other _ _ _ _ (by simp <;> omega)]
            · simp only [idBig, wires_length]; omega
            · exact HW.out
            · unfold I64; simp only [idBig]; omega
            · unfold I64; simp only [idBig]; omega
            · have nd : ∀ (a : Option Addr) (n c : Nat), (blks (.slice a n c)).Nodup := by intro a n c; cases a <;> cases n <;> simp [blks]
              rw [List.nil_append, List.nodup_append, List.nodup_append]
              refine ⟨nd _ _ _, ⟨nd _ _ _, nd _ _ _, ?_⟩, ?_⟩
              · intro p hp q hq; have := ho4 p hp; have := hwi q hq; omega
              · intro p hp q hq; have := hsi p hp; rcases List.mem_append.1 hq with hq | hq
                · have := ho4 q hq; omega
                · have := hwi q hq; omega
            · iterate 6 refine Below.setCell ?_ (by simp) _
              exact hb
  | some ad =>
    have hnews : ∀ j u, (l.map Value.string)[j]? = some u → ((w.alloc (.cells #[.int .i64 0, .slice none 0 0, .slice none 0 0, .int .i64 0, .slice none 0 0, .slice none 0 0] 43)).alloc (.cells #[] 9)).cell? (ad.add j) = some u := by
      intro j u hu
      rw [List.getElem?_map] at hu
      cases hx : l[j]? with
      | none => rw [hx] at hu; cases hu
      | some x =>
        rw [hx] at hu
        simp only [Option.map_some, Option.some.injEq] at hu
        subst hu
        obtain ⟨_, b, o, e, hc⟩ := h3 j x hx
        obtain rfl : ad = ⟨b, o, none⟩ := by simpa using e
        have hadd : (⟨b, o, none⟩ : Addr).add j = ⟨b, o + j, none⟩ := by unfold Addr.add; split <;> simp_all
        rw [hadd]
        exact (hb0.cell (World.block_lt_of_cell? _ _ hc)).trans hc
    go_enter Tryd.func52, Tryd.ntmps52
    go_wp2_with (at_builtin; refine wpList_append_own _ rfl (.tmp 9) (.tmp 10) 31 rfl (w.heap.size + 1) 9 i0 (.string ⟨#[]⟩) 1 16 Tryd.underlying31 hi hz0 hz1 hz2 rfl (by decide) (.slice (some ⟨w.heap.size + 1, 0, none⟩) 0 0) 0 [] rfl acc.1 ad l.length c (l.map Value.string) rfl (by simp) hnews (by intro u hu; obtain ⟨x, _, rfl⟩ := List.mem_map.1 hu; rfl) (by unfold maxLen; omega) (by omega) (by simp) ?_)
    intro v4 w3 own4 hg _
    have hb := hb0.grown hg (by simp; omega) (fun k hk => by simp [Value.ownBlock] at hk; omega)
    have BA := BA.keep (hg.block _ BA.lt (by simp [Value.ownBlock]))
    have own4 : RowOwn (w.heap.size + 1) w3 v4 1 (strRows l) := RowOwn.of_owns (cs := strRows l) (by rw [strs_flat]; simpa using own4) (by simp [strRows]) (by simp [strRows])
    obtain ⟨a4, c4, rfl⟩ : ∃ a c, v4 = .slice a l.length c := by have := own4.shape; simpa [strRows] using this
    clear hg acc hi hz0 hz1 hz2 hnews hb0 hlit h
    go_wp2_with fail
    obtain ⟨W1, hW1⟩ : ∃ W, W = w3.alloc (.cells #[.int .i64 n, .slice none 0 0, .slice none 0 0, .int .i64 0, .slice a4 l.length c4, .slice none 0 0] 43) := ⟨_, rfl⟩
    rw [← hW1]
    have H4 : Hid (∀ p ∈ blks (.slice a4 l.length c4), p < w3.heap.size) := fun p hp => (own4.lt p hp).2
    have hA3 : w.heap.size + 1 ≤ w3.heap.size := BA.lt
    have BC : Box W1 w3.heap.size #[.int .i64 n, .slice none 0 0, .slice none 0 0, .int .i64 0, .slice a4 l.length c4, .slice none 0 0] 43 := by rw [hW1]; exact Box.new _ _ _
    have b : Below w3.heap.size w3 W1 := by rw [hW1]; exact balloc _ _
    have BA := BA.below b
    have hb := bthen hb b
    have own4 := own4.keep (keep_below b (fun p hp => (own4.lt p hp).2))
    have hs : w3.heap.size + 1 ≤ W1.heap.size := by rw [hW1]; simp
    clear b hW1
    go_loopw [6] (fun i W => ∃ k : Nat, k ≤ n ∧ i = .int .i64 k ∧ Below w.heap.size w W ∧ w3.heap.size + 1 ≤ W.heap.size ∧ Box W w.heap.size #[.int .i64 0, .slice none 0 0, .slice none 0 0, .int .i64 0, .slice none 0 0, .slice none 0 0] 43 ∧ RowOwn (w.heap.size + 1) W (.slice a4 l.length c4) 1 (strRows l) ∧ ∃ vs, Box W w3.heap.size #[.int .i64 n, .slice none 0 0, vs, .int .i64 0, .slice a4 l.length c4, .slice none 0 0] 43 ∧ Acc W (w3.heap.size + 1) 3 1 vs (siteRows n k)) (fun i _ => n - (intOf i).toNat)
    case atStart => exact ⟨0, Nat.zero_le _, rfl, hb, hs, BA, own4, _, BC, Acc.nil _ _ _ _⟩
    case round =>
      clear BA BC hb hs own4
      obtain ⟨k, hk, rfl, hb, hs, BA, own4, vs, BC, acc⟩ := hrel
      obtain ⟨av, cv, rfl⟩ := acc.shape
      have HL : Hid ((siteRows n k).length = k) := siteRows_len hk
      rw [HL.out] at BC acc
      by_cases hkl : k < n
      · have HT : Hid (siteRows n (k + 1) = (siteRows n k) ++ [[.int .i64 (-1 - (k : Int))]]) := siteRows_snoc hkl
        have q := BC.cell
        have f := BC.free
        go_wp2_with (at_builtin; refine app1 _ rfl (.tmp 19) (.tmp 22) 30 rfl (w3.heap.size + 1) 3 1 8 (.int .i64 0) Tryd.underlying30 inf_int rfl (by decide) (by decide) _ (siteRows n k) rfl acc [.int .i64 (-1 - (k : Int))] _ rfl (by simp [Value.oneCell']) rfl (by rw [HL.out]; omega) hs ?_)
        intro g c2 w2 acc2 hg
        rw [HL.out, ← HT.out] at acc2
        rw [HL.out]
        have hb2 := grown_below hb acc hg (by omega) (by omega)
        have hs2 : w3.heap.size + 1 ≤ w2.heap.size := Nat.le_trans hs hg.size
        have BA2 := BA.keep (grown_block acc hg (by omega) BA.lt)
        have BC2 := BC.keep (grown_block acc hg (by omega) BC.lt)
        have own2 := own4.keep (fun p hp => grown_block acc hg (by have := H4.out p hp; omega) (own4.lt p hp).2)
        clear acc hg BA BC q f hb hs own4
        have q := BC2.cell
        have f := BC2.free
        go_wp2_with fail
        go_roundw
        case rel => exact ⟨k + 1, by omega, by go_num, hb2.setCell (by simp <;> omega) _, by simpa [size_setCell] using hs2, BA2.other _ (by simp <;> omega), own2.keep (keep_setCell (fun h => by have := H4.out _ h; simp at this)), _, BC2.set 2 _, acc2.keep (fun j hj _ => heap_setCell_other _ _ _ _ (by simp; omega))⟩
        case measure => simp [intOf]; omega
      · have e : n = k := by omega
        subst e
        have si := acc.own
        rw [siteRows_full] at si
        clear HL acc
        go_wp2_with fail
        obtain ⟨sa, hAS⟩ : ∃ sa, sa = av := ⟨_, rfl⟩
        obtain ⟨sc, hCS⟩ : ∃ sc, sc = cv := ⟨_, rfl⟩
        rw [← hAS, ← hCS] at si BC
        try rw [← hAS, ← hCS]
        clear hAS hCS
        obtain ⟨W9, hW9⟩ : ∃ W, W = wr := ⟨_, rfl⟩
        have H9 : Hid (∀ p ∈ blks (.slice sa n sc), w3.heap.size + 1 ≤ p ∧ p < W9.heap.size) := by rw [hW9]; exact si.lt
        have hs9 : W9.heap.size ≤ wr.heap.size := by rw [hW9]; exact Nat.le_refl _
        have hc9 : w3.heap.size + 1 ≤ W9.heap.size := by rw [hW9]; exact hs
        clear hW9 hs
        go_loopw [7] (fun i W => ∃ k : Nat, k ≤ l.length ∧ i = .int .i64 k ∧ Below w.heap.size w W ∧ W9.heap.size ≤ W.heap.size ∧ Box W w.heap.size #[.int .i64 0, .slice none 0 0, .slice none 0 0, .int .i64 0, .slice none 0 0, .slice none 0 0] 43 ∧ RowOwn (w.heap.size + 1) W (.slice a4 l.length c4) 1 (strRows l) ∧ RowOwn (w3.heap.size + 1) W (.slice sa n sc) 1 (intRows (sitesL n)) ∧ ∃ vs, Box W w3.heap.size #[.int .i64 n, .slice none 0 0, .slice sa n sc, .int .i64 0, .slice a4 l.length c4, vs] 43 ∧ Acc W W9.heap.size 85 2 vs (wrRows l k)) (fun i _ => l.length - (intOf i).toNat)
        case atStart => exact ⟨0, Nat.zero_le _, rfl, hb, hs9, BA, own4, si, _, BC, Acc.nil _ _ _ _⟩
        case round =>
          clear BA BC hb hs9 own4 si
          obtain ⟨k, hk, rfl, hb, hs, BA, own4, si, vs, BC, acc⟩ := hrel
          obtain ⟨av, cv, rfl⟩ := acc.shape
          have HL : Hid ((wrRows l k).length = k) := by show _ = _; simp [wrRows, wires_length]; omega
          rw [HL.out] at BC acc
          by_cases hkl : k < l.length
          · obtain ⟨x, hx1⟩ := getElem?_of_lt hkl
            have HT : Hid (wrRows l (k + 1) = (wrRows l k) ++ [[.string x, .int .i64 k]]) := by show _ = _; unfold wrRows; rw [take_snoc_l (wires_get hx1)]; simp [Wr.cells]
            obtain ⟨_, b, o, eA, hc⟩ := h3 k x hx1
            first | subst eA | (obtain rfl := Option.some.inj eA)
            have hc := (hb.cell (World.block_lt_of_cell? w _ hc)).trans hc
            have q := BC.cell
            have f := BC.free
            clear h3 hx1
            go_wp2_with fail
            have q1 := BC.cell
            have hc1 := hc
            have n1 := BC.lt
            have n2 : b < wr.heap.size := World.block_lt_of_cell? wr _ hc
            have hd := bdrew (Below.refl wr.heap.size wr)
            have acc := acc.below hd
            have BA := BA.below hd
            have BC := BC.below hd
            have own4 := own4.keep (keep_below hd (fun p hp => (own4.lt p hp).2))
            have si := si.keep (keep_below hd (fun p hp => (si.lt p hp).2))
            have hb := bthen hb hd
            have hs : W9.heap.size ≤ wr.drew.heap.size := Nat.le_trans hs hd.size
            have hc := (hd.cell (World.block_lt_of_cell? wr _ hc)).trans hc
            have q := BC.cell
            have f := BC.free
            clear hd
            go_region_law? ((refine app1s _ (by rfl) (.tmp 32) (.tmp 39) 41 (by rfl) W9.heap.size 85 2 24 (.agg #[.string ⟨#[]⟩, .int .i64 0]) Tryd.underlying41 inf_wr rfl (by decide) (by decide) _ (wrRows l k) (by rfl) acc [.string x, .int .i64 k] _ rfl (by simp [Value.oneCell']) (by rfl) (by rw [HL.out]; omega) hs ?_; intro g c2 w2 acc2 hg; rw [HL.out, ← HT.out] at acc2; rw [HL.out]; have hb2 := grown_below hb acc hg (by omega) (by omega); have hs2 : W9.heap.size ≤ w2.heap.size := Nat.le_trans hs hg.size; have BA2 := BA.keep (grown_block acc hg (by omega) BA.lt); have BC2 := BC.keep (grown_block acc hg (by omega) BC.lt); have own2 := own4.keep (fun p hp => grown_block acc hg (by have := H4.out p hp; omega) (own4.lt p hp).2); have si2 := si.keep (fun p hp => grown_block acc hg (H9.out p hp).2 (si.lt p hp).2); clear acc hg BA BC q f hb hs own4 si q1 hc1 n1 n2; have q := BC2.cell; have f := BC2.free))
            all_goals (
              go_wp2_with fail
              go_roundw
              case rel => exact ⟨k + 1, by omega, by go_num, hb2.setCell (by simp <;> omega) _, by simpa [size_setCell] using hs2, BA2.other _ (by simp <;> omega), own2.keep (keep_setCell (fun h => by have := H4.out _ h; simp at this)), si2.keep (keep_setCell (fun h => by have := (H9.out _ h).1; simp at this; omega)), _, BC2.set 5 _, acc2.keep (fun j hj _ => heap_setCell_other _ _ _ _ (by simp; omega))⟩
              case measure => simp [intOf]; omega)
          · have e : k = l.length := by omega
            subst e
            have hT : wrRows l l.length = (wires l).map Wr.cells := by unfold wrRows; rw [List.take_of_length_le (by rw [wires_length]; exact Nat.le_refl _)]
            rw [hT] at acc
            clear hT
            have q := BC.cell
            have q0 := BA.cell
            have f0 := BA.free
            clear h3
            go_wp2_with fail
            have hsi := H9.out
            have ho4 := H4.out
            have hwi := acc.own.lt
            refine bodyPost_ret (v := .agg #[.int .i64 n, .slice none 0 0, .slice sa n sc, .int .i64 0, .slice a4 l.length c4, .slice av l.length cv]) (by simp [results, Tryd.results52, go_sem, q0]) rfl ⟨_, _, rfl, ⟨_, _, _, _, [], rfl, nds_none _ _, ⟨(si.keep ?_).mono (by omega), ?_, ?_⟩, ⟨(own4.keep ?_).mono (by omega), by simp only [idBig]; omega, HSS.out⟩, ⟨(acc.own.keep ?_).mono (by omega), ?_, ?_⟩, ?_, ?_, rfl⟩, ?_, ?_⟩
            · intro g hg; have := (hsi g hg); repeat rw [heap_setCell_other _ _ _ _ (by simp <;> omega)]
            · simp [idBig, sitesL]; omega
            · intro y hy; simp only [idBig, sitesL, List.mem_map, List.mem_range] at hy; obtain ⟨z, hz, rfl⟩ := hy; unfold I64; omega
            · intro g hg; have := (own4.lt g hg); repeat rw [heap_setCell_other _ _ _ _ (by simp <;> omega)]
            · intro g hg; have := (hwi g hg); repeat rw [heap_setCell_other _ _ _ _ (by simp <;> omega)]
            · simp only [idBig, wires_length]; omega
            · exact HW.out
            · unfold I64; simp only [idBig]; omega
            · unfold I64; simp only [idBig]; omega
            · have nd : ∀ (a : Option Addr) (n c : Nat), (blks (.slice a n c)).Nodup := by intro a n c; cases a <;> cases n <;> simp [blks]
              rw [List.nil_append, List.nodup_append, List.nodup_append]
              refine ⟨nd _ _ _, ⟨nd _ _ _, nd _ _ _, ?_⟩, ?_⟩
              · intro p hp q hq; have := ho4 p hp; have := hwi q hq; omega
              · intro p hp q hq; have := hsi p hp; rcases List.mem_append.1 hq with hq | hq
                · have := ho4 q hq; omega
                · have := hwi q hq; omega
            · iterate 6 refine Below.setCell ?_ (by simp) _
              exact hb
end Go.Proofs.YtjkebiodabheiaaDoor
