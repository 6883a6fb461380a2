/- Closures. -/
import Derived.Test.YtlkadcmicjencaaDoorNewN
import Derived.IntWalk
namespace Go.Proofs.YtlkadcmicjencaaDoor
open Go Go.RowKit Go.BigFrame

def wiresAt (n : Nat) : List ByteArray → List Wr
  | [] => []
  | s :: l => ⟨s, n⟩ :: wiresAt (n + 1) l
def wires (l : List ByteArray) : List Wr := wiresAt 0 l
theorem wiresAt_length : ∀ (n : Nat) (l : List ByteArray), (wiresAt n l).length = l.length
  | _, [] => rfl
  | n, s :: l => by simp [wiresAt, wiresAt_length (n + 1) l]
theorem wires_length (l : List ByteArray) : (wires l).length = l.length := wiresAt_length 0 l
theorem wiresAt_get : ∀ (n : Nat) (l : List ByteArray) (k : Nat) (x : ByteArray), l[k]? = some x → (wiresAt n l)[k]? = some ⟨x, ((n + k : Nat) : Int)⟩
  | _, [], k, x, h => by simp at h
  | n, s :: l, 0, x, h => by simp at h; subst h; rfl
  | n, s :: l, k + 1, x, h => by
    have := wiresAt_get (n + 1) l k x (by simpa using h)
    simp only [wiresAt, List.getElem?_cons_succ]
    rw [this, show n + 1 + k = n + (k + 1) by omega]
def wrRows (l : List ByteArray) (k : Nat) : List (List Value) := ((wires l).take k).map Wr.cells
theorem wires_get {l : List ByteArray} {k : Nat} {x : ByteArray} (h : l[k]? = some x) : (wires l)[k]? = some ⟨x, (k : Int)⟩ := by
  have := wiresAt_get 0 l k x h
  rwa [Nat.zero_add] at this
theorem wires_ok {l : List ByteArray} (h : ∀ s ∈ l, s.size ≤ 1073741824) (hl : l.length ≤ 1073741824) : ∀ c ∈ wires l, c.name.size ≤ 1073741824 ∧ I64 c.link := by
  intro c hc
  obtain ⟨k, hk⟩ := List.mem_iff_getElem?.1 hc
  have hkl := (List.getElem?_eq_some_iff.1 hk).1
  rw [wires_length] at hkl
  obtain ⟨x, hx⟩ := getElem?_of_lt hkl
  rw [wires_get hx] at hk
  simp only [Option.some.injEq] at hk
  subst hk
  exact ⟨h x (List.mem_of_getElem? hx), by unfold I64; dsimp only; omega⟩
def closB (l : List ByteArray) : Bool := namesB l && decide (l.length ≤ 8)
def closP (l : List ByteArray) : Big := if closB l = true then ⟨0, [], [], l.length, [], wires l⟩ else noBig

set_option maxRecDepth 100000 in
set_option maxHeartbeats 2000000 in
theorem specClosureOf_ct (v : Value) (l : List ByteArray) (w : World) (h : StrsAt w v l) : Calls Tryd.prog 23 #[v] w (GivesBig (closP l) (closB l) w) := by
  obtain ⟨a, c, rfl, hlc, hl30, h3⟩ := h.open
  obtain ⟨v, hv⟩ : ∃ v, v = Value.slice a l.length c := ⟨_, rfl⟩
  rw [← hv] at h
  cases hn : namesB l with
  | false =>
    have HP : Hid (closP l = noBig) := by unfold closP closB; rw [hn]; rfl
    have HB : Hid (closB l = false) := by show _ = _; unfold closB; rw [hn]; rfl
    rw [HP.out, HB.out]
    subst hv
    go_enter Tryd.func23, Tryd.ntmps23
    go_wp2_with fail
    obtain ⟨W0, hW0⟩ : ∃ W, W = (w.alloc (.cells #[.int .i64 0, .slice none 0 0, .slice none 0 0, .int .i64 0, .slice none 0 0, .slice none 0 0] 40)).alloc (.cells #[.int .i64 0, .slice none 0 0, .slice none 0 0, .int .i64 l.length, .slice none 0 0, .slice none 0 0] 40) := ⟨_, rfl⟩
    rw [← hW0]
    have BA : Box W0 w.heap.size #[.int .i64 0, .slice none 0 0, .slice none 0 0, .int .i64 0, .slice none 0 0, .slice none 0 0] 40 := by rw [hW0]; exact (Box.new _ _ _).alloc _
    have BC : Box W0 (w.heap.size + 1) #[.int .i64 0, .slice none 0 0, .slice none 0 0, .int .i64 l.length, .slice none 0 0, .slice none 0 0] 40 := by rw [hW0]; exact Box.new' _ _ _ (by simp)
    have hb : Below w.heap.size w W0 := by rw [hW0]; exact bthen (balloc _ _) (balloc _ _)
    have hs : w.heap.size + 1 + 1 ≤ W0.heap.size := by rw [hW0]; simp
    clear hW0
    refine (l3Names_ct _ l false _ (h.below hb) hn).mono ?_
    rintro e w2 ⟨rfl, hb2⟩
    have BA := BA.below hb2
    have BC := BC.below hb2
    have hb := bthen hb hb2
    have hs := Nat.le_trans hs hb2.size
    clear hb2
    have q := BA.cell
    have f := BA.free
    go_wp2_with fail
    refine bodyPost_ret (v := .tuple #[.agg #[.int .i64 0, .slice none 0 0, .slice none 0 0, .int .i64 0, .slice none 0 0, .slice none 0 0], .bool false]) (by simp [results, Tryd.results23, go_sem, q]) rfl ⟨_, _, rfl, noBig_own _ _, by simp, ?_⟩
    iterate 6 refine Below.setCell ?_ (by simp) _
    exact hb
  | true =>
    by_cases h8 : l.length ≤ 8
    · have HP : Hid (closP l = ⟨0, [], [], l.length, [], wires l⟩) := by unfold closP closB; rw [hn, decide_eq_true h8]; rfl
      have HB : Hid (closB l = true) := by show _ = _; unfold closB; rw [hn, decide_eq_true h8]; rfl
      rw [HP.out, HB.out]
      have HW : Hid (∀ c ∈ wires l, c.name.size ≤ 1073741824 ∧ I64 c.link) := wires_ok h.2 (by omega)
      subst hv
      go_enter Tryd.func23, Tryd.ntmps23
      go_wp2_with fail
      obtain ⟨W0, hW0⟩ : ∃ W, W = (w.alloc (.cells #[.int .i64 0, .slice none 0 0, .slice none 0 0, .int .i64 0, .slice none 0 0, .slice none 0 0] 40)).alloc (.cells #[.int .i64 0, .slice none 0 0, .slice none 0 0, .int .i64 l.length, .slice none 0 0, .slice none 0 0] 40) := ⟨_, rfl⟩
      rw [← hW0]
      have BA : Box W0 w.heap.size #[.int .i64 0, .slice none 0 0, .slice none 0 0, .int .i64 0, .slice none 0 0, .slice none 0 0] 40 := by rw [hW0]; exact (Box.new _ _ _).alloc _
      have BC : Box W0 (w.heap.size + 1) #[.int .i64 0, .slice none 0 0, .slice none 0 0, .int .i64 l.length, .slice none 0 0, .slice none 0 0] 40 := by rw [hW0]; exact Box.new' _ _ _ (by simp)
      have hb : Below w.heap.size w W0 := by rw [hW0]; exact bthen (balloc _ _) (balloc _ _)
      have hs : w.heap.size + 1 + 1 ≤ W0.heap.size := by rw [hW0]; simp
      clear hW0
      refine (l3Names_ct _ l true _ (h.below hb) hn).mono ?_
      rintro e w2 ⟨rfl, hb2⟩
      have BA := BA.below hb2
      have BC := BC.below hb2
      have hb := bthen hb hb2
      have hs := Nat.le_trans hs hb2.size
      clear hb2
      go_wp2_with fail
      go_loopw [5] (fun i W => ∃ k : Nat, k ≤ l.length ∧ i = .int .i64 k ∧ Below w.heap.size w W ∧ (w.heap.size + 1) + 1 ≤ W.heap.size ∧ Box W w.heap.size #[.int .i64 0, .slice none 0 0, .slice none 0 0, .int .i64 0, .slice none 0 0, .slice none 0 0] 40 ∧ ∃ vs, Box W (w.heap.size + 1) #[.int .i64 0, .slice none 0 0, .slice none 0 0, .int .i64 l.length, .slice none 0 0, vs] 40 ∧ Acc W ((w.heap.size + 1) + 1) 76 2 vs (wrRows l k)) (fun i _ => l.length - (intOf i).toNat)
      case atStart => exact ⟨0, Nat.zero_le _, rfl, hb, hs, BA, _, BC, Acc.nil _ _ _ _⟩
      case round =>
        clear BA BC hb hs
        obtain ⟨k, hk, rfl, hb, hs, BA, vs, BC, acc⟩ := hrel
        obtain ⟨av, cv, rfl⟩ := acc.shape
        have HL : Hid ((wrRows l k).length = k) := by show _ = _; simp [wrRows, wires_length]; omega
        rw [HL.out] at BC acc
        by_cases hkl : k < l.length
        · obtain ⟨x, hx1⟩ := getElem?_of_lt hkl
          have HT : Hid (wrRows l (k + 1) = (wrRows l k) ++ [[.string x, .int .i64 k]]) := by show _ = _; unfold wrRows; rw [take_snoc_l (wires_get hx1)]; simp [Wr.cells]
          obtain ⟨_, b, o, rfl, hc⟩ := h3 k x hx1
          have hc := (hb.cell (World.block_lt_of_cell? w _ hc)).trans hc
          have q := BC.cell
          have f := BC.free
          clear h3 hx1 h
          go_wp2_with fail
          have q1 := BC.cell
          have hc1 := hc
          have n1 := BC.lt
          have n2 : b < wr.heap.size := World.block_lt_of_cell? wr _ hc
          have hd := bdrew (Below.refl wr.heap.size wr)
          have acc := acc.below hd
          have BA := BA.below hd
          have BC := BC.below hd
          have hb := bthen hb hd
          have hs : (w.heap.size + 1) + 1 ≤ wr.drew.heap.size := Nat.le_trans hs hd.size
          have hc := (hd.cell (World.block_lt_of_cell? wr _ hc)).trans hc
          have q := BC.cell
          have f := BC.free
          clear hd
          go_region_law? ((refine app1s _ (by rfl) (.tmp 25) (.tmp 32) 38 (by rfl) ((w.heap.size + 1) + 1) 76 2 24 (.agg #[.string ⟨#[]⟩, .int .i64 0]) Tryd.underlying38 inf_wr rfl (by decide) (by decide) _ (wrRows l k) (by rfl) acc [.string x, .int .i64 k] _ rfl (by simp [Value.oneCell']) (by rfl) (by rw [HL.out]; omega) hs ?_; intro g c2 w2 acc2 hg; rw [HL.out, ← HT.out] at acc2; rw [HL.out]; have hb2 := grown_below hb acc hg (by omega) (by omega); have hs2 : (w.heap.size + 1) + 1 ≤ w2.heap.size := Nat.le_trans hs hg.size; have BA2 := BA.keep (grown_block acc hg (by omega) BA.lt); have BC2 := BC.keep (grown_block acc hg (by omega) BC.lt); clear acc hg BA BC q f hb hs q1 hc1 n1 n2; have q := BC2.cell; have f := BC2.free))
          all_goals (
            go_wp2_with fail
            go_roundw
            case rel => exact ⟨k + 1, by omega, by go_num, hb2.setCell (by simp <;> omega) _, by simpa [size_setCell] using hs2, BA2.other _ (by simp <;> omega), _, BC2.set 5 _, acc2.keep (fun j hj _ => heap_setCell_other _ _ _ _ (by simp <;> omega))⟩
            case measure => simp [intOf]; omega)
        · have e : k = l.length := by omega
          subst e
          have hT : wrRows l l.length = (wires l).map Wr.cells := by unfold wrRows; rw [List.take_of_length_le (by rw [wires_length]; exact Nat.le_refl _)]
          rw [hT] at acc
          clear hT
          have q := BC.cell
          have q0 := BA.cell
          have f0 := BA.free
          clear h3 h
          go_wp2_with fail
          refine bodyPost_ret (v := .tuple #[.agg #[.int .i64 0, .slice none 0 0, .slice none 0 0, .int .i64 l.length, .slice none 0 0, .slice av l.length cv], .bool true]) (by simp [results, Tryd.results23, go_sem, q0]) rfl ⟨_, _, rfl, ⟨_, _, _, _, [], rfl, nds_none _ _, ints_none _ _, strs_none _ _, ⟨(acc.own.keep ?_).mono (by omega), ?_, ?_⟩, ?_, ?_, rfl⟩, ?_, ?_⟩
          · intro g hg; have := (acc.own.lt g hg); repeat rw [heap_setCell_other _ _ _ _ (by simp <;> omega)]
          · simp only [wires_length]; omega
          · exact HW.out
          · unfold I64; dsimp only; omega
          · unfold I64; dsimp only; omega
          · cases av <;> cases l.length <;> simp [blks]
          · iterate 6 refine Below.setCell ?_ (by simp) _
            exact hb
    · have HP : Hid (closP l = noBig) := by unfold closP closB; rw [hn, decide_eq_false h8]; rfl
      have HB : Hid (closB l = false) := by show _ = _; unfold closB; rw [hn, decide_eq_false h8]; rfl
      rw [HP.out, HB.out]
      subst hv
      go_enter Tryd.func23, Tryd.ntmps23
      go_wp2_with fail
      obtain ⟨W0, hW0⟩ : ∃ W, W = (w.alloc (.cells #[.int .i64 0, .slice none 0 0, .slice none 0 0, .int .i64 0, .slice none 0 0, .slice none 0 0] 40)).alloc (.cells #[.int .i64 0, .slice none 0 0, .slice none 0 0, .int .i64 l.length, .slice none 0 0, .slice none 0 0] 40) := ⟨_, rfl⟩
      rw [← hW0]
      have BA : Box W0 w.heap.size #[.int .i64 0, .slice none 0 0, .slice none 0 0, .int .i64 0, .slice none 0 0, .slice none 0 0] 40 := by rw [hW0]; exact (Box.new _ _ _).alloc _
      have BC : Box W0 (w.heap.size + 1) #[.int .i64 0, .slice none 0 0, .slice none 0 0, .int .i64 l.length, .slice none 0 0, .slice none 0 0] 40 := by rw [hW0]; exact Box.new' _ _ _ (by simp)
      have hb : Below w.heap.size w W0 := by rw [hW0]; exact bthen (balloc _ _) (balloc _ _)
      have hs : w.heap.size + 1 + 1 ≤ W0.heap.size := by rw [hW0]; simp
      clear hW0
      refine (l3Names_ct _ l true _ (h.below hb) hn).mono ?_
      rintro e w2 ⟨rfl, hb2⟩
      have BA := BA.below hb2
      have BC := BC.below hb2
      have hb := bthen hb hb2
      have hs := Nat.le_trans hs hb2.size
      clear hb2
      have q := BA.cell
      have f := BA.free
      go_wp2_with fail
      refine bodyPost_ret (v := .tuple #[.agg #[.int .i64 0, .slice none 0 0, .slice none 0 0, .int .i64 0, .slice none 0 0, .slice none 0 0], .bool false]) (by simp [results, Tryd.results23, go_sem, q]) rfl ⟨_, _, rfl, noBig_own _ _, by simp, ?_⟩
      iterate 6 refine Below.setCell ?_ (by simp) _
      exact hb

set_option maxRecDepth 100000 in
set_option maxHeartbeats 2000000 in
theorem implClosureOf_ct (v : Value) (l : List ByteArray) (w : World) (h : StrsAt w v l) : Calls Tryd.prog 25 #[v] w (GivesBig (closP l) (closB l) w) := by
  obtain ⟨a, c, rfl, hlc, hl30, h3⟩ := h.open
  obtain ⟨v, hv⟩ : ∃ v, v = Value.slice a l.length c := ⟨_, rfl⟩
  rw [← hv] at h
  cases hn : namesB l with
  | false =>
    have HP : Hid (closP l = noBig) := by unfold closP closB; rw [hn]; rfl
    have HB : Hid (closB l = false) := by show _ = _; unfold closB; rw [hn]; rfl
    rw [HP.out, HB.out]
    subst hv
    go_enter Tryd.func25, Tryd.ntmps25
    go_wp2_with fail
    obtain ⟨W0, hW0⟩ : ∃ W, W = w.alloc (.cells #[.int .i64 0, .slice none 0 0, .slice none 0 0, .int .i64 0, .slice none 0 0, .slice none 0 0] 40) := ⟨_, rfl⟩
    rw [← hW0]
    have BA : Box W0 w.heap.size #[.int .i64 0, .slice none 0 0, .slice none 0 0, .int .i64 0, .slice none 0 0, .slice none 0 0] 40 := by rw [hW0]; exact Box.new _ _ _
    have hb : Below w.heap.size w W0 := by rw [hW0]; exact balloc _ _
    clear hW0
    refine (areNames_ct _ l false _ (h.below hb) hn).mono ?_
    rintro e wn ⟨rfl, hb2⟩
    have BA := BA.below hb2
    have hb := bthen hb hb2
    clear hb2
    have q := BA.cell
    have f := BA.free
    go_wp2_with fail
    refine bodyPost_ret (v := .tuple #[.agg #[.int .i64 0, .slice none 0 0, .slice none 0 0, .int .i64 0, .slice none 0 0, .slice none 0 0], .bool false]) (by simp [results, Tryd.results25, go_sem, q]) rfl ⟨_, _, rfl, noBig_own _ _, by simp, ?_⟩
    iterate 6 refine Below.setCell ?_ (by simp) _
    exact hb
  | true =>
    by_cases h8 : l.length ≤ 8
    · have HP : Hid (closP l = ⟨0, [], [], l.length, [], wires l⟩) := by unfold closP closB; rw [hn, decide_eq_true h8]; rfl
      have HB : Hid (closB l = true) := by show _ = _; unfold closB; rw [hn, decide_eq_true h8]; rfl
      rw [HP.out, HB.out]
      have HW : Hid (∀ c ∈ wires l, c.name.size ≤ 1073741824 ∧ I64 c.link) := wires_ok h.2 (by omega)
      subst hv
      go_enter Tryd.func25, Tryd.ntmps25
      go_wp2_with fail
      obtain ⟨W0, hW0⟩ : ∃ W, W = w.alloc (.cells #[.int .i64 0, .slice none 0 0, .slice none 0 0, .int .i64 0, .slice none 0 0, .slice none 0 0] 40) := ⟨_, rfl⟩
      rw [← hW0]
      have BA : Box W0 w.heap.size #[.int .i64 0, .slice none 0 0, .slice none 0 0, .int .i64 0, .slice none 0 0, .slice none 0 0] 40 := by rw [hW0]; exact Box.new _ _ _
      have hb : Below w.heap.size w W0 := by rw [hW0]; exact balloc _ _
      clear hW0
      refine (areNames_ct _ l true _ (h.below hb) hn).mono ?_
      rintro e wn ⟨rfl, hb2⟩
      have BA := BA.below hb2
      have hb := bthen hb hb2
      clear hb2
      go_wp2_with fail
      obtain ⟨W1, hW1⟩ : ∃ W, W = wn.alloc (.cells #[.int .i64 0, .slice none 0 0, .slice none 0 0, .int .i64 l.length, .slice none 0 0, .slice none 0 0] 40) := ⟨_, rfl⟩
      rw [← hW1]
      have hlt := BA.lt
      have BA : Box W1 w.heap.size #[.int .i64 0, .slice none 0 0, .slice none 0 0, .int .i64 0, .slice none 0 0, .slice none 0 0] 40 := by rw [hW1]; exact BA.alloc _
      have BC : Box W1 wn.heap.size #[.int .i64 0, .slice none 0 0, .slice none 0 0, .int .i64 l.length, .slice none 0 0, .slice none 0 0] 40 := by rw [hW1]; exact Box.new _ _ _
      have hb : Below w.heap.size w W1 := by rw [hW1]; exact bthen hb (balloc _ _)
      have hs : wn.heap.size + 1 ≤ W1.heap.size := by rw [hW1]; simp
      clear hW1
      go_loopw [21] (fun i W => ∃ k : Nat, k ≤ l.length ∧ i = .int .i64 k ∧ Below w.heap.size w W ∧ wn.heap.size + 1 ≤ W.heap.size ∧ Box W w.heap.size #[.int .i64 0, .slice none 0 0, .slice none 0 0, .int .i64 0, .slice none 0 0, .slice none 0 0] 40 ∧ ∃ vs, Box W wn.heap.size #[.int .i64 0, .slice none 0 0, .slice none 0 0, .int .i64 l.length, .slice none 0 0, vs] 40 ∧ Acc W (wn.heap.size + 1) 76 2 vs (wrRows l k)) (fun i _ => l.length - (intOf i).toNat)
      case atStart => exact ⟨0, Nat.zero_le _, rfl, hb, hs, BA, _, BC, Acc.nil _ _ _ _⟩
      case round =>
        clear BA BC hb hs
        obtain ⟨k, hk, rfl, hb, hs, BA, vs, BC, acc⟩ := hrel
        obtain ⟨av, cv, rfl⟩ := acc.shape
        have HL : Hid ((wrRows l k).length = k) := by show _ = _; simp [wrRows, wires_length]; omega
        rw [HL.out] at BC acc
        by_cases hkl : k < l.length
        · obtain ⟨x, hx1⟩ := getElem?_of_lt hkl
          have HT : Hid (wrRows l (k + 1) = (wrRows l k) ++ [[.string x, .int .i64 k]]) := by show _ = _; unfold wrRows; rw [take_snoc_l (wires_get hx1)]; simp [Wr.cells]
          obtain ⟨_, b, o, rfl, hc⟩ := h3 k x hx1
          have hc := (hb.cell (World.block_lt_of_cell? w _ hc)).trans hc
          have q := BC.cell
          have f := BC.free
          clear h3 hx1 h
          go_wp2_with (at_builtin; refine app1 _ rfl (.tmp 27) (.tmp 31) 38 rfl (wn.heap.size + 1) 76 2 24 (.agg #[.string ⟨#[]⟩, .int .i64 0]) Tryd.underlying38 inf_wr rfl (by decide) (by decide) _ (wrRows l k) rfl acc [.string x, .int .i64 k] _ rfl (by simp [Value.oneCell']) rfl (by rw [HL.out]; omega) hs ?_)
          intro g c2 w2 acc2 hg
          rw [HL.out, ← HT.out] at acc2
          rw [HL.out]
          have hb2 := grown_below hb acc hg (by omega) (by omega)
          have hs2 : wn.heap.size + 1 ≤ w2.heap.size := Nat.le_trans hs hg.size
          have BA2 := BA.keep (grown_block acc hg (by omega) BA.lt)
          have BC2 := BC.keep (grown_block acc hg (by omega) BC.lt)
          clear acc hg BA BC q f hb hs
          have q := BC2.cell
          have f := BC2.free
          go_wp2_with fail
          go_roundw
          case rel => exact ⟨k + 1, by omega, by go_num, hb2.setCell (by simp <;> omega) _, by simpa [size_setCell] using hs2, BA2.other _ (by simp <;> omega), _, BC2.set 5 _, acc2.keep (fun j hj _ => heap_setCell_other _ _ _ _ (by simp <;> omega))⟩
          case measure => simp [intOf]; omega
        · have e : k = l.length := by omega
          subst e
          have hT : wrRows l l.length = (wires l).map Wr.cells := by unfold wrRows; rw [List.take_of_length_le (by rw [wires_length]; exact Nat.le_refl _)]
          rw [hT] at acc
          clear hT
          have q := BC.cell
          have q0 := BA.cell
          have f0 := BA.free
          clear h3 h
          go_wp2_with fail
          refine bodyPost_ret (v := .tuple #[.agg #[.int .i64 0, .slice none 0 0, .slice none 0 0, .int .i64 l.length, .slice none 0 0, .slice av l.length cv], .bool true]) (by simp [results, Tryd.results25, go_sem, q0]) rfl ⟨_, _, rfl, ⟨_, _, _, _, [], rfl, nds_none _ _, ints_none _ _, strs_none _ _, ⟨(acc.own.keep ?_).mono (by omega), ?_, ?_⟩, ?_, ?_, rfl⟩, ?_, ?_⟩
          · intro g hg; have := (acc.own.lt g hg); repeat rw [heap_setCell_other _ _ _ _ (by simp <;> omega)]
          · simp only [wires_length]; omega
          · exact HW.out
          · unfold I64; dsimp only; omega
          · unfold I64; dsimp only; omega
          · cases av <;> cases l.length <;> simp [blks]
          · iterate 6 refine Below.setCell ?_ (by simp) _
            exact hb
    · have HP : Hid (closP l = noBig) := by unfold closP closB; rw [hn, decide_eq_false h8]; rfl
      have HB : Hid (closB l = false) := by show _ = _; unfold closB; rw [hn, decide_eq_false h8]; rfl
      rw [HP.out, HB.out]
      subst hv
      go_enter Tryd.func25, Tryd.ntmps25
      go_wp2_with fail
      obtain ⟨W0, hW0⟩ : ∃ W, W = w.alloc (.cells #[.int .i64 0, .slice none 0 0, .slice none 0 0, .int .i64 0, .slice none 0 0, .slice none 0 0] 40) := ⟨_, rfl⟩
      rw [← hW0]
      have BA : Box W0 w.heap.size #[.int .i64 0, .slice none 0 0, .slice none 0 0, .int .i64 0, .slice none 0 0, .slice none 0 0] 40 := by rw [hW0]; exact Box.new _ _ _
      have hb : Below w.heap.size w W0 := by rw [hW0]; exact balloc _ _
      clear hW0
      refine (areNames_ct _ l true _ (h.below hb) hn).mono ?_
      rintro e wn ⟨rfl, hb2⟩
      have BA := BA.below hb2
      have hb := bthen hb hb2
      clear hb2
      have q := BA.cell
      have f := BA.free
      go_wp2_with fail
      refine bodyPost_ret (v := .tuple #[.agg #[.int .i64 0, .slice none 0 0, .slice none 0 0, .int .i64 0, .slice none 0 0, .slice none 0 0], .bool false]) (by simp [results, Tryd.results25, go_sem, q]) rfl ⟨_, _, rfl, noBig_own _ _, by simp, ?_⟩
      iterate 6 refine Below.setCell ?_ (by simp) _
      exact hb

end Go.Proofs.YtlkadcmicjencaaDoor
