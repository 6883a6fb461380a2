/- Several texts in one: To ToB. -/
import Derived.Test.YthgelhglfbgagaaGreatDoorG2
set_option linter.unusedVariables false
/- The laws' copies: each hands back new memory that reads as what came in. -/
namespace Go.Proofs.YthgelhglfbgagaaGreatDoor
open Go Go.RowKit Go.BigFrame

/-- A row that is full: its cells are those of the elements. -/
theorem take_full {xs : List Value} {n sz : Nat} {cs : List (List Value)} (hl : xs.length = n * sz) (h : xs.take (n * sz) = cs.flatten) : xs = cs.flatten := by
  rw [← h, List.take_of_length_le (by omega)]
theorem splice_take {xs us : List Value} {k sz n : Nat} {cs : List (List Value)} (hk : k < n) (hl : xs.length = n * sz) (hu : us.length = sz) (h : xs.take (k * sz) = cs.flatten) :
    (xs.take (k * sz) ++ us ++ xs.drop ((k + 1) * sz)).take ((k + 1) * sz) = (cs ++ [us]).flatten := by
  have h1 : (k + 1) * sz = k * sz + sz := by rw [Nat.add_mul, Nat.one_mul]
  have h2 : k * sz + sz ≤ n * sz := by rw [← h1]; exact Nat.mul_le_mul_right _ hk
  rw [List.take_append, List.take_of_length_le (by simp; omega), h]
  simp only [List.flatten_append, List.flatten_cons, List.flatten_nil, List.append_nil]
  rw [show (k + 1) * sz - (cs.flatten ++ us).length = 0 by
    rw [← h]; simp only [List.length_append, List.length_take, hl, hu]; omega]
  simp
theorem set_splice {xs : List Value} {k n : Nat} (u : Value) (hk : k < n) (hl : xs.length = n * 1) : xs.set k u = xs.take (k * 1) ++ [u] ++ xs.drop ((k + 1) * 1) := by
  simp only [Nat.mul_one] at *
  rw [List.set_eq_take_append_cons_drop, if_pos (by omega)]
  simp

set_option maxHeartbeats 1000000 in
theorem toIntS_ct (v : Value) (l : List Int) (w : World) (h : IntsAt w v l) :
    Calls Tryz.prog 62 #[v] w fun e w' => ∃ u, e = .returned u ∧ IntsOwn w.heap.size w' u l ∧ Below w.heap.size w w' := by
  obtain ⟨a, c, rfl, h1, h2, h3⟩ := h.open
  have HI : Hid (_) := h.2
  clear h
  obtain ⟨i0, hi, hz0, hz1, hz2⟩ := info_parts inf_int
  go_enter Tryz.func62, Tryz.ntmps62
  go_wp2_with (at_make; refine wpList_make_full _ rfl _ _ 25 rfl w.heap.size 3 i0 (.int .i64 0) 1 Tryz.underlying25 hi hz0 hz1 _ _ _ _ l.length rfl rfl rfl rfl ?b1 ?b2 ?b3 ?_)
  case b1 => rw [hz2]; omega
  case b2 => unfold maxLen; omega
  case b3 => exact Nat.le_refl _
  intro w1 hown hgrow
  have hb1 : Below w.heap.size w w1 := (Below.refl _ _).grown hgrow (Nat.le_refl _) (fun _ h => by cases h)
  clear hi hz0 hz1 hz2
  obtain ⟨xs0, hown⟩ : ∃ xs, w1.ownsRow w.heap.size 3 1 (.slice (some ⟨w.heap.size, 0, none⟩) l.length l.length) l.length xs := ⟨_, hown⟩
  clear hgrow
  go_wp2
  go_loopw [4] (fun i wr => ∃ k : Nat, k ≤ l.length ∧ i = .int .i64 k ∧ Below w.heap.size w wr ∧ ∃ xs, wr.ownsRow w.heap.size 3 1 (.slice (some ⟨w.heap.size, 0, none⟩) l.length l.length) l.length xs ∧ Hid (xs.take (k * 1) = (intRows (l.take k)).flatten)) (fun i _ => l.length - (intOf i).toNat)
  case atStart => exact ⟨0, Nat.zero_le _, rfl, hb1, xs0, hown, (by show _ = _; simp [intRows])⟩
  case round =>
    obtain ⟨k, hk, rfl, hb, xs, hown, HX⟩ := hrel
    by_cases hkl : k < l.length
    · obtain ⟨x, hx⟩ := getElem?_of_lt hkl
      have HT : Hid (intRows (l.take (k + 1)) = intRows (l.take k) ++ [[.int .i64 x]]) := by show _ = _; rw [take_snoc_l hx]; simp [intRows]
      obtain ⟨_, b, o, rfl, hc⟩ := h3 k x hx
      have hc := (hb.cell (World.block_lt_of_cell? w _ hc)).trans hc
      have hold : ∃ u, wr.cell? ⟨w.heap.size, k, none⟩ = some u := by
        rw [hown.cellAt k (by omega)]
        have := hown.1
        exact ⟨xs[k]'(by omega), List.getElem?_eq_getElem _⟩
      obtain ⟨old, hold⟩ := hold
      have hfr := hown.frozenAt k
      have hst := hown.stored k (.int .i64 x)
      clear h3 hx
      go_wp2
      go_roundw
      case rel => exact ⟨k + 1, by omega, by go_num, hb.setCell (by exact Nat.le_refl _) _, _, hst.1, (by show _ = _; rw [set_splice _ hkl hown.1, splice_take hkl hown.1 rfl HX.out, HT.out])⟩
      case measure => simp [intOf]; omega
    · have hk' : l.length = k := by omega
      have HE : Hid (xs = (intRows l).flatten) := by
        show _ = _
        have h5 := HX.out
        rw [List.take_of_length_le (show l.length ≤ k by omega), ← hk'] at h5
        exact take_full hown.1 h5
      clear h3 hk'
      go_wp2
      go_ret
      refine ⟨_, rfl, ⟨RowOwn.of_owns (by rw [← HE.out]; exact hown) (by simp [intRows]) (by simp [intRows]), h2, HI.out⟩, hb⟩

set_option maxHeartbeats 1000000 in
theorem toStringS_ct (v : Value) (l : List ByteArray) (w : World) (h : StrsAt w v l) :
    Calls Tryz.prog 63 #[v] w fun e w' => ∃ u, e = .returned u ∧ StrsOwn w.heap.size w' u l ∧ Below w.heap.size w w' := by
  obtain ⟨a, c, rfl, h1, h2, h3⟩ := h.open
  have HI : Hid (_) := h.2
  clear h
  obtain ⟨i0, hi, hz0, hz1, hz2⟩ := info_parts inf_str
  go_enter Tryz.func63, Tryz.ntmps63
  go_wp2_with (at_make; refine wpList_make_full _ rfl _ _ 26 rfl w.heap.size 9 i0 (.string ⟨#[]⟩) 1 Tryz.underlying26 hi hz0 hz1 _ _ _ _ l.length rfl rfl rfl rfl ?b1 ?b2 ?b3 ?_)
  case b1 => rw [hz2]; omega
  case b2 => unfold maxLen; omega
  case b3 => exact Nat.le_refl _
  intro w1 hown hgrow
  have hb1 : Below w.heap.size w w1 := (Below.refl _ _).grown hgrow (Nat.le_refl _) (fun _ h => by cases h)
  clear hi hz0 hz1 hz2
  obtain ⟨xs0, hown⟩ : ∃ xs, w1.ownsRow w.heap.size 9 1 (.slice (some ⟨w.heap.size, 0, none⟩) l.length l.length) l.length xs := ⟨_, hown⟩
  clear hgrow
  go_wp2
  go_loopw [4] (fun i wr => ∃ k : Nat, k ≤ l.length ∧ i = .int .i64 k ∧ Below w.heap.size w wr ∧ ∃ xs, wr.ownsRow w.heap.size 9 1 (.slice (some ⟨w.heap.size, 0, none⟩) l.length l.length) l.length xs ∧ Hid (xs.take (k * 1) = (strRows (l.take k)).flatten)) (fun i _ => l.length - (intOf i).toNat)
  case atStart => exact ⟨0, Nat.zero_le _, rfl, hb1, xs0, hown, (by show _ = _; simp [strRows])⟩
  case round =>
    obtain ⟨k, hk, rfl, hb, xs, hown, HX⟩ := hrel
    by_cases hkl : k < l.length
    · obtain ⟨x, hx⟩ := getElem?_of_lt hkl
      have HT : Hid (strRows (l.take (k + 1)) = strRows (l.take k) ++ [[.string x]]) := by show _ = _; rw [take_snoc_l hx]; simp [strRows]
      obtain ⟨_, b, o, rfl, hc⟩ := h3 k x hx
      have hc := (hb.cell (World.block_lt_of_cell? w _ hc)).trans hc
      have hold : ∃ u, wr.cell? ⟨w.heap.size, k, none⟩ = some u := by
        rw [hown.cellAt k (by omega)]
        have := hown.1
        exact ⟨xs[k]'(by omega), List.getElem?_eq_getElem _⟩
      obtain ⟨old, hold⟩ := hold
      have hfr := hown.frozenAt k
      have hst := hown.stored k (.string x)
      clear h3 hx
      go_wp2
      go_roundw
      case rel => exact ⟨k + 1, by omega, by go_num, hb.setCell (by exact Nat.le_refl _) _, _, hst.1, (by show _ = _; rw [set_splice _ hkl hown.1, splice_take hkl hown.1 rfl HX.out, HT.out])⟩
      case measure => simp [intOf]; omega
    · have hk' : l.length = k := by omega
      have HE : Hid (xs = (strRows l).flatten) := by
        show _ = _
        have h5 := HX.out
        rw [List.take_of_length_le (show l.length ≤ k by omega), ← hk'] at h5
        exact take_full hown.1 h5
      clear h3 hk'
      go_wp2
      go_ret
      refine ⟨_, rfl, ⟨RowOwn.of_owns (by rw [← HE.out]; exact hown) (by simp [strRows]) (by simp [strRows]), h2, HI.out⟩, hb⟩

set_option maxHeartbeats 1000000 in
theorem toControl_ct (s : ByteArray) (p k : Int) (w : World) :
    Calls Tryz.prog 27 #[.agg #[.string s, .int .i64 p, .int .i64 k]] w fun e w' => e = .returned (.agg #[.string s, .int .i64 p, .int .i64 k]) ∧ Below w.heap.size w w' := by
  go_enter Tryz.func27, Tryz.ntmps27
  go_wp2
  exact bodyPost_ret (v := .agg #[.string s, .int .i64 p, .int .i64 k]) (by simp [results, Tryz.results27, go_sem]) rfl ⟨rfl, by repeat (first | exact Below.refl _ _ | refine Below.alloc ?_ (by simp; try omega) _ | refine Below.setCell ?_ (by simp; try omega) _)⟩
set_option maxHeartbeats 1000000 in
theorem toWire_ct (s : ByteArray) (p : Int) (w : World) :
    Calls Tryz.prog 108 #[.agg #[.string s, .int .i64 p]] w fun e w' => e = .returned (.agg #[.string s, .int .i64 p]) ∧ Below w.heap.size w w' := by
  go_enter Tryz.func108, Tryz.ntmps108
  go_wp2
  exact bodyPost_ret (v := .agg #[.string s, .int .i64 p]) (by simp [results, Tryz.results108, go_sem]) rfl ⟨rfl, by repeat (first | exact Below.refl _ _ | refine Below.alloc ?_ (by simp; try omega) _ | refine Below.setCell ?_ (by simp; try omega) _)⟩

set_option maxRecDepth 100000 in
set_option maxHeartbeats 1000000 in
theorem toControlS_ct (v : Value) (l : List Ctl) (w : World) (h : CtlsAt w v l) :
    Calls Tryz.prog 7 #[v] w fun e w' => ∃ u, e = .returned u ∧ CtlsOwn w.heap.size w' u l ∧ Below w.heap.size w w' := by
  obtain ⟨a, c, rfl, h1, h2, h3⟩ := h.open
  have HI : Hid (_) := h.2
  clear h
  obtain ⟨i0, hi, hz0, hz1, hz2⟩ := info_parts inf_ctl
  go_enter Tryz.func7, Tryz.ntmps7
  go_wp2_with (at_make; refine wpList_make_full _ rfl _ _ 32 rfl w.heap.size 62 i0 (.agg #[.string ⟨#[]⟩, .int .i64 0, .int .i64 0]) 3 Tryz.underlying32 hi hz0 hz1 _ _ _ _ l.length rfl rfl rfl rfl ?b1 ?b2 ?b3 ?_)
  case b1 => rw [hz2]; omega
  case b2 => unfold maxLen; omega
  case b3 => exact Nat.le_refl _
  intro w1 hown hgrow
  have hb1 : Below w.heap.size w w1 := (Below.refl _ _).grown hgrow (Nat.le_refl _) (fun _ h => by cases h)
  have hsz : (Tryz.prog.info? 62).map (·.size) = some 3 := by rw [hi]; simp [hz1]
  clear hi hz0 hz1 hz2
  obtain ⟨xs0, hown⟩ : ∃ xs, w1.ownsRow w.heap.size 62 3 (.slice (some ⟨w.heap.size, 0, none⟩) l.length l.length) l.length xs := ⟨_, hown⟩
  clear hgrow
  have HSZ : Hid ((Tryz.prog.info? 62).map (·.size) = some 3) := hsz
  clear hsz
  go_wp2
  go_loopw [4] (fun i wr => ∃ k : Nat, k ≤ l.length ∧ i = .int .i64 k ∧ Below w.heap.size w wr ∧ ∃ xs, wr.ownsRow w.heap.size 62 3 (.slice (some ⟨w.heap.size, 0, none⟩) l.length l.length) l.length xs ∧ Hid (xs.take (k * 3) = ((l.take k).map Ctl.cells).flatten)) (fun i _ => l.length - (intOf i).toNat)
  case atStart => exact ⟨0, Nat.zero_le _, rfl, hb1, xs0, hown, (by show _ = _; simp)⟩
  case round =>
    obtain ⟨k, hk, rfl, hb, xs, hown, HX⟩ := hrel
    by_cases hkl : k < l.length
    · obtain ⟨x, hx⟩ := getElem?_of_lt hkl
      have HT : Hid ((l.take (k + 1)).map Ctl.cells = (l.take k).map Ctl.cells ++ [[.string x.name, .int .i64 x.ports, .int .i64 x.kind]]) := by show _ = _; rw [take_snoc_l hx]; simp [Ctl.cells]
      obtain ⟨_, _, _, b, o, rfl, hc0, hc1, hc2⟩ := h3 k x hx
      have hc0 := (hb.cell (World.block_lt_of_cell? w _ hc0)).trans hc0
      have hc1 := (hb.cell (World.block_lt_of_cell? w _ hc1)).trans hc1
      have hc2 := (hb.cell (World.block_lt_of_cell? w _ hc2)).trans hc2
      clear h3 hx
      go_wp2_with (first | (go_at_call 27; refine (toControl_ct _ _ _ _).mono ?_; rintro e w2 ⟨rfl, hb2⟩; have hown2 := owns_below hown hb2) | (refine wpList_store_mid (ty := 62) rfl (.tmp 21) (.tmp 20) rfl w.heap.size (k * 3) #[.string x.name, .int .i64 x.ports, .int .i64 x.kind] rfl rfl (owns_there hown2 hkl) HSZ.out (oc_ctl _ _ _) ?_))
      have hst := ownsRow_splice hown2 hkl (us := [.string x.name, .int .i64 x.ports, .int .i64 x.kind]) rfl
      go_wp2
      go_roundw
      case rel => exact ⟨k + 1, by omega, by go_num, (bthen hb hb2).grown hst.2 (bthen hb hb2).size (fun _ h => by cases h; exact Nat.le_refl _), _, hst.1, (by show _ = _; rw [splice_take hkl hown2.1 rfl HX.out, HT.out])⟩
      case measure => simp [intOf]; omega
    · have hk' : l.length = k := by omega
      have HE : Hid (xs = (l.map Ctl.cells).flatten) := by
        show _ = _
        have h5 := HX.out
        rw [List.take_of_length_le (show l.length ≤ k by omega), ← hk'] at h5
        exact take_full hown.1 h5
      clear h3 hk'
      go_wp2
      go_ret
      refine ⟨_, rfl, ⟨RowOwn.of_owns (by rw [← HE.out]; exact hown) (by simp) (by simp [Ctl.cells]), h2, HI.out⟩, hb⟩

set_option maxRecDepth 100000 in
set_option maxHeartbeats 1000000 in
theorem toWireS_ct (v : Value) (l : List Wr) (w : World) (h : WrsAt w v l) :
    Calls Tryz.prog 64 #[v] w fun e w' => ∃ u, e = .returned u ∧ WrsOwn w.heap.size w' u l ∧ Below w.heap.size w w' := by
  obtain ⟨a, c, rfl, h1, h2, h3⟩ := h.open
  have HI : Hid (_) := h.2
  clear h
  obtain ⟨i0, hi, hz0, hz1, hz2⟩ := info_parts inf_wr
  go_enter Tryz.func64, Tryz.ntmps64
  go_wp2_with (at_make; refine wpList_make_full _ rfl _ _ 27 rfl w.heap.size 87 i0 (.agg #[.string ⟨#[]⟩, .int .i64 0]) 2 Tryz.underlying27 hi hz0 hz1 _ _ _ _ l.length rfl rfl rfl rfl ?b1 ?b2 ?b3 ?_)
  case b1 => rw [hz2]; omega
  case b2 => unfold maxLen; omega
  case b3 => exact Nat.le_refl _
  intro w1 hown hgrow
  have hb1 : Below w.heap.size w w1 := (Below.refl _ _).grown hgrow (Nat.le_refl _) (fun _ h => by cases h)
  have hsz : (Tryz.prog.info? 87).map (·.size) = some 2 := by rw [hi]; simp [hz1]
  clear hi hz0 hz1 hz2
  obtain ⟨xs0, hown⟩ : ∃ xs, w1.ownsRow w.heap.size 87 2 (.slice (some ⟨w.heap.size, 0, none⟩) l.length l.length) l.length xs := ⟨_, hown⟩
  clear hgrow
  have HSZ : Hid ((Tryz.prog.info? 87).map (·.size) = some 2) := hsz
  clear hsz
  go_wp2
  go_loopw [4] (fun i wr => ∃ k : Nat, k ≤ l.length ∧ i = .int .i64 k ∧ Below w.heap.size w wr ∧ ∃ xs, wr.ownsRow w.heap.size 87 2 (.slice (some ⟨w.heap.size, 0, none⟩) l.length l.length) l.length xs ∧ Hid (xs.take (k * 2) = ((l.take k).map Wr.cells).flatten)) (fun i _ => l.length - (intOf i).toNat)
  case atStart => exact ⟨0, Nat.zero_le _, rfl, hb1, xs0, hown, (by show _ = _; simp)⟩
  case round =>
    obtain ⟨k, hk, rfl, hb, xs, hown, HX⟩ := hrel
    by_cases hkl : k < l.length
    · obtain ⟨x, hx⟩ := getElem?_of_lt hkl
      have HT : Hid ((l.take (k + 1)).map Wr.cells = (l.take k).map Wr.cells ++ [[.string x.name, .int .i64 x.link]]) := by show _ = _; rw [take_snoc_l hx]; simp [Wr.cells]
      obtain ⟨_, _, b, o, rfl, hc0, hc1⟩ := h3 k x hx
      have hc0 := (hb.cell (World.block_lt_of_cell? w _ hc0)).trans hc0
      have hc1 := (hb.cell (World.block_lt_of_cell? w _ hc1)).trans hc1
      clear h3 hx
      go_wp2_with (first | (go_at_call 108; refine (toWire_ct _ _ _).mono ?_; rintro e w2 ⟨rfl, hb2⟩; have hown2 := owns_below hown hb2) | (refine wpList_store_mid (ty := 87) rfl (.tmp 21) (.tmp 20) rfl w.heap.size (k * 2) #[.string x.name, .int .i64 x.link] rfl rfl (owns_there hown2 hkl) HSZ.out (oc_wr _ _) ?_))
      have hst := ownsRow_splice hown2 hkl (us := [.string x.name, .int .i64 x.link]) rfl
      go_wp2
      go_roundw
      case rel => exact ⟨k + 1, by omega, by go_num, (bthen hb hb2).grown hst.2 (bthen hb hb2).size (fun _ h => by cases h; exact Nat.le_refl _), _, hst.1, (by show _ = _; rw [splice_take hkl hown2.1 rfl HX.out, HT.out])⟩
      case measure => simp [intOf]; omega
    · have hk' : l.length = k := by omega
      have HE : Hid (xs = (l.map Wr.cells).flatten) := by
        show _ = _
        have h5 := HX.out
        rw [List.take_of_length_le (show l.length ≤ k by omega), ← hk'] at h5
        exact take_full hown.1 h5
      clear h3 hk'
      go_wp2
      go_ret
      refine ⟨_, rfl, ⟨RowOwn.of_owns (by rw [← HE.out]; exact hown) (by simp) (by simp [Wr.cells]), h2, HI.out⟩, hb⟩

set_option maxRecDepth 100000 in
set_option maxHeartbeats 1000000 in
theorem toNode_ct (p k : Int) (v : Value) (l : List Int) (w : World) (h : IntsAt w v l) :
    Calls Tryz.prog 107 #[.agg #[.int .i64 p, .int .i64 k, v]] w fun e w' => ∃ u, e = .returned (.agg #[.int .i64 p, .int .i64 k, u]) ∧ IntsOwn w.heap.size w' u l ∧ Below w.heap.size w w' := by
  go_enter Tryz.func107, Tryz.ntmps107
  go_wp2_with fail
  have hA : Below w.heap.size w (((w.alloc (.cells #[.int .i64 p, .int .i64 k, v] 126)).alloc (.cells #[.int .i64 0, .int .i64 0, .slice none 0 0] 57)).alloc (.cells #[.int .i64 p, .int .i64 k, .slice none 0 0] 57)) := by
    repeat (first | exact Below.refl _ _ | refine Below.alloc ?_ (by simp; try omega) _)
  refine (toIntS_ct v l _ (h.below hA)).mono ?_
  rintro e w2 ⟨u, rfl, hu, hb2⟩
  have hc2 := bcell hb2
  have hf2 := bfroz hb2
  have hz0 : w.heap.size < w2.heap.size := bsize hb2 (by simp <;> omega)
  have hz1 : w.heap.size + 1 < w2.heap.size := bsize hb2 (by simp <;> omega)
  have hz2 : w.heap.size + 2 < w2.heap.size := bsize hb2 (by simp <;> omega)
  have hlt := hu.lt
  obtain ⟨a', c', rfl⟩ := hu.shape
  go_wp2
  refine bodyPost_ret (v := .agg #[.int .i64 p, .int .i64 k, .slice a' l.length c']) (by simp [results, Tryz.results107, go_sem, hc2]) rfl ⟨_, rfl, ?_, ?_⟩
  · refine (hu.keep fun g hg => ?_).mono hA.size
    have hg1 := (hlt g hg).1
    simp at hg1
    rw [heap_setCell_other _ _ _ _ (by simp; omega), heap_setCell_other _ _ _ _ (by simp; omega), heap_setCell_other _ _ _ _ (by simp; omega), heap_setCell_other _ _ _ _ (by simp; omega)]
  · refine Below.setCell (Below.setCell (Below.setCell (Below.setCell (bthen hA hb2) ?_ _) ?_ _) ?_ _) ?_ _ <;> (simp <;> omega)

set_option maxRecDepth 100000 in
set_option maxHeartbeats 1000000 in
theorem toNodeS_ct (v : Value) (l : List Nd) (w : World) (h : NdsAt w v l) :
    Calls Tryz.prog 61 #[v] w fun e w' => ∃ u bs, e = .returned u ∧ NdsOwn w.heap.size w' u l bs ∧ bs.Nodup ∧ Below w.heap.size w w' := by
  obtain ⟨a, c, rfl, h1, h2, h3⟩ := h.open
  have HI : Hid (∀ n ∈ l, I64 n.ctl ∧ I64 n.par) := by obtain ⟨_, _, _, _, h⟩ := h; exact h
  clear h
  obtain ⟨i0, hi, hz0, hz1, hz2⟩ := info_parts inf_nd
  go_enter Tryz.func61, Tryz.ntmps61
  go_wp2_with (at_make; refine wpList_make_full _ rfl _ _ 24 rfl w.heap.size 57 i0 (.agg #[.int .i64 0, .int .i64 0, .slice none 0 0]) 3 Tryz.underlying24 hi hz0 hz1 _ _ _ _ l.length rfl rfl rfl rfl ?b1 ?b2 ?b3 ?_)
  case b1 => rw [hz2]; omega
  case b2 => unfold maxLen; omega
  case b3 => exact Nat.le_refl _
  intro w1 hown hgrow
  have hb1 : Below w.heap.size w w1 := (Below.refl _ _).grown hgrow (Nat.le_refl _) (fun _ h => by cases h)
  have HSZ : Hid ((Tryz.prog.info? 57).map (·.size) = some 3) := by show _ = _; rw [hi]; simp [hz1]
  clear hi hz0 hz1 hz2
  obtain ⟨xs0, hown⟩ : ∃ xs, w1.ownsRow w.heap.size 57 3 (.slice (some ⟨w.heap.size, 0, none⟩) l.length l.length) l.length xs := ⟨_, hown⟩
  clear hgrow
  go_wp2
  go_loopw [4] (fun i wr => ∃ k : Nat, k ≤ l.length ∧ i = .int .i64 k ∧ Below w.heap.size w wr ∧ ∃ xs, ∃ lv : List (Nd × Value), wr.ownsRow w.heap.size 57 3 (.slice (some ⟨w.heap.size, 0, none⟩) l.length l.length) l.length xs ∧ Hid (xs.take (k * 3) = (lv.map Nd.cells).flatten) ∧
      Hid (lv.map Prod.fst = l.take k) ∧ Hid (∀ n ∈ lv, IntsOwn (w.heap.size + 1) wr n.2 n.1.links) ∧ Hid (lv.flatMap (fun n => blks n.2)).Nodup) (fun i _ => l.length - (intOf i).toNat)
  case atStart => exact ⟨0, Nat.zero_le _, rfl, hb1, xs0, [], hown, (by show _ = _; simp), rfl, (by intro n hn; cases hn), (by show List.Nodup _; simp)⟩
  case round =>
    obtain ⟨k, hk, rfl, hb, xs, lv, hown, HX, HL, HO, HD⟩ := hrel
    by_cases hkl : k < l.length
    · obtain ⟨x, hx⟩ := getElem?_of_lt hkl
      obtain ⟨_, _, b, o, vl, rfl, hvl, hc0, hc1, hc2⟩ := h3 k x hx
      have hvl := hvl.below hb
      have hc0 := (hb.cell (World.block_lt_of_cell? w _ hc0)).trans hc0
      have hc1 := (hb.cell (World.block_lt_of_cell? w _ hc1)).trans hc1
      have hc2 := (hb.cell (World.block_lt_of_cell? w _ hc2)).trans hc2
      have HT : Hid (l.take (k + 1) = l.take k ++ [x]) := take_snoc_l hx
      have hlw := owns_lt hown
      clear h3 hx
      go_wp2_with fail
      refine (toNode_ct _ _ vl x.links _ hvl).mono ?_
      rintro e w2 ⟨u, rfl, hu, hb2⟩
      have hown2 := owns_below hown hb2
      obtain ⟨a', c', rfl⟩ := hu.shape
      go_wp2_with (refine wpList_store_mid (ty := 57) rfl (.tmp 21) (.tmp 20) rfl w.heap.size (k * 3) #[.int .i64 x.ctl, .int .i64 x.par, .slice a' x.links.length c'] rfl rfl (owns_there hown2 hkl) HSZ.out (oc_nd _ _ _ _ _) ?_)
      have hst := ownsRow_splice hown2 hkl (us := [.int .i64 x.ctl, .int .i64 x.par, .slice a' x.links.length c']) rfl
      go_wp2
      go_roundw
      case rel =>
        refine ⟨k + 1, by omega, by go_num, (bthen hb hb2).grown hst.2 (bthen hb hb2).size (fun _ h => by cases h; exact Nat.le_refl _), _, lv ++ [(x, .slice a' x.links.length c')], hst.1, ?_, ?_, ?_, ?_⟩
        · show _ = _
          rw [splice_take hkl hown2.1 rfl HX.out]; simp [Nd.cells]
        · show _ = _
          rw [HT.out, ← HL.out]; simp
        · intro n hn
          have hkp : ∀ g, w.heap.size + 1 ≤ g → g < w2.heap.size → (w2.setCells w.heap.size (k * 3) [.int .i64 x.ctl, .int .i64 x.par, .slice a' x.links.length c']).heap[g]? = w2.heap[g]? := fun g hg _ => other_setCells _ _ _ _ _ (by omega)
          rcases List.mem_append.1 hn with hn | hn
          · have h5 := HO.out n hn
            refine (h5.keep fun g hg => ?_)
            have := h5.lt g hg
            rw [hkp g this.1 (by have := hb2.size; omega), hb2.block g this.2]
          · obtain rfl := List.mem_singleton.1 hn
            exact (hu.keep fun g hg => hkp g (by have := hu.lt g hg; omega) (hu.lt g hg).2).mono (by omega)
        · show List.Nodup _
          rw [List.flatMap_append, List.nodup_append]
          refine ⟨HD.out, ?_, ?_⟩
          · simp only [List.flatMap_cons, List.flatMap_nil, List.append_nil]
            cases a' <;> cases x.links.length <;> simp [blks]
          · intro p hp q hq
            obtain ⟨n, hn, hg⟩ := List.mem_flatMap.1 hp
            simp only [List.flatMap_cons, List.flatMap_nil, List.append_nil] at hq
            have h5 := ((HO.out n hn).lt p hg).2
            have h6 := (hu.lt q hq).1
            omega
      case measure => simp [intOf]; omega
    · have hk' : l.length = k := by omega
      have HE : Hid (xs = (lv.map Nd.cells).flatten) := by
        show _ = _
        have h5 := HX.out
        rw [← hk'] at h5
        exact take_full hown.1 h5
      have HF : Hid (lv.map Prod.fst = l) := by
        show _ = _
        rw [HL.out, List.take_of_length_le (by omega)]
      have hlen : lv.length = l.length := by have := congrArg List.length HF.out; simpa using this
      have HLN : Hid (lv.length = l.length) := hlen
      clear h3 hk' hlen
      go_wp2
      go_ret
      refine ⟨_, _, rfl, ⟨lv, HF.out, RowOwn.of_owns (by rw [← HE.out]; exact hown) (by simp [HLN.out]) (by intro r hr; obtain ⟨n, _, rfl⟩ := List.mem_map.1 hr; rfl), h2, fun n hn => (HO.out n hn).mono (by omega), HI.out, rfl⟩, ?_, hb⟩
      rw [List.nodup_append]
      refine ⟨by cases l.length <;> simp [blks], HD.out, ?_⟩
      intro p hp q hq
      obtain ⟨n, hn, hg⟩ := List.mem_flatMap.1 hq
      have h5 := ((HO.out n hn).lt q hg).1
      have h6 : p = w.heap.size := by
        have h7 : p ∈ blks (.slice (some ⟨w.heap.size, 0, none⟩) l.length l.length) := hp
        revert h7
        cases l.length <;> simp [blks]
      omega

end Go.Proofs.YthgelhglfbgagaaGreatDoor

/- The laws' copy of a bigraph. -/
namespace Go.Proofs.YthgelhglfbgagaaGreatDoor
open Go Go.RowKit Go.BigFrame

set_option maxRecDepth 100000 in
set_option maxHeartbeats 4000000 in
theorem toBigraph_ct (v : Value) (b : Big) (w : World) (h : BigAt w v b) :
    Calls Tryz.prog 16 #[v] w fun e w' => ∃ u bs, e = .returned u ∧ BigOwn w.heap.size w' u b bs ∧ bs.Nodup ∧ Below w.heap.size w w' := by
  obtain ⟨vn, vs, vo, vi, rfl, h1, h2, h3, h4, h5, h6⟩ := h
  have hA : Below w.heap.size w (((w.alloc (.cells #[.int .i64 b.roots, vn, vs, .int .i64 b.edges, vo, vi] 42)).alloc (.cells #[.int .i64 0, .slice none 0 0, .slice none 0 0, .int .i64 0, .slice none 0 0, .slice none 0 0] 29)).alloc (.cells #[.int .i64 b.roots, .slice none 0 0, .slice none 0 0, .int .i64 0, .slice none 0 0, .slice none 0 0] 29)) := by
    repeat (first | exact Below.refl _ _ | refine Below.alloc ?_ (by simp <;> omega) _)
  go_enter Tryz.func16, Tryz.ntmps16
  have BA : Box (((w.alloc (.cells #[.int .i64 b.roots, vn, vs, .int .i64 b.edges, vo, vi] 42)).alloc (.cells #[.int .i64 0, .slice none 0 0, .slice none 0 0, .int .i64 0, .slice none 0 0, .slice none 0 0] 29)).alloc (.cells #[.int .i64 b.roots, .slice none 0 0, .slice none 0 0, .int .i64 0, .slice none 0 0, .slice none 0 0] 29)) w.heap.size #[.int .i64 b.roots, vn, vs, .int .i64 b.edges, vo, vi] 42 := ((Box.new w _ _).alloc _).alloc _
  have BC : Box (((w.alloc (.cells #[.int .i64 b.roots, vn, vs, .int .i64 b.edges, vo, vi] 42)).alloc (.cells #[.int .i64 0, .slice none 0 0, .slice none 0 0, .int .i64 0, .slice none 0 0, .slice none 0 0] 29)).alloc (.cells #[.int .i64 b.roots, .slice none 0 0, .slice none 0 0, .int .i64 0, .slice none 0 0, .slice none 0 0] 29)) (w.heap.size + 1) #[.int .i64 0, .slice none 0 0, .slice none 0 0, .int .i64 0, .slice none 0 0, .slice none 0 0] 29 := (Box.new' _ _ _ (by simp)).alloc _
  have BD : Box (((w.alloc (.cells #[.int .i64 b.roots, vn, vs, .int .i64 b.edges, vo, vi] 42)).alloc (.cells #[.int .i64 0, .slice none 0 0, .slice none 0 0, .int .i64 0, .slice none 0 0, .slice none 0 0] 29)).alloc (.cells #[.int .i64 b.roots, .slice none 0 0, .slice none 0 0, .int .i64 0, .slice none 0 0, .slice none 0 0] 29)) (w.heap.size + 1 + 1) #[.int .i64 b.roots, .slice none 0 0, .slice none 0 0, .int .i64 0, .slice none 0 0, .slice none 0 0] 29 := Box.new' _ _ _ (by simp)
  have hz0 : ((((w.alloc (.cells #[.int .i64 b.roots, vn, vs, .int .i64 b.edges, vo, vi] 42)).alloc (.cells #[.int .i64 0, .slice none 0 0, .slice none 0 0, .int .i64 0, .slice none 0 0, .slice none 0 0] 29)).alloc (.cells #[.int .i64 b.roots, .slice none 0 0, .slice none 0 0, .int .i64 0, .slice none 0 0, .slice none 0 0] 29))).heap.size = w.heap.size + 3 := by simp
  have HZ : Hid (((((w.alloc (.cells #[.int .i64 b.roots, vn, vs, .int .i64 b.edges, vo, vi] 42)).alloc (.cells #[.int .i64 0, .slice none 0 0, .slice none 0 0, .int .i64 0, .slice none 0 0, .slice none 0 0] 29)).alloc (.cells #[.int .i64 b.roots, .slice none 0 0, .slice none 0 0, .int .i64 0, .slice none 0 0, .slice none 0 0] 29))).heap.size = w.heap.size + 3) := hz0
  clear hz0
  go_wp2_with fail
  refine (toNodeS_ct vn _ _ (h1.below hA)).mono ?_
  rintro e w2 ⟨un, bn, rfl, hn, hnd, hb2⟩
  obtain ⟨an, cn, rfl⟩ : ∃ a c, un = .slice a b.nodes.length c := by obtain ⟨lv, e1, e2, _⟩ := hn; rw [← e1]; simpa using e2.shape
  have hln := hn.lt
  have hz2 := hb2.size
  rw [HZ.out] at hln hz2
  have BA := BA.below hb2
  have BC := BC.below hb2
  have BD := BD.below hb2
  have hb := bthen hA hb2
  have HB0 : Hid (w.heap.size ≤ ((((w.alloc (.cells #[.int .i64 b.roots, vn, vs, .int .i64 b.edges, vo, vi] 42)).alloc (.cells #[.int .i64 0, .slice none 0 0, .slice none 0 0, .int .i64 0, .slice none 0 0, .slice none 0 0] 29)).alloc (.cells #[.int .i64 b.roots, .slice none 0 0, .slice none 0 0, .int .i64 0, .slice none 0 0, .slice none 0 0] 29))).heap.size) := hA.size
  clear hA hb2 HZ
  have rA := BA.cell
  have rD := BD.cell
  have fD := BD.free
  go_wp2_with fail
  clear rA rD fD
  have BA := BA.other (p := ⟨w.heap.size + 1 + 1, 1, none⟩) (.slice an b.nodes.length cn) (by simp <;> omega)
  have BC := BC.other (p := ⟨w.heap.size + 1 + 1, 1, none⟩) (.slice an b.nodes.length cn) (by simp <;> omega)
  have BD := BD.set 1 (.slice an b.nodes.length cn)
  have hn := hn.keep (w' := (w2).setCell ⟨w.heap.size + 1 + 1, 1, none⟩ (.slice an b.nodes.length cn)) (keep_setCell (fun h => by have := hln _ h; simp at this; omega))
  have hb := hb.setCell (p := ⟨w.heap.size + 1 + 1, 1, none⟩) (by simp <;> omega) (.slice an b.nodes.length cn)
  have hsz := size_setCell (w2) ⟨w.heap.size + 1 + 1, 1, none⟩ (.slice an b.nodes.length cn)
  obtain ⟨W2, hW2⟩ : ∃ W, W = (w2).setCell ⟨w.heap.size + 1 + 1, 1, none⟩ (.slice an b.nodes.length cn) := ⟨_, rfl⟩
  rw [← hW2] at BA BC BD hn hb hsz ⊢
  have hsW2 : W2.heap.size = w2.heap.size := by omega
  clear hW2 hsz
  have hln2 : ∀ g ∈ bn, w.heap.size + 3 ≤ g ∧ g < W2.heap.size := fun g hg => by have := hln g hg; omega
  clear hln
  refine (toIntS_ct vs _ _ (h2.below hb)).mono ?_
  rintro e w3 ⟨us, rfl, hs, hb3⟩
  obtain ⟨ps, cs, rfl⟩ := hs.shape
  have hls := hs.lt
  have hn := hn.keep (keep_below hb3 (fun g hg => by have := hln2 g hg; omega))
  have BA := BA.below hb3
  have BC := BC.below hb3
  have BD := BD.below hb3
  have hsw3 := hb3.size
  have hb := bthen hb hb3
  clear hb3
  have rA := BA.cell
  have rD := BD.cell
  have fD := BD.free
  go_wp2_with fail
  clear rA rD fD
  have BA := BA.other (p := ⟨w.heap.size + 1 + 1, 2, none⟩) (.slice ps b.sites.length cs) (by simp <;> omega)
  have BC := BC.other (p := ⟨w.heap.size + 1 + 1, 2, none⟩) (.slice ps b.sites.length cs) (by simp <;> omega)
  have BD := BD.set 2 (.slice ps b.sites.length cs)
  have hn := hn.keep (w' := (w3).setCell ⟨w.heap.size + 1 + 1, 2, none⟩ (.slice ps b.sites.length cs)) (keep_setCell (fun h => by have := hln2 _ h; simp at this; omega))
  have hs := hs.keep (w' := (w3).setCell ⟨w.heap.size + 1 + 1, 2, none⟩ (.slice ps b.sites.length cs)) (keep_setCell (fun h => by have := hls _ h; simp at this; omega))
  have hb := hb.setCell (p := ⟨w.heap.size + 1 + 1, 2, none⟩) (by simp <;> omega) (.slice ps b.sites.length cs)
  have hsz := size_setCell (w3) ⟨w.heap.size + 1 + 1, 2, none⟩ (.slice ps b.sites.length cs)
  have BA := BA.other (p := ⟨w.heap.size + 1 + 1, 3, none⟩) (.int .i64 b.edges) (by simp <;> omega)
  have BC := BC.other (p := ⟨w.heap.size + 1 + 1, 3, none⟩) (.int .i64 b.edges) (by simp <;> omega)
  have BD := BD.set 3 (.int .i64 b.edges)
  have hn := hn.keep (w' := ((w3).setCell ⟨w.heap.size + 1 + 1, 2, none⟩ (.slice ps b.sites.length cs)).setCell ⟨w.heap.size + 1 + 1, 3, none⟩ (.int .i64 b.edges)) (keep_setCell (fun h => by have := hln2 _ h; simp at this; omega))
  have hs := hs.keep (w' := ((w3).setCell ⟨w.heap.size + 1 + 1, 2, none⟩ (.slice ps b.sites.length cs)).setCell ⟨w.heap.size + 1 + 1, 3, none⟩ (.int .i64 b.edges)) (keep_setCell (fun h => by have := hls _ h; simp at this; omega))
  have hb := hb.setCell (p := ⟨w.heap.size + 1 + 1, 3, none⟩) (by simp <;> omega) (.int .i64 b.edges)
  have hsz2 := size_setCell ((w3).setCell ⟨w.heap.size + 1 + 1, 2, none⟩ (.slice ps b.sites.length cs)) ⟨w.heap.size + 1 + 1, 3, none⟩ (.int .i64 b.edges)
  obtain ⟨W3, hW3⟩ : ∃ W, W = ((w3).setCell ⟨w.heap.size + 1 + 1, 2, none⟩ (.slice ps b.sites.length cs)).setCell ⟨w.heap.size + 1 + 1, 3, none⟩ (.int .i64 b.edges) := ⟨_, rfl⟩
  rw [← hW3] at BA BC BD hn hs hb hsz2 ⊢
  have hsW3 : W3.heap.size = w3.heap.size := by omega
  clear hW3 hsz hsz2
  have hls3 : ∀ g ∈ blks (.slice ps b.sites.length cs), W2.heap.size ≤ g ∧ g < W3.heap.size := fun g hg => by have := hls g hg; omega
  clear hls
  refine (toStringS_ct vo _ _ (h3.below hb)).mono ?_
  rintro e w4 ⟨uo, rfl, ho, hb4⟩
  obtain ⟨po, co, rfl⟩ : ∃ a c, uo = .slice a b.outer.length c := by simpa [strRows] using ho.1.shape
  have hlo := ho.lt
  have hn := hn.keep (keep_below hb4 (fun g hg => by have := hln2 g hg; omega))
  have hs := hs.keep (keep_below hb4 (fun g hg => by have := hls3 g hg; omega))
  have BA := BA.below hb4
  have BC := BC.below hb4
  have BD := BD.below hb4
  have hsw4 := hb4.size
  have hb := bthen hb hb4
  clear hb4
  have rA := BA.cell
  have rD := BD.cell
  have fD := BD.free
  go_wp2_with fail
  clear rA rD fD
  have BA := BA.other (p := ⟨w.heap.size + 1 + 1, 4, none⟩) (.slice po b.outer.length co) (by simp <;> omega)
  have BC := BC.other (p := ⟨w.heap.size + 1 + 1, 4, none⟩) (.slice po b.outer.length co) (by simp <;> omega)
  have BD := BD.set 4 (.slice po b.outer.length co)
  have hn := hn.keep (w' := (w4).setCell ⟨w.heap.size + 1 + 1, 4, none⟩ (.slice po b.outer.length co)) (keep_setCell (fun h => by have := hln2 _ h; simp at this; omega))
  have hs := hs.keep (w' := (w4).setCell ⟨w.heap.size + 1 + 1, 4, none⟩ (.slice po b.outer.length co)) (keep_setCell (fun h => by have := hls3 _ h; simp at this; omega))
  have ho := ho.keep (w' := (w4).setCell ⟨w.heap.size + 1 + 1, 4, none⟩ (.slice po b.outer.length co)) (keep_setCell (fun h => by have := hlo _ h; simp at this; omega))
  have hb := hb.setCell (p := ⟨w.heap.size + 1 + 1, 4, none⟩) (by simp <;> omega) (.slice po b.outer.length co)
  have hsz := size_setCell (w4) ⟨w.heap.size + 1 + 1, 4, none⟩ (.slice po b.outer.length co)
  obtain ⟨W4, hW4⟩ : ∃ W, W = (w4).setCell ⟨w.heap.size + 1 + 1, 4, none⟩ (.slice po b.outer.length co) := ⟨_, rfl⟩
  rw [← hW4] at BA BC BD hn hs ho hb hsz ⊢
  have hsW4 : W4.heap.size = w4.heap.size := by omega
  clear hW4 hsz
  have hlo4 : ∀ g ∈ blks (.slice po b.outer.length co), W3.heap.size ≤ g ∧ g < W4.heap.size := fun g hg => by have := hlo g hg; omega
  clear hlo
  refine (toWireS_ct vi _ _ (h4.below hb)).mono ?_
  rintro e w5 ⟨ui, rfl, hi, hb5⟩
  obtain ⟨pi, ci, rfl⟩ : ∃ a c, ui = .slice a b.inner.length c := by simpa using hi.1.shape
  have hli := hi.lt
  have hn := hn.keep (keep_below hb5 (fun g hg => by have := hln2 g hg; omega))
  have hs := hs.keep (keep_below hb5 (fun g hg => by have := hls3 g hg; omega))
  have ho := ho.keep (keep_below hb5 (fun g hg => by have := hlo4 g hg; omega))
  have BA := BA.below hb5
  have BC := BC.below hb5
  have BD := BD.below hb5
  have hsw5 := hb5.size
  have hb := bthen hb hb5
  clear hb5
  have rA := BA.cell
  have rD := BD.cell
  have fD := BD.free
  have rC := BC.cell
  have fC := BC.free
  go_wp2
  refine bodyPost_ret (v := .agg #[.int .i64 b.roots, .slice an b.nodes.length cn, .slice ps b.sites.length cs, .int .i64 b.edges, .slice po b.outer.length co, .slice pi b.inner.length ci]) (by simp [results, Tryz.results16, go_sem, rC]) rfl ⟨_, _, rfl, ⟨_, _, _, _, bn, rfl, (hn.keep ?_).mono ?_, (hs.keep ?_).mono ?_, (ho.keep ?_).mono ?_, (hi.keep ?_).mono ?_, h5, h6, rfl⟩, ?_, ?_⟩
  · intro g hg; have := hln2 g hg; repeat rw [heap_setCell_other _ _ _ _ (by simp <;> omega)]
  · exact HB0.out
  · intro g hg; have := hls3 g hg; repeat rw [heap_setCell_other _ _ _ _ (by simp <;> omega)]
  · omega
  · intro g hg; have := hlo4 g hg; repeat rw [heap_setCell_other _ _ _ _ (by simp <;> omega)]
  · omega
  · intro g hg; have := hli g hg; repeat rw [heap_setCell_other _ _ _ _ (by simp <;> omega)]
  · omega
  · have nd : ∀ (a : Option Addr) (n c : Nat), (blks (.slice a n c)).Nodup := by intro a n c; cases a <;> cases n <;> simp [blks]
    rw [List.nodup_append, List.nodup_append, List.nodup_append]
    refine ⟨hnd, ⟨nd _ _ _, ⟨nd _ _ _, nd _ _ _, ?_⟩, ?_⟩, ?_⟩
    · intro p hp q hq; have := hlo4 p hp; have := hli q hq; omega
    · intro p hp q hq; have := hls3 p hp; rcases List.mem_append.1 hq with hq | hq
      · have := hlo4 q hq; omega
      · have := hli q hq; omega
    · intro p hp q hq; have := hln2 p hp; rcases List.mem_append.1 hq with hq | hq
      · have := hls3 q hq; omega
      · rcases List.mem_append.1 hq with hq | hq
        · have := hlo4 q hq; omega
        · have := hli q hq; omega
  · iterate 7 refine Below.setCell ?_ (by simp <;> omega) _
    exact hb

end Go.Proofs.YthgelhglfbgagaaGreatDoor
