/- The laws' copies: each hands back new memory that reads as what came in. -/
import Derived.Test.YtjkebiodabheiaaDoorTypes
namespace Go.Proofs.YtjkebiodabheiaaDoor
open Go Go.RowKit Go.BigFrame

/-- A row that is full: its cells are those of the elements. -/
theorem take_full {xs : List Value} {n sz : Nat} {cs : List (List Value)} (hl : xs.length = n * sz) (h : xs.take (n * sz) = cs.flatten) : xs = cs.flatten := by
  rw [← h, List.take_of_length_le (by omega)]
theorem splice_take {xs us : List Value} {k sz n : Nat} {cs : List (List Value)} (hk : k < n) (hl : xs.length = n * sz) (hu : us.length = sz) (h : xs.take (k * sz) = cs.flatten) :
    (xs.take (k * sz) ++ us ++ xs.drop ((k + 1) * sz)).take ((k + 1) * sz) = (cs ++ [us]).flatten := by
  have h1 : (k + 1) * sz = k * sz + sz := by rw [Nat.add_mul, Nat.one_mul]
  have h2 : k * sz + sz ≤ n * sz := by rw [← h1]; exact Nat.mul_le_mul_right _ hk
  rw [List.take_append, List.take_of_length_le (by simp; omega), h]
  simp only [List.flatten_append, List.flatten_cons, List.flatten_nil, List.append_nil]
  rw [show (k + 1) * sz - (cs.flatten ++ us).length = 0 by
    rw [← h]; simp only [List.length_append, List.length_take, hl, hu]; omega]
  simp
theorem set_splice {xs : List Value} {k n : Nat} (u : Value) (hk : k < n) (hl : xs.length = n * 1) : xs.set k u = xs.take (k * 1) ++ [u] ++ xs.drop ((k + 1) * 1) := by
  simp only [Nat.mul_one] at *
  rw [List.set_eq_take_append_cons_drop, if_pos (by omega)]
  simp

set_option maxHeartbeats 1000000 in
theorem toIntS_ct (v : Value) (l : List Int) (w : World) (h : IntsAt w v l) :
    Calls Tryd.prog 55 #[v] w fun e w' => ∃ u, e = .returned u ∧ IntsOwn w.heap.size w' u l ∧ Below w.heap.size w w' := by
  obtain ⟨a, c, rfl, h1, h2, h3⟩ := h.open
  have HI : Hid (_) := h.2
  clear h
  obtain ⟨i0, hi, hz0, hz1, hz2⟩ := info_parts inf_int
  go_enter Tryd.func55, Tryd.ntmps55
  go_wp2_with (at_make; refine wpList_make_full _ rfl _ _ 30 rfl w.heap.size 3 i0 (.int .i64 0) 1 Tryd.underlying30 hi hz0 hz1 _ _ _ _ l.length rfl rfl rfl rfl ?b1 ?b2 ?b3 ?_)
  case b1 => rw [hz2]; omega
  case b2 => unfold maxLen; omega
  case b3 => exact Nat.le_refl _
  intro w1 hown hgrow
  have hb1 : Below w.heap.size w w1 := (Below.refl _ _).grown hgrow (Nat.le_refl _) (fun _ h => by cases h)
  clear hi hz0 hz1 hz2
  obtain ⟨xs0, hown⟩ : ∃ xs, w1.ownsRow w.heap.size 3 1 (.slice (some ⟨w.heap.size, 0, none⟩) l.length l.length) l.length xs := ⟨_, hown⟩
  clear hgrow
  go_wp2
  go_loopw [4] (fun i wr => ∃ k : Nat, k ≤ l.length ∧ i = .int .i64 k ∧ Below w.heap.size w wr ∧ ∃ xs, wr.ownsRow w.heap.size 3 1 (.slice (some ⟨w.heap.size, 0, none⟩) l.length l.length) l.length xs ∧ Hid (xs.take (k * 1) = (intRows (l.take k)).flatten)) (fun i _ => l.length - (intOf i).toNat)
  case atStart => exact ⟨0, Nat.zero_le _, rfl, hb1, xs0, hown, (by show _ = _; simp [intRows])⟩
  case round =>
    obtain ⟨k, hk, rfl, hb, xs, hown, HX⟩ := hrel
    by_cases hkl : k < l.length
    · obtain ⟨x, hx⟩ := getElem?_of_lt hkl
      have HT : Hid (intRows (l.take (k + 1)) = intRows (l.take k) ++ [[.int .i64 x]]) := by show _ = _; rw [take_snoc_l hx]; simp [intRows]
      obtain ⟨_, b, o, rfl, hc⟩ := h3 k x hx
      have hc := (hb.cell (World.block_lt_of_cell? w _ hc)).trans hc
      have hold : ∃ u, wr.cell? ⟨w.heap.size, k, none⟩ = some u := by
        rw [hown.cellAt k (by omega)]
        have := hown.1
        exact ⟨xs[k]'(by omega), List.getElem?_eq_getElem _⟩
      obtain ⟨old, hold⟩ := hold
      have hfr := hown.frozenAt k
      have hst := hown.stored k (.int .i64 x)
      clear h3 hx
      go_wp2
      go_roundw
      case rel => exact ⟨k + 1, by omega, by go_num, hb.setCell (by exact Nat.le_refl _) _, _, hst.1, (by show _ = _; rw [set_splice _ hkl hown.1, splice_take hkl hown.1 rfl HX.out, HT.out])⟩
      case measure => simp [intOf]; omega
    · have hk' : l.length = k := by omega
      have HE : Hid (xs = (intRows l).flatten) := by
        show _ = _
        have h5 := HX.out
        rw [List.take_of_length_le (show l.length ≤ k by omega), ← hk'] at h5
        exact take_full hown.1 h5
      clear h3 hk'
      go_wp2
      go_ret
      refine ⟨_, rfl, ⟨RowOwn.of_owns (by rw [← HE.out]; exact hown) (by simp [intRows]) (by simp [intRows]), h2, HI.out⟩, hb⟩

set_option maxHeartbeats 1000000 in
theorem toStringS_ct (v : Value) (l : List ByteArray) (w : World) (h : StrsAt w v l) :
    Calls Tryd.prog 36 #[v] w fun e w' => ∃ u, e = .returned u ∧ StrsOwn w.heap.size w' u l ∧ Below w.heap.size w w' := by
  obtain ⟨a, c, rfl, h1, h2, h3⟩ := h.open
  have HI : Hid (_) := h.2
  clear h
  obtain ⟨i0, hi, hz0, hz1, hz2⟩ := info_parts inf_str
  go_enter Tryd.func36, Tryd.ntmps36
  go_wp2_with (at_make; refine wpList_make_full _ rfl _ _ 31 rfl w.heap.size 9 i0 (.string ⟨#[]⟩) 1 Tryd.underlying31 hi hz0 hz1 _ _ _ _ l.length rfl rfl rfl rfl ?b1 ?b2 ?b3 ?_)
  case b1 => rw [hz2]; omega
  case b2 => unfold maxLen; omega
  case b3 => exact Nat.le_refl _
  intro w1 hown hgrow
  have hb1 : Below w.heap.size w w1 := (Below.refl _ _).grown hgrow (Nat.le_refl _) (fun _ h => by cases h)
  clear hi hz0 hz1 hz2
  obtain ⟨xs0, hown⟩ : ∃ xs, w1.ownsRow w.heap.size 9 1 (.slice (some ⟨w.heap.size, 0, none⟩) l.length l.length) l.length xs := ⟨_, hown⟩
  clear hgrow
  go_wp2
  go_loopw [4] (fun i wr => ∃ k : Nat, k ≤ l.length ∧ i = .int .i64 k ∧ Below w.heap.size w wr ∧ ∃ xs, wr.ownsRow w.heap.size 9 1 (.slice (some ⟨w.heap.size, 0, none⟩) l.length l.length) l.length xs ∧ Hid (xs.take (k * 1) = (strRows (l.take k)).flatten)) (fun i _ => l.length - (intOf i).toNat)
  case atStart => exact ⟨0, Nat.zero_le _, rfl, hb1, xs0, hown, (by show _ = _; simp [strRows])⟩
  case round =>
    obtain ⟨k, hk, rfl, hb, xs, hown, HX⟩ := hrel
    by_cases hkl : k < l.length
    · obtain ⟨x, hx⟩ := getElem?_of_lt hkl
      have HT : Hid (strRows (l.take (k + 1)) = strRows (l.take k) ++ [[.string x]]) := by show _ = _; rw [take_snoc_l hx]; simp [strRows]
      obtain ⟨_, b, o, rfl, hc⟩ := h3 k x hx
      have hc := (hb.cell (World.block_lt_of_cell? w _ hc)).trans hc
      have hold : ∃ u, wr.cell? ⟨w.heap.size, k, none⟩ = some u := by
        rw [hown.cellAt k (by omega)]
        have := hown.1
        exact ⟨xs[k]'(by omega), List.getElem?_eq_getElem _⟩
      obtain ⟨old, hold⟩ := hold
      have hfr := hown.frozenAt k
      have hst := hown.stored k (.string x)
      clear h3 hx
      go_wp2
      go_roundw
      case rel => exact ⟨k + 1, by omega, by go_num, hb.setCell (by exact Nat.le_refl _) _, _, hst.1, (by show _ = _; rw [set_splice _ hkl hown.1, splice_take hkl hown.1 rfl HX.out, HT.out])⟩
      case measure => simp [intOf]; omega
    · have hk' : l.length = k := by omega
      have HE : Hid (xs = (strRows l).flatten) := by
        show _ = _
        have h5 := HX.out
        rw [List.take_of_length_le (show l.length ≤ k by omega), ← hk'] at h5
        exact take_full hown.1 h5
      clear h3 hk'
      go_wp2
      go_ret
      refine ⟨_, rfl, ⟨RowOwn.of_owns (by rw [← HE.out]; exact hown) (by simp [strRows]) (by simp [strRows]), h2, HI.out⟩, hb⟩

set_option maxHeartbeats 1000000 in
theorem toControl_ct (s : ByteArray) (p k : Int) (w : World) :
    Calls Tryd.prog 53 #[.agg #[.string s, .int .i64 p, .int .i64 k]] w fun e w' => e = .returned (.agg #[.string s, .int .i64 p, .int .i64 k]) ∧ Below w.heap.size w w' := by
  go_enter Tryd.func53, Tryd.ntmps53
  go_wp2
  exact bodyPost_ret (v := .agg #[.string s, .int .i64 p, .int .i64 k]) (by simp [results, Tryd.results53, go_sem]) rfl ⟨rfl, by repeat (first | exact Below.refl _ _ | refine Below.alloc ?_ (by simp; try omega) _ | refine Below.setCell ?_ (by simp; try omega) _)⟩
set_option maxHeartbeats 1000000 in
theorem toWire_ct (s : ByteArray) (p : Int) (w : World) :
    Calls Tryd.prog 98 #[.agg #[.string s, .int .i64 p]] w fun e w' => e = .returned (.agg #[.string s, .int .i64 p]) ∧ Below w.heap.size w w' := by
  go_enter Tryd.func98, Tryd.ntmps98
  go_wp2
  exact bodyPost_ret (v := .agg #[.string s, .int .i64 p]) (by simp [results, Tryd.results98, go_sem]) rfl ⟨rfl, by repeat (first | exact Below.refl _ _ | refine Below.alloc ?_ (by simp; try omega) _ | refine Below.setCell ?_ (by simp; try omega) _)⟩

set_option maxRecDepth 100000 in
set_option maxHeartbeats 1000000 in
theorem toControlS_ct (v : Value) (l : List Ctl) (w : World) (h : CtlsAt w v l) :
    Calls Tryd.prog 17 #[v] w fun e w' => ∃ u, e = .returned u ∧ CtlsOwn w.heap.size w' u l ∧ Below w.heap.size w w' := by
  obtain ⟨a, c, rfl, h1, h2, h3⟩ := h.open
  have HI : Hid (_) := h.2
  clear h
  obtain ⟨i0, hi, hz0, hz1, hz2⟩ := info_parts inf_ctl
  go_enter Tryd.func17, Tryd.ntmps17
  go_wp2_with (at_make; refine wpList_make_full _ rfl _ _ 38 rfl w.heap.size 68 i0 (.agg #[.string ⟨#[]⟩, .int .i64 0, .int .i64 0]) 3 Tryd.underlying38 hi hz0 hz1 _ _ _ _ l.length rfl rfl rfl rfl ?b1 ?b2 ?b3 ?_)
  case b1 => rw [hz2]; omega
  case b2 => unfold maxLen; omega
  case b3 => exact Nat.le_refl _
  intro w1 hown hgrow
  have hb1 : Below w.heap.size w w1 := (Below.refl _ _).grown hgrow (Nat.le_refl _) (fun _ h => by cases h)
  have hsz : (Tryd.prog.info? 68).map (·.size) = some 3 := by rw [hi]; simp [hz1]
  clear hi hz0 hz1 hz2
  obtain ⟨xs0, hown⟩ : ∃ xs, w1.ownsRow w.heap.size 68 3 (.slice (some ⟨w.heap.size, 0, none⟩) l.length l.length) l.length xs := ⟨_, hown⟩
  clear hgrow
  have HSZ : Hid ((Tryd.prog.info? 68).map (·.size) = some 3) := hsz
  clear hsz
  go_wp2
  go_loopw [4] (fun i wr => ∃ k : Nat, k ≤ l.length ∧ i = .int .i64 k ∧ Below w.heap.size w wr ∧ ∃ xs, wr.ownsRow w.heap.size 68 3 (.slice (some ⟨w.heap.size, 0, none⟩) l.length l.length) l.length xs ∧ Hid (xs.take (k * 3) = ((l.take k).map Ctl.cells).flatten)) (fun i _ => l.length - (intOf i).toNat)
  case atStart => exact ⟨0, Nat.zero_le _, rfl, hb1, xs0, hown, (by show _ = _; simp)⟩
  case round =>
    obtain ⟨k, hk, rfl, hb, xs, hown, HX⟩ := hrel
    by_cases hkl : k < l.length
    · obtain ⟨x, hx⟩ := getElem?_of_lt hkl
      have HT : Hid ((l.take (k + 1)).map Ctl.cells = (l.take k).map Ctl.cells ++ [[.string x.name, .int .i64 x.ports, .int .i64 x.kind]]) := by show _ = _; rw [take_snoc_l hx]; simp [Ctl.cells]
      obtain ⟨_, _, _, b, o, rfl, hc0, hc1, hc2⟩ := h3 k x hx
      have hc0 := (hb.cell (World.block_lt_of_cell? w _ hc0)).trans hc0
      have hc1 := (hb.cell (World.block_lt_of_cell? w _ hc1)).trans hc1
      have hc2 := (hb.cell (World.block_lt_of_cell? w _ hc2)).trans hc2
      clear h3 hx
      go_wp2_with (first | (go_at_call 53; refine (toControl_ct _ _ _ _).mono ?_; rintro e w2 ⟨rfl, hb2⟩; have hown2 := owns_below hown hb2) | (refine wpList_store_mid (ty := 68) rfl (.tmp 21) (.tmp 20) rfl w.heap.size (k * 3) #[.string x.name, .int .i64 x.ports, .int .i64 x.kind] rfl rfl (owns_there hown2 hkl) HSZ.out (oc_ctl _ _ _) ?_))
      have hst := ownsRow_splice hown2 hkl (us := [.string x.name, .int .i64 x.ports, .int .i64 x.kind]) rfl
      go_wp2
      go_roundw
      case rel => exact ⟨k + 1, by omega, by go_num, (bthen hb hb2).grown hst.2 (bthen hb hb2).size (fun _ h => by cases h; exact Nat.le_refl _), _, hst.1, (by show _ = _; rw [splice_take hkl hown2.1 rfl HX.out, HT.out])⟩
      case measure => simp [intOf]; omega
    · have hk' : l.length = k := by omega
      have HE : Hid (xs = (l.map Ctl.cells).flatten) := by
        show _ = _
        have h5 := HX.out
        rw [List.take_of_length_le (show l.length ≤ k by omega), ← hk'] at h5
        exact take_full hown.1 h5
      clear h3 hk'
      go_wp2
      go_ret
      refine ⟨_, rfl, ⟨RowOwn.of_owns (by rw [← HE.out]; exact hown) (by simp) (by simp [Ctl.cells]), h2, HI.out⟩, hb⟩

set_option maxRecDepth 100000 in
set_option maxHeartbeats 1000000 in
theorem toWireS_ct (v : Value) (l : List Wr) (w : World) (h : WrsAt w v l) :
    Calls Tryd.prog 56 #[v] w fun e w' => ∃ u, e = .returned u ∧ WrsOwn w.heap.size w' u l ∧ Below w.heap.size w w' := by
  obtain ⟨a, c, rfl, h1, h2, h3⟩ := h.open
  have HI : Hid (_) := h.2
  clear h
  obtain ⟨i0, hi, hz0, hz1, hz2⟩ := info_parts inf_wr
  go_enter Tryd.func56, Tryd.ntmps56
  go_wp2_with (at_make; refine wpList_make_full _ rfl _ _ 41 rfl w.heap.size 85 i0 (.agg #[.string ⟨#[]⟩, .int .i64 0]) 2 Tryd.underlying41 hi hz0 hz1 _ _ _ _ l.length rfl rfl rfl rfl ?b1 ?b2 ?b3 ?_)
  case b1 => rw [hz2]; omega
  case b2 => unfold maxLen; omega
  case b3 => exact Nat.le_refl _
  intro w1 hown hgrow
  have hb1 : Below w.heap.size w w1 := (Below.refl _ _).grown hgrow (Nat.le_refl _) (fun _ h => by cases h)
  have hsz : (Tryd.prog.info? 85).map (·.size) = some 2 := by rw [hi]; simp [hz1]
  clear hi hz0 hz1 hz2
  obtain ⟨xs0, hown⟩ : ∃ xs, w1.ownsRow w.heap.size 85 2 (.slice (some ⟨w.heap.size, 0, none⟩) l.length l.length) l.length xs := ⟨_, hown⟩
  clear hgrow
  have HSZ : Hid ((Tryd.prog.info? 85).map (·.size) = some 2) := hsz
  clear hsz
  go_wp2
  go_loopw [4] (fun i wr => ∃ k : Nat, k ≤ l.length ∧ i = .int .i64 k ∧ Below w.heap.size w wr ∧ ∃ xs, wr.ownsRow w.heap.size 85 2 (.slice (some ⟨w.heap.size, 0, none⟩) l.length l.length) l.length xs ∧ Hid (xs.take (k * 2) = ((l.take k).map Wr.cells).flatten)) (fun i _ => l.length - (intOf i).toNat)
  case atStart => exact ⟨0, Nat.zero_le _, rfl, hb1, xs0, hown, (by show _ = _; simp)⟩
  case round =>
    obtain ⟨k, hk, rfl, hb, xs, hown, HX⟩ := hrel
    by_cases hkl : k < l.length
    · obtain ⟨x, hx⟩ := getElem?_of_lt hkl
      have HT : Hid ((l.take (k + 1)).map Wr.cells = (l.take k).map Wr.cells ++ [[.string x.name, .int .i64 x.link]]) := by show _ = _; rw [take_snoc_l hx]; simp [Wr.cells]
      obtain ⟨_, _, b, o, rfl, hc0, hc1⟩ := h3 k x hx
      have hc0 := (hb.cell (World.block_lt_of_cell? w _ hc0)).trans hc0
      have hc1 := (hb.cell (World.block_lt_of_cell? w _ hc1)).trans hc1
      clear h3 hx
      go_wp2_with (first | (go_at_call 98; refine (toWire_ct _ _ _).mono ?_; rintro e w2 ⟨rfl, hb2⟩; have hown2 := owns_below hown hb2) | (refine wpList_store_mid (ty := 85) rfl (.tmp 21) (.tmp 20) rfl w.heap.size (k * 2) #[.string x.name, .int .i64 x.link] rfl rfl (owns_there hown2 hkl) HSZ.out (oc_wr _ _) ?_))
      have hst := ownsRow_splice hown2 hkl (us := [.string x.name, .int .i64 x.link]) rfl
      go_wp2
      go_roundw
      case rel => exact ⟨k + 1, by omega, by go_num, (bthen hb hb2).grown hst.2 (bthen hb hb2).size (fun _ h => by cases h; exact Nat.le_refl _), _, hst.1, (by show _ = _; rw [splice_take hkl hown2.1 rfl HX.out, HT.out])⟩
      case measure => simp [intOf]; omega
    · have hk' : l.length = k := by omega
      have HE : Hid (xs = (l.map Wr.cells).flatten) := by
        show _ = _
        have h5 := HX.out
        rw [List.take_of_length_le (show l.length ≤ k by omega), ← hk'] at h5
        exact take_full hown.1 h5
      clear h3 hk'
      go_wp2
      go_ret
      refine ⟨_, rfl, ⟨RowOwn.of_owns (by rw [← HE.out]; exact hown) (by simp) (by simp [Wr.cells]), h2, HI.out⟩, hb⟩

set_option maxRecDepth 100000 in
set_option maxHeartbeats 1000000 in
theorem toNode_ct (p k : Int) (v : Value) (l : List Int) (w : World) (h : IntsAt w v l) :
    Calls Tryd.prog 97 #[.agg #[.int .i64 p, .int .i64 k, v]] w fun e w' => ∃ u, e = .returned (.agg #[.int .i64 p, .int .i64 k, u]) ∧ IntsOwn w.heap.size w' u l ∧ Below w.heap.size w w' := by
  go_enter Tryd.func97, Tryd.ntmps97
  go_wp2_with fail
  have hA : Below w.heap.size w (((w.alloc (.cells #[.int .i64 p, .int .i64 k, v] 96)).alloc (.cells #[.int .i64 0, .int .i64 0, .slice none 0 0] 78)).alloc (.cells #[.int .i64 p, .int .i64 k, .slice none 0 0] 78)) := by
    repeat (first | exact Below.refl _ _ | refine Below.alloc ?_ (by simp; try omega) _)
  refine (toIntS_ct v l _ (h.below hA)).mono ?_
  rintro e w2 ⟨u, rfl, hu, hb2⟩
  have hc2 := bcell hb2
  have hf2 := bfroz hb2
  have hz0 : w.heap.size < w2.heap.size := bsize hb2 (by simp <;> omega)
  have hz1 : w.heap.size + 1 < w2.heap.size := bsize hb2 (by simp <;> omega)
  have hz2 : w.heap.size + 2 < w2.heap.size := bsize hb2 (by simp <;> omega)
  have hlt := hu.lt
  obtain ⟨a', c', rfl⟩ := hu.shape
  go_wp2
  refine bodyPost_ret (v := .agg #[.int .i64 p, .int .i64 k, .slice a' l.length c']) (by simp [results, Tryd.results97, go_sem, hc2]) rfl ⟨_, rfl, ?_, ?_⟩
  · refine (hu.keep fun g hg => ?_).mono hA.size
    have hg1 := (hlt g hg).1
    simp at hg1
    rw [heap_setCell_other _ _ _ _ (by simp; omega), heap_setCell_other _ _ _ _ (by simp; omega), heap_setCell_other _ _ _ _ (by simp; omega), heap_setCell_other _ _ _ _ (by simp; omega)]
  · refine Below.setCell (Below.setCell (Below.setCell (Below.setCell (bthen hA hb2) ?_ _) ?_ _) ?_ _) ?_ _ <;> (simp <;> omega)

set_option maxRecDepth 100000 in
set_option maxHeartbeats 1000000 in
theorem toNodeS_ct (v : Value) (l : List Nd) (w : World) (h : NdsAt w v l) :
    Calls Tryd.prog 54 #[v] w fun e w' => ∃ u bs, e = .returned u ∧ NdsOwn w.heap.size w' u l bs ∧ bs.Nodup ∧ Below w.heap.size w w' := by
  obtain ⟨a, c, rfl, h1, h2, h3⟩ := h.open
  have HI : Hid (∀ n ∈ l, I64 n.ctl ∧ I64 n.par) := by obtain ⟨_, _, _, _, h⟩ := h; exact h
  clear h
  obtain ⟨i0, hi, hz0, hz1, hz2⟩ := info_parts inf_nd
  go_enter Tryd.func54, Tryd.ntmps54
  go_wp2_with (at_make; refine wpList_make_full _ rfl _ _ 40 rfl w.heap.size 78 i0 (.agg #[.int .i64 0, .int .i64 0, .slice none 0 0]) 3 Tryd.underlying40 hi hz0 hz1 _ _ _ _ l.length rfl rfl rfl rfl ?b1 ?b2 ?b3 ?_)
  case b1 => rw [hz2]; omega
  case b2 => unfold maxLen; omega
  case b3 => exact Nat.le_refl _
  intro w1 hown hgrow
  have hb1 : Below w.heap.size w w1 := (Below.refl _ _).grown hgrow (Nat.le_refl _) (fun _ h => by cases h)
  have HSZ : Hid ((Tryd.prog.info? 78).map (·.size) = some 3) := by show _ = _; rw [hi]; simp [hz1]
  clear hi hz0 hz1 hz2
  obtain ⟨xs0, hown⟩ : ∃ xs, w1.ownsRow w.heap.size 78 3 (.slice (some ⟨w.heap.size, 0, none⟩) l.length l.length) l.length xs := ⟨_, hown⟩
  clear hgrow
  go_wp2
  go_loopw [4] (fun i wr => ∃ k : Nat, k ≤ l.length ∧ i = .int .i64 k ∧ Below w.heap.size w wr ∧ ∃ xs, ∃ lv : List (Nd × Value), wr.ownsRow w.heap.size 78 3 (.slice (some ⟨w.heap.size, 0, none⟩) l.length l.length) l.length xs ∧ Hid (xs.take (k * 3) = (lv.map Nd.cells).flatten) ∧
      Hid (lv.map Prod.fst = l.take k) ∧ Hid (∀ n ∈ lv, IntsOwn (w.heap.size + 1) wr n.2 n.1.links) ∧ Hid (lv.flatMap (fun n => blks n.2)).Nodup) (fun i _ => l.length - (intOf i).toNat)
  case atStart => exact ⟨0, Nat.zero_le _, rfl, hb1, xs0, [], hown, (by show _ = _; simp), rfl, (by intro n hn; cases hn), (by show List.Nodup _; simp)⟩
  case round =>
    obtain ⟨k, hk, rfl, hb, xs, lv, hown, HX, HL, HO, HD⟩ := hrel
    by_cases hkl : k < l.length
    · obtain ⟨x, hx⟩ := getElem?_of_lt hkl
      obtain ⟨_, _, b, o, vl, rfl, hvl, hc0, hc1, hc2⟩ := h3 k x hx
      have hvl := hvl.below hb
      have hc0 := (hb.cell (World.block_lt_of_cell? w _ hc0)).trans hc0
      have hc1 := (hb.cell (World.block_lt_of_cell? w _ hc1)).trans hc1
      have hc2 := (hb.cell (World.block_lt_of_cell? w _ hc2)).trans hc2
      have HT : Hid (l.take (k + 1) = l.take k ++ [x]) := take_snoc_l hx
      have hlw := owns_lt hown
      clear h3 hx
      go_wp2_with fail
      refine (toNode_ct _ _ vl x.links _ hvl).mono ?_
      rintro e w2 ⟨u, rfl, hu, hb2⟩
      have hown2 := owns_below hown hb2
      obtain ⟨a', c', rfl⟩ := hu.shape
      go_wp2_with (refine wpList_store_mid (ty := 78) rfl (.tmp 21) (.tmp 20) rfl w.heap.size (k * 3) #[.int .i64 x.ctl, .int .i64 x.par, .slice a' x.links.length c'] rfl rfl (owns_there hown2 hkl) HSZ.out (oc_nd _ _ _ _ _) ?_)
      have hst := ownsRow_splice hown2 hkl (us := [.int .i64 x.ctl, .int .i64 x.par, .slice a' x.links.length c']) rfl
      go_wp2
      go_roundw
      case rel =>
        refine ⟨k + 1, by omega, by go_num, (bthen hb hb2).grown hst.2 (bthen hb hb2).size (fun _ h => by cases h; exact Nat.le_refl _), _, lv ++ [(x, .slice a' x.links.length c')], hst.1, ?_, ?_, ?_, ?_⟩
        · show _ = _
          rw [splice_take hkl hown2.1 rfl HX.out]; simp [Nd.cells]
        · show _ = _
          rw [HT.out, ← HL.out]; simp
        · intro n hn
          have hkp : ∀ g, w.heap.size + 1 ≤ g → g < w2.heap.size → (w2.setCells w.heap.size (k * 3) [.int .i64 x.ctl, .int .i64 x.par, .slice a' x.links.length c']).heap[g]? = w2.heap[g]? := fun g hg _ => other_setCells _ _ _ _ _ (by omega)
          rcases List.mem_append.1 hn with hn | hn
          · have h5 := HO.out n hn
            refine (h5.keep fun g hg => ?_)
            have := h5.lt g hg
            rw [hkp g this.1 (by have := hb2.size; omega), hb2.block g this.2]
          · obtain rfl := List.mem_singleton.1 hn
            exact (hu.keep fun g hg => hkp g (by have := hu.lt g hg; omega) (hu.lt g hg).2).mono (by omega)
        · show List.Nodup _
          rw [List.flatMap_append, List.nodup_append]
          refine ⟨HD.out, ?_, ?_⟩
          · simp only [List.flatMap_cons, List.flatMap_nil, List.append_nil]
            cases a' <;> cases x.links.length <;> simp [blks]
          · intro p hp q hq
            obtain ⟨n, hn, hg⟩ := List.mem_flatMap.1 hp
            simp only [List.flatMap_cons, List.flatMap_nil, List.append_nil] at hq
            have h5 := ((HO.out n hn).lt p hg).2
            have h6 := (hu.lt q hq).1
            omega
      case measure => simp [intOf]; omega
    · have hk' : l.length = k := by omega
      have HE : Hid (xs = (lv.map Nd.cells).flatten) := by
        show _ = _
        have h5 := HX.out
        rw [← hk'] at h5
        exact take_full hown.1 h5
      have HF : Hid (lv.map Prod.fst = l) := by
        show _ = _
        rw [HL.out, List.take_of_length_le (by omega)]
      have hlen : lv.length = l.length := by have := congrArg List.length HF.out; simpa using this
      have HLN : Hid (lv.length = l.length) := hlen
      clear h3 hk' hlen
      go_wp2
      go_ret
      refine ⟨_, _, rfl, ⟨lv, HF.out, RowOwn.of_owns (by rw [← HE.out]; exact hown) (by simp [HLN.out]) (by intro r hr; obtain ⟨n, _, rfl⟩ := List.mem_map.1 hr; rfl), h2, fun n hn => (HO.out n hn).mono (by omega), HI.out, rfl⟩, ?_, hb⟩
      rw [List.nodup_append]
      refine ⟨by cases l.length <;> simp [blks], HD.out, ?_⟩
      intro p hp q hq
      obtain ⟨n, hn, hg⟩ := List.mem_flatMap.1 hq
      have h5 := ((HO.out n hn).lt q hg).1
      have h6 : p = w.heap.size := by
        have h7 : p ∈ blks (.slice (some ⟨w.heap.size, 0, none⟩) l.length l.length) := hp
        revert h7
        cases l.length <;> simp [blks]
      omega

end Go.Proofs.YtjkebiodabheiaaDoor
