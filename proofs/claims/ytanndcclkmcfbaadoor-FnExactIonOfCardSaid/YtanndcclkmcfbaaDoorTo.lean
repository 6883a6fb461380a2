/- The laws' copies: each hands back new memory that reads as what came in. -/
import Derived.Test.YtanndcclkmcfbaaDoorTypes
namespace Go.Proofs.YtanndcclkmcfbaaDoor
open Go Go.RowKit Go.BigFrame

/-- A row that is full: its cells are those of the elements. -/
theorem take_full {xs : List Value} {n sz : Nat} {cs : List (List Value)} (hl : xs.length = n * sz) (h : xs.take (n * sz) = cs.flatten) : xs = cs.flatten := by
  rw [← h, List.take_of_length_le (by omega)]
theorem splice_take {xs us : List Value} {k sz n : Nat} {cs : List (List Value)} (hk : k < n) (hl : xs.length = n * sz) (hu : us.length = sz) (h : xs.take (k * sz) = cs.flatten) :
    (xs.take (k * sz) ++ us ++ xs.drop ((k + 1) * sz)).take ((k + 1) * sz) = (cs ++ [us]).flatten := by
  have h1 : (k + 1) * sz = k * sz + sz := by rw [Nat.add_mul, Nat.one_mul]
  have h2 : k * sz + sz ≤ n * sz := by rw [← h1]; exact Nat.mul_le_mul_right _ hk
  rw [List.take_append, List.take_of_length_le (by simp; omega), h]
  simp only [List.flatten_append, List.flatten_cons, List.flatten_nil, List.append_nil]
  rw [show (k + 1) * sz - (cs.flatten ++ us).length = 0 by
    rw [← h]; simp only [List.length_append, List.length_take, hl, hu]; omega]
  simp
theorem set_splice {xs : List Value} {k n : Nat} (u : Value) (hk : k < n) (hl : xs.length = n * 1) : xs.set k u = xs.take (k * 1) ++ [u] ++ xs.drop ((k + 1) * 1) := by
  simp only [Nat.mul_one] at *
  rw [List.set_eq_take_append_cons_drop, if_pos (by omega)]
  simp


set_option maxHeartbeats 1000000 in
theorem toStringS_ct (v : Value) (l : List ByteArray) (w : World) (h : StrsAt w v l) :
    Calls Tryd.prog 9 #[v] w fun e w' => ∃ u, e = .returned u ∧ StrsOwn w.heap.size w' u l ∧ Below w.heap.size w w' := by
  obtain ⟨a, c, rfl, h1, h2, h3⟩ := h.open
  have HI : Hid (_) := h.2
  clear h
  obtain ⟨i0, hi, hz0, hz1, hz2⟩ := info_parts inf_str
  go_enter Tryd.func9, Tryd.ntmps9
  go_wp2_with (at_make; refine wpList_make_full _ rfl _ _ 23 rfl w.heap.size 9 i0 (.string ⟨#[]⟩) 1 Tryd.underlying23 hi hz0 hz1 _ _ _ _ l.length rfl rfl rfl rfl ?b1 ?b2 ?b3 ?_)
  case b1 => rw [hz2]; omega
  case b2 => unfold maxLen; omega
  case b3 => exact Nat.le_refl _
  intro w1 hown hgrow
  have hb1 : Below w.heap.size w w1 := (Below.refl _ _).grown hgrow (Nat.le_refl _) (fun _ h => by cases h)
  clear hi hz0 hz1 hz2
  obtain ⟨xs0, hown⟩ : ∃ xs, w1.ownsRow w.heap.size 9 1 (.slice (some ⟨w.heap.size, 0, none⟩) l.length l.length) l.length xs := ⟨_, hown⟩
  clear hgrow
  go_wp2
  go_loopw [4] (fun i wr => ∃ k : Nat, k ≤ l.length ∧ i = .int .i64 k ∧ Below w.heap.size w wr ∧ ∃ xs, wr.ownsRow w.heap.size 9 1 (.slice (some ⟨w.heap.size, 0, none⟩) l.length l.length) l.length xs ∧ Hid (xs.take (k * 1) = (strRows (l.take k)).flatten)) (fun i _ => l.length - (intOf i).toNat)
  case atStart => exact ⟨0, Nat.zero_le _, rfl, hb1, xs0, hown, (by show _ = _; simp [strRows])⟩
  case round =>
    obtain ⟨k, hk, rfl, hb, xs, hown, HX⟩ := hrel
    by_cases hkl : k < l.length
    · obtain ⟨x, hx⟩ := getElem?_of_lt hkl
      have HT : Hid (strRows (l.take (k + 1)) = strRows (l.take k) ++ [[.string x]]) := by show _ = _; rw [take_snoc_l hx]; simp [strRows]
      obtain ⟨_, b, o, rfl, hc⟩ := h3 k x hx
      have hc := (hb.cell (World.block_lt_of_cell? w _ hc)).trans hc
      have hold : ∃ u, wr.cell? ⟨w.heap.size, k, none⟩ = some u := by
        rw [hown.cellAt k (by omega)]
        have := hown.1
        exact ⟨xs[k]'(by omega), List.getElem?_eq_getElem _⟩
      obtain ⟨old, hold⟩ := hold
      have hfr := hown.frozenAt k
      have hst := hown.stored k (.string x)
      clear h3 hx
      go_wp2
      go_roundw
      case rel => exact ⟨k + 1, by omega, by go_num, hb.setCell (by exact Nat.le_refl _) _, _, hst.1, (by show _ = _; rw [set_splice _ hkl hown.1, splice_take hkl hown.1 rfl HX.out, HT.out])⟩
      case measure => simp [intOf]; omega
    · have hk' : l.length = k := by omega
      have HE : Hid (xs = (strRows l).flatten) := by
        show _ = _
        have h5 := HX.out
        rw [List.take_of_length_le (show l.length ≤ k by omega), ← hk'] at h5
        exact take_full hown.1 h5
      clear h3 hk'
      go_wp2
      go_ret
      refine ⟨_, rfl, ⟨RowOwn.of_owns (by rw [← HE.out]; exact hown) (by simp [strRows]) (by simp [strRows]), h2, HI.out⟩, hb⟩

set_option maxHeartbeats 1000000 in
theorem toControl_ct (s : ByteArray) (p k : Int) (w : World) :
    Calls Tryd.prog 23 #[.agg #[.string s, .int .i64 p, .int .i64 k]] w fun e w' => e = .returned (.agg #[.string s, .int .i64 p, .int .i64 k]) ∧ Below w.heap.size w w' := by
  go_enter Tryd.func23, Tryd.ntmps23
  go_wp2
  exact bodyPost_ret (v := .agg #[.string s, .int .i64 p, .int .i64 k]) (by simp [results, Tryd.results23, go_sem]) rfl ⟨rfl, by repeat (first | exact Below.refl _ _ | refine Below.alloc ?_ (by simp; try omega) _ | refine Below.setCell ?_ (by simp; try omega) _)⟩

set_option maxRecDepth 100000 in
set_option maxHeartbeats 1000000 in
theorem toControlS_ct (v : Value) (l : List Ctl) (w : World) (h : CtlsAt w v l) :
    Calls Tryd.prog 8 #[v] w fun e w' => ∃ u, e = .returned u ∧ CtlsOwn w.heap.size w' u l ∧ Below w.heap.size w w' := by
  obtain ⟨a, c, rfl, h1, h2, h3⟩ := h.open
  have HI : Hid (_) := h.2
  clear h
  obtain ⟨i0, hi, hz0, hz1, hz2⟩ := info_parts inf_ctl
  go_enter Tryd.func8, Tryd.ntmps8
  go_wp2_with (at_make; refine wpList_make_full _ rfl _ _ 33 rfl w.heap.size 47 i0 (.agg #[.string ⟨#[]⟩, .int .i64 0, .int .i64 0]) 3 Tryd.underlying33 hi hz0 hz1 _ _ _ _ l.length rfl rfl rfl rfl ?b1 ?b2 ?b3 ?_)
  case b1 => rw [hz2]; omega
  case b2 => unfold maxLen; omega
  case b3 => exact Nat.le_refl _
  intro w1 hown hgrow
  have hb1 : Below w.heap.size w w1 := (Below.refl _ _).grown hgrow (Nat.le_refl _) (fun _ h => by cases h)
  have hsz : (Tryd.prog.info? 47).map (·.size) = some 3 := by rw [hi]; simp [hz1]
  clear hi hz0 hz1 hz2
  obtain ⟨xs0, hown⟩ : ∃ xs, w1.ownsRow w.heap.size 47 3 (.slice (some ⟨w.heap.size, 0, none⟩) l.length l.length) l.length xs := ⟨_, hown⟩
  clear hgrow
  have HSZ : Hid ((Tryd.prog.info? 47).map (·.size) = some 3) := hsz
  clear hsz
  go_wp2
  go_loopw [4] (fun i wr => ∃ k : Nat, k ≤ l.length ∧ i = .int .i64 k ∧ Below w.heap.size w wr ∧ ∃ xs, wr.ownsRow w.heap.size 47 3 (.slice (some ⟨w.heap.size, 0, none⟩) l.length l.length) l.length xs ∧ Hid (xs.take (k * 3) = ((l.take k).map Ctl.cells).flatten)) (fun i _ => l.length - (intOf i).toNat)
  case atStart => exact ⟨0, Nat.zero_le _, rfl, hb1, xs0, hown, (by show _ = _; simp)⟩
  case round =>
    obtain ⟨k, hk, rfl, hb, xs, hown, HX⟩ := hrel
    by_cases hkl : k < l.length
    · obtain ⟨x, hx⟩ := getElem?_of_lt hkl
      have HT : Hid ((l.take (k + 1)).map Ctl.cells = (l.take k).map Ctl.cells ++ [[.string x.name, .int .i64 x.ports, .int .i64 x.kind]]) := by show _ = _; rw [take_snoc_l hx]; simp [Ctl.cells]
      obtain ⟨_, _, _, b, o, rfl, hc0, hc1, hc2⟩ := h3 k x hx
      have hc0 := (hb.cell (World.block_lt_of_cell? w _ hc0)).trans hc0
      have hc1 := (hb.cell (World.block_lt_of_cell? w _ hc1)).trans hc1
      have hc2 := (hb.cell (World.block_lt_of_cell? w _ hc2)).trans hc2
      clear h3 hx
      go_wp2_with (first | (go_at_call 23; refine (toControl_ct _ _ _ _).mono ?_; rintro e w2 ⟨rfl, hb2⟩; have hown2 := owns_below hown hb2) | (refine wpList_store_mid (ty := 47) rfl (.tmp 21) (.tmp 20) rfl w.heap.size (k * 3) #[.string x.name, .int .i64 x.ports, .int .i64 x.kind] rfl rfl (owns_there hown2 hkl) HSZ.out (oc_ctl _ _ _) ?_))
      have hst := ownsRow_splice hown2 hkl (us := [.string x.name, .int .i64 x.ports, .int .i64 x.kind]) rfl
      go_wp2
      go_roundw
      case rel => exact ⟨k + 1, by omega, by go_num, (bthen hb hb2).grown hst.2 (bthen hb hb2).size (fun _ h => by cases h; exact Nat.le_refl _), _, hst.1, (by show _ = _; rw [splice_take hkl hown2.1 rfl HX.out, HT.out])⟩
      case measure => simp [intOf]; omega
    · have hk' : l.length = k := by omega
      have HE : Hid (xs = (l.map Ctl.cells).flatten) := by
        show _ = _
        have h5 := HX.out
        rw [List.take_of_length_le (show l.length ≤ k by omega), ← hk'] at h5
        exact take_full hown.1 h5
      clear h3 hk'
      go_wp2
      go_ret
      refine ⟨_, rfl, ⟨RowOwn.of_owns (by rw [← HE.out]; exact hown) (by simp) (by simp [Ctl.cells]), h2, HI.out⟩, hb⟩




end Go.Proofs.YtanndcclkmcfbaaDoor
