/- Reading the text of a bigraph: the program's small functions. -/
import Derived.Test.YthgelhglfbgagaaGreatDoorPrsP
import Derived.Test.YthgelhglfbgagaaGreatDoorSplS
import Derived.Test.YthgelhglfbgagaaGreatDoorRdI
import Derived.Test.YthgelhglfbgagaaGreatDoorTextI
import Derived.Test.YthgelhglfbgagaaGreatDoorHeld
import Derived.Test.YthgelhglfbgagaaGreatDoorG2
import Derived.Test.YthgelhglfbgagaaGreatDoorInB
import Derived.Test.YthgelhglfbgagaaGreatDoorTail2
import Derived.Lib.SplitLaws
import Derived.Shelf.SlicesE.IndexFunc
namespace Go.Proofs.YthgelhglfbgagaaGreatDoor
open Go Go.RowKit Go.BigFrame

theorem cut_one (s : ByteArray) (c : UInt8) : (⟨(Lib.cut s.data.toList [c]).1.toArray⟩ : ByteArray) = cutA s c ∧ (⟨(Lib.cut s.data.toList [c]).2.1.toArray⟩ : ByteArray) = cutZ s c := by
  have hz : s.data.toList.take s.size = s.data.toList := List.take_of_length_le (by simp)
  have hge := Lib.indexByte_ge s.data.toList c
  have hi := Lib.index_one s.data.toList c
  by_cases h : 0 ≤ Lib.indexByte s.data.toList c
  · have e1 : cutI s c = (Lib.indexByte s.data.toList c).toNat := by unfold cutI; rw [if_pos h]
    have hc : Lib.cut s.data.toList [c] = (s.data.toList.take (Lib.indexByte s.data.toList c).toNat, s.data.toList.drop ((Lib.indexByte s.data.toList c).toNat + 1), true) := by unfold Lib.cut; rw [hi, if_pos h]; rfl
    rw [hc]
    constructor
    · apply ByteArray.ext; apply Array.toList_inj.1
      unfold cutA
      rw [ext_list, e1, List.drop_zero]
    · apply ByteArray.ext; apply Array.toList_inj.1
      unfold cutZ
      rw [ext_list, e1, hz]
  · have e1 : cutI s c = s.size := by unfold cutI; rw [if_neg h]
    have hc : Lib.cut s.data.toList [c] = (s.data.toList, [], false) := by unfold Lib.cut; rw [hi, if_neg h]
    rw [hc, cutA_no e1, cutZ_no e1]
    exact ⟨rfl, rfl⟩
theorem splitB_size (sep : ByteArray) : ∀ (k : Nat) (s : ByteArray), ∀ x ∈ Lib.splitB sep 0 k s, x.size ≤ s.size
  | 0, s, x, h => by
    rw [Lib.splitB_zero, List.mem_singleton] at h
    rw [h]; exact Nat.le_refl _
  | k + 1, s, x, h => by
    have hge : -1 ≤ Lib.indexB s sep := Lib.index_ge _ _
    by_cases h0 : 0 ≤ Lib.indexB s sep
    · obtain ⟨i, hi⟩ : ∃ i : Nat, Lib.indexB s sep = i := ⟨_, (Int.toNat_of_nonneg h0).symm⟩
      rw [Lib.splitB_hit sep 0 k s i hi] at h
      rcases List.mem_cons.1 h with rfl | h
      · rw [ByteArray.size_extract]; omega
      · have := splitB_size sep k _ x h
        rw [ByteArray.size_extract] at this; omega
    · rw [Lib.splitB_miss sep 0 (k + 1) s (by omega), List.mem_singleton] at h
      rw [h]; exact Nat.le_refl _
theorem splitB2_size {s sep x : ByteArray} (h : x ∈ splitB2 s sep) : x.size ≤ s.size := splitB_size sep _ s x h
theorem splitB2_len (s : ByteArray) : (splitB2 s tSc).length = Lib.countB s tSc + 1 := Lib.splitB_all tSc (by decide) 0 _ s rfl
theorem splitB2_le (s : ByteArray) : (splitB2 s tSc).length ≤ s.size + 1 := by
  rw [splitB2_len]
  have := Lib.countB_le tSc (by decide) s.size s (Nat.le_refl _)
  omega
/-- What the program's reading asks of the world: it holds in all later ones too. -/
structure Env (w : World) : Prop where
  tab : Lib.TabIs Tryz.prog w "internal/strconv.uint64pow10" .u64 Lib.pow10Tab
  syn : ∃ (t : TypeId) (p : Value), w.var? Tryz.prog "strconv.ErrSyntax" = some #[.iface t p]
  rng : ∃ (t : TypeId) (p : Value), w.var? Tryz.prog "strconv.ErrRange" = some #[.iface t p]
  mx : ∃ m, w.cell? ⟨0, 0, none⟩ = some (.int .i64 m)
theorem Env.below {w w' : World} (h : Env w) (hb : Below w.heap.size w w') : Env w' := by
  obtain ⟨ts, ps, hs⟩ := h.syn
  obtain ⟨tr, pr, hr⟩ := h.rng
  obtain ⟨m, hm⟩ := h.mx
  exact ⟨TabIs.below h.tab hb, ⟨ts, ps, var_below hs hb⟩, ⟨tr, pr, var_below hr hb⟩, ⟨m, (hb.cell (World.block_lt_of_cell? _ _ hm)).trans hm⟩⟩
theorem rdE_ct (s : ByteArray) (w : World) (hs : s.size ≤ 1100000) (E : Env w) : Calls Tryz.prog 30 #[.string s] w fun e w' => e = .returned (.tuple #[.int .i64 ((rdA s).getD 0), .bool (rdA s).isSome]) ∧ Below w.heap.size w w' := by
  obtain ⟨ts, ps, h1⟩ := E.syn
  obtain ⟨tr, pr, h2⟩ := E.rng
  exact readDec_ct s w (by omega) E.tab ts ps h1 tr pr h2
theorem cutE_ct (s : ByteArray) (c : UInt8) (w : World) (hs : s.size ≤ 1100000) (E : Env w) : Calls Tryz.prog 88 #[.string s, .string ⟨#[c]⟩] w fun e w' => ∃ b, e = .returned (.tuple #[.string (cutA s c), .string (cutZ s c), .bool b]) ∧ Below w.heap.size w w' := by
  obtain ⟨m, hm⟩ := E.mx
  refine (Tryz.strings_Cut s ⟨#[c]⟩ m w (by omega) hm).mono ?_
  rintro e w' ⟨rfl, n, rfl⟩
  refine ⟨(Lib.cut s.data.toList [c]).2.2, ?_, below_drewN (Below.refl _ _) n⟩
  rw [← (cut_one s c).1, ← (cut_one s c).2]
theorem splitE_ct (s : ByteArray) (w : World) (hs : s.size ≤ 1100000) (E : Env w) : Calls Tryz.prog 28 #[.string s, .string ⟨#[59, 32]⟩] w fun e w' => e = .returned (.slice (some ⟨w.heap.size, 0, none⟩) (splitB2 s tSc).length (splitB2 s tSc).length) ∧ StrsAt w' (.slice (some ⟨w.heap.size, 0, none⟩) (splitB2 s tSc).length (splitB2 s tSc).length) (splitB2 s tSc) ∧ Below w.heap.size w w' := by
  obtain ⟨m, hm⟩ := E.mx
  refine (Tryz.strings_Split s ⟨#[59, 32]⟩ m w (by omega) hm (by decide)).mono ?_
  rintro e w' ⟨rfl, rfl⟩
  have hl : (splitB2 s tSc).length = Lib.countB s ⟨#[59, 32]⟩ + 1 := splitB2_len s
  have hle := splitB2_le s
  refine ⟨by rw [hl], ?_, balloc _ _⟩
  have h1 : RowAt ((splitB2 s tSc).map Value.string).length (w.alloc (.cells ((splitB2 s tSc).map Value.string).toArray 9)) (.slice (some ⟨w.heap.size, 0, none⟩) ((splitB2 s tSc).map Value.string).length ((splitB2 s tSc).map Value.string).length) 1 (((splitB2 s tSc).map Value.string).map fun u => [u]) := rowAt_cells (heap_alloc_new _ _) (Nat.le_refl _)
  rw [List.length_map, List.map_map] at h1
  refine ⟨?_, fun x hx => by have := splitB2_size hx; omega⟩
  obtain ⟨a, c, e, k2, k3, k4, k5⟩ := h1
  exact ⟨a, c, e, k2, by rw [List.length_map]; omega, k4, k5⟩
set_option maxRecDepth 100000 in
set_option maxHeartbeats 4000000 in
theorem readNumbers_ct (v : Value) (l : List ByteArray) (w : World) (h : StrsAt w v l) (hl : l.length ≤ 1200000) (hz : ∀ x ∈ l, x.size ≤ 1100000) (E : Env w) :
    Calls Tryz.prog 32 #[v] w fun e w' => ∃ a c, e = .returned (.tuple #[.slice a (allV rdA l).length c, .bool (allK rdA l)]) ∧ Acc w' w.heap.size 3 1 (.slice a (allV rdA l).length c) (intRows (allV rdA l)) ∧ Below w.heap.size w w' := by
  obtain ⟨_, _, rfl, _, _, H⟩ := h.open
  have H' := Lib.hid H
  have HZ := Lib.hid hz
  clear h H hz
  go_enter Tryz.func32, Tryz.ntmps32
  go_wp2_with fail
  obtain ⟨W0, hW0⟩ : ∃ W, W = w.alloc (.cells #[] 3) := ⟨_, rfl⟩
  rw [← hW0]
  have acc : Acc W0 w.heap.size 3 1 (.slice (some ⟨w.heap.size, 0, none⟩) 0 0) (intRows []) := by rw [hW0]; exact Acc.lit0 _ _ _ _ (Nat.le_refl _)
  have hb : Below w.heap.size w W0 := by rw [hW0]; exact balloc _ _
  have hs : w.heap.size ≤ W0.heap.size := hb.size
  clear hW0
  go_loopw [12, 4, 6, 7, 8] (fun i o _ _ _ W => ∃ k r, k ≤ l.length ∧ i = .int .i64 ((k : Nat) : Int) ∧ Below w.heap.size w W ∧ w.heap.size ≤ W.heap.size ∧ Acc W w.heap.size 3 1 o (intRows r) ∧ Hid (allR rdA (l.take k) = some r ∧ r.length ≤ k)) (fun i _ _ _ _ _ => l.length - (intOf i).toNat)
  case atStart => exact ⟨0, [], Nat.zero_le _, rfl, hb, hs, acc, by rw [List.take_zero]; exact ⟨rfl, Nat.le_refl _⟩⟩
  case round =>
    clear hb hs acc W0
    obtain ⟨k, r, hk, rfl, hb, hs, acc, HR⟩ := hrel
    obtain ⟨av, cv, rfl⟩ := acc.shape
    have HL : Hid ((intRows r).length = r.length) := by show _ = _; simp [intRows]
    rw [HL.out] at acc ⊢
    have hrk := HR.out.2
    by_cases hkl : k < l.length
    · obtain ⟨x, hx⟩ := getElem?_of_lt hkl
      obtain ⟨hxz0, ob, oo, rfl, hc⟩ := H'.out k x hx
      have hxz := HZ.out x (List.mem_of_getElem? hx)
      have hc' := (hb.cell (World.block_lt_of_cell? w _ hc)).trans hc
      have HX : Hid (l[k]? = some x) := hx
      clear hc hx
      go_wp2_with fail
      refine (rdE_ct x _ hxz (E.below hb)).mono ?_
      rintro e w2 ⟨rfl, hb2⟩
      have hb := bthen hb hb2
      have acc := acc.below hb2
      have hs := Nat.le_trans hs hb2.size
      clear hb2 hc'
      cases hrd : rdA x with
      | none =>
        have HN := Lib.hid (allV_none (allR_none (List.mem_of_getElem? HX.out) hrd))
        clear hrd
        go_wp2_with fail
        go_ret2
        rw [HN.out.1, HN.out.2]
        exact ⟨none, 0, rfl, Acc.nil _ _ _ _, hb⟩
      | some n =>
        have HT := Lib.hid (allR_take HR.out.1 HX.out hrd)
        clear hrd
        go_wp2_with (at_builtin; refine app1 _ rfl (.tmp 23) (.tmp 25) 25 rfl w.heap.size 3 1 8 (.int .i64 0) Tryz.underlying25 inf_int rfl (by decide) (by decide) _ (intRows r) (by rfl) acc [.int .i64 n] _ rfl (by simp [Value.oneCell']) (by rfl) (by rw [HL.out]; omega) hs ?_)
        intro g c2 w3 acc2 hg
        rw [HL.out] at acc2 ⊢
        have hb2 := grown_below hb acc hg (Nat.le_refl _) hs
        have hs2 := Nat.le_trans hs hg.size
        clear acc hg hb hs
        go_wp2_with fail
        go_roundw
        case rel => exact ⟨k + 1, r ++ [n], by omega, by go_num, hb2, hs2, by simpa [intRows] using acc2, HT.out, by simp; omega⟩
        case measure => simp [intOf]; omega
    · have HE : Hid (allV rdA l = r ∧ allK rdA l = true) := by
        have := HR.out.1
        rw [List.take_of_length_le (by omega)] at this
        exact allV_some this
      go_wp2_with fail
      go_ret2
      rw [HE.out.1, HE.out.2]
      exact ⟨_, _, rfl, acc, hb⟩
set_option maxRecDepth 100000 in
set_option maxHeartbeats 4000000 in
theorem readWires_ct (v : Value) (l : List ByteArray) (w : World) (h : StrsAt w v l) (hl : l.length ≤ 1200000) (hz : ∀ x ∈ l, x.size ≤ 1100000) (E : Env w) :
    Calls Tryz.prog 34 #[v] w fun e w' => ∃ a c, e = .returned (.tuple #[.slice a (allV (wireR rdA) l).length c, .bool (allK (wireR rdA) l)]) ∧ Acc w' w.heap.size 87 2 (.slice a (allV (wireR rdA) l).length c) ((allV (wireR rdA) l).map Wr.cells) ∧ Below w.heap.size w w' := by
  obtain ⟨_, _, rfl, _, _, H⟩ := h.open
  have H' := Lib.hid H
  have HZ := Lib.hid hz
  clear h H hz
  go_enter Tryz.func34, Tryz.ntmps34
  go_wp2_with fail
  obtain ⟨W0, hW0⟩ : ∃ W, W = w.alloc (.cells #[] 87) := ⟨_, rfl⟩
  rw [← hW0]
  have acc : Acc W0 w.heap.size 87 2 (.slice (some ⟨w.heap.size, 0, none⟩) 0 0) (([] : List Wr).map Wr.cells) := by rw [hW0]; exact Acc.lit0 _ _ _ _ (Nat.le_refl _)
  have hb : Below w.heap.size w W0 := by rw [hW0]; exact balloc _ _
  have hs : w.heap.size ≤ W0.heap.size := hb.size
  clear hW0
  go_loopw [15, 4, 6, 7, 8, 9, 10, 11] (fun i o _ _ _ _ _ _ W => ∃ k r, k ≤ l.length ∧ i = .int .i64 ((k : Nat) : Int) ∧ Below w.heap.size w W ∧ w.heap.size ≤ W.heap.size ∧ Acc W w.heap.size 87 2 o (r.map Wr.cells) ∧ Hid (allR (wireR rdA) (l.take k) = some r ∧ r.length ≤ k)) (fun i _ _ _ _ _ _ _ _ => l.length - (intOf i).toNat)
  case atStart => exact ⟨0, [], Nat.zero_le _, rfl, hb, hs, acc, by rw [List.take_zero]; exact ⟨rfl, Nat.le_refl _⟩⟩
  case round =>
    clear hb hs acc W0
    obtain ⟨k, r, hk, rfl, hb, hs, acc, HR⟩ := hrel
    obtain ⟨av, cv, rfl⟩ := acc.shape
    have HL : Hid ((r.map Wr.cells).length = r.length) := by show _ = _; simp
    rw [HL.out] at acc ⊢
    have hrk := HR.out.2
    by_cases hkl : k < l.length
    · obtain ⟨x, hx⟩ := getElem?_of_lt hkl
      obtain ⟨hxz0, ob, oo, rfl, hc⟩ := H'.out k x hx
      have hxz := HZ.out x (List.mem_of_getElem? hx)
      have hc' := (hb.cell (World.block_lt_of_cell? w _ hc)).trans hc
      have HX : Hid (l[k]? = some x) := hx
      have hzm := cutZ_size x 61
      have ham := cutA_size x 61
      clear hc hx
      go_wp2_with fail
      refine (cutE_ct x 61 _ hxz (E.below hb)).mono ?_
      rintro e w2 ⟨cb, rfl, hb2⟩
      have hb := bthen hb hb2
      have acc := acc.below hb2
      have hs := Nat.le_trans hs hb2.size
      clear hb2 hc'
      go_wp2_with fail
      refine (rdE_ct (cutZ x 61) _ (by omega) (E.below hb)).mono ?_
      rintro e w3 ⟨rfl, hb2⟩
      have hb := bthen hb hb2
      have acc := acc.below hb2
      have hs := Nat.le_trans hs hb2.size
      clear hb2
      cases hrd : rdA (cutZ x 61) with
      | none =>
        have HN := Lib.hid (allV_none (allR_none (List.mem_of_getElem? HX.out) (wireR_no hrd)))
        clear hrd
        go_wp2_with fail
        go_ret2
        rw [HN.out.1, HN.out.2]
        exact ⟨none, 0, rfl, Acc.nil _ _ _ _, hb⟩
      | some n =>
        have HT := Lib.hid (allR_take HR.out.1 HX.out (wireR_rd hrd))
        clear hrd
        go_wp2_with (at_builtin; refine app1 _ rfl (.tmp 32) (.tmp 36) 27 rfl w.heap.size 87 2 24 (.agg #[.string ⟨#[]⟩, .int .i64 0]) Tryz.underlying27 inf_wr rfl (by decide) (by decide) _ (r.map Wr.cells) (by rfl) acc [.string (cutA x 61), .int .i64 n] _ rfl (by simp [Value.oneCell']) (by rfl) (by rw [HL.out]; omega) hs ?_)
        intro g c2 w4 acc2 hg
        try rw [HL.out] at acc2
        try rw [HL.out]
        have hb2 := grown_below hb acc hg (Nat.le_refl _) hs
        have hs2 := Nat.le_trans hs hg.size
        clear acc hg hb hs
        go_wp2_with fail
        go_roundw
        case rel => exact ⟨k + 1, r ++ [⟨cutA x 61, n⟩], by omega, by go_num, hb2, hs2, by rw [List.map_append]; first | exact acc2 | (rw [show (r ++ [(⟨cutA x 61, n⟩ : Wr)]).length = r.length + 1 by simp]; exact acc2), HT.out, by simp; omega⟩
        case measure => simp [intOf]; omega
    · have HE : Hid (allV (wireR rdA) l = r ∧ allK (wireR rdA) l = true) := by
        have := HR.out.1
        rw [List.take_of_length_le (by omega)] at this
        exact allV_some this
      go_wp2_with fail
      go_ret2
      rw [HE.out.1, HE.out.2]
      exact ⟨_, _, rfl, acc, hb⟩
end Go.Proofs.YthgelhglfbgagaaGreatDoor
