/- Reading the text of a bigraph: the reference's small functions. -/
import Derived.Test.YthgelhglfbgagaaGreatDoorPrsP
import Derived.Test.YthgelhglfbgagaaGreatDoorSplS
import Derived.Test.YthgelhglfbgagaaGreatDoorRdS
import Derived.Test.YthgelhglfbgagaaGreatDoorHeld
import Derived.Test.YthgelhglfbgagaaGreatDoorG2
import Derived.Test.YthgelhglfbgagaaGreatDoorG5
namespace Go.Proofs.YthgelhglfbgagaaGreatDoor
open Go Go.RowKit Go.BigFrame

theorem ctlX_at {sig : List Ctl} {s : ByteArray} {k : Nat} {c : Ctl} (h : sig[k]? = some c) (he : c.name = s) (hn : ∀ (j : Nat) d, j < k → sig[j]? = some d → d.name ≠ s) : ctlX sig s = k := by
  have hf : sig.findIdx? (fun c => decide (c.name = s)) = some k := by
    obtain ⟨hk, e⟩ := List.getElem?_eq_some_iff.1 h
    rw [List.findIdx?_eq_some_iff_getElem]
    refine ⟨hk, by rw [e]; simpa using he, fun j hj => ?_⟩
    have := hn j sig[j] hj (List.getElem?_eq_getElem _)
    simpa using this
  unfold ctlX; rw [hf]
theorem ctlX_no {sig : List Ctl} {s : ByteArray} (hn : ∀ (j : Nat) d, sig[j]? = some d → d.name ≠ s) : ctlX sig s = -1 := by
  have hf : sig.findIdx? (fun c => decide (c.name = s)) = none := by
    rw [List.findIdx?_eq_none_iff]
    intro x hx
    obtain ⟨j, hj⟩ := List.mem_iff_getElem?.1 hx
    simpa using hn j x hj
  unfold ctlX; rw [hf]
theorem rdN_I64 {s : ByteArray} {n : Int} (h : rdN s = some n) : -999999 ≤ n ∧ n ≤ 999999 := by
  have := rdN_some h; exact ⟨this.1, this.2.1⟩
set_option maxRecDepth 100000 in
set_option maxHeartbeats 2000000 in
theorem l2Cut_ct (s : ByteArray) (b : UInt8) (w : World) (hs : s.size ≤ 1073741824) : Calls Tryz.prog 74 #[.string s, .int .u8 (b.toNat : Int)] w fun e w' => e = .returned (.tuple #[.string (cutA s b), .string (cutZ s b)]) ∧ Below w.heap.size w w' := by
  go_enter Tryz.func74, Tryz.ntmps74
  go_wp2_with fail
  go_loopw [6] (fun i W => ∃ k : Nat, k ≤ s.size ∧ i = .int .i64 k ∧ Hid (∀ j, j < k → s.data.toList[j]? ≠ some b) ∧ Below w.heap.size w W) (fun i _ => s.size - (intOf i).toNat)
  case atStart => exact ⟨0, Nat.zero_le _, rfl, fun j hj => absurd hj (Nat.not_lt_zero _), Below.refl _ _⟩
  case round =>
    obtain ⟨k, hk, rfl, HA, hb⟩ := hrel
    by_cases hlt : k < s.size
    · by_cases he : s[k] = b
      · have he' : (s[k].toNat : Int) = (b.toNat : Int) := by rw [he]
        have HC : Hid (cutI s b = k) := cutI_at (by rw [byteAt hlt, he]) HA.out
        clear he
        go_wp2_with fail
        refine wp_region_gr (by kernel_rfl) (by kernel_rfl) ?_
        repeat (go_big_quiet_step (fail))
        refine wpQuiet_nil ?_
        intro w2 hb2
        go_wp2_with fail
        go_ret2
        exact ⟨by unfold cutA cutZ; rw [HC.out]; rfl, bthen hb hb2⟩
      · have he' : ¬ (s[k].toNat : Int) = (b.toNat : Int) := fun h => he (UInt8.toNat_inj.1 (by exact_mod_cast h))
        have HA2 : Hid (∀ j, j < k + 1 → s.data.toList[j]? ≠ some b) := fun j hj => by
          rcases Nat.lt_succ_iff_lt_or_eq.1 hj with h | rfl
          · exact HA.out j h
          · rw [byteAt hlt]; intro e; exact he (Option.some.inj e)
        clear he
        go_wp2_with fail
        go_roundw
        case rel => exact ⟨k + 1, by omega, by go_num, HA2, hb⟩
        case measure => simp [intOf]; omega
    · have e : k = s.size := by omega
      have HC : Hid (cutI s b = s.size) := cutI_no (fun j => by
        by_cases hj : j < s.size
        · exact HA.out j (by omega)
        · rw [List.getElem?_eq_none (by have : s.data.toList.length = s.size := Array.length_toList; omega)]; intro e; cases e)
      clear e
      go_wp2_with fail
      go_ret2
      exact ⟨by rw [cutA_no HC.out, cutZ_no HC.out]; rfl, hb⟩
set_option maxRecDepth 100000 in
set_option maxHeartbeats 2000000 in
theorem l2Control_ct (v : Value) (sig : List Ctl) (s : ByteArray) (w : World) (h : CtlsAt w v sig) (hs : s.size ≤ 1073741824) : Calls Tryz.prog 75 #[v, .string s] w fun e w' => e = .returned (.int .i64 (ctlX sig s)) ∧ Below w.heap.size w w' := by
  obtain ⟨_, _, rfl, _, hl, H⟩ := h.open
  have H' := Lib.hid H
  clear h H
  go_enter Tryz.func75, Tryz.ntmps75
  go_wp2_with fail
  go_loopw [5] (fun i W => ∃ k : Nat, k ≤ sig.length ∧ i = .int .i64 k ∧ Hid (∀ (j : Nat) d, j < k → sig[j]? = some d → d.name ≠ s) ∧ Below w.heap.size w W) (fun i _ => sig.length - (intOf i).toNat)
  case atStart => exact ⟨0, Nat.zero_le _, rfl, fun j d hj => absurd hj (Nat.not_lt_zero _), Below.refl _ _⟩
  case round =>
    obtain ⟨k, hk, rfl, HA, hb⟩ := hrel
    by_cases hlt : k < sig.length
    · obtain ⟨c, hc⟩ := getElem?_of_lt hlt
      obtain ⟨_, _, _, ob, oo, rfl, hc0, _, _⟩ := H'.out k c hc
      have hc0 := (hb.cell (World.block_lt_of_cell? w _ hc0)).trans hc0
      by_cases he : c.name = s
      · have hbq : (c.name.toList == s.toList) = true := by rw [he]; simp
        have HC : Hid (ctlX sig s = k) := ctlX_at hc he HA.out
        clear he hc
        go_wp2_with fail
        go_ret
        exact ⟨by rw [HC.out]; rfl, hb⟩
      · have hbq : (c.name.toList == s.toList) = false := by rw [beq_eq_false_iff_ne]; intro h; exact he (bytes_extR h)
        have HA2 : Hid (∀ (j : Nat) d, j < k + 1 → sig[j]? = some d → d.name ≠ s) := fun j d hj hd => by
          rcases Nat.lt_succ_iff_lt_or_eq.1 hj with h | rfl
          · exact HA.out j d h hd
          · rw [hc] at hd; obtain rfl := Option.some.inj hd; exact he
        clear he hc
        go_wp2_with fail
        go_roundw
        case rel => exact ⟨k + 1, by omega, by go_num, HA2, hb⟩
        case measure => simp [intOf]; omega
    · have HC : Hid (ctlX sig s = -1) := ctlX_no (fun j d hd => HA.out j d (by have := (List.getElem?_eq_some_iff.1 hd).1; omega) hd)
      go_wp2_with fail
      go_ret
      exact ⟨by rw [HC.out]; rfl, hb⟩
set_option maxRecDepth 100000 in
set_option maxHeartbeats 4000000 in
theorem l2Numbers_ct (v : Value) (l : List ByteArray) (w : World) (h : StrsAt w v l) (hl : l.length ≤ 1200000) :
    Calls Tryz.prog 73 #[v] w fun e w' => ∃ a c, e = .returned (.tuple #[.slice a (allV rdN (l.drop 1)).length c, .bool (allK rdN (l.drop 1))]) ∧ Acc w' w.heap.size 3 1 (.slice a (allV rdN (l.drop 1)).length c) (intRows (allV rdN (l.drop 1))) ∧ Below w.heap.size w w' := by
  obtain ⟨_, _, rfl, _, _, H⟩ := h.open
  have H' := Lib.hid H
  clear h H
  go_enter Tryz.func73, Tryz.ntmps73
  go_wp2_with fail
  obtain ⟨W0, hW0⟩ : ∃ W, W = w.alloc (.cells #[] 3) := ⟨_, rfl⟩
  rw [← hW0]
  have acc : Acc W0 w.heap.size 3 1 (.slice (some ⟨w.heap.size, 0, none⟩) 0 0) (intRows []) := by rw [hW0]; exact Acc.lit0 _ _ _ _ (Nat.le_refl _)
  have hb : Below w.heap.size w W0 := by rw [hW0]; exact balloc _ _
  have hs : w.heap.size ≤ W0.heap.size := hb.size
  clear hW0
  go_loopw [4, 5] (fun o i W => ∃ k r, k + 1 ≤ l.length + 1 ∧ i = .int .i64 ((k + 1 : Nat) : Int) ∧ Below w.heap.size w W ∧ w.heap.size ≤ W.heap.size ∧ Acc W w.heap.size 3 1 o (intRows r) ∧ Hid (allR rdN ((l.drop 1).take k) = some r ∧ r.length ≤ k)) (fun _ i _ => l.length + 1 - (intOf i).toNat)
  case atStart => exact ⟨0, [], by omega, rfl, hb, hs, acc, by rw [List.take_zero]; exact ⟨rfl, Nat.le_refl _⟩⟩
  case round =>
    clear hb hs acc W0
    obtain ⟨k, r, hk, rfl, hb, hs, acc, HR⟩ := hrel
    obtain ⟨av, cv, rfl⟩ := acc.shape
    have HL : Hid ((intRows r).length = r.length) := by show _ = _; simp [intRows]
    rw [HL.out] at acc ⊢
    have hrk := HR.out.2
    by_cases hkl : k + 1 < l.length
    · obtain ⟨x, hx⟩ := getElem?_of_lt hkl
      obtain ⟨hxz, ob, oo, rfl, hc⟩ := H'.out (k + 1) x hx
      have hc' := (hb.cell (World.block_lt_of_cell? w _ hc)).trans hc
      have HX : Hid ((l.drop 1)[k]? = some x) := by show _ = _; rw [List.getElem?_drop, Nat.add_comm]; exact hx
      clear hc hx
      have ei : ((k + 1 : Nat) : Int) = (k : Int) + 1 := by omega
      rw [ei]
      clear ei
      go_wp2_with fail
      refine (l1Read_ct x _ hxz).mono ?_
      rintro e w2 ⟨rfl, hb2⟩
      have hb := bthen hb hb2
      have acc := acc.below hb2
      have hs := Nat.le_trans hs hb2.size
      clear hb2 hc'
      cases hrd : rdN x with
      | none =>
        have HN := Lib.hid (allV_none (allR_none (List.mem_of_getElem? HX.out) hrd))
        have HB := Lib.hid (rd_none hrd)
        rw [HB.out.1, HB.out.2]
        clear hrd
        go_wp2_with fail
        go_ret2
        rw [HN.out.1, HN.out.2]
        exact ⟨_, _, rfl, Acc.lit0 _ _ _ _ hs, bthen hb (balloc _ _)⟩
      | some n =>
        have HB := Lib.hid (rd_some hrd)
        have HT := Lib.hid (allR_take HR.out.1 HX.out hrd)
        rw [HB.out.1, HB.out.2]
        clear hrd
        go_wp2_with (at_builtin; refine app1 _ rfl (.tmp 26) (.tmp 28) 25 rfl w.heap.size 3 1 8 (.int .i64 0) Tryz.underlying25 inf_int rfl (by decide) (by decide) _ (intRows r) (by rfl) acc [.int .i64 n] _ rfl (by simp [Value.oneCell']) (by rfl) (by rw [HL.out]; omega) hs ?_)
        intro g c2 w3 acc2 hg
        rw [HL.out] at acc2 ⊢
        have hb2 := grown_below hb acc hg (Nat.le_refl _) hs
        have hs2 := Nat.le_trans hs hg.size
        clear acc hg hb hs
        go_wp2_with fail
        go_roundw
        case rel => exact ⟨k + 1, r ++ [n], by omega, by go_num, hb2, hs2, by simpa [intRows] using acc2, HT.out, by simp; omega⟩
        case measure => simp [intOf]; omega
    · have HE : Hid (allV rdN (l.drop 1) = r ∧ allK rdN (l.drop 1) = true) := by
        have := HR.out.1
        rw [List.take_of_length_le (by simp; omega)] at this
        exact allV_some this
      have ei : ((k + 1 : Nat) : Int) = (k : Int) + 1 := by omega
      rw [ei]
      clear ei
      go_wp2_with fail
      go_ret2
      rw [HE.out.1, HE.out.2]
      exact ⟨_, _, rfl, acc, hb⟩
set_option maxRecDepth 100000 in
set_option maxHeartbeats 4000000 in
theorem l2Parts_ct (s : ByteArray) (w : World) (hsz : s.size ≤ 1100000) :
    Calls Tryz.prog 19 #[.string s] w fun e w' => ∃ g c, e = .returned (.slice (some ⟨g, 0, none⟩) (partsS s).length c) ∧ RowOwn w.heap.size w' (.slice (some ⟨g, 0, none⟩) (partsS s).length c) 1 (strRows (partsS s)) ∧ Below w.heap.size w w' := by
  go_enter Tryz.func19, Tryz.ntmps19
  go_wp2_with fail
  refine (l1Split_ct s 59 _ hsz).mono ?_
  rintro e w2 ⟨g, c, rfl, acc, hb⟩
  obtain ⟨N, hN⟩ : ∃ N, N = (splitP s 59).length := ⟨_, rfl⟩
  have HN := Lib.hid hN
  have hNl := splitP_length s 59
  have hN1 := splitP_pos s 59
  rw [← hN] at acc hNl hN1 ⊢
  have HZ : Hid (∀ x ∈ splitP s 59, x.size ≤ s.size) := splitP_size s 59
  have hro : RowOwn w.heap.size w2 (.slice (some ⟨g, 0, none⟩) N c) 1 (strRows (dropK (splitP s 59) 0)) := by rw [dropK_zero]; exact acc.own
  have hfr : ∀ j, w2.frozen? ⟨g, j, none⟩ = false := hro.free (by omega)
  have hbg := acc.own.lt g (by obtain ⟨n, rfl⟩ : ∃ n, N = n + 1 := ⟨N - 1, by omega⟩; simp [blks])
  clear acc hN hfr
  go_wp2_with fail
  go_loopw [4] (fun i W => ∃ k : Nat, k + 1 ≤ N ∧ i = .int .i64 ((k + 1 : Nat) : Int) ∧ Below w.heap.size w W ∧ RowOwn w.heap.size W (.slice (some ⟨g, 0, none⟩) N c) 1 (strRows (dropK (splitP s 59) k))) (fun i _ => N - (intOf i).toNat)
  case atStart => exact ⟨0, hN1, rfl, hb, hro⟩
  case round =>
    clear hb hro
    obtain ⟨k, hk, rfl, hb, hro⟩ := hrel
    have ei : ((k + 1 : Nat) : Int) = (k : Int) + 1 := by omega
    rw [ei]
    clear ei
    by_cases hkl : k + 1 < N
    · obtain ⟨x, hx⟩ := getElem?_of_lt (l := splitP s 59) (i := k + 1) (by rw [← HN.out]; exact hkl)
      have HX := Lib.hid hx
      have hxz := HZ.out x (List.mem_of_getElem? hx)
      have hrow : (strRows (dropK (splitP s 59) k))[k + 1]? = some [.string x] := by unfold strRows; rw [List.getElem?_map, dropK_get hx]; rfl
      have HROW := Lib.hid hrow
      have hc := hro.cellAt hrow (j := 0) rfl
      rw [Nat.mul_one, Nat.add_zero] at hc
      have hf := hro.free (by omega) (k + 1)
      clear hx hrow
      by_cases h0 : x.size = 0
      · have HD := Lib.hid (dropK_stay HX.out h0)
        go_wp2_with fail
        go_roundw
        case rel => exact ⟨k + 1, by omega, by go_num, hb, by rw [HD.out]; exact hro⟩
        case measure => simp [intOf]; omega
      · have HD := Lib.hid (dropK_step HX.out)
        have hx1 : 0 < x.size := by omega
        clear h0
        go_wp2_with fail
        go_roundw
        case rel =>
          have s0 := hro.store HROW.out (j := 0) (by decide) (.string (x.extract 1 x.size))
          refine ⟨k + 1, by omega, by go_num, ?_, ?_⟩
          · refine Below.setCell hb ?_ _
            exact hbg.1
          · rw [HD.out]
            unfold strRows dropH
            rw [List.map_set]
            rw [Nat.mul_one, Nat.add_zero] at s0
            exact s0
        case measure => simp [intOf]; omega
    · have HE : Hid (dropK (splitP s 59) k = partsS s) := dropK_end (by rw [← HN.out]; omega)
      rw [HE.out] at hro
      have HNL : Hid ((partsS s).length = N) := by show _ = _; rw [partsS_len]; exact HN.out.symm
      go_wp2_with fail
      go_ret
      rw [HNL.out]
      exact ⟨_, _, rfl, hro, hb⟩
end Go.Proofs.YthgelhglfbgagaaGreatDoor
