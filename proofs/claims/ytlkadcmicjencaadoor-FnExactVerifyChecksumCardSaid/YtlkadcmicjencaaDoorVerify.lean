/- Texts with their checksums, read back. -/
import Derived.Test.YtlkadcmicjencaaDoorSeal
import Derived.Test.YtlkadcmicjencaaDoorSplit
import Derived.Lib.IndexLaws
namespace Go.Proofs.YtlkadcmicjencaaDoor
open Go Go.RowKit Go.BigFrame

def cutI (s : ByteArray) (c : UInt8) : Nat := if 0 ≤ Lib.indexByte s.data.toList c then (Lib.indexByte s.data.toList c).toNat else s.size
def cutT (s : ByteArray) (c : UInt8) : ByteArray := s.extract 0 (cutI s c)
theorem st_none {s : ByteArray} {c : UInt8} : ∀ k, (∀ j, j < k → s.data.toList[j]? ≠ some c) → splitSt s c k = ([], 0)
  | 0, _ => rfl
  | k + 1, h => by
    simp only [splitSt]
    rw [if_neg (h k (by omega)), st_none k fun j hj => h j (by omega)]
theorem st_some {s : ByteArray} {c : UInt8} {o : Nat} (h1 : s.data.toList[o]? = some c) (h2 : ∀ j, j < o → s.data.toList[j]? ≠ some c) : ∀ k, o < k → (splitSt s c k).1[0]? = some (s.extract 0 o)
  | 0, h => by omega
  | k + 1, h => by
    by_cases hk : o = k
    · subst hk
      simp only [splitSt]
      rw [if_pos h1, st_none o h2]; rfl
    · have ih := st_some h1 h2 k (by omega)
      simp only [splitSt]
      split
      · rw [List.getElem?_append_left (List.getElem?_eq_some_iff.1 ih).1]; exact ih
      · exact ih
theorem split_head (s : ByteArray) (c : UInt8) : (splitP s c)[0]? = some (cutT s c) := by
  unfold splitP cutT cutI
  by_cases h : 0 ≤ Lib.indexByte s.data.toList c
  · rw [if_pos h]
    obtain ⟨o, ho⟩ : ∃ o : Nat, Lib.indexByte s.data.toList c = o := ⟨_, (Int.toNat_of_nonneg h).symm⟩
    obtain ⟨h1, h2⟩ := Lib.indexByte_some ho
    have hl := (List.getElem?_eq_some_iff.1 h1).1
    have := st_some h1 h2 s.size (by simpa using hl)
    rw [ho, Int.toNat_natCast, List.getElem?_append_left (List.getElem?_eq_some_iff.1 this).1]; exact this
  · rw [if_neg h]
    have h1 : Lib.indexByte s.data.toList c = -1 := by have := Lib.indexByte_ge s.data.toList c; omega
    rw [st_none s.size fun j _ => Lib.indexByte_none h1 j]; rfl
theorem cutI_le (s : ByteArray) (c : UInt8) : cutI s c ≤ s.size := by
  unfold cutI
  split
  · rename_i h
    obtain ⟨o, ho⟩ : ∃ o : Nat, Lib.indexByte s.data.toList c = o := ⟨_, (Int.toNat_of_nonneg h).symm⟩
    have hl := (List.getElem?_eq_some_iff.1 (Lib.indexByte_some ho).1).1
    rw [ho, Int.toNat_natCast]; simp at hl; omega
  · omega
theorem cutT_size (s : ByteArray) (c : UInt8) : (cutT s c).size = cutI s c := by
  have := cutI_le s c
  unfold cutT; rw [ByteArray.size_extract]; omega
theorem cutT_stands (s : ByteArray) (c : UInt8) : standsB (cutT s c) c = false := by
  unfold standsB
  rw [List.contains_eq_mem, decide_eq_false_iff_not]
  intro hm
  obtain ⟨j, hj⟩ := List.getElem?_of_mem hm
  have hlt := (List.getElem?_eq_some_iff.1 hj).1
  have hsz := cutT_size s c
  have hjc : j < cutI s c := by
    have : (cutT s c).data.toList.length = (cutT s c).size := by simp
    omega
  have e : s.data.toList[j]? = some c := by
    have h0 := hj
    unfold cutT at h0
    rw [show (s.extract 0 (cutI s c)).data.toList = s.data.toList.take (cutI s c) by simp [ByteArray.data_extract, List.extract_eq_take_drop]] at h0
    rw [List.getElem?_take, if_pos hjc] at h0
    exact h0
  unfold cutI at hjc
  split at hjc
  · rename_i h
    obtain ⟨o, ho⟩ : ∃ o : Nat, Lib.indexByte s.data.toList c = o := ⟨_, (Int.toNat_of_nonneg h).symm⟩
    rw [ho, Int.toNat_natCast] at hjc
    exact (Lib.indexByte_some ho).2 j hjc e
  · have h1 : Lib.indexByte s.data.toList c = -1 := by have := Lib.indexByte_ge s.data.toList c; omega
    exact Lib.indexByte_none h1 j e
def verB (s : ByteArray) : Bool := decide (s.size ≤ 4000) && ((sealS (cutT s 35)).toList == s.toList)
def verR (s : ByteArray) : ByteArray := if verB s then cutT s 35 else ⟨#[]⟩
theorem ver_long {s : ByteArray} (h : ¬ s.size ≤ 4000) : verB s = false := by unfold verB; rw [decide_eq_false h]; rfl
theorem verR_no {s : ByteArray} (h : verB s = false) : verR s = ⟨#[]⟩ := by unfold verR; rw [h]; rfl
theorem verR_yes {s : ByteArray} (h : verB s = true) : verR s = cutT s 35 := by unfold verR; rw [h]; rfl
theorem ver_eq {s : ByteArray} (h : s.size ≤ 4000) : verB s = ((sealS (cutT s 35)).toList == s.toList) := by unfold verB; rw [decide_eq_true h, Bool.true_and]
theorem toList_len (s : ByteArray) : s.toList.length = s.size := by rw [ByteArray.toList_eq]; simp
theorem app_cut {s : ByteArray} (h : s.size ≤ 4000) (hv : verB s = true) : appB (cutT s 35) = true := by
  rw [ver_eq h] at hv
  have e := beq_iff_eq.1 hv
  have hl : (sealS (cutT s 35)).size = s.size := by rw [← toList_len, e, toList_len]
  have := cutI_le s 35
  exact app_yes (by rw [cutT_size]; omega) (cutT_stands s 35) (by omega)

set_option maxRecDepth 100000 in
set_option maxHeartbeats 2000000 in
theorem specVerifyChecksum_ct (s : ByteArray) (w : World) (_ : s.size ≤ 1048576) : Calls Tryd.prog 18 #[.string s] w fun e w' => e = .returned (.tuple #[.string (verR s), .bool (verB s)]) ∧ Below w.heap.size w w' := by
  by_cases h1 : s.size ≤ 4000
  case neg =>
    have H := ver_long h1
    have HR := Lib.hid (verR_no H)
    have HB := Lib.hid H
    rw [HR.out, HB.out]
    clear H HR HB
    go_enter Tryd.func18, Tryd.ntmps18
    go_wp2_with fail
    go_ret2
    exact ⟨rfl, Below.refl _ _⟩
  have hve := ver_eq h1
  have hsz := cutT_size s 35
  have hci := cutI_le s 35
  obtain ⟨t, ht⟩ : ∃ t, t = cutT s 35 := ⟨_, rfl⟩
  rw [← ht] at hve hsz
  have hts : t.size ≤ 4000 := by omega
  have hh := split_head s 35
  rw [← ht] at hh
  have HH := Lib.hid hh
  have HTT := Lib.hid ht
  clear hh hsz hci ht
  cases hv : verB s with
  | true =>
    have HR := Lib.hid ((verR_yes hv).trans HTT.out.symm)
    rw [hv] at hve
    have HVE := Lib.hid hve.symm
    clear hve
    rw [HR.out]
    clear hv
    go_enter Tryd.func18, Tryd.ntmps18
    go_wp2_with fail
    refine (l1Split_ct s 35 _ h1).mono ?_
    rintro e w2 ⟨v, rfl, hv, hb⟩
    obtain ⟨a, c, rfl, _, hle, hcell⟩ := hv.at.open
    obtain ⟨_, b, o, rfl, hc0⟩ := hcell 0 t HH.out
    have hc0 : w2.cell? ⟨b, o, none⟩ = some (.string t) := hc0
    have hpos : 0 < (splitP s 35).length := (List.getElem?_eq_some_iff.1 HH.out).1
    clear hv hcell
    go_wp2_with fail
    refine (l1Seal_ct t _ (by omega)).mono ?_
    rintro e w3 ⟨rfl, hb2⟩
    have hve := HVE.out
    go_wp2_with fail
    go_ret2
    exact ⟨rfl, bthen hb hb2⟩
  | false =>
    have HR := Lib.hid (verR_no hv)
    rw [hv] at hve
    have HVE := Lib.hid hve.symm
    clear hve
    rw [HR.out]
    clear hv
    go_enter Tryd.func18, Tryd.ntmps18
    go_wp2_with fail
    refine (l1Split_ct s 35 _ h1).mono ?_
    rintro e w2 ⟨v, rfl, hv, hb⟩
    obtain ⟨a, c, rfl, _, hle, hcell⟩ := hv.at.open
    obtain ⟨_, b, o, rfl, hc0⟩ := hcell 0 t HH.out
    have hc0 : w2.cell? ⟨b, o, none⟩ = some (.string t) := hc0
    have hpos : 0 < (splitP s 35).length := (List.getElem?_eq_some_iff.1 HH.out).1
    clear hv hcell
    go_wp2_with fail
    refine (l1Seal_ct t _ (by omega)).mono ?_
    rintro e w3 ⟨rfl, hb2⟩
    have hve := HVE.out
    go_wp2_with fail
    go_ret2
    exact ⟨rfl, bthen hb hb2⟩
def CutsT (s : ByteArray) (w : World) (e : Ending) (w' : World) : Prop := ∃ x y, e = .returned (.tuple #[.string (cutT s 35), .string x, .bool y]) ∧ Below w.heap.size w w'
set_option maxHeartbeats 2000000 in
theorem liteCut_ct (s : ByteArray) (w : World) (h1 : s.size ≤ 4000) : Calls Tryd.prog 95 #[.string s, .string ⟨#[35]⟩] w (CutsT s w) := by
  have hI := Lib.hid (Tryd.stringslite_Index_one s 35 w)
  have hci := cutI_le s 35
  by_cases h : 0 ≤ Lib.indexByte s.data.toList 35
  · obtain ⟨o, ho⟩ : ∃ o : Nat, Lib.indexByte s.data.toList 35 = o := ⟨_, (Int.toNat_of_nonneg h).symm⟩
    have HO := Lib.hid ho
    have HC : Hid (cutT s 35 = s.extract 0 o) := by show _ = _; unfold cutT cutI; rw [if_pos h, ho, Int.toNat_natCast]
    have hol : o < s.size := by have := (List.getElem?_eq_some_iff.1 (Lib.indexByte_some ho).1).1; simpa using this
    have q1 : IntKind.i64.wrap ((o : Int) + 1) = (o : Int) + 1 := Go.IntWalk.i64_in _ (by omega)
    have q2 : ((o : Int) + 1).toNat = o + 1 := by omega
    have q3 : (0 : Int) ≤ (o : Int) + 1 := by omega
    have q4 : (o : Int) + 1 ≤ (s.size : Int) := by omega
    have q5 : (o : Int) ≤ (s.size : Int) := by omega
    clear ho h hci
    go_enter Tryd.func95, Tryd.ntmps95
    go_wp2_with fail
    refine hI.out.mono ?_
    rintro e w2 ⟨rfl, rfl⟩
    rw [HO.out]
    go_wp2_with fail
    refine wp_region_gr (by kernel_rfl) (by kernel_rfl) ?_
    repeat (go_big_quiet_step (fail))
    refine wpQuiet_nil ?_
    intro w3 hb
    go_wp2_with fail
    refine bodyPost_ret (v := .tuple #[.string (s.extract 0 o), .string (s.extract (o + 1) s.size), .bool true]) (by simp [results, Tryd.results95, go_sem]) rfl ⟨_, _, by rw [HC.out], hb⟩
  · have h1' : Lib.indexByte s.data.toList 35 = -1 := by have := Lib.indexByte_ge s.data.toList 35; omega
    have HO := Lib.hid h1'
    have HC : Hid (cutT s 35 = s) := by
      show _ = _; unfold cutT cutI; rw [if_neg h]
      apply ByteArray.ext; simp
    clear h1' h hci
    go_enter Tryd.func95, Tryd.ntmps95
    go_wp2_with fail
    refine hI.out.mono ?_
    rintro e w2 ⟨rfl, rfl⟩
    rw [HO.out]
    go_wp2_with fail
    refine bodyPost_ret (v := .tuple #[.string s, .string ⟨#[]⟩, .bool false]) (by simp [results, Tryd.results95, go_sem]) rfl ⟨_, _, by rw [HC.out], Below.refl _ _⟩
set_option maxHeartbeats 2000000 in
theorem cut_ct (s : ByteArray) (w : World) (h1 : s.size ≤ 4000) : Calls Tryd.prog 53 #[.string s, .string ⟨#[35]⟩] w (CutsT s w) := by
  obtain ⟨t, ht⟩ : ∃ t, t = cutT s 35 := ⟨_, rfl⟩
  have HT := Lib.hid ht
  clear ht
  go_enter Tryd.func53, Tryd.ntmps53
  go_wp2_with fail
  refine (liteCut_ct s _ h1).mono ?_
  rintro e w2 ⟨x, y, rfl, hb⟩
  rw [← HT.out]
  go_wp2_with fail
  refine bodyPost_ret (v := .tuple #[.string t, .string x, .bool y]) (by simp [results, Tryd.results53, go_sem]) rfl ⟨_, _, by rw [HT.out], hb⟩
set_option maxHeartbeats 2000000 in
theorem implVerifyChecksum_ct (s : ByteArray) (w : World) (_ : s.size ≤ 1048576) (htab : Lib.TabIs Tryd.prog w "internal/strconv.uint64pow10" .u64 Lib.pow10Tab) : Calls Tryd.prog 19 #[.string s] w fun e w' => e = .returned (.tuple #[.string (verR s), .bool (verB s)]) ∧ Below w.heap.size w w' := by
  have HT := Lib.hid htab
  clear htab
  by_cases h1 : s.size ≤ 4000
  case neg =>
    have H := ver_long h1
    have HR := Lib.hid (verR_no H)
    have HB := Lib.hid H
    rw [HR.out, HB.out]
    clear H HR HB
    go_enter Tryd.func19, Tryd.ntmps19
    go_wp2_with fail
    go_ret2
    exact ⟨rfl, Below.refl _ _⟩
  have hve := ver_eq h1
  have hac := @app_cut s h1
  have hsz := cutT_size s 35
  have hci := cutI_le s 35
  obtain ⟨t, ht⟩ : ∃ t, t = cutT s 35 := ⟨_, rfl⟩
  rw [← ht] at hve hsz hac
  have hts : t.size ≤ 1048576 := by omega
  have HTT := Lib.hid ht
  clear hsz hci ht
  cases hv : verB s with
  | true =>
    have HR := Lib.hid ((verR_yes hv).trans HTT.out.symm)
    rw [hv] at hve
    have HVE := Lib.hid hve.symm
    clear hve
    have ha := hac hv
    have HA := Lib.hid ha
    have HAR := Lib.hid (appR_yes ha)
    rw [HR.out]
    clear hv ha hac
    go_enter Tryd.func19, Tryd.ntmps19
    go_wp2_with fail
    refine (cut_ct s _ h1).mono ?_
    rintro e w2 ⟨x, y, rfl, hb⟩
    rw [← HTT.out]
    go_wp2_with fail
    refine (implAppendChecksum_ct t _ hts (TabIs.below HT.out hb)).mono ?_
    rintro e w3 ⟨rfl, hb2⟩
    rw [HA.out, HAR.out]
    have hve := HVE.out
    go_wp2_with fail
    go_ret2
    exact ⟨rfl, bthen hb hb2⟩
  | false =>
    have HR := Lib.hid (verR_no hv)
    rw [hv] at hve
    have HVE := Lib.hid hve.symm
    clear hve
    rw [HR.out]
    clear hv hac
    cases ha : appB t with
    | true =>
      have HA := Lib.hid ha
      have HAR := Lib.hid (appR_yes ha)
      clear ha
      go_enter Tryd.func19, Tryd.ntmps19
      go_wp2_with fail
      refine (cut_ct s _ h1).mono ?_
      rintro e w2 ⟨x, y, rfl, hb⟩
      rw [← HTT.out]
      go_wp2_with fail
      refine (implAppendChecksum_ct t _ hts (TabIs.below HT.out hb)).mono ?_
      rintro e w3 ⟨rfl, hb2⟩
      rw [HA.out, HAR.out]
      have hve := HVE.out
      go_wp2_with fail
      go_ret2
      exact ⟨rfl, bthen hb hb2⟩
    | false =>
      have HA := Lib.hid ha
      clear ha
      go_enter Tryd.func19, Tryd.ntmps19
      go_wp2_with fail
      refine (cut_ct s _ h1).mono ?_
      rintro e w2 ⟨x, y, rfl, hb⟩
      rw [← HTT.out]
      go_wp2_with fail
      refine (implAppendChecksum_ct t _ hts (TabIs.below HT.out hb)).mono ?_
      rintro e w3 ⟨rfl, hb2⟩
      rw [HA.out]
      go_wp2_with fail
      go_ret2
      exact ⟨rfl, bthen hb hb2⟩
end Go.Proofs.YtlkadcmicjencaaDoor
