/- Texts with their checksums. -/
import Derived.Test.YtlkadcmicjencaaDoorItoa
import Derived.Test.YtlkadcmicjencaaDoorCsum
import Derived.Lib.IndexAny
import Derived.Lib.Hide
namespace Go.Proofs.YtlkadcmicjencaaDoor
open Go Go.RowKit Go.BigFrame

def sealS (s : ByteArray) : ByteArray := (s ++ ⟨#[35]⟩) ++ decS (csum s.data.toList).toNat
def standsB (s : ByteArray) (c : UInt8) : Bool := s.data.toList.contains c
def appB (s : ByteArray) : Bool := decide (s.size ≤ 4000) && (!standsB s 35 && decide ((sealS s).size ≤ 4000))
def appR (s : ByteArray) : ByteArray := if appB s then sealS s else ⟨#[]⟩
theorem decS_csum (s : ByteArray) : (decS (csum s.data.toList).toNat).size ≤ 6 := by
  have := csum_bd s.data.toList
  exact decS_size_le 6 _ (by omega) (by omega)
theorem app_long {s : ByteArray} (h : ¬ s.size ≤ 4000) : appB s = false := by unfold appB; rw [decide_eq_false h]; rfl
theorem app_stands {s : ByteArray} (h : standsB s 35 = true) : appB s = false := by unfold appB; rw [h]; simp
theorem app_big {s : ByteArray} (h : ¬ (sealS s).size ≤ 4000) : appB s = false := by unfold appB; rw [decide_eq_false h]; simp
theorem app_yes {s : ByteArray} (h1 : s.size ≤ 4000) (h2 : standsB s 35 = false) (h3 : (sealS s).size ≤ 4000) : appB s = true := by unfold appB; rw [decide_eq_true h1, h2, decide_eq_true h3]; rfl
theorem appR_no {s : ByteArray} (h : appB s = false) : appR s = ⟨#[]⟩ := by unfold appR; rw [h]; rfl
theorem appR_yes {s : ByteArray} (h : appB s = true) : appR s = sealS s := by unfold appR; rw [h]; rfl

set_option maxHeartbeats 1000000 in
theorem l1Stands_ct (s : ByteArray) (c : UInt8) (r : Bool) (w : World) (hs : s.size ≤ 1073741824) (hr : standsB s c = r) : Calls Tryd.prog 39 #[.string s, .int .u8 (c.toNat : Int)] w fun e w' => e = .returned (.bool r) ∧ w' = w := by
  have HR : Hid (s.data.toList.contains c = r) := hr
  clear hr
  go_enter Tryd.func39, Tryd.ntmps39
  go_wp2_with fail
  go_loop [5] (fun i => ∃ k : Nat, k ≤ s.size ∧ i = .int .i64 k ∧ Hid ((s.data.toList.take k).contains c = false)) (fun i => s.size - (intOf i).toNat)
  case atStart => exact ⟨0, Nat.zero_le _, rfl, (by show _ = _; simp)⟩
  case round =>
    obtain ⟨k, hk, rfl, HA⟩ := hrel
    by_cases hlt : k < s.size
    · by_cases he : s[k] = c
      · have HF : Hid (r = true) := by
          show _ = _; rw [← HR.out, List.contains_eq_mem, decide_eq_true_iff, ← he, show s[k] = s.data.toList[k]'(by simpa using hlt) from rfl]; exact List.getElem_mem _
        have he' : (s[k].toNat : Int) = (c.toNat : Int) := by rw [he]
        clear he
        go_wp2_with fail
        go_ret
        exact ⟨by rw [HF.out]; rfl, rfl⟩
      · have HT : Hid ((s.data.toList.take (k + 1)).contains c = false) := by
          show _ = _
          rw [take_snoc s k hlt]
          have := HA.out
          simp only [List.contains_eq_mem, decide_eq_false_iff_not, List.mem_append, List.mem_singleton] at this ⊢
          rintro (h | h)
          · exact this h
          · exact he h.symm
        have he' : ¬ (s[k].toNat : Int) = (c.toNat : Int) := fun h => he (UInt8.toNat_inj.1 (by exact_mod_cast h))
        clear he
        go_wp2_with fail
        go_round
        case rel => exact ⟨k + 1, by omega, by go_num, HT⟩
        case measure => simp [intOf]; omega
    · have HF : Hid (r = false) := by
        have := HA.out
        rw [List.take_of_length_le (by simp; omega)] at this
        rw [← HR.out]; exact this
      go_wp2_with fail
      go_ret
      exact ⟨by rw [HF.out]; rfl, rfl⟩
set_option maxHeartbeats 1000000 in
theorem l1Seal_ct (s : ByteArray) (w : World) (hs : s.size ≤ 1073741824) : Calls Tryd.prog 40 #[.string s] w fun e w' => e = .returned (.string (sealS s)) ∧ Below w.heap.size w w' := by
  have hc := csum_bd s.data.toList
  have hd := decS_csum s
  obtain ⟨m, hm⟩ : ∃ m : Nat, csum s.data.toList = m := ⟨(csum s.data.toList).toNat, by omega⟩
  have HM : Hid (csum s.data.toList = m) := hm
  have HS : Hid (sealS s = (s ++ ⟨#[35]⟩) ++ decS m) := by show _ = _; unfold sealS; rw [hm, Int.toNat_natCast]
  rw [hm, Int.toNat_natCast] at hd
  have hm9 : m < 1000000000 := by omega
  clear hm hc
  have hsz : (s ++ (⟨#[35]⟩ : ByteArray)).size = s.size + 1 := by rw [ByteArray.size_append]; rfl
  have hsz' : (s ++ (⟨#[35]⟩ : ByteArray)).size ≤ 1073741825 := by rw [hsz]; omega
  clear hsz
  go_enter Tryd.func40, Tryd.ntmps40
  go_wp2_with fail
  refine (l1Sum_ct s _ hs).mono ?_
  rintro e w2 ⟨rfl, rfl⟩
  rw [HM.out]
  go_wp2_with fail
  refine (l1Num_ct m hm9 _).mono ?_
  rintro e w3 ⟨rfl, hb⟩
  go_wp2_with fail
  go_ret
  exact ⟨by rw [HS.out]; rfl, hb⟩
set_option maxHeartbeats 2000000 in
theorem specAppendChecksum_ct (s : ByteArray) (w : World) (hs : s.size ≤ 1048576) : Calls Tryd.prog 11 #[.string s] w fun e w' => e = .returned (.tuple #[.string (appR s), .bool (appB s)]) ∧ Below w.heap.size w w' := by
  by_cases h1 : s.size ≤ 4000
  case neg =>
    have H := app_long h1
    have HR := Lib.hid (appR_no H)
    have HB := Lib.hid H
    rw [HR.out, HB.out]
    clear H HR HB
    go_enter Tryd.func11, Tryd.ntmps11
    go_wp2_with fail
    go_ret2
    exact ⟨rfl, Below.refl _ _⟩
  cases h2 : standsB s 35 with
  | true =>
    have H := app_stands h2
    have HR := Lib.hid (appR_no H)
    have HB := Lib.hid H
    rw [HR.out, HB.out]
    clear H HR HB
    go_enter Tryd.func11, Tryd.ntmps11
    go_wp2_with fail
    refine (l1Stands_ct s 35 true _ (by omega) h2).mono ?_
    rintro e w2 ⟨rfl, rfl⟩
    go_wp2_with fail
    go_ret2
    exact ⟨rfl, Below.refl _ _⟩
  | false =>
    by_cases h3 : (sealS s).size ≤ 4000
    · have H := app_yes h1 h2 h3
      have HR := Lib.hid (appR_yes H)
      have HB := Lib.hid H
      rw [HR.out, HB.out]
      clear H HR HB
      go_enter Tryd.func11, Tryd.ntmps11
      go_wp2_with fail
      refine (l1Stands_ct s 35 false _ (by omega) h2).mono ?_
      rintro e w2 ⟨rfl, rfl⟩
      clear h2
      go_wp2_with fail
      refine (l1Seal_ct s _ (by omega)).mono ?_
      rintro e w3 ⟨rfl, hb⟩
      go_wp2_with fail
      refine (l1Seal_ct s _ (by omega)).mono ?_
      rintro e w4 ⟨rfl, hb2⟩
      go_wp2_with fail
      go_ret2
      exact ⟨rfl, bthen hb hb2⟩
    · have H := app_big h3
      have HR := Lib.hid (appR_no H)
      have HB := Lib.hid H
      rw [HR.out, HB.out]
      clear H HR HB
      go_enter Tryd.func11, Tryd.ntmps11
      go_wp2_with fail
      refine (l1Stands_ct s 35 false _ (by omega) h2).mono ?_
      rintro e w2 ⟨rfl, rfl⟩
      clear h2
      go_wp2_with fail
      refine (l1Seal_ct s _ (by omega)).mono ?_
      rintro e w3 ⟨rfl, hb⟩
      go_wp2_with fail
      go_ret2
      exact ⟨rfl, hb⟩
set_option maxHeartbeats 2000000 in
theorem implAppendChecksum_ct (s : ByteArray) (w : World) (hs : s.size ≤ 1048576) (htab : Lib.TabIs Tryd.prog w "internal/strconv.uint64pow10" .u64 Lib.pow10Tab) : Calls Tryd.prog 12 #[.string s] w fun e w' => e = .returned (.tuple #[.string (appR s), .bool (appB s)]) ∧ Below w.heap.size w w' := by
  have HT := Lib.hid htab
  clear htab
  by_cases h1 : s.size ≤ 4000
  case neg =>
    have H := app_long h1
    have HR := Lib.hid (appR_no H)
    have HB := Lib.hid H
    rw [HR.out, HB.out]
    clear H HR HB
    go_enter Tryd.func12, Tryd.ntmps12
    go_wp2_with fail
    go_ret2
    exact ⟨rfl, Below.refl _ _⟩
  have hcon := Tryd.strings_Contains_one s 35 w
  have hcb : decide (0 ≤ Lib.indexByte s.data.toList 35) = standsB s 35 := by unfold standsB; rw [Lib.contains_iff_indexByte]
  rw [hcb] at hcon
  have HC := Lib.hid hcon
  clear hcon hcb
  cases h2 : standsB s 35 with
  | true =>
    have H := app_stands h2
    have HR := Lib.hid (appR_no H)
    have HB := Lib.hid H
    rw [HR.out, HB.out]
    clear H HR HB
    have HC := Lib.hid (h2 ▸ HC.out)
    go_enter Tryd.func12, Tryd.ntmps12
    go_wp2_with fail
    refine HC.out.mono ?_
    rintro e w2 ⟨rfl, rfl⟩
    go_wp2_with fail
    go_ret2
    exact ⟨rfl, Below.refl _ _⟩
  | false =>
    have HC := Lib.hid (h2 ▸ HC.out)
    have hc := csum_bd s.data.toList
    have hd := decS_csum s
    obtain ⟨m, hm⟩ : ∃ m : Nat, csum s.data.toList = m := ⟨(csum s.data.toList).toNat, by omega⟩
    have HM := Lib.hid hm
    have hm9 : m < 1000000000 := by omega
    have HS : Hid (sealS s = (s ++ ⟨#[35]⟩) ++ decS m) := by show _ = _; unfold sealS; rw [hm, Int.toNat_natCast]
    rw [hm, Int.toNat_natCast] at hd
    have hsz : (s ++ (⟨#[35]⟩ : ByteArray)).size = s.size + 1 := by rw [ByteArray.size_append]; rfl
    have hsz' : (s ++ (⟨#[35]⟩ : ByteArray)).size ≤ 4001 := by rw [hsz]; omega
    have hss : (sealS s).size = s.size + 1 + (decS m).size := by rw [HS.out, ByteArray.size_append, ByteArray.size_append]; rfl
    clear hsz hm hc
    by_cases h3 : (sealS s).size ≤ 4000
    · have H := app_yes h1 h2 h3
      have HR := Lib.hid (appR_yes H)
      have HB := Lib.hid H
      rw [HR.out, HB.out, HS.out]
      rw [hss] at h3
      clear H HR HB hss h2
      go_enter Tryd.func12, Tryd.ntmps12
      go_wp2_with fail
      refine HC.out.mono ?_
      rintro e w2 ⟨rfl, rfl⟩
      go_wp2_with fail
      refine (checksum_ct s _ (by omega)).mono ?_
      rintro e w3 ⟨rfl, rfl⟩
      rw [HM.out]
      go_wp2_with fail
      refine (dec_ct m hm9 _ HT.out).mono ?_
      rintro e w4 ⟨rfl, hb⟩
      go_wp2_with fail
      go_ret2
      exact ⟨rfl, hb⟩
    · have H := app_big h3
      have HR := Lib.hid (appR_no H)
      have HB := Lib.hid H
      rw [HR.out, HB.out]
      rw [hss] at h3
      clear H HR HB hss h2
      go_enter Tryd.func12, Tryd.ntmps12
      go_wp2_with fail
      refine HC.out.mono ?_
      rintro e w2 ⟨rfl, rfl⟩
      go_wp2_with fail
      refine (checksum_ct s _ (by omega)).mono ?_
      rintro e w3 ⟨rfl, rfl⟩
      rw [HM.out]
      go_wp2_with fail
      refine (dec_ct m hm9 _ HT.out).mono ?_
      rintro e w4 ⟨rfl, hb⟩
      go_wp2_with fail
      go_ret2
      exact ⟨rfl, hb⟩
end Go.Proofs.YtlkadcmicjencaaDoor
