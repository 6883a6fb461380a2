/- Names: strings of one to four small letters. -/
import Derived.Test.YtanndcclkmcfbaaDoorShelf
import Derived.Shelf.Strings.SlTrimAscii
import Derived.Test.YtanndcclkmcfbaaDoorSmall
namespace Go.Proofs.YtanndcclkmcfbaaDoor
open Go Go.RowKit Go.BigFrame

def lowB (c : UInt8) : Bool := decide (97 ≤ c.toNat) && decide (c.toNat ≤ 122)
def nameB (s : ByteArray) : Bool := decide (1 ≤ s.size ∧ s.size ≤ 4) && s.data.toList.all lowB
theorem get_byte {s : ByteArray} {k : Nat} (h : k < s.size) : s.data.toList[k]? = some s[k] := by
  rw [Array.getElem?_toList, Array.getElem?_eq_getElem h]; rfl
theorem name_not {s : ByteArray} {k : Nat} (h : k < s.size) (hl : lowB s[k] = false) : nameB s = false := by
  unfold nameB
  rw [Bool.and_eq_false_iff]
  right
  rw [List.all_eq_false]
  exact ⟨s[k], List.mem_of_getElem? (get_byte h), by simp [hl]⟩
theorem name_take {s : ByteArray} {k : Nat} (h : k < s.size) (hl : lowB s[k] = true) (ha : (s.data.toList.take k).all lowB = true) : (s.data.toList.take (k + 1)).all lowB = true := by
  rw [take_snoc s k h, List.all_append, ha]; simp [hl]

set_option maxHeartbeats 1000000 in
theorem l2Name_ct (s : ByteArray) (hs : s.size ≤ 1073741824) (r : Bool) (h : nameB s = r) (w : World) : Calls Tryd.prog 51 #[.string s] w fun e w' => e = .returned (.bool r) ∧ w' = w := by
  have HR : Hid (nameB s = r) := h
  clear h
  go_enter Tryd.func51, Tryd.ntmps51
  go_wp2_with fail
  go_loop [3] (fun i => ∃ k : Nat, k ≤ s.size ∧ i = .int .i64 k ∧ Hid ((s.data.toList.take k).all lowB = true)) (fun i => s.size - (intOf i).toNat)
  case atStart => exact ⟨0, Nat.zero_le _, rfl, (by show _ = _; simp)⟩
  case round =>
    obtain ⟨k, hk, rfl, HA⟩ := hrel
    by_cases hlt : k < s.size
    · by_cases h1 : (s[k].toNat : Int) < 97
      · have HN : Hid (r = false) := by
          rw [← HR.out]; exact name_not hlt (by unfold lowB; rw [decide_eq_false (by omega)]; rfl)
        go_wp2_with fail
        go_ret
        exact ⟨by rw [HN.out]; rfl, rfl⟩
      · by_cases h2 : (s[k].toNat : Int) > 122
        · have HN : Hid (r = false) := by
            rw [← HR.out]; exact name_not hlt (by unfold lowB; rw [decide_eq_false (p := s[k].toNat ≤ 122) (by omega)]; simp)
          go_wp2_with fail
          go_ret
          exact ⟨by rw [HN.out]; rfl, rfl⟩
        · have HT : Hid ((s.data.toList.take (k + 1)).all lowB = true) := name_take hlt (by unfold lowB; rw [decide_eq_true (by omega), decide_eq_true (by omega)]; rfl) HA.out
          go_wp2_with fail
          go_round
          case rel => exact ⟨k + 1, by omega, by go_num, HT⟩
          case measure => simp [intOf]; omega
    · have e : s.size = k := by omega
      have HN : Hid (r = decide (1 ≤ s.size ∧ s.size ≤ 4)) := by
        rw [← HR.out]; unfold nameB
        have := HA.out
        rw [List.take_of_length_le (by simp; omega)] at this
        show _ = _; rw [this, Bool.and_true]
      go_wp2_with (go_at_call 38; refine (l1In_ct _ _ _ r (by rw [HN.out, decide_eq_true_iff]; omega) _).mono ?_; rintro e w2 ⟨rfl, rfl⟩)
      go_ret
      exact ⟨rfl, rfl⟩

def abc : ByteArray := ⟨#[97, 98, 99, 100, 101, 102, 103, 104, 105, 106, 107, 108, 109, 110, 111, 112, 113, 114, 115, 116, 117, 118, 119, 120, 121, 122]⟩
theorem abc_iff (c : UInt8) : (abc.data.toList.contains c) = lowB c := by
  have h : ∀ n : Fin 256, (abc.data.toList.contains (UInt8.ofNat n.val)) = lowB (UInt8.ofNat n.val) := by decide +kernel
  have := h ⟨c.toNat, c.toNat_lt⟩
  simpa using this
theorem drop_nil {α : Type} {p : α → Bool} : ∀ {l : List α}, l.dropWhile p = [] ↔ ∀ x ∈ l, p x = true
  | [] => by simp
  | a :: l => by
    rw [List.dropWhile_cons]
    by_cases h : p a = true
    · rw [if_pos h, drop_nil]; simp [h]
    · rw [if_neg h]; simp [h]
theorem trim_nil (l cs : List UInt8) : Lib.trimS l cs = [] ↔ l.all (cs.contains ·) = true := by
  unfold Lib.trimS Lib.trimLeftS Lib.trimRightS
  rw [drop_nil]
  simp only [List.mem_reverse, List.all_eq_true]
  constructor
  · intro h x hx
    by_cases hc : cs.contains x = true
    · exact hc
    · have hm : x ∈ l.reverse.dropWhile (cs.contains ·) := by
        have := List.takeWhile_append_dropWhile (p := (cs.contains ·)) (l := l.reverse)
        have hx' : x ∈ l.reverse := List.mem_reverse.2 hx
        rw [← this] at hx'
        rcases List.mem_append.1 hx' with h2 | h2
        · exact absurd (List.all_eq_true.1 (List.all_takeWhile (p := (cs.contains ·)) (l := l.reverse)) x h2) hc
        · exact h2
      exact h x hm
  · intro h x hx
    exact h x (by have := (List.dropWhile_sublist _).subset hx; simpa using this)

set_option maxHeartbeats 1000000 in
theorem isName_ct (s : ByteArray) (hs : s.size ≤ 1073741824) (r : Bool) (h : nameB s = r) (w : World) : Calls Tryd.prog 46 #[.string s] w fun e w' => e = .returned (.bool r) ∧ Below w.heap.size w w' := by
  by_cases hn : 1 ≤ s.size ∧ s.size ≤ 4
  · obtain ⟨X, hX⟩ : ∃ X : ByteArray, X = ⟨(Lib.trimS s.data.toList abc.data.toList).toArray⟩ := ⟨_, rfl⟩
    have hT : Calls Tryd.prog 55 #[.string s, .string abc] w fun e w' => e = .returned (.string X) ∧ Below w.heap.size w w' := by
      rw [hX]; exact Any.strings_Trim_laid Tryd.lays160 (by kernel_rfl) s abc w (by omega) (by decide) (ascii_of_all (by decide))
    have hall : (s.data.toList.all (abc.data.toList.contains ·)) = s.data.toList.all lowB := by
      congr 1; funext c; exact abc_iff c
    unfold nameB at h
    rw [decide_eq_true hn, Bool.true_and, ← hall] at h
    have ht := trim_nil s.data.toList abc.data.toList
    rw [h] at ht
    clear h hall
    cases r with
    | true =>
      have : X = ⟨#[]⟩ := by rw [hX, ht.2 rfl]
      subst this
      clear hX ht
      unfold abc at hT
      go_enter Tryd.func46, Tryd.ntmps46
      go_wp2_with first | (go_at_call 43; refine (within_ct _ _ _ true (by simp; omega) _).mono ?_; rintro e w2 ⟨rfl, rfl⟩) | (go_at_call 55; refine hT.mono ?_; rintro e w2 ⟨rfl, hb⟩)
      go_ret
      exact ⟨rfl, hb⟩
    | false =>
      have hE : X.toList.isEmpty = false := by
        rw [ByteArray.toList_eq, hX]
        cases he : Lib.trimS s.data.toList abc.data.toList with
        | nil => have := ht.1 he; cases this
        | cons x l => simp
      clear hX ht
      unfold abc at hT
      go_enter Tryd.func46, Tryd.ntmps46
      go_wp2_with first | (go_at_call 43; refine (within_ct _ _ _ true (by simp; omega) _).mono ?_; rintro e w2 ⟨rfl, rfl⟩) | (go_at_call 55; refine hT.mono ?_; rintro e w2 ⟨rfl, hb⟩)
      go_ret
      exact ⟨by rw [← hE]; rfl, hb⟩
  · have : r = false := by rw [← h]; unfold nameB; rw [decide_eq_false hn]; rfl
    subst this
    clear h
    go_enter Tryd.func46, Tryd.ntmps46
    go_wp2_with (go_at_call 43; refine (within_ct _ _ _ false (by simp; omega) _).mono ?_; rintro e w2 ⟨rfl, rfl⟩)
    go_ret
    exact ⟨rfl, Below.refl _ _⟩
end Go.Proofs.YtanndcclkmcfbaaDoor
