/- Several texts in one: Types Small Elem1 Names NamesL Good Bds NewN Copy CopyI Rg2 Rg2N Lay AppR AtN RelP SortN. -/
import Derived.Test.YthgelhglfbgagaaGreatDoorProg
import Derived.Test.YthgelhglfbgagaaGreatDoorG1
import Derived.Test.YthgelhglfbgagaaGreatDoorShelf
import Derived.Shelf.Strings.SlTrimAscii
import Derived.ArgAppend
import Derived.Deep.Upon
import Derived.Lib.SlicesS
import Derived.Sort.OwnSorted
set_option linter.unusedVariables false
/- Rows of the program's table of types. -/
namespace Go.Proofs.YthgelhglfbgagaaGreatDoor
open Go Go.RowKit

theorem inf_int : (Tryz.prog.info? 3).map (fun i => (i.zero, i.size, i.bytes)) = some (some (.int .i64 0), 1, 8) := by kernel_rfl
theorem inf_str : (Tryz.prog.info? 9).map (fun i => (i.zero, i.size, i.bytes)) = some (some (.string ⟨#[]⟩), 1, 16) := by kernel_rfl
theorem inf_ctl : (Tryz.prog.info? 62).map (fun i => (i.zero, i.size, i.bytes)) = some (some (.agg #[.string ⟨#[]⟩, .int .i64 0, .int .i64 0]), 3, 32) := by kernel_rfl
theorem inf_wr : (Tryz.prog.info? 87).map (fun i => (i.zero, i.size, i.bytes)) = some (some (.agg #[.string ⟨#[]⟩, .int .i64 0]), 2, 24) := by kernel_rfl
theorem inf_nd : (Tryz.prog.info? 57).map (fun i => (i.zero, i.size, i.bytes)) = some (some (.agg #[.int .i64 0, .int .i64 0, .slice none 0 0]), 3, 40) := by kernel_rfl

end Go.Proofs.YthgelhglfbgagaaGreatDoor

/- Small functions of numbers. -/
namespace Go.Proofs.YthgelhglfbgagaaGreatDoor
open Go Go.RowKit Go.BigFrame

theorem dec_of {b : Bool} {p : Prop} [Decidable p] (h : b = true ↔ p) : b = decide p := by
  cases b <;> simp_all

set_option maxHeartbeats 400000 in
theorem l1In_ct (x lo hi : Int) (b : Bool) (hb : b = true ↔ lo ≤ x ∧ x ≤ hi) (w : World) :
    Calls Tryz.prog 21 #[.int .i64 x, .int .i64 lo, .int .i64 hi] w fun e w' => e = .returned (.bool b) ∧ w' = w := by
  obtain rfl := dec_of hb
  clear hb
  by_cases h1 : lo ≤ x <;> by_cases h2 : x ≤ hi
  all_goals
    go_enter Tryz.func21, Tryz.ntmps21
    go_wp2
    go_ret
    exact ⟨ret_bool (by simp; try omega), rfl⟩
set_option maxHeartbeats 400000 in
theorem within_ct (x lo hi : Int) (b : Bool) (hb : b = true ↔ lo ≤ x ∧ x ≤ hi) (w : World) :
    Calls Tryz.prog 82 #[.int .i64 x, .int .i64 lo, .int .i64 hi] w fun e w' => e = .returned (.bool b) ∧ w' = w := by
  obtain rfl := dec_of hb
  clear hb
  by_cases h1 : lo ≤ x <;> by_cases h2 : x ≤ hi
  all_goals
    go_enter Tryz.func82, Tryz.ntmps82
    go_wp2
    go_ret
    exact ⟨ret_bool (by simp; try omega), rfl⟩

end Go.Proofs.YthgelhglfbgagaaGreatDoor

/- The elements of numbers alone: barren roots, swaps, merges. -/
namespace Go.Proofs.YthgelhglfbgagaaGreatDoor
open Go Go.RowKit Go.BigFrame

def noBig : Big := ⟨0, [], [], 0, [], []⟩
theorem own_none (B : Nat) (w : World) (sz : Nat) (a : Option Addr) (c : Nat) : RowOwn B w (.slice a 0 c) sz [] := ⟨fun r hr => (by cases hr), .inl ⟨rfl, _, _, rfl⟩⟩
theorem nds_none (B : Nat) (w : World) : NdsOwn B w (.slice none 0 0) [] [] := ⟨[], rfl, own_none _ _ _ _ _, by simp, fun n hn => (by cases hn), fun n hn => (by cases hn), rfl⟩
theorem ints_none (B : Nat) (w : World) : IntsOwn B w (.slice none 0 0) [] := ⟨own_none _ _ _ _ _, by simp, fun n hn => (by cases hn)⟩
theorem strs_none (B : Nat) (w : World) : StrsOwn B w (.slice none 0 0) [] := ⟨own_none _ _ _ _ _, by simp, fun n hn => (by cases hn)⟩
theorem wrs_none (B : Nat) (w : World) : WrsOwn B w (.slice none 0 0) [] := ⟨own_none _ _ _ _ _, by simp, fun n hn => (by cases hn)⟩
theorem noBig_own (B : Nat) (w : World) : BigOwn B w (.agg #[.int .i64 0, .slice none 0 0, .slice none 0 0, .int .i64 0, .slice none 0 0, .slice none 0 0]) noBig [] :=
  ⟨_, _, _, _, [], rfl, nds_none _ _, ints_none _ _, strs_none _ _, wrs_none _ _, by unfold I64; decide, by unfold I64; decide, rfl⟩

theorem BigAt.shape {w : World} {v : Value} {b : Big} (h : BigAt w v b) : ∃ a1 c1 a2 c2 a3 c3 a4 c4, v = .agg #[.int .i64 b.roots, .slice a1 b.nodes.length c1, .slice a2 b.sites.length c2, .int .i64 b.edges, .slice a3 b.outer.length c3, .slice a4 b.inner.length c4] := by
  obtain ⟨vn, vs, vo, vi, rfl, h1, h2, h3, h4, _⟩ := h
  obtain ⟨a1, c1, rfl, _⟩ := h1.open
  obtain ⟨a2, c2, rfl, _⟩ := h2.open
  obtain ⟨a3, c3, rfl, _⟩ := h3.open
  obtain ⟨a4, c4, rfl, _⟩ := h4.open
  exact ⟨a1, c1, a2, c2, a3, c3, a4, c4, rfl⟩

/-- A function hands back a bigraph that it owns, and whether all is well. -/
def GivesBig (R : Big) (ok : Bool) (w : World) (e : Ending) (w' : World) : Prop :=
  ∃ v bs, e = .returned (.tuple #[v, .bool ok]) ∧ BigOwn w.heap.size w' v R bs ∧ bs.Nodup ∧ Below w.heap.size w w' 

def barrenP (n : Int) : Big := if 0 ≤ n ∧ n ≤ 4 then ⟨n, [], [], 0, [], []⟩ else noBig
def barrenB (n : Int) : Bool := decide (0 ≤ n ∧ n ≤ 4)
theorem barren_own (B : Nat) (w : World) (n : Int) (hn : 0 ≤ n ∧ n ≤ 4) : BigOwn B w (.agg #[.int .i64 n, .slice none 0 0, .slice none 0 0, .int .i64 0, .slice none 0 0, .slice none 0 0]) ⟨n, [], [], 0, [], []⟩ [] :=
  ⟨_, _, _, _, [], rfl, nds_none _ _, ints_none _ _, strs_none _ _, wrs_none _ _, by unfold I64; dsimp only; omega, by unfold I64; dsimp only; omega, rfl⟩


end Go.Proofs.YthgelhglfbgagaaGreatDoor

/- Names: strings of one to four small letters. -/
namespace Go.Proofs.YthgelhglfbgagaaGreatDoor
open Go Go.RowKit Go.BigFrame

def lowB (c : UInt8) : Bool := decide (97 ≤ c.toNat) && decide (c.toNat ≤ 122)
def nameB (s : ByteArray) : Bool := decide (1 ≤ s.size ∧ s.size ≤ 4) && s.data.toList.all lowB
theorem get_byte {s : ByteArray} {k : Nat} (h : k < s.size) : s.data.toList[k]? = some s[k] := by
  rw [Array.getElem?_toList, Array.getElem?_eq_getElem h]; rfl
theorem name_not {s : ByteArray} {k : Nat} (h : k < s.size) (hl : lowB s[k] = false) : nameB s = false := by
  unfold nameB
  rw [Bool.and_eq_false_iff]
  right
  rw [List.all_eq_false]
  exact ⟨s[k], List.mem_of_getElem? (get_byte h), by simp [hl]⟩
theorem name_take {s : ByteArray} {k : Nat} (h : k < s.size) (hl : lowB s[k] = true) (ha : (s.data.toList.take k).all lowB = true) : (s.data.toList.take (k + 1)).all lowB = true := by
  rw [take_snoc s k h, List.all_append, ha]; simp [hl]

set_option maxHeartbeats 1000000 in
theorem l2Name_ct (s : ByteArray) (hs : s.size ≤ 1073741824) (r : Bool) (h : nameB s = r) (w : World) : Calls Tryz.prog 71 #[.string s] w fun e w' => e = .returned (.bool r) ∧ w' = w := by
  have HR : Hid (nameB s = r) := h
  clear h
  go_enter Tryz.func71, Tryz.ntmps71
  go_wp2_with fail
  go_loop [3] (fun i => ∃ k : Nat, k ≤ s.size ∧ i = .int .i64 k ∧ Hid ((s.data.toList.take k).all lowB = true)) (fun i => s.size - (intOf i).toNat)
  case atStart => exact ⟨0, Nat.zero_le _, rfl, (by show _ = _; simp)⟩
  case round =>
    obtain ⟨k, hk, rfl, HA⟩ := hrel
    by_cases hlt : k < s.size
    · by_cases h1 : (s[k].toNat : Int) < 97
      · have HN : Hid (r = false) := by
          rw [← HR.out]; exact name_not hlt (by unfold lowB; rw [decide_eq_false (by omega)]; rfl)
        go_wp2_with fail
        go_ret
        exact ⟨by rw [HN.out]; rfl, rfl⟩
      · by_cases h2 : (s[k].toNat : Int) > 122
        · have HN : Hid (r = false) := by
            rw [← HR.out]; exact name_not hlt (by unfold lowB; rw [decide_eq_false (p := s[k].toNat ≤ 122) (by omega)]; simp)
          go_wp2_with fail
          go_ret
          exact ⟨by rw [HN.out]; rfl, rfl⟩
        · have HT : Hid ((s.data.toList.take (k + 1)).all lowB = true) := name_take hlt (by unfold lowB; rw [decide_eq_true (by omega), decide_eq_true (by omega)]; rfl) HA.out
          go_wp2_with fail
          go_round
          case rel => exact ⟨k + 1, by omega, by go_num, HT⟩
          case measure => simp [intOf]; omega
    · have e : s.size = k := by omega
      have HN : Hid (r = decide (1 ≤ s.size ∧ s.size ≤ 4)) := by
        rw [← HR.out]; unfold nameB
        have := HA.out
        rw [List.take_of_length_le (by simp; omega)] at this
        show _ = _; rw [this, Bool.and_true]
      go_wp2_with (go_at_call 21; refine (l1In_ct _ _ _ r (by rw [HN.out, decide_eq_true_iff]; omega) _).mono ?_; rintro e w2 ⟨rfl, rfl⟩)
      go_ret
      exact ⟨rfl, rfl⟩

def abc : ByteArray := ⟨#[97, 98, 99, 100, 101, 102, 103, 104, 105, 106, 107, 108, 109, 110, 111, 112, 113, 114, 115, 116, 117, 118, 119, 120, 121, 122]⟩
theorem abc_iff (c : UInt8) : (abc.data.toList.contains c) = lowB c := by
  have h : ∀ n : Fin 256, (abc.data.toList.contains (UInt8.ofNat n.val)) = lowB (UInt8.ofNat n.val) := by decide +kernel
  have := h ⟨c.toNat, c.toNat_lt⟩
  simpa using this
theorem drop_nil {α : Type} {p : α → Bool} : ∀ {l : List α}, l.dropWhile p = [] ↔ ∀ x ∈ l, p x = true
  | [] => by simp
  | a :: l => by
    rw [List.dropWhile_cons]
    by_cases h : p a = true
    · rw [if_pos h, drop_nil]; simp [h]
    · rw [if_neg h]; simp [h]
theorem trim_nil (l cs : List UInt8) : Lib.trimS l cs = [] ↔ l.all (cs.contains ·) = true := by
  unfold Lib.trimS Lib.trimLeftS Lib.trimRightS
  rw [drop_nil]
  simp only [List.mem_reverse, List.all_eq_true]
  constructor
  · intro h x hx
    by_cases hc : cs.contains x = true
    · exact hc
    · have hm : x ∈ l.reverse.dropWhile (cs.contains ·) := by
        have := List.takeWhile_append_dropWhile (p := (cs.contains ·)) (l := l.reverse)
        have hx' : x ∈ l.reverse := List.mem_reverse.2 hx
        rw [← this] at hx'
        rcases List.mem_append.1 hx' with h2 | h2
        · exact absurd (List.all_eq_true.1 (List.all_takeWhile (p := (cs.contains ·)) (l := l.reverse)) x h2) hc
        · exact h2
      exact h x hm
  · intro h x hx
    exact h x (by have := (List.dropWhile_sublist _).subset hx; simpa using this)

set_option maxHeartbeats 1000000 in
theorem isName_ct (s : ByteArray) (hs : s.size ≤ 1073741824) (r : Bool) (h : nameB s = r) (w : World) : Calls Tryz.prog 83 #[.string s] w fun e w' => e = .returned (.bool r) ∧ Below w.heap.size w w' := by
  by_cases hn : 1 ≤ s.size ∧ s.size ≤ 4
  · obtain ⟨X, hX⟩ : ∃ X : ByteArray, X = ⟨(Lib.trimS s.data.toList abc.data.toList).toArray⟩ := ⟨_, rfl⟩
    have hT : Calls Tryz.prog 117 #[.string s, .string abc] w fun e w' => e = .returned (.string X) ∧ Below w.heap.size w w' := by
      rw [hX]; exact Any.strings_Trim_laid Tryz.lays160 (by kernel_rfl) s abc w (by omega) (by decide) (ascii_of_all (by decide))
    have hall : (s.data.toList.all (abc.data.toList.contains ·)) = s.data.toList.all lowB := by
      congr 1; funext c; exact abc_iff c
    unfold nameB at h
    rw [decide_eq_true hn, Bool.true_and, ← hall] at h
    have ht := trim_nil s.data.toList abc.data.toList
    rw [h] at ht
    clear h hall
    cases r with
    | true =>
      have : X = ⟨#[]⟩ := by rw [hX, ht.2 rfl]
      subst this
      clear hX ht
      unfold abc at hT
      go_enter Tryz.func83, Tryz.ntmps83
      go_wp2_with first | (go_at_call 82; refine (within_ct _ _ _ true (by simp; omega) _).mono ?_; rintro e w2 ⟨rfl, rfl⟩) | (go_at_call 117; refine hT.mono ?_; rintro e w2 ⟨rfl, hb⟩)
      go_ret
      exact ⟨rfl, hb⟩
    | false =>
      have hE : X.toList.isEmpty = false := by
        rw [ByteArray.toList_eq, hX]
        cases he : Lib.trimS s.data.toList abc.data.toList with
        | nil => have := ht.1 he; cases this
        | cons x l => simp
      clear hX ht
      unfold abc at hT
      go_enter Tryz.func83, Tryz.ntmps83
      go_wp2_with first | (go_at_call 82; refine (within_ct _ _ _ true (by simp; omega) _).mono ?_; rintro e w2 ⟨rfl, rfl⟩) | (go_at_call 117; refine hT.mono ?_; rintro e w2 ⟨rfl, hb⟩)
      go_ret
      exact ⟨by rw [← hE]; rfl, hb⟩
  · have : r = false := by rw [← h]; unfold nameB; rw [decide_eq_false hn]; rfl
    subst this
    clear h
    go_enter Tryz.func83, Tryz.ntmps83
    go_wp2_with (go_at_call 82; refine (within_ct _ _ _ false (by simp; omega) _).mono ?_; rintro e w2 ⟨rfl, rfl⟩)
    go_ret
    exact ⟨rfl, Below.refl _ _⟩
end Go.Proofs.YthgelhglfbgagaaGreatDoor

/- Lists of names: ascending, not too many. -/
namespace Go.Proofs.YthgelhglfbgagaaGreatDoor
open Go Go.RowKit Go.BigFrame

def stepB (l : List ByteArray) (k : Nat) : Bool :=
  match l[k]? with
  | some s => nameB s && (match k with | 0 => true | j + 1 => match l[j]? with | some p => Op.bytesLess p.toList s.toList | none => true)
  | none => true
def namesB (l : List ByteArray) : Bool := (List.range l.length).all (stepB l) && decide (l.length ≤ 16)
theorem step_0 {l : List ByteArray} {s : ByteArray} (h : l[0]? = some s) : stepB l 0 = nameB s := by unfold stepB; simp [h]
theorem step_s {l : List ByteArray} {k : Nat} {s p : ByteArray} (h : l[k + 1]? = some s) (h' : l[k]? = some p) : stepB l (k + 1) = (nameB s && Op.bytesLess p.toList s.toList) := by unfold stepB; simp [h, h']
theorem names_not {l : List ByteArray} {k : Nat} (h : k < l.length) (hs : stepB l k = false) : namesB l = false := by
  unfold namesB
  rw [Bool.and_eq_false_iff]; left
  rw [List.all_eq_false]
  exact ⟨k, List.mem_range.2 h, by simp [hs]⟩
theorem range_snoc {l : List ByteArray} {k : Nat} (h : (List.range k).all (stepB l) = true) (hs : stepB l k = true) : (List.range (k + 1)).all (stepB l) = true := by
  rw [List.range_succ, List.all_append, h]; simp [hs]
theorem less_tri : ∀ x y : List UInt8, Op.bytesLess x y = false → Op.bytesLess y x = true ∨ (Op.bytesLess y x = false ∧ (y == x) = true)
  | [], [], _ => .inr ⟨rfl, rfl⟩
  | [], _ :: _, h => by simp [Op.bytesLess] at h
  | _ :: _, [], _ => .inl rfl
  | a :: x, b :: y, h => by
    simp only [Op.bytesLess, Bool.or_eq_false_iff, decide_eq_false_iff_not] at h
    obtain ⟨h1, h2⟩ := h
    by_cases hab : b < a
    · left; simp [Op.bytesLess, hab]
    · have e : a = b := by
        apply UInt8.toNat_inj.1
        have h1' : ¬ a.toNat < b.toNat := h1
        have h2' : ¬ b.toNat < a.toNat := hab
        omega
      subst e
      have h3 : Op.bytesLess x y = false := by simpa using h2
      rcases less_tri x y h3 with h4 | ⟨h4, h5⟩
      · left; simp [Op.bytesLess, h4]
      · right
        refine ⟨by simp [Op.bytesLess, h4, hab], ?_⟩
        simpa using h5
theorem less_asym : ∀ x y : List UInt8, Op.bytesLess x y = true → Op.bytesLess y x = false ∧ (y == x) = false
  | [], [], h => by simp [Op.bytesLess] at h
  | [], _ :: _, _ => ⟨rfl, rfl⟩
  | _ :: _, [], h => by simp [Op.bytesLess] at h
  | a :: x, b :: y, h => by
    simp only [Op.bytesLess, Bool.or_eq_true, decide_eq_true_eq, Bool.and_eq_true, beq_iff_eq] at h
    rcases h with h | ⟨rfl, h⟩
    · have h1 : a.toNat < b.toNat := h
      have h2 : ¬ b < a := by intro h3; have h3 : b.toNat < a.toNat := h3; omega
      have h4 : ¬ b = a := by rintro rfl; omega
      exact ⟨by simp [Op.bytesLess, h2, h4], by simp [h4]⟩
    · obtain ⟨h3, h4⟩ := less_asym x y h
      have h5 : ¬ a < a := by intro h5; have h5 : a.toNat < a.toNat := h5; omega
      exact ⟨by simp [Op.bytesLess, h3, h5], by simpa using h4⟩

set_option maxHeartbeats 1000000 in
theorem l2Names_ct (v : Value) (l : List ByteArray) (r : Bool) (w : World) (h : StrsAt w v l) (hr : namesB l = r) : Calls Tryz.prog 76 #[v] w fun e w' => e = .returned (.bool r) ∧ Below w.heap.size w w' := by
  have HR : Hid (namesB l = r) := hr
  clear hr
  obtain ⟨a, c, rfl, h1, h2, h3⟩ := h.open
  clear h
  go_enter Tryz.func76, Tryz.ntmps76
  go_wp2_with fail
  go_loopw [3] (fun i W => ∃ k : Nat, k ≤ l.length ∧ i = .int .i64 k ∧ Below w.heap.size w W ∧ Hid ((List.range k).all (stepB l) = true)) (fun i _ => l.length - (intOf i).toNat)
  case atStart => exact ⟨0, Nat.zero_le _, rfl, Below.refl _ _, rfl⟩
  case round =>
    obtain ⟨k, hk, rfl, hb, HA⟩ := hrel
    by_cases hlt : k < l.length
    · obtain ⟨s, hs⟩ := getElem?_of_lt hlt
      obtain ⟨hsz, b, o, rfl, hc⟩ := h3 k s hs
      have hc := (hb.cell (World.block_lt_of_cell? w _ hc)).trans hc
      cases k with
      | zero =>
        have hc : wr.cell? ⟨b, o, none⟩ = some (.string s) := by simpa using hc
        cases hnm : nameB s with
        | false =>
          have HN : Hid (r = false) := by rw [← HR.out]; exact names_not hlt (by rw [step_0 hs, hnm])
          clear h3
          go_wp2_with fail
          refine wp_region_gr (by kernel_rfl) (by kernel_rfl) ?_
          have g := fun y => gr_cell (w := wr) hc y
          skip
          repeat (go_big_quiet_step ((go_at_call 71; exact Calls.gr_same (l2Name_ct s hsz false hnm _))))
          refine wpQuiet_nil ?_
          intro w2 hb2
          have hb := bthen hb hb2
          go_wp2_with fail
          go_ret
          exact ⟨by rw [HN.out]; rfl, hb⟩

        | true =>
          have HT : Hid ((List.range 1).all (stepB l) = true) := range_snoc HA.out (by rw [step_0 hs, hnm])
          clear h3
          go_wp2_with fail
          refine wp_region_gr (by kernel_rfl) (by kernel_rfl) ?_
          have g := fun y => gr_cell (w := wr) hc y
          skip
          repeat (go_big_quiet_step ((go_at_call 71; exact Calls.gr_same (l2Name_ct s hsz true hnm _))))
          refine wpQuiet_nil ?_
          intro w2 hb2
          have hb := bthen hb hb2
          go_wp2_with fail
          go_roundw
          case rel => exact ⟨1, by omega, by go_num, hb, HT⟩
          case measure => simp [intOf]; omega

      | succ k =>
        obtain ⟨p, hp0⟩ := getElem?_of_lt (show k < l.length by omega)
        obtain ⟨hpz, b', o', he, hp⟩ := h3 k p hp0
        obtain ⟨rfl, rfl⟩ : b = b' ∧ o = o' := by simpa using he
        clear he
        have hp := (hb.cell (World.block_lt_of_cell? w _ hp)).trans hp
        cases hnm : nameB s with
        | false =>
          have HN : Hid (r = false) := by rw [← HR.out]; exact names_not hlt (by rw [step_s hs hp0, hnm]; rfl)
          clear h3
          go_wp2_with fail
          refine wp_region_gr (by kernel_rfl) (by kernel_rfl) ?_
          have g := fun y => gr_cell (w := wr) hc y
          have g2 := fun y => gr_cell (w := wr) hp y
          repeat (go_big_quiet_step ((go_at_call 71; exact Calls.gr_same (l2Name_ct s hsz false hnm _))))
          refine wpQuiet_nil ?_
          intro w2 hb2
          have hb := bthen hb hb2
          go_wp2_with fail
          go_ret
          exact ⟨by rw [HN.out]; rfl, hb⟩

        | true =>
          cases hup : Op.bytesLess p.toList s.toList with
          | true =>
            have HT : Hid ((List.range (k + 1 + 1)).all (stepB l) = true) := range_snoc HA.out (by rw [step_s hs hp0, hnm, hup]; rfl)
            obtain ⟨hq1, hq2⟩ := less_asym _ _ hup
            clear h3
            go_wp2_with fail
            refine wp_region_gr (by kernel_rfl) (by kernel_rfl) ?_
            have g := fun y => gr_cell (w := wr) hc y
            have g2 := fun y => gr_cell (w := wr) hp y
            repeat (go_big_quiet_step ((go_at_call 71; exact Calls.gr_same (l2Name_ct s hsz true hnm _))))
            refine wpQuiet_nil ?_
            intro w2 hb2
            have hb := bthen hb hb2
            go_wp2_with fail
            go_roundw
            case rel => exact ⟨k + 1 + 1, by omega, by go_num, hb, HT⟩
            case measure => simp [intOf]; omega

          | false =>
            have HN : Hid (r = false) := by rw [← HR.out]; exact names_not hlt (by rw [step_s hs hp0, hnm, hup]; rfl)
            clear h3
            rcases less_tri _ _ hup with hq1 | ⟨hq1, hq2⟩
            · skip
              go_wp2_with fail
              refine wp_region_gr (by kernel_rfl) (by kernel_rfl) ?_
              have g := fun y => gr_cell (w := wr) hc y
              have g2 := fun y => gr_cell (w := wr) hp y
              repeat (go_big_quiet_step ((go_at_call 71; exact Calls.gr_same (l2Name_ct s hsz true hnm _))))
              refine wpQuiet_nil ?_
              intro w2 hb2
              have hb := bthen hb hb2
              go_wp2_with fail
              go_ret
              exact ⟨by rw [HN.out]; rfl, hb⟩

            · skip
              go_wp2_with fail
              refine wp_region_gr (by kernel_rfl) (by kernel_rfl) ?_
              have g := fun y => gr_cell (w := wr) hc y
              have g2 := fun y => gr_cell (w := wr) hp y
              repeat (go_big_quiet_step ((go_at_call 71; exact Calls.gr_same (l2Name_ct s hsz true hnm _))))
              refine wpQuiet_nil ?_
              intro w2 hb2
              have hb := bthen hb hb2
              go_wp2_with fail
              go_ret
              exact ⟨by rw [HN.out]; rfl, hb⟩

    · have HN : Hid (r = decide (l.length ≤ 16)) := by
        rw [← HR.out]; unfold namesB
        have e : l.length = k := by omega
        have := HA.out
        rw [← e] at this
        show _ = _; rw [this, Bool.true_and]
      clear h3
      go_wp2_with fail
      go_ret
      exact ⟨ret_bool (by rw [HN.out]; simp; try omega), hb⟩

set_option maxHeartbeats 1000000 in
theorem areNames_ct (v : Value) (l : List ByteArray) (r : Bool) (w : World) (h : StrsAt w v l) (hr : namesB l = r) : Calls Tryz.prog 90 #[v] w fun e w' => e = .returned (.bool r) ∧ Below w.heap.size w w' := by
  have HR : Hid (namesB l = r) := hr
  clear hr
  obtain ⟨a, c, rfl, h1, h2, h3⟩ := h.open
  clear h
  go_enter Tryz.func90, Tryz.ntmps90
  go_wp2_with fail
  go_loopw [7] (fun i W => ∃ k : Nat, k ≤ l.length ∧ i = .int .i64 k ∧ Below w.heap.size w W ∧ Hid ((List.range k).all (stepB l) = true)) (fun i _ => l.length - (intOf i).toNat)
  case atStart => exact ⟨0, Nat.zero_le _, rfl, Below.refl _ _, rfl⟩
  case round =>
    obtain ⟨k, hk, rfl, hb, HA⟩ := hrel
    by_cases hlt : k < l.length
    · obtain ⟨s, hs⟩ := getElem?_of_lt hlt
      obtain ⟨hsz, b, o, rfl, hc⟩ := h3 k s hs
      have hc := (hb.cell (World.block_lt_of_cell? w _ hc)).trans hc
      cases k with
      | zero =>
        have hc : wr.cell? ⟨b, o, none⟩ = some (.string s) := by simpa using hc
        cases hnm : nameB s with
        | false =>
          have HN : Hid (r = false) := by rw [← HR.out]; exact names_not hlt (by rw [step_0 hs, hnm])
          clear h3
          go_wp2_with (go_at_call 83; refine (isName_ct s hsz false hnm _).mono ?_; rintro e w2 ⟨rfl, hb2⟩)
          have hb := bthen hb hb2
          go_ret
          exact ⟨by rw [HN.out]; rfl, hb⟩

        | true =>
          have HT : Hid ((List.range 1).all (stepB l) = true) := range_snoc HA.out (by rw [step_0 hs, hnm])
          clear h3
          go_wp2_with (go_at_call 83; refine (isName_ct s hsz true hnm _).mono ?_; rintro e w2 ⟨rfl, hb2⟩)
          have hb := bthen hb hb2
          go_roundw
          case rel => exact ⟨1, by omega, by go_num, hb, HT⟩
          case measure => simp [intOf]; omega

      | succ k =>
        obtain ⟨p, hp0⟩ := getElem?_of_lt (show k < l.length by omega)
        obtain ⟨hpz, b', o', he, hp⟩ := h3 k p hp0
        obtain ⟨rfl, rfl⟩ : b = b' ∧ o = o' := by simpa using he
        clear he
        have hp := (hb.cell (World.block_lt_of_cell? w _ hp)).trans hp
        cases hnm : nameB s with
        | false =>
          have HN : Hid (r = false) := by rw [← HR.out]; exact names_not hlt (by rw [step_s hs hp0, hnm]; rfl)
          clear h3
          go_wp2_with (go_at_call 83; refine (isName_ct s hsz false hnm _).mono ?_; rintro e w2 ⟨rfl, hb2⟩; have hp2 := (hb2.cell (World.block_lt_of_cell? _ _ hp)).trans hp)
          have hb := bthen hb hb2
          go_ret
          exact ⟨by rw [HN.out]; rfl, hb⟩

        | true =>
          cases hup : Op.bytesLess p.toList s.toList with
          | true =>
            have HT : Hid ((List.range (k + 1 + 1)).all (stepB l) = true) := range_snoc HA.out (by rw [step_s hs hp0, hnm, hup]; rfl)
            obtain ⟨hq1, hq2⟩ := less_asym _ _ hup
            clear h3
            go_wp2_with (go_at_call 83; refine (isName_ct s hsz true hnm _).mono ?_; rintro e w2 ⟨rfl, hb2⟩; have hp2 := (hb2.cell (World.block_lt_of_cell? _ _ hp)).trans hp)
            have hb := bthen hb hb2
            go_roundw
            case rel => exact ⟨k + 1 + 1, by omega, by go_num, hb, HT⟩
            case measure => simp [intOf]; omega

          | false =>
            have HN : Hid (r = false) := by rw [← HR.out]; exact names_not hlt (by rw [step_s hs hp0, hnm, hup]; rfl)
            clear h3
            rcases less_tri _ _ hup with hq1 | ⟨hq1, hq2⟩
            · skip
              go_wp2_with (go_at_call 83; refine (isName_ct s hsz true hnm _).mono ?_; rintro e w2 ⟨rfl, hb2⟩; have hp2 := (hb2.cell (World.block_lt_of_cell? _ _ hp)).trans hp)
              have hb := bthen hb hb2
              go_ret
              exact ⟨by rw [HN.out]; rfl, hb⟩

            · skip
              go_wp2_with (go_at_call 83; refine (isName_ct s hsz true hnm _).mono ?_; rintro e w2 ⟨rfl, hb2⟩; have hp2 := (hb2.cell (World.block_lt_of_cell? _ _ hp)).trans hp)
              have hb := bthen hb hb2
              go_ret
              exact ⟨by rw [HN.out]; rfl, hb⟩

    · have HN : Hid (r = decide (l.length ≤ 16)) := by
        rw [← HR.out]; unfold namesB
        have e : l.length = k := by omega
        have := HA.out
        rw [← e] at this
        show _ = _; rw [this, Bool.true_and]
      clear h3
      go_wp2_with fail
      go_ret
      exact ⟨ret_bool (by rw [HN.out]; simp; try omega), hb⟩

end Go.Proofs.YthgelhglfbgagaaGreatDoor

/- When a signature and a bigraph are valid. Plain words; no program in sight. -/
namespace Go.Proofs.YthgelhglfbgagaaGreatDoor
open Go Go.RowKit

theorem all_range_not {f : Nat → Bool} {n k : Nat} (h : k < n) (hs : f k = false) : (List.range n).all f = false := by
  rw [List.all_eq_false]
  exact ⟨k, List.mem_range.2 h, by simp [hs]⟩
theorem all_range_snoc {f : Nat → Bool} {k : Nat} (h : (List.range k).all f = true) (hs : f k = true) : (List.range (k + 1)).all f = true := by
  rw [List.range_succ, List.all_append, h]; simp [hs]
theorem all_take_snoc {α : Type} {f : α → Bool} {l : List α} {k : Nat} {x : α} (h : (l.take k).all f = true) (hx : l[k]? = some x) (hs : f x = true) : (l.take (k + 1)).all f = true := by
  rw [take_snoc_l hx, List.all_append, h]; simp [hs]
theorem all_not {α : Type} {f : α → Bool} {l : List α} {k : Nat} {x : α} (hx : l[k]? = some x) (hs : f x = false) : l.all f = false := by
  rw [List.all_eq_false]
  exact ⟨x, List.mem_of_getElem? hx, by simp [hs]⟩
theorem all_full {α : Type} {f : α → Bool} {l : List α} {k : Nat} {r : Bool} (hk : l.length ≤ k) (h : (l.take k).all f = r) : l.all f = r := by
  rwa [List.take_of_length_le hk] at h

/-! ### Signatures -/
def ctlB (c : Ctl) : Bool := nameB c.name && (decide (0 ≤ c.ports ∧ c.ports ≤ 3) && decide (0 ≤ c.kind ∧ c.kind ≤ 2))
def otherB (c d : Ctl) : Bool := !(d.name.toList == c.name.toList)
def sigStep (l : List Ctl) (k : Nat) : Bool :=
  match l[k]? with
  | some c => ctlB c && (l.take k).all (otherB c)
  | none => true
def sigB (l : List Ctl) : Bool := (List.range l.length).all (sigStep l) && decide (1 ≤ l.length ∧ l.length ≤ 6)
theorem sigStep_eq {l : List Ctl} {k : Nat} {c : Ctl} (h : l[k]? = some c) : sigStep l k = (ctlB c && (l.take k).all (otherB c)) := by unfold sigStep; rw [h]
theorem sig_not {l : List Ctl} {k : Nat} (h : k < l.length) (hs : sigStep l k = false) : sigB l = false := by
  unfold sigB; rw [all_range_not h hs]; rfl
theorem sig_len_not {l : List Ctl} (h : ¬ (1 ≤ l.length ∧ l.length ≤ 6)) : sigB l = false := by
  unfold sigB; rw [decide_eq_false h, Bool.and_false]
theorem sig_len {l : List Ctl} (h : sigB l = true) : 1 ≤ l.length ∧ l.length ≤ 6 := by
  unfold sigB at h; simp only [Bool.and_eq_true, decide_eq_true_eq] at h; exact h.2
theorem sig_ctl {l : List Ctl} (h : sigB l = true) {k : Nat} {c : Ctl} (hc : l[k]? = some c) : ctlB c = true := by
  unfold sigB at h
  simp only [Bool.and_eq_true, List.all_eq_true, List.mem_range] at h
  have := h.1 k (List.getElem?_eq_some_iff.1 hc).1
  rw [sigStep_eq hc, Bool.and_eq_true] at this
  exact this.1
theorem ctl_ports {c : Ctl} (h : ctlB c = true) : 0 ≤ c.ports ∧ c.ports ≤ 3 := by
  unfold ctlB at h; simp only [Bool.and_eq_true, decide_eq_true_eq] at h; exact h.2.1
theorem ctl_name {c : Ctl} (h : ctlB c = true) : nameB c.name = true := by
  unfold ctlB at h; simp only [Bool.and_eq_true, decide_eq_true_eq] at h; exact h.1

/-! ### Bigraphs -/
def linkB (b : Big) (l : Int) : Bool := decide (0 ≤ l ∧ l ≤ b.edges + b.outer.length - 1)
def solidB (sig : List Ctl) (b : Big) (p : Int) : Bool :=
  match b.nodes[p.toNat]? with
  | some n => (match sig[n.ctl.toNat]? with | some c => !decide (c.kind = 2) | none => false)
  | none => false
def underB (sig : List Ctl) (b : Big) (below : Nat) (p : Int) : Bool :=
  if p < 0 then decide (-b.roots ≤ p) else decide (p < below) && solidB sig b p
def portsB (sig : List Ctl) (n : Nd) : Bool := match sig[n.ctl.toNat]? with | some c => decide ((n.links.length : Int) = c.ports) | none => false
def nodeB (sig : List Ctl) (b : Big) (i : Nat) (n : Nd) : Bool := decide (0 ≤ n.ctl ∧ n.ctl ≤ (sig.length : Int) - 1) && (underB sig b i n.par && (portsB sig n && n.links.all (linkB b)))
def nodeStep (sig : List Ctl) (b : Big) (i : Nat) : Bool := match b.nodes[i]? with | some n => nodeB sig b i n | none => true
def headB (sig : List Ctl) (b : Big) : Bool := sigB sig && (decide (0 ≤ b.roots ∧ b.roots ≤ 4) && (decide (b.nodes.length ≤ 8) && (decide (b.sites.length ≤ 4) && (decide (0 ≤ b.edges ∧ b.edges ≤ 8) && (namesB b.outer && namesB (b.inner.map Wr.name))))))
def goodB (sig : List Ctl) (b : Big) : Bool :=
  headB sig b && ((List.range b.nodes.length).all (nodeStep sig b) && (b.sites.all (underB sig b b.nodes.length) && b.inner.all (fun x => linkB b x.link)))
theorem nodeStep_eq {sig : List Ctl} {b : Big} {i : Nat} {n : Nd} (h : b.nodes[i]? = some n) : nodeStep sig b i = nodeB sig b i n := by unfold nodeStep; rw [h]

structure Good (sig : List Ctl) (b : Big) : Prop where
  sg : sigB sig = true
  roots : 0 ≤ b.roots ∧ b.roots ≤ 4
  nodes : b.nodes.length ≤ 8
  sites : b.sites.length ≤ 4
  edges : 0 ≤ b.edges ∧ b.edges ≤ 8
  outer : namesB b.outer = true
  inner : namesB (b.inner.map Wr.name) = true
  node : ∀ (i : Nat) n, b.nodes[i]? = some n → nodeB sig b i n = true
  site : ∀ p ∈ b.sites, underB sig b b.nodes.length p = true
  wire : ∀ x ∈ b.inner, linkB b x.link = true
theorem head_of {sig : List Ctl} {b : Big} (h : headB sig b = true) : sigB sig = true ∧ (0 ≤ b.roots ∧ b.roots ≤ 4) ∧ b.nodes.length ≤ 8 ∧ b.sites.length ≤ 4 ∧ (0 ≤ b.edges ∧ b.edges ≤ 8) ∧ namesB b.outer = true ∧ namesB (b.inner.map Wr.name) = true := by
  unfold headB at h
  simp only [Bool.and_eq_true, decide_eq_true_eq] at h
  exact h
theorem good_of {sig : List Ctl} {b : Big} (h : goodB sig b = true) : Good sig b := by
  unfold goodB at h
  simp only [Bool.and_eq_true, List.all_eq_true, List.mem_range] at h
  obtain ⟨h1, h2, h3, h4⟩ := h
  obtain ⟨a1, a2, a3, a4, a5, a6, a7⟩ := head_of h1
  exact ⟨a1, a2, a3, a4, a5, a6, a7, fun i n hn => by have := h2 i (List.getElem?_eq_some_iff.1 hn).1; rwa [nodeStep_eq hn] at this, h3, h4⟩
theorem node_ctl {sig : List Ctl} {b : Big} {i : Nat} {n : Nd} (h : nodeB sig b i n = true) : 0 ≤ n.ctl ∧ n.ctl ≤ (sig.length : Int) - 1 := by
  unfold nodeB at h; simp only [Bool.and_eq_true, decide_eq_true_eq] at h; exact h.1
theorem node_under {sig : List Ctl} {b : Big} {i : Nat} {n : Nd} (h : nodeB sig b i n = true) : underB sig b i n.par = true := by
  unfold nodeB at h; simp only [Bool.and_eq_true, decide_eq_true_eq] at h; exact h.2.1
theorem node_ports {sig : List Ctl} {b : Big} {i : Nat} {n : Nd} (h : nodeB sig b i n = true) : portsB sig n = true := by
  unfold nodeB at h; simp only [Bool.and_eq_true, decide_eq_true_eq] at h; exact h.2.2.1
theorem node_links {sig : List Ctl} {b : Big} {i : Nat} {n : Nd} (h : nodeB sig b i n = true) : ∀ l ∈ n.links, linkB b l = true := by
  unfold nodeB at h; simp only [Bool.and_eq_true, List.all_eq_true] at h; exact h.2.2.2
theorem link_of {b : Big} {l : Int} (h : linkB b l = true) : 0 ≤ l ∧ l ≤ b.edges + b.outer.length - 1 := by unfold linkB at h; simpa using h
theorem names_len {l : List ByteArray} (h : namesB l = true) : l.length ≤ 16 := by unfold namesB at h; simp only [Bool.and_eq_true, decide_eq_true_eq] at h; exact h.2
theorem Good.ctl {sig : List Ctl} {b : Big} (h : Good sig b) {i : Nat} {n : Nd} (hn : b.nodes[i]? = some n) : ∃ c, 0 ≤ n.ctl ∧ sig[n.ctl.toNat]? = some c := by
  have := node_ctl (h.node i n hn)
  obtain ⟨c, hc⟩ := getElem?_of_lt (l := sig) (i := n.ctl.toNat) (by omega)
  exact ⟨c, this.1, hc⟩

end Go.Proofs.YthgelhglfbgagaaGreatDoor

/- The bounds of a valid bigraph, in one place. Plain words; no program in sight. -/
namespace Go.Proofs.YthgelhglfbgagaaGreatDoor
open Go Go.RowKit

structure Bds (b : Big) : Prop where
  nodes : b.nodes.length ≤ 8
  sites : b.sites.length ≤ 4
  outer : b.outer.length ≤ 16
  inner : b.inner.length ≤ 16
  edges : 0 ≤ b.edges ∧ b.edges ≤ 8
  roots : 0 ≤ b.roots ∧ b.roots ≤ 4
  links : ∀ n ∈ b.nodes, n.links.length ≤ 3
  par : ∀ n ∈ b.nodes, -b.roots ≤ n.par ∧ n.par < (b.nodes.length : Int)
  site : ∀ p ∈ b.sites, -b.roots ≤ p ∧ p < (b.nodes.length : Int)
  lnk : ∀ n ∈ b.nodes, ∀ x ∈ n.links, 0 ≤ x ∧ x < b.edges + b.outer.length
  wire : ∀ x ∈ b.inner, 0 ≤ x.link ∧ x.link < b.edges + b.outer.length
theorem Good.under_bd {sig : List Ctl} {b : Big} (h : Good sig b) {k : Nat} {p : Int} (hk : k ≤ b.nodes.length) (hu : underB sig b k p = true) : -b.roots ≤ p ∧ p < (b.nodes.length : Int) := by
  have h3 := h.roots
  unfold underB at hu
  split at hu
  · simp only [decide_eq_true_eq] at hu; omega
  · simp only [Bool.and_eq_true, decide_eq_true_eq] at hu; omega
theorem Good.bds {sig : List Ctl} {b : Big} (h : Good sig b) : Bds b := by
  refine ⟨h.nodes, h.sites, names_len h.outer, by simpa using names_len h.inner, h.edges, h.roots, fun n hn => ?_, fun n hn => ?_, fun p hp => h.under_bd (Nat.le_refl _) (h.site p hp), fun n hn x hx => ?_, fun x hx => ?_⟩
  · obtain ⟨i, hi⟩ := List.mem_iff_getElem?.1 hn
    have h1 := node_ports (h.node i n hi)
    obtain ⟨c, _, hc⟩ := h.ctl hi
    have h2 := ctl_ports (sig_ctl h.sg hc)
    unfold portsB at h1
    rw [hc] at h1
    simp only [decide_eq_true_eq] at h1
    omega
  · obtain ⟨i, hi⟩ := List.mem_iff_getElem?.1 hn
    exact h.under_bd (Nat.le_of_lt (List.getElem?_eq_some_iff.1 hi).1) (node_under (h.node i n hi))
  · obtain ⟨i, hi⟩ := List.mem_iff_getElem?.1 hn
    have := link_of (node_links (h.node i n hi) x hx)
    omega
  · have := link_of (h.wire x hx)
    omega
theorem Good.name {sig : List Ctl} {b : Big} (h : Good sig b) {s : ByteArray} (hs : s ∈ b.outer) : nameB s = true := by
  have h1 := h.outer
  unfold namesB at h1
  simp only [Bool.and_eq_true, List.all_eq_true, List.mem_range] at h1
  obtain ⟨k, hk⟩ := List.mem_iff_getElem?.1 hs
  have := h1.1 k (List.getElem?_eq_some_iff.1 hk).1
  unfold stepB at this
  rw [hk] at this
  simp only [Bool.and_eq_true] at this
  exact this.1
theorem name_pos {s : ByteArray} (h : nameB s = true) : 1 ≤ s.size ∧ s.size ≤ 4 := by
  unfold nameB at h
  simp only [Bool.and_eq_true, decide_eq_true_eq] at h
  exact h.1
end Go.Proofs.YthgelhglfbgagaaGreatDoor

/- New names. -/
namespace Go.Proofs.YthgelhglfbgagaaGreatDoor
open Go Go.RowKit Go.BigFrame

theorem strs_flat (l : List ByteArray) : (strRows l).flatten = l.map Value.string := by induction l <;> simp_all [strRows]
def newP (l : List ByteArray) : Big := if namesB l = true then ⟨0, [], [], 0, l, []⟩ else noBig

theorem clone_ct (v : Value) (l : List ByteArray) (w : World) (h : StrsAt w v l) (h16 : l.length ≤ 16) : Calls Tryz.prog 101 #[v] w fun e w' => ∃ v', e = .returned v' ∧ RowOwn w.heap.size w' v' 1 (strRows l) ∧ Below w.heap.size w w' := by
  obtain ⟨a, c, rfl, hlc, _, h3⟩ := h.open
  cases a with
  | none =>
    have hl : l = [] := by
      cases l with
      | nil => rfl
      | cons s l => obtain ⟨_, b, o, e, _⟩ := h3 0 s rfl; cases e
    subst hl
    refine (Tryz.slices_Clone_string_nil _ _ w).mono ?_
    rintro e w' ⟨rfl, rfl⟩
    exact ⟨_, rfl, ⟨fun r hr => (by cases hr), .inl ⟨rfl, _, _, rfl⟩⟩, Below.refl _ _⟩
  | some ad =>
    cases hl : l with
    | nil =>
      refine (Tryz.slices_Clone_string_zero ad c w).mono ?_
      rintro e w' ⟨v', rfl, hown, _, hb⟩
      exact ⟨_, rfl, RowOwn.of_owns (cs := []) hown rfl (fun r hr => by cases hr), hb⟩
    | cons s l' =>
      rw [← hl]
      have h0 := h3 0 s (by rw [hl]; rfl)
      obtain ⟨_, b, o, e, _⟩ := h0
      obtain rfl : ad = ⟨b, o, none⟩ := by simpa using e
      refine (Tryz.slices_Clone_string b o l.length c l w (Nat.le_refl _) (by omega) ?_).mono ?_
      · intro j hj
        obtain ⟨x, hx⟩ := getElem?_of_lt hj
        obtain ⟨_, b', o', e', hc⟩ := h3 j x hx
        obtain ⟨rfl, rfl⟩ : b = b' ∧ o = o' := by simpa using e'
        rw [hc, List.getD_eq_getElem?_getD, hx]; rfl
      · rintro e w' ⟨v', rfl, hown, _, hb⟩
        rw [List.take_length] at hown
        exact ⟨_, rfl, RowOwn.of_owns (cs := strRows l) (n := l.length) (by rw [strs_flat]; exact hown) (by simp [strRows]) (by simp [strRows]), hb⟩



end Go.Proofs.YthgelhglfbgagaaGreatDoor

/- Rows of several cells, read as one list. No program in sight. -/
namespace Go.Proofs.YthgelhglfbgagaaGreatDoor
open Go Go.RowKit Go.BigFrame

theorem flatGet2 {sz : Nat} : ∀ (cs : List (List Value)), (∀ r ∈ cs, r.length = sz) → ∀ k u, cs.flatten[k]? = some u → ∃ i r j, cs[i]? = some r ∧ r[j]? = some u ∧ k = i * sz + j
  | [], _, k, u, h => by simp at h
  | c :: cs, hr, k, u, h => by
    have hc := hr c (List.mem_cons_self)
    rw [List.flatten_cons] at h
    by_cases hk : k < c.length
    · rw [List.getElem?_append_left hk] at h
      exact ⟨0, c, k, rfl, h, by simp⟩
    · rw [List.getElem?_append_right (by omega)] at h
      obtain ⟨i, r, j, h1, h2, h3⟩ := flatGet2 cs (fun r hr' => hr r (List.mem_cons_of_mem _ hr')) _ u h
      exact ⟨i + 1, r, j, by simpa using h1, h2, by rw [Nat.add_mul, Nat.one_mul]; omega⟩
theorem addr_add (b o k : Nat) : (⟨b, o, none⟩ : Addr).add k = ⟨b, o + k, none⟩ := by unfold Addr.add; split <;> simp_all
theorem RowAt.news {M sz n c : Nat} {w : World} {ad : Addr} {cs : List (List Value)} (h : RowAt M w (.slice (some ad) n c) sz cs) : ∀ j u, cs.flatten[j]? = some u → w.cell? (ad.add j) = some u := by
  obtain ⟨a, c', e, _, _, hr, h5⟩ := h
  intro j u hj
  obtain ⟨i, r, m, h1, h2, rfl⟩ := flatGet2 cs hr j u hj
  obtain ⟨b, o, ea, hc⟩ := h5 i r h1
  simp only [Value.slice.injEq] at e
  obtain rfl : ad = ⟨b, o, none⟩ := by have := e.1.trans ea; simpa using this
  rw [addr_add, ← Nat.add_assoc]
  exact hc m u h2
theorem RowAt.nil_of_none {M sz n c : Nat} {w : World} {cs : List (List Value)} (h : RowAt M w (.slice none n c) sz cs) : cs = [] := by
  obtain ⟨a, c', e, _, _, _, h5⟩ := h
  simp only [Value.slice.injEq] at e
  cases cs with
  | nil => rfl
  | cons r cs => obtain ⟨b, o, ea, _⟩ := h5 0 r rfl; rw [ea] at e; cases e.1
theorem flatLen2 {sz : Nat} : ∀ (cs : List (List Value)), (∀ r ∈ cs, r.length = sz) → cs.flatten.length = cs.length * sz
  | [], _ => by simp
  | c :: cs, hr => by
    have := flatLen2 cs (fun r hr' => hr r (List.mem_cons_of_mem _ hr'))
    have hc := hr c (List.mem_cons_self)
    simp only [List.flatten_cons, List.length_append, List.length_cons, this, hc, Nat.add_mul, Nat.one_mul]; omega

set_option maxRecDepth 100000 in
set_option maxHeartbeats 2000000 in
theorem cloneW_ct (v : Value) (l : List Wr) (w : World) (h : WrsAt w v l) (h16 : l.length ≤ 1000) : Calls Tryz.prog 102 #[v] w fun e w' => ∃ v', e = .returned v' ∧ RowOwn w.heap.size w' v' 2 (l.map Wr.cells) ∧ Below w.heap.size w w' := by
  have hr := h.1
  obtain ⟨a, c, rfl, hlc, _, _⟩ := h.open
  have q39 : ∀ (w : World) (a : Option Addr) (n c n' c' : Nat), (binOp .eql 27 (.slice a n c) (.slice none n' c')).run Tryz.prog w = .ok (.bool a.isNone) w := fun w a n c n' c' => Lib.run_eql_slice_nil w _ _ a n c n' c' Tryz.underlying27
  have hrow : ∀ r ∈ l.map Wr.cells, r.length = 2 := by intro r hr; obtain ⟨x, _, rfl⟩ := List.mem_map.1 hr; rfl
  obtain ⟨i0, hi, hz0, hz1, hz2⟩ := info_parts inf_wr
  cases a with
  | none =>
    have hl : l = [] := by have := hr.nil_of_none; simpa using this
    clear hr hi hz0 hz1 hz2 hrow h
    subst hl
    go_enter Tryz.func102, Tryz.ntmps102
    go_wp2_with fail
    go_ret
    exact ⟨_, rfl, own_none _ _ _ _ _, Below.refl _ _⟩
  | some ad =>
    have hlit : Below w.heap.size w (w.alloc (.cells #[] 87)) := balloc _ _
    have acc : Acc (w.alloc (.cells #[] 87)) w.heap.size 87 2 (.slice (some ⟨w.heap.size, 0, none⟩) 0 0) [] := Acc.lit0 _ _ _ _ (Nat.le_refl _)
    have hnews := (hr.below hlit).news
    have hfl := flatLen2 _ hrow
    simp only [List.length_map] at hfl
    have hone : ∀ u ∈ (l.map Wr.cells).flatten, u.oneCell' = true := by
      intro u hu
      obtain ⟨r, hr, hu⟩ := List.mem_flatten.1 hu
      obtain ⟨x, _, rfl⟩ := List.mem_map.1 hr
      simp only [Wr.cells, List.mem_cons, List.not_mem_nil, or_false] at hu
      rcases hu with rfl | rfl <;> rfl
    clear hr h
    go_enter Tryz.func102, Tryz.ntmps102
    go_wp2_with (at_builtin; refine wpList_append_own _ rfl (.tmp 5) (.tmp 6) 27 rfl w.heap.size 87 i0 (.agg #[.string ⟨#[]⟩, .int .i64 0]) 2 24 Tryz.underlying27 hi hz0 hz1 hz2 rfl (by decide) (.slice (some ⟨w.heap.size, 0, none⟩) 0 0) 0 [] rfl acc.1 ad l.length c ((l.map Wr.cells).flatten) rfl hfl hnews hone (by unfold maxLen; omega) (by omega) (by simp) ?_)
    intro v4 w3 own4 hg _
    have hb := hlit.grown hg (by simp) (fun k hk => by simp [Value.ownBlock] at hk; omega)
    have own4 : RowOwn w.heap.size w3 v4 2 (l.map Wr.cells) := RowOwn.of_owns (cs := l.map Wr.cells) (n := 0 + l.length) (by simpa using own4) (by simp) hrow
    clear hg acc hi hz0 hz1 hz2 hnews
    go_wp2_with fail
    go_ret
    exact ⟨_, rfl, own4, hb⟩
end Go.Proofs.YthgelhglfbgagaaGreatDoor

/- slices.Clone at integers. -/
namespace Go.Proofs.YthgelhglfbgagaaGreatDoor
open Go Go.RowKit Go.BigFrame

theorem intsFlatI (l : List Int) : (intRows l).flatten = l.map (Value.int .i64) := by induction l <;> simp_all [intRows]
theorem cloneI_ct (v : Value) (l : List Int) (w : World) (h : IntsAt w v l) (h16 : l.length ≤ 1000) : Calls Tryz.prog 100 #[v] w fun e w' => ∃ v', e = .returned v' ∧ RowOwn w.heap.size w' v' 1 (intRows l) ∧ Below w.heap.size w w' := by
  obtain ⟨a, c, rfl, hlc, _, h3⟩ := h.open
  cases a with
  | none =>
    have hl : l = [] := by
      cases l with
      | nil => rfl
      | cons s l => obtain ⟨_, b, o, e, _⟩ := h3 0 s rfl; cases e
    subst hl
    refine (Tryz.slices_Clone_int_nil _ _ w).mono ?_
    rintro e w' ⟨rfl, rfl⟩
    exact ⟨_, rfl, ⟨fun r hr => (by cases hr), .inl ⟨rfl, _, _, rfl⟩⟩, Below.refl _ _⟩
  | some ad =>
    cases hl : l with
    | nil =>
      refine (Tryz.slices_Clone_int_zero ad c w).mono ?_
      rintro e w' ⟨v', rfl, hown, _, hb⟩
      exact ⟨_, rfl, RowOwn.of_owns (cs := []) hown rfl (fun r hr => by cases hr), hb⟩
    | cons s l' =>
      rw [← hl]
      have h0 := h3 0 s (by rw [hl]; rfl)
      obtain ⟨_, b, o, e, _⟩ := h0
      obtain rfl : ad = ⟨b, o, none⟩ := by simpa using e
      refine (Tryz.slices_Clone_int b o l.length c l w (Nat.le_refl _) (by omega) ?_).mono ?_
      · intro j hj
        obtain ⟨x, hx⟩ := getElem?_of_lt hj
        obtain ⟨_, b', o', e', hc⟩ := h3 j x hx
        obtain ⟨rfl, rfl⟩ : b = b' ∧ o = o' := by simpa using e'
        rw [hc, List.getD_eq_getElem?_getD, hx]; rfl
      · rintro e w' ⟨v', rfl, hown, _, hb⟩
        rw [List.take_length] at hown
        exact ⟨_, rfl, RowOwn.of_owns (cs := intRows l) (n := l.length) (by rw [intsFlatI]; exact hown) (by simp [intRows]) (by simp [intRows]), hb⟩
end Go.Proofs.YthgelhglfbgagaaGreatDoor

/- What a drawn region's operations hand back: owned rows, their blocks apart from each other's; what they read. No program in sight. -/
namespace Go.Proofs.YthgelhglfbgagaaGreatDoor
open Go Go.RowKit

/-- What is told of one operation's value. -/
structure Ent where
  sh : Value → Prop
  ex : ∃ v, sh v
  fct : Value → Fct
  hs : ∀ v w U, fct v w U → sh v
  st : ∀ v, Stab (fct v)
def tNil : Told := ⟨fun _ _ => True, fun _ => ⟨undef, trivial⟩, fun _ _ _ _ => True, fun _ _ _ _ _ => trivial, fun _ _ _ _ _ _ _ => trivial⟩
def tAt (n : Nat) (e : Ent) (rest : Told) : Told where
  sh := fun i v => if i = n then e.sh v else rest.sh i v
  ex := fun i => by
    by_cases h : i = n
    · obtain ⟨v, hv⟩ := e.ex; exact ⟨v, by rw [if_pos h]; exact hv⟩
    · obtain ⟨v, hv⟩ := rest.ex i; exact ⟨v, by rw [if_neg h]; exact hv⟩
  fct := fun i v => if i = n then e.fct v else rest.fct i v
  hs := fun i v w U h => by
    by_cases hi : i = n
    · rw [if_pos hi] at h ⊢; exact e.hs _ _ _ h
    · rw [if_neg hi] at h ⊢; exact rest.hs _ _ _ _ h
  st := fun i v => by
    by_cases hi : i = n
    · rw [if_pos hi]; exact e.st v
    · rw [if_neg hi]; exact rest.st i v
theorem blks_nodup (a : Option Addr) (n c : Nat) : (blks (.slice a n c)).Nodup := by cases a <;> cases n <;> simp [blks]

/-- The value is a row of its own, in blocks that are claimed. -/
def gRow (B sz : Nat) (cs : List (List Value)) (v : Value) : Fct := fun W U => RowOwn B W v sz cs ∧ ∀ g ∈ blks v, U g
theorem gRow_stab (B sz : Nat) (cs : List (List Value)) (v : Value) : Stab (gRow B sz cs v) := fun _ _ _ hb ⟨h1, h2⟩ => ⟨h1.keep (keep_below hb (fun p hp => (h1.lt p hp).2)), h2⟩
theorem gRow_of {B sz : Nat} {cs : List (List Value)} {v : Value} {w w' : World} (h : RowOwn w.heap.size w' v sz cs) (hB : B ≤ w.heap.size) : gRow B sz cs v w' (news w w') := ⟨h.mono hB, fun g hg => h.lt g hg⟩
def eRow (B sz n : Nat) (cs : List (List Value)) (hn : cs.length = n) : Ent where
  sh := fun v => ∃ a c, v = .slice a n c
  ex := ⟨.slice none n 0, none, 0, rfl⟩
  fct := gRow B sz cs
  hs := fun v w U h => by rw [← hn]; exact h.1.shape
  st := gRow_stab B sz cs
/-- The value is this one. -/
def eVal (u : Value) : Ent where
  sh := fun v => v = u
  ex := ⟨u, rfl⟩
  fct := fun v _ _ => v = u
  hs := fun _ _ _ h => h
  st := fun _ _ _ _ _ h => h
/-- An empty slice of its own. -/
def eLit0 : Ent where
  sh := fun v => ∃ g, v = .slice (some ⟨g, 0, none⟩) 0 0
  ex := ⟨_, 0, rfl⟩
  fct := fun v _ _ => ∃ g, v = .slice (some ⟨g, 0, none⟩) 0 0
  hs := fun _ _ _ h => h
  st := fun _ _ _ _ _ h => h
/-- A slice of one built element. -/
def eLit1 (row : List Value) (t : TypeId) : Ent where
  sh := fun v => ∃ g, v = .slice (some ⟨g, 0, none⟩) 1 1
  ex := ⟨_, 0, rfl⟩
  fct := fun v W U => ∃ g, v = .slice (some ⟨g, 0, none⟩) 1 1 ∧ Box W g row.toArray t ∧ U g
  hs := fun _ _ _ ⟨g, h, _⟩ => ⟨g, h⟩
  st := fun _ _ _ _ hb ⟨g, h, k, u⟩ => ⟨g, h, k.below hb, u⟩
/-- What a slice of controls reads as. -/
def eCtls (l : List Ctl) : Ent where
  sh := fun v => ∃ a c, v = .slice a l.length c
  ex := ⟨.slice none l.length 0, none, 0, rfl⟩
  fct := fun v W _ => CtlsAt W v l
  hs := fun v w U h => by obtain ⟨a, c, rfl, _⟩ := CtlsM.open h; exact ⟨a, c, rfl⟩
  st := fun _ _ _ _ hb h => CtlsM.below h hb
def bigSh (b : Big) (v : Value) : Prop := ∃ a1 c1 a2 c2 a3 c3 a4 c4, v = .agg #[.int .i64 b.roots, .slice a1 b.nodes.length c1, .slice a2 b.sites.length c2, .int .i64 b.edges, .slice a3 b.outer.length c3, .slice a4 b.inner.length c4]
def eBig (b : Big) : Ent where
  sh := bigSh b
  ex := ⟨_, none, 0, none, 0, none, 0, none, 0, rfl⟩
  fct := fun v W _ => BigAt W v b
  hs := fun v w U h => by
    obtain ⟨vn, vs, vo, vi, rfl, h1, h2, h3, h4, _⟩ := h
    obtain ⟨a1, c1, rfl, _⟩ := h1.open
    obtain ⟨a2, c2, rfl, _⟩ := h2.open
    obtain ⟨a3, c3, rfl, _⟩ := h3.open
    obtain ⟨a4, c4, rfl, _⟩ := h4.open
    exact ⟨a1, c1, a2, c2, a3, c3, a4, c4, rfl⟩
  st := fun _ _ _ _ hb h => BigM.below h hb
/-- A bigraph of the call's own. -/
def gBig (B : Nat) (b : Big) (v : Value) : Fct := fun W U => ∃ bs, BigOwn B W v b bs ∧ bs.Nodup ∧ ∀ g ∈ bs, U g
theorem gBig_stab (B : Nat) (b : Big) (v : Value) : Stab (gBig B b v) := fun _ _ _ hb ⟨bs, h1, h2, h3⟩ => ⟨bs, h1.keep (keep_below hb (fun p hp => (h1.lt p hp).2)), h2, h3⟩
def eBigOwn (B : Nat) (b : Big) : Ent where
  sh := bigSh b
  ex := ⟨_, none, 0, none, 0, none, 0, none, 0, rfl⟩
  fct := gBig B b
  hs := fun v w U ⟨bs, h, _⟩ => (eBig b).hs v w U h.at
  st := gBig_stab B b
def fst3 : Value → Value
  | .tuple a => a.getD 0 undef
  | _ => undef
def snd3 : Value → Value
  | .tuple a => a.getD 1 undef
  | _ => undef
def blkOf : Value → Nat
  | .pointer (some a) => a.block
  | _ => 0
/-- Such a bigraph and whether there is one. -/
def eBigOk (B : Nat) (b : Big) (ok : Bool) : Ent where
  sh := fun v => ∃ u, v = .tuple #[u, .bool ok] ∧ bigSh b u
  ex := ⟨_, _, rfl, none, 0, none, 0, none, 0, none, 0, rfl⟩
  fct := fun v W U => v = .tuple #[fst3 v, .bool ok] ∧ gBig B b (fst3 v) W U
  hs := fun v w U ⟨e, h⟩ => ⟨_, e, (eBigOwn B b).hs _ w U h⟩
  st := fun v w w' U hb ⟨e, h⟩ => ⟨e, gBig_stab B b _ w w' U hb h⟩
/-- Two of them, apart. -/
def eBig2Ok (B : Nat) (b c : Big) (ok : Bool) : Ent where
  sh := fun v => ∃ u1 u2, v = .tuple #[u1, u2, .bool ok] ∧ bigSh b u1 ∧ bigSh c u2
  ex := ⟨_, _, _, rfl, ⟨none, 0, none, 0, none, 0, none, 0, rfl⟩, ⟨none, 0, none, 0, none, 0, none, 0, rfl⟩⟩
  fct := fun v W U => v = .tuple #[fst3 v, snd3 v, .bool ok] ∧ ∃ bs1 bs2, BigOwn B W (fst3 v) b bs1 ∧ bs1.Nodup ∧ BigOwn B W (snd3 v) c bs2 ∧ bs2.Nodup ∧ (∀ g ∈ bs1, g ∉ bs2) ∧ (∀ g ∈ bs1, U g) ∧ ∀ g ∈ bs2, U g
  hs := fun v w U ⟨e, bs1, bs2, h1, _, h2, _⟩ => ⟨_, _, e, (eBig b).hs _ w U h1.at, (eBig c).hs _ w U h2.at⟩
  st := fun v w w' U hb ⟨e, bs1, bs2, h1, n1, h2, n2, hd, c1, c2⟩ => ⟨e, bs1, bs2, h1.keep (keep_below hb (fun p hp => (h1.lt p hp).2)), n1, h2.keep (keep_below hb (fun p hp => (h2.lt p hp).2)), n2, hd, c1, c2⟩
/-- A variable of several cells, laid here. -/
def eBox (B : Nat) (cs : Array Value) (t : TypeId) : Ent where
  sh := fun v => ∃ g, v = .pointer (some ⟨g, 0, none⟩)
  ex := ⟨_, 0, rfl⟩
  fct := fun v W U => v = .pointer (some ⟨blkOf v, 0, none⟩) ∧ Box W (blkOf v) cs t ∧ B ≤ blkOf v ∧ U (blkOf v)
  hs := fun v w U h => ⟨_, h.1⟩
  st := fun v w w' U hb ⟨e, h, h2⟩ => ⟨e, h.below hb, h2⟩
def eStrs (l : List ByteArray) : Ent where
  sh := fun v => ∃ a c, v = .slice a l.length c
  ex := ⟨.slice none l.length 0, none, 0, rfl⟩
  fct := fun v W _ => StrsAt W v l
  hs := fun v w U h => by obtain ⟨a, c, rfl, _⟩ := StrsM.open h; exact ⟨a, c, rfl⟩
  st := fun _ _ _ _ hb h => StrsM.below h hb
def eInts (l : List Int) : Ent where
  sh := fun v => ∃ a c, v = .slice a l.length c
  ex := ⟨.slice none l.length 0, none, 0, rfl⟩
  fct := fun v W _ => IntsAt W v l
  hs := fun v w U h => by obtain ⟨a, c, rfl, _⟩ := IntsM.open h; exact ⟨a, c, rfl⟩
  st := fun _ _ _ _ hb h => IntsM.below h hb
theorem Only.setCell' {bs : List Nat} {a b : World} (h : Only bs a b) {p : Addr} (hp : p.block ∈ bs) (u : Value) : Only bs a (b.setCell p u) :=
  h.trans ⟨rfl, rfl, rfl, by simp [World.setCell], fun k _ hn => heap_setCell_other b p k u (fun e => hn (e ▸ hp))⟩
/-- All six cells of a variable are stored. -/
theorem box_fill {w : World} {g : Nat} {a0 a1 a2 a3 a4 a5 : Value} {t : TypeId} (h : Box w g #[a0, a1, a2, a3, a4, a5] t) (v0 v1 v2 v3 v4 v5 : Value) :
    ∃ Y, Y = (((((w.setCell ⟨g, 0, none⟩ v0).setCell ⟨g, 1, none⟩ v1).setCell ⟨g, 2, none⟩ v2).setCell ⟨g, 3, none⟩ v3).setCell ⟨g, 4, none⟩ v4).setCell ⟨g, 5, none⟩ v5 ∧ Box Y g #[v0, v1, v2, v3, v4, v5] t ∧ Only [g] w Y := by
  refine ⟨_, rfl, ?_, ?_⟩
  · have := (((((h.set 0 v0).set 1 v1).set 2 v2).set 3 v3).set 4 v4).set 5 v5
    simpa using this
  · iterate 6 refine Only.setCell' ?_ (by simp) _
    exact Only.refl _ _

section
variable {P : Program} {ops : Array Oper} {C : World → Prop} {G : Told} {L : RgK} {rest : List Nat} {F : Fct} {a : Act}
theorem app0_run (w : World) (t ty e : TypeId) (sz bytes M : Nat) (z : Value) (ht : P.underlying t = some (.slice e)) (hinf : (P.info? e).map (fun i => (i.zero, i.size, i.bytes)) = some (some z, sz, bytes)) (hzs : z.cells.size = sz) (hsz : 0 < sz) (hby : bytes ≤ 128)
    (ad : Addr) (x : Value) (cs : List (List Value)) (hx : RowAt M w x sz cs) (h1 : ∀ r ∈ cs, ∀ u ∈ r, u.oneCell' = true) (hlen : cs.length ≤ 1000000) :
    ∃ v' w', (Builtin.append_ #[t, t] ty #[.slice (some ad) 0 0, x]).run P w = .ok v' w' ∧ Below w.heap.size w w' ∧ gRow w.heap.size sz cs v' w' (news w w') := by
  obtain ⟨i, hi, hz0, hz1, hz2⟩ := info_parts hinf
  obtain ⟨ax, cx, rfl, _, _, hr, _⟩ := id hx
  by_cases hc : cs = []
  · subst hc
    refine ⟨_, w, run_append_nothing w t t ty e i ht hi (some ad) 0 0 (Nat.le_refl _) _ ?_, Below.refl _ _, own_none _ _ _ _ _, fun g hg => (by simp [blks] at hg)⟩
    cases ax with
    | none => exact Src.ofNil w ht cx
    | some b => exact Src.ofSlice w ht b 0 cx [] (by simp) (fun j u hj => by simp at hj) (fun u hu => by cases hu)
  · have hpos : 0 < cs.length := List.length_pos_iff.2 hc
    cases ax with
    | none => exact absurd hx.nil_of_none hc
    | some b =>
      obtain ⟨v', w', hrun, hown, hg⟩ := run_append_arg_grows (P := P) w t ty e i z sz bytes ht hi hz0 hz1 hz2 hzs hsz ad 0 0 [] (by simp) (fun j u hj => by simp at hj) b cs.length cx cs.flatten (flatLen2 cs hr) hx.news (by omega) (by unfold maxLen; omega)
        (by have : (0 + cs.length) * bytes ≤ (0 + cs.length) * 128 := Nat.mul_le_mul_left _ hby; omega)
      refine ⟨v', w', hrun, (Below.refl _ _).grown hg (Nat.le_refl _) (fun k hk => by cases hk), ?_⟩
      exact gRow_of (RowOwn.of_owns (cs := cs) (n := 0 + cs.length) (by simpa using hown) (by simp) hr) (Nat.le_refl _)
/-- 'append(T{}, x...)' as an operation. -/
theorem rg_app0 {o : Oper} (s x : Operand) (t : TypeId) (ho : o.op = .call { callee := .builtin .append, args := #[s, x], argTypes := #[t, t] })
    (e : TypeId) (sz bytes M B : Nat) (z : Value) (ht : P.underlying t = some (.slice e)) (hinf : (P.info? e).map (fun i => (i.zero, i.size, i.bytes)) = some (some z, sz, bytes)) (hzs : z.cells.size = sz) (hsz : 0 < sz) (hby : bytes ≤ 128)
    (ad : Addr) (xv : Value) (cs : List (List Value)) (hs : a.eval s = .slice (some ad) 0 0) (hx : a.eval x = xv) (h1 : ∀ r ∈ cs, ∀ u ∈ r, u.oneCell' = true) (hlen : cs.length ≤ 1000000) (w : World) (hr : RowAt M w xv sz cs) (hB : B ≤ w.heap.size) :
    ∃ u w1, (execOp a.eval o).run P w = .ok (.value u) w1 ∧ Below w.heap.size w w1 ∧ gRow B sz cs u w1 (news w w1) := by
  obtain ⟨v', w', hrun, hb, h1', h2'⟩ := app0_run (P := P) w t o.type e sz bytes M z ht hinf hzs hsz hby ad xv cs hr h1 hlen
  refine ⟨v', w', ?_, hb, h1'.mono hB, h2'⟩
  simp [execOp, ho, resolve, invoke, builtin, hs, hx, hrun, Result.andThen]
theorem one_strRows (l : List ByteArray) : ∀ r ∈ strRows l, ∀ u ∈ r, u.oneCell' = true := by
  intro r hr u hu; simp only [strRows, List.mem_map] at hr; obtain ⟨x, _, rfl⟩ := hr; simp only [List.mem_singleton] at hu; subst hu; rfl
theorem one_intRows (l : List Int) : ∀ r ∈ intRows l, ∀ u ∈ r, u.oneCell' = true := by
  intro r hr u hu; simp only [intRows, List.mem_map] at hr; obtain ⟨x, _, rfl⟩ := hr; simp only [List.mem_singleton] at hu; subst hu; rfl
theorem one_wrRows (l : List Wr) : ∀ r ∈ l.map Wr.cells, ∀ u ∈ r, u.oneCell' = true := by
  intro r hr u hu; simp only [List.mem_map] at hr; obtain ⟨x, _, rfl⟩ := hr; simp only [Wr.cells, List.mem_cons, List.not_mem_nil, or_false] at hu; rcases hu with rfl | rfl <;> rfl
theorem len_strRows (l : List ByteArray) : (strRows l).length = l.length := by simp [strRows]
theorem len_intRows (l : List Int) : (intRows l).length = l.length := by simp [intRows]
theorem len_wrRows (l : List Wr) : (l.map Wr.cells).length = l.length := by simp
end
end Go.Proofs.YthgelhglfbgagaaGreatDoor

/- What a drawn region's operations hand back: owned rows, their blocks apart from each other's; what they read. No program in sight. -/
namespace Go.Proofs.YthgelhglfbgagaaGreatDoor.RgN
open Go Go.RowKit

/-- What is told of one operation's value. -/
structure Ent where
  sh : Value → Prop
  ex : ∃ v, sh v
  fct : Value → Fct
  hs : ∀ v w U, fct v w U → sh v
  st : ∀ v, Stab (fct v)
def tNil : Told := ⟨fun _ _ => True, fun _ => ⟨undef, trivial⟩, fun _ _ _ _ => True, fun _ _ _ _ _ => trivial, fun _ _ _ _ _ _ _ => trivial⟩
def tAt (n : Nat) (e : Ent) (rest : Told) : Told where
  sh := fun i v => if i = n then e.sh v else rest.sh i v
  ex := fun i => by
    by_cases h : i = n
    · obtain ⟨v, hv⟩ := e.ex; exact ⟨v, by rw [if_pos h]; exact hv⟩
    · obtain ⟨v, hv⟩ := rest.ex i; exact ⟨v, by rw [if_neg h]; exact hv⟩
  fct := fun i v => if i = n then e.fct v else rest.fct i v
  hs := fun i v w U h => by
    by_cases hi : i = n
    · rw [if_pos hi] at h ⊢; exact e.hs _ _ _ h
    · rw [if_neg hi] at h ⊢; exact rest.hs _ _ _ _ h
  st := fun i v => by
    by_cases hi : i = n
    · rw [if_pos hi]; exact e.st v
    · rw [if_neg hi]; exact rest.st i v
theorem blks_nodup (a : Option Addr) (n c : Nat) : (blks (.slice a n c)).Nodup := by cases a <;> cases n <;> simp [blks]

/-- The value is a row of its own, in blocks that are claimed. -/
def gRow (B sz : Nat) (cs : List (List Value)) (v : Value) : Fct := fun W U => RowOwn B W v sz cs ∧ ∀ g ∈ blks v, U g
theorem gRow_stab (B sz : Nat) (cs : List (List Value)) (v : Value) : Stab (gRow B sz cs v) := fun _ _ _ hb ⟨h1, h2⟩ => ⟨h1.keep (keep_below hb (fun p hp => (h1.lt p hp).2)), h2⟩
theorem gRow_of {B sz : Nat} {cs : List (List Value)} {v : Value} {w w' : World} (h : RowOwn w.heap.size w' v sz cs) (hB : B ≤ w.heap.size) : gRow B sz cs v w' (news w w') := ⟨h.mono hB, fun g hg => h.lt g hg⟩
def eRow (B sz n : Nat) (cs : List (List Value)) (hn : cs.length = n) : Ent where
  sh := fun v => ∃ a c, v = .slice a n c
  ex := ⟨.slice none n 0, none, 0, rfl⟩
  fct := gRow B sz cs
  hs := fun v w U h => by rw [← hn]; exact h.1.shape
  st := gRow_stab B sz cs
/-- The value is this one. -/
def eVal (u : Value) : Ent where
  sh := fun v => v = u
  ex := ⟨u, rfl⟩
  fct := fun v _ _ => v = u
  hs := fun _ _ _ h => h
  st := fun _ _ _ _ _ h => h
/-- An empty slice of its own. -/
def eLit0 : Ent where
  sh := fun v => ∃ g, v = .slice (some ⟨g, 0, none⟩) 0 0
  ex := ⟨_, 0, rfl⟩
  fct := fun v _ _ => ∃ g, v = .slice (some ⟨g, 0, none⟩) 0 0
  hs := fun _ _ _ h => h
  st := fun _ _ _ _ _ h => h
/-- A slice of one built element. -/
def eLit1 (row : List Value) (t : TypeId) : Ent where
  sh := fun v => ∃ g, v = .slice (some ⟨g, 0, none⟩) 1 1
  ex := ⟨_, 0, rfl⟩
  fct := fun v W U => ∃ g, v = .slice (some ⟨g, 0, none⟩) 1 1 ∧ Box W g row.toArray t ∧ U g
  hs := fun _ _ _ ⟨g, h, _⟩ => ⟨g, h⟩
  st := fun _ _ _ _ hb ⟨g, h, k, u⟩ => ⟨g, h, k.below hb, u⟩
/-- What a slice of controls reads as. -/
def eCtls (l : List Ctl) : Ent where
  sh := fun v => ∃ a c, v = .slice a l.length c
  ex := ⟨.slice none l.length 0, none, 0, rfl⟩
  fct := fun v W _ => CtlsAt W v l
  hs := fun v w U h => by obtain ⟨a, c, rfl, _⟩ := CtlsM.open h; exact ⟨a, c, rfl⟩
  st := fun _ _ _ _ hb h => CtlsM.below h hb
def bigSh (b : Big) (v : Value) : Prop := ∃ a1 c1 a2 c2 a3 c3 a4 c4, v = .agg #[.int .i64 b.roots, .slice a1 b.nodes.length c1, .slice a2 b.sites.length c2, .int .i64 b.edges, .slice a3 b.outer.length c3, .slice a4 b.inner.length c4]
def eBig (b : Big) : Ent where
  sh := bigSh b
  ex := ⟨_, none, 0, none, 0, none, 0, none, 0, rfl⟩
  fct := fun v W _ => BigAt W v b
  hs := fun v w U h => by
    obtain ⟨vn, vs, vo, vi, rfl, h1, h2, h3, h4, _⟩ := h
    obtain ⟨a1, c1, rfl, _⟩ := h1.open
    obtain ⟨a2, c2, rfl, _⟩ := h2.open
    obtain ⟨a3, c3, rfl, _⟩ := h3.open
    obtain ⟨a4, c4, rfl, _⟩ := h4.open
    exact ⟨a1, c1, a2, c2, a3, c3, a4, c4, rfl⟩
  st := fun _ _ _ _ hb h => BigM.below h hb
/-- A bigraph of the call's own. -/
def gBig (B : Nat) (b : Big) (v : Value) : Fct := fun W U => ∃ bs, BigOwn B W v b bs ∧ bs.Nodup ∧ ∀ g ∈ bs, U g
theorem gBig_stab (B : Nat) (b : Big) (v : Value) : Stab (gBig B b v) := fun _ _ _ hb ⟨bs, h1, h2, h3⟩ => ⟨bs, h1.keep (keep_below hb (fun p hp => (h1.lt p hp).2)), h2, h3⟩
def eBigOwn (B : Nat) (b : Big) : Ent where
  sh := bigSh b
  ex := ⟨_, none, 0, none, 0, none, 0, none, 0, rfl⟩
  fct := gBig B b
  hs := fun v w U ⟨bs, h, _⟩ => (eBig b).hs v w U h.at
  st := gBig_stab B b
def fst3 : Value → Value
  | .tuple a => a.getD 0 undef
  | _ => undef
def snd3 : Value → Value
  | .tuple a => a.getD 1 undef
  | _ => undef
def blkOf : Value → Nat
  | .pointer (some a) => a.block
  | _ => 0
/-- Such a bigraph and whether there is one. -/
def eBigOk (B : Nat) (b : Big) (ok : Bool) : Ent where
  sh := fun v => ∃ u, v = .tuple #[u, .bool ok] ∧ bigSh b u
  ex := ⟨_, _, rfl, none, 0, none, 0, none, 0, none, 0, rfl⟩
  fct := fun v W U => v = .tuple #[fst3 v, .bool ok] ∧ gBig B b (fst3 v) W U
  hs := fun v w U ⟨e, h⟩ => ⟨_, e, (eBigOwn B b).hs _ w U h⟩
  st := fun v w w' U hb ⟨e, h⟩ => ⟨e, gBig_stab B b _ w w' U hb h⟩
/-- Two of them, apart. -/
def eBig2Ok (B : Nat) (b c : Big) (ok : Bool) : Ent where
  sh := fun v => ∃ u1 u2, v = .tuple #[u1, u2, .bool ok] ∧ bigSh b u1 ∧ bigSh c u2
  ex := ⟨_, _, _, rfl, ⟨none, 0, none, 0, none, 0, none, 0, rfl⟩, ⟨none, 0, none, 0, none, 0, none, 0, rfl⟩⟩
  fct := fun v W U => v = .tuple #[fst3 v, snd3 v, .bool ok] ∧ ∃ bs1 bs2, BigOwn B W (fst3 v) b bs1 ∧ bs1.Nodup ∧ BigOwn B W (snd3 v) c bs2 ∧ bs2.Nodup ∧ (∀ g ∈ bs1, g ∉ bs2) ∧ (∀ g ∈ bs1, U g) ∧ ∀ g ∈ bs2, U g
  hs := fun v w U ⟨e, bs1, bs2, h1, _, h2, _⟩ => ⟨_, _, e, (eBig b).hs _ w U h1.at, (eBig c).hs _ w U h2.at⟩
  st := fun v w w' U hb ⟨e, bs1, bs2, h1, n1, h2, n2, hd, c1, c2⟩ => ⟨e, bs1, bs2, h1.keep (keep_below hb (fun p hp => (h1.lt p hp).2)), n1, h2.keep (keep_below hb (fun p hp => (h2.lt p hp).2)), n2, hd, c1, c2⟩
/-- A variable of several cells, laid here. -/
def eBox (B : Nat) (cs : Array Value) (t : TypeId) : Ent where
  sh := fun v => ∃ g, v = .pointer (some ⟨g, 0, none⟩)
  ex := ⟨_, 0, rfl⟩
  fct := fun v W U => v = .pointer (some ⟨blkOf v, 0, none⟩) ∧ Box W (blkOf v) cs t ∧ B ≤ blkOf v ∧ U (blkOf v)
  hs := fun v w U h => ⟨_, h.1⟩
  st := fun v w w' U hb ⟨e, h, h2⟩ => ⟨e, h.below hb, h2⟩
def eStrs (l : List ByteArray) : Ent where
  sh := fun v => ∃ a c, v = .slice a l.length c
  ex := ⟨.slice none l.length 0, none, 0, rfl⟩
  fct := fun v W _ => StrsAt W v l
  hs := fun v w U h => by obtain ⟨a, c, rfl, _⟩ := StrsM.open h; exact ⟨a, c, rfl⟩
  st := fun _ _ _ _ hb h => StrsM.below h hb
def eInts (l : List Int) : Ent where
  sh := fun v => ∃ a c, v = .slice a l.length c
  ex := ⟨.slice none l.length 0, none, 0, rfl⟩
  fct := fun v W _ => IntsAt W v l
  hs := fun v w U h => by obtain ⟨a, c, rfl, _⟩ := IntsM.open h; exact ⟨a, c, rfl⟩
  st := fun _ _ _ _ hb h => IntsM.below h hb
theorem Only.setCell' {bs : List Nat} {a b : World} (h : Only bs a b) {p : Addr} (hp : p.block ∈ bs) (u : Value) : Only bs a (b.setCell p u) :=
  h.trans ⟨rfl, rfl, rfl, by simp [World.setCell], fun k _ hn => heap_setCell_other b p k u (fun e => hn (e ▸ hp))⟩
/-- All six cells of a variable are stored. -/
theorem box_fill {w : World} {g : Nat} {a0 a1 a2 a3 a4 a5 : Value} {t : TypeId} (h : Box w g #[a0, a1, a2, a3, a4, a5] t) (v0 v1 v2 v3 v4 v5 : Value) :
    ∃ Y, Y = (((((w.setCell ⟨g, 0, none⟩ v0).setCell ⟨g, 1, none⟩ v1).setCell ⟨g, 2, none⟩ v2).setCell ⟨g, 3, none⟩ v3).setCell ⟨g, 4, none⟩ v4).setCell ⟨g, 5, none⟩ v5 ∧ Box Y g #[v0, v1, v2, v3, v4, v5] t ∧ Only [g] w Y := by
  refine ⟨_, rfl, ?_, ?_⟩
  · have := (((((h.set 0 v0).set 1 v1).set 2 v2).set 3 v3).set 4 v4).set 5 v5
    simpa using this
  · iterate 6 refine Only.setCell' ?_ (by simp) _
    exact Only.refl _ _

section
variable {P : Program} {ops : Array Oper} {C : World → Prop} {G : Told} {L : RgK} {rest : List Nat} {F : Fct} {a : Act}
theorem app0_run (w : World) (t ty e : TypeId) (sz bytes M : Nat) (z : Value) (ht : P.underlying t = some (.slice e)) (hinf : (P.info? e).map (fun i => (i.zero, i.size, i.bytes)) = some (some z, sz, bytes)) (hzs : z.cells.size = sz) (hsz : 0 < sz) (hby : bytes ≤ 128)
    (ad : Addr) (x : Value) (cs : List (List Value)) (hx : RowAt M w x sz cs) (h1 : ∀ r ∈ cs, ∀ u ∈ r, u.oneCell' = true) (hlen : cs.length ≤ 1000000) :
    ∃ v' w', (Builtin.append_ #[t, t] ty #[.slice (some ad) 0 0, x]).run P w = .ok v' w' ∧ Below w.heap.size w w' ∧ gRow w.heap.size sz cs v' w' (news w w') := by
  obtain ⟨i, hi, hz0, hz1, hz2⟩ := info_parts hinf
  obtain ⟨ax, cx, rfl, _, _, hr, _⟩ := id hx
  by_cases hc : cs = []
  · subst hc
    refine ⟨_, w, run_append_nothing w t t ty e i ht hi (some ad) 0 0 (Nat.le_refl _) _ ?_, Below.refl _ _, own_none _ _ _ _ _, fun g hg => (by simp [blks] at hg)⟩
    cases ax with
    | none => exact Src.ofNil w ht cx
    | some b => exact Src.ofSlice w ht b 0 cx [] (by simp) (fun j u hj => by simp at hj) (fun u hu => by cases hu)
  · have hpos : 0 < cs.length := List.length_pos_iff.2 hc
    cases ax with
    | none => exact absurd hx.nil_of_none hc
    | some b =>
      obtain ⟨v', w', hrun, hown, hg⟩ := run_append_arg_grows (P := P) w t ty e i z sz bytes ht hi hz0 hz1 hz2 hzs hsz ad 0 0 [] (by simp) (fun j u hj => by simp at hj) b cs.length cx cs.flatten (flatLen2 cs hr) hx.news (by omega) (by unfold maxLen; omega)
        (by have : (0 + cs.length) * bytes ≤ (0 + cs.length) * 128 := Nat.mul_le_mul_left _ hby; omega)
      refine ⟨v', w', hrun, (Below.refl _ _).grown hg (Nat.le_refl _) (fun k hk => by cases hk), ?_⟩
      exact gRow_of (RowOwn.of_owns (cs := cs) (n := 0 + cs.length) (by simpa using hown) (by simp) hr) (Nat.le_refl _)
/-- 'append(T{}, x...)' as an operation. -/
theorem rg_app0 {o : Oper} (s x : Operand) (t : TypeId) (ho : o.op = .call { callee := .builtin .append, args := #[s, x], argTypes := #[t, t] })
    (e : TypeId) (sz bytes M B : Nat) (z : Value) (ht : P.underlying t = some (.slice e)) (hinf : (P.info? e).map (fun i => (i.zero, i.size, i.bytes)) = some (some z, sz, bytes)) (hzs : z.cells.size = sz) (hsz : 0 < sz) (hby : bytes ≤ 128)
    (ad : Addr) (xv : Value) (cs : List (List Value)) (hs : a.eval s = .slice (some ad) 0 0) (hx : a.eval x = xv) (h1 : ∀ r ∈ cs, ∀ u ∈ r, u.oneCell' = true) (hlen : cs.length ≤ 1000000) (w : World) (hr : RowAt M w xv sz cs) (hB : B ≤ w.heap.size) :
    ∃ u w1, (execOp a.eval o).run P w = .ok (.value u) w1 ∧ Below w.heap.size w w1 ∧ gRow B sz cs u w1 (news w w1) := by
  obtain ⟨v', w', hrun, hb, h1', h2'⟩ := app0_run (P := P) w t o.type e sz bytes M z ht hinf hzs hsz hby ad xv cs hr h1 hlen
  refine ⟨v', w', ?_, hb, h1'.mono hB, h2'⟩
  simp [execOp, ho, resolve, invoke, builtin, hs, hx, hrun, Result.andThen]
theorem one_strRows (l : List ByteArray) : ∀ r ∈ strRows l, ∀ u ∈ r, u.oneCell' = true := by
  intro r hr u hu; simp only [strRows, List.mem_map] at hr; obtain ⟨x, _, rfl⟩ := hr; simp only [List.mem_singleton] at hu; subst hu; rfl
theorem one_intRows (l : List Int) : ∀ r ∈ intRows l, ∀ u ∈ r, u.oneCell' = true := by
  intro r hr u hu; simp only [intRows, List.mem_map] at hr; obtain ⟨x, _, rfl⟩ := hr; simp only [List.mem_singleton] at hu; subst hu; rfl
theorem one_wrRows (l : List Wr) : ∀ r ∈ l.map Wr.cells, ∀ u ∈ r, u.oneCell' = true := by
  intro r hr u hu; simp only [List.mem_map] at hr; obtain ⟨x, _, rfl⟩ := hr; simp only [Wr.cells, List.mem_cons, List.not_mem_nil, or_false] at hu; rcases hu with rfl | rfl <;> rfl
theorem len_strRows (l : List ByteArray) : (strRows l).length = l.length := by simp [strRows]
theorem len_intRows (l : List Int) : (intRows l).length = l.length := by simp [intRows]
theorem len_wrRows (l : List Wr) : (l.map Wr.cells).length = l.length := by simp
end
end Go.Proofs.YthgelhglfbgagaaGreatDoor.RgN

/- A node laid at its place in an own slice of nodes; such a slice made. No program in sight. -/
namespace Go.Proofs.YthgelhglfbgagaaGreatDoor
open Go Go.RowKit Go.BigFrame

/-- A new node in place of an old one. -/
theorem NdsOwn.lay {B g n c : Nat} {w : World} {l : List Nd} {bs : List Nat} (h : NdsOwn B w (.slice (some ⟨g, 0, none⟩) n c) l bs) (hnd : bs.Nodup) {t : Nat} (ht : t < l.length) {x : Nd} {vl : Value} (hx : IntsOwn B w vl x.links) (hI : I64 x.ctl ∧ I64 x.par) (hdis : ∀ q ∈ blks vl, q ∉ bs) :
    w.there g (t * 3) 3 ∧ g ∈ bs ∧ ∃ bs', NdsOwn B (w.setCells g (t * 3) [.int .i64 x.ctl, .int .i64 x.par, vl]) (.slice (some ⟨g, 0, none⟩) n c) (l.set t x) bs' ∧ bs'.Nodup ∧ ∀ q ∈ bs', q ∈ bs ∨ q ∈ blks vl := by
  obtain ⟨lv, rfl, h2, h3, h4, h5, rfl⟩ := h
  have htl : t < lv.length := by simpa using ht
  obtain ⟨z, hz⟩ := getElem?_of_lt htl
  obtain ⟨nd, v0⟩ := z
  have hm := List.mem_of_getElem? hz
  have hlen := h2.len
  simp only [List.length_map] at hlen
  subst hlen
  have hgb : g ∈ blks (.slice (some ⟨g, 0, none⟩) lv.length c) := by
    cases hq : lv.length with
    | zero => omega
    | succ n => simp [blks]
  have hi2 : (lv.map Nd.cells)[t]? = some (Nd.cells (nd, v0)) := by rw [List.getElem?_map, hz]; rfl
  have hs0 := RowOwn.store h2 hi2 (j := 0) (by omega) (.int .i64 x.ctl)
  have hs1 := RowOwn.store hs0 (i := t) (r := (Nd.cells (nd, v0)).set 0 (.int .i64 x.ctl)) (by rw [List.getElem?_set_self (by simpa using htl)]) (j := 1) (by omega) (.int .i64 x.par)
  rw [List.set_set] at hs1
  have hs2 := RowOwn.store hs1 (i := t) (r := ((Nd.cells (nd, v0)).set 0 (.int .i64 x.ctl)).set 1 (.int .i64 x.par)) (by rw [List.getElem?_set_self (by simpa using htl)]) (j := 2) (by omega) vl
  rw [List.set_set] at hs2
  have hrow : (((Nd.cells (nd, v0)).set 0 (.int .i64 x.ctl)).set 1 (.int .i64 x.par)).set 2 vl = Nd.cells (x, vl) := rfl
  rw [hrow] at hs2
  have hw : w.setCells g (t * 3) [.int .i64 x.ctl, .int .i64 x.par, vl] = ((w.setCell ⟨g, t * 3 + 0, none⟩ (.int .i64 x.ctl)).setCell ⟨g, t * 3 + 1, none⟩ (.int .i64 x.par)).setCell ⟨g, t * 3 + 2, none⟩ vl := by
    simp [World.setCells, World.setCell]
  have hne : ∀ q ∈ lv.flatMap (fun n => blks n.2), q ≠ g := fun q hq e => (List.nodup_append.1 hnd).2.2 g hgb q hq e.symm
  have hnv : ∀ q ∈ blks vl, q ≠ g := fun q hq e => hdis q hq (List.mem_append_left _ (e ▸ hgb))
  have hk : ∀ q, q ≠ g → (w.setCells g (t * 3) [.int .i64 x.ctl, .int .i64 x.par, vl]).heap[q]? = w.heap[q]? := fun q hq => other_setCells g _ _ w q hq
  refine ⟨?_, List.mem_append_left _ hgb, blks (.slice (some ⟨g, 0, none⟩) lv.length c) ++ (lv.set t (x, vl)).flatMap (fun n => blks n.2), ⟨lv.set t (x, vl), by rw [List.map_set], ?_, by simpa using h3, ?_, ?_, rfl⟩, ?_, ?_⟩
  · intro j hj
    have hpos : 0 < lv.length := by omega
    refine ⟨?_, h2.free hpos _⟩
    have : ∃ u, (Nd.cells (nd, v0))[j]? = some u := getElem?_of_lt (by simpa [Nd.cells] using hj)
    obtain ⟨u, hu⟩ := this
    rw [h2.cellAt hi2 hu]; rfl
  · rw [List.map_set, hw]; exact hs2
  · intro z hz'
    rcases List.mem_or_eq_of_mem_set hz' with h | rfl
    · exact (h4 z h).keep fun q hq => hk q (hne q (List.mem_flatMap.2 ⟨z, h, hq⟩))
    · exact hx.keep fun q hq => hk q (hnv q hq)
  · intro z hz'
    rcases List.mem_or_eq_of_mem_set hz' with h | rfl
    · exact h5 z h
    · exact hI
  · have hflat := (List.nodup_append.1 hnd).2.1
    rw [List.nodup_append]
    have hmem : ∀ q ∈ (lv.set t (x, vl)).flatMap (fun n => blks n.2), q ∈ lv.flatMap (fun n => blks n.2) ∨ q ∈ blks vl := by
      intro q hq
      obtain ⟨z, hz', hq⟩ := List.mem_flatMap.1 hq
      rcases List.mem_or_eq_of_mem_set hz' with h | rfl
      · exact .inl (List.mem_flatMap.2 ⟨z, h, hq⟩)
      · exact .inr hq
    refine ⟨blks_nodup _ _ _, ?_, ?_⟩
    · have hp := List.pairwise_flatMap.1 hflat
      refine List.pairwise_flatMap.2 ⟨?_, ?_⟩
      · intro z hz'
        rcases List.mem_or_eq_of_mem_set hz' with h | rfl
        · exact hp.1 z h
        · obtain ⟨a', c', e⟩ := hx.shape
          show List.Nodup (blks vl)
          rw [e]; exact blks_nodup _ _ _
      · rw [List.pairwise_iff_getElem]
        have hpw := List.pairwise_iff_getElem.1 hp.2
        intro i j hi hj hij
        simp only [List.length_set] at hi hj
        rw [List.getElem_set, List.getElem_set]
        by_cases e1 : t = i
        · rw [if_pos e1, if_neg (by omega)]
          intro p hp' q hq e
          subst e
          exact hdis p hp' (List.mem_append_right _ (List.mem_flatMap.2 ⟨_, List.getElem_mem hj, hq⟩))
        · rw [if_neg e1]
          by_cases e2 : t = j
          · rw [if_pos e2]
            intro p hp' q hq e
            subst e
            exact hdis p hq (List.mem_append_right _ (List.mem_flatMap.2 ⟨_, List.getElem_mem hi, hp'⟩))
          · rw [if_neg e2]
            exact hpw i j hi hj hij
    · intro p hp q hq
      have hpg : p = g := by
        cases hq' : lv.length with
        | zero => omega
        | succ n => rw [hq'] at hp; simpa [blks] using hp
      rcases hmem q hq with h | h
      · exact fun e => hne q h (e ▸ hpg)
      · exact fun e => hdis q h (List.mem_append_left _ (e ▸ hp))
  · intro q hq
    rcases List.mem_append.1 hq with h | h
    · exact .inl (List.mem_append_left _ h)
    · obtain ⟨z, hz', hq⟩ := List.mem_flatMap.1 h
      rcases List.mem_or_eq_of_mem_set hz' with h | rfl
      · exact .inl (List.mem_append_right _ (List.mem_flatMap.2 ⟨z, h, hq⟩))
      · exact .inr hq
theorem only_setCells (w : World) (g o : Nat) (us : List Value) : Only [g] w (w.setCells g o us) := by
  obtain ⟨h1, h2, h3, h4⟩ := rest_setCells g us o w
  exact ⟨h1, h2, h3, by omega, fun k _ hn => other_setCells g us o w k (fun e => hn (by simp [e]))⟩
theorem Only.grow_own {bs : List Nat} {a b c : World} {base e sz : Nat} {v : Value} {cs : List (List Value)} (h : Only bs a b) (hown : Acc b base e sz v cs) (hg : b.grownBy c v.ownBlock) (hB : a.heap.size ≤ base) : Only bs a c :=
  ⟨hg.os.trans h.os, hg.tape.trans h.tape, hg.output.trans h.output, Nat.le_trans h.size hg.size, fun k hk hn => (hg.block k (Nat.lt_of_lt_of_le hk h.size) (fun e => by have := (hown.1.lt k e.symm).1; omega)).trans (h.block k hk hn)⟩
theorem Only.more {bs : List Nat} {a b c : World} (h : Only bs a b) (hb : Below b.heap.size b c) : Only bs a c := h.trans (.of_below hb bs)
theorem NdsOwn.head {B n c : Nat} {a : Option Addr} {w : World} {l : List Nd} {bs : List Nat} (h : NdsOwn B w (.slice a n c) l bs) (hn : 0 < n) : ∃ g, a = some ⟨g, 0, none⟩ := by
  obtain ⟨lv, _, h2, _⟩ := h
  obtain ⟨g, e, _⟩ := h2.head hn
  exact ⟨g, e⟩
theorem made_rows (zs : Array Value) (sz n : Nat) (hz : zs.size = sz) (hpos : 0 < sz) : (madeCells zs (n * sz)).toList = (List.replicate n zs.toList).flatten := by
  have hr : ∀ r ∈ List.replicate n zs.toList, r.length = sz := fun r hr => by rw [List.eq_of_mem_replicate hr]; simpa using hz
  apply List.ext_getElem?
  intro k
  by_cases hk : k < n * sz
  · have e : k = k / sz * sz + k % sz := by rw [Nat.mul_comm]; exact (Nat.div_add_mod k sz).symm
    have hm : k % sz < sz := Nat.mod_lt _ hpos
    have hd : k / sz < n := Nat.div_lt_of_lt_mul (by rw [Nat.mul_comm]; exact hk)
    obtain ⟨u, hu⟩ := getElem?_of_lt (l := zs.toList) (i := k % sz) (by simpa [hz] using hm)
    have := flat_get _ hr (k / sz) zs.toList (by simp [hd]) (k % sz) u hu
    rw [← e] at this
    rw [this]
    unfold madeCells
    simp only [Array.toList_map, List.getElem?_map]
    rw [show (Array.range (n * sz)).toList[k]? = some k by simp [hk]]
    simp only [Option.map_some, hz]
    have hu' : zs[k % sz]? = some u := by simpa using hu
    obtain ⟨hlt, he⟩ := Array.getElem?_eq_some_iff.1 hu'
    rw [getElem!_pos zs (k % sz) hlt, he]
  · rw [List.getElem?_eq_none (by unfold madeCells; simp; omega), List.getElem?_eq_none (by rw [flat_len _ hr]; simp; omega)]
section
variable {P : Program} {a : Act}
/-- 'make([]T, n)' as an operation. -/
theorem rg_make {o : Oper} (l c : Operand) (t : TypeId) (ho : o.op = Op.makeSlice t l c) (e : TypeId) (sz bytes B : Nat) (z : Value) (ht : P.underlying t = some (.slice e)) (hinf : (P.info? e).map (fun i => (i.zero, i.size, i.bytes)) = some (some z, sz, bytes)) (hzs : z.cells.size = sz) (hsz : 0 < sz) (hby : bytes ≤ 128)
    (n : Nat) (hl : a.eval l = .int .i64 (n : Int)) (hc : a.eval c = .int .i64 (n : Int)) (hn : n ≤ 1000000) (w : World) (hB : B ≤ w.heap.size) :
    ∃ u w1, (execOp a.eval o).run P w = .ok (.value u) w1 ∧ Below w.heap.size w w1 ∧ gRow B sz (List.replicate n z.cells.toList) u w1 (news w w1) := by
  obtain ⟨i, hi, hz0, hz1, hz2⟩ := info_parts hinf
  obtain ⟨w', hrun, r1, r2⟩ := run_make_full (P := P) w w.heap.size t e i z sz ht hi hz0 hz1 .i64 .i64 n (by have : i.bytes * n ≤ 128 * 1000000 := Nat.mul_le_mul (by omega) hn; omega) (by unfold maxLen; omega) (Nat.le_refl _)
  rw [made_rows _ sz n hzs hsz] at r1
  refine ⟨.slice (some ⟨w.heap.size, 0, none⟩) n n, w', ?_, (Below.refl _ _).grown r2 (Nat.le_refl _) (fun k hk => by cases hk), ?_⟩
  · simp [execOp, ho, hl, hc, hrun, Result.andThen]
  · exact ⟨(RowOwn.of_owns (cs := List.replicate n z.cells.toList) r1 (by simp) (fun r hr => by rw [List.eq_of_mem_replicate hr]; simpa using hzs)).mono hB, fun g hg => (RowOwn.of_owns (cs := List.replicate n z.cells.toList) r1 (by simp) (fun r hr => by rw [List.eq_of_mem_replicate hr]; simpa using hzs)).lt g hg⟩
end
theorem made_nds {B n : Nat} {w : World} {v : Value} (hn : n ≤ 1000) (h : RowOwn B w v 3 (List.replicate n [.int .i64 0, .int .i64 0, .slice none 0 0])) : NdsOwn B w v (List.replicate n noNd) (blks v) ∧ (blks v).Nodup := by
  obtain ⟨a', c', e⟩ := h.shape
  refine ⟨⟨List.replicate n (noNd, .slice none 0 0), by simp, by simpa [Nd.cells, noNd] using h, by simp; omega, ?_, ?_, ?_⟩, by rw [e]; exact blks_nodup _ _ _⟩
  · intro z hz
    rw [List.eq_of_mem_replicate hz]
    exact ⟨⟨fun r hr => by simp [noNd, intRows] at hr, .inl ⟨rfl, _, _, rfl⟩⟩, by simp [noNd], fun x hx => by simp [noNd] at hx⟩
  · intro z hz
    rw [List.eq_of_mem_replicate hz]
    unfold noNd I64; simp only; omega
  · have : (List.replicate n (noNd, Value.slice none 0 0)).flatMap (fun n => blks n.2) = [] := by
      rw [List.flatMap_eq_nil_iff]
      intro z hz
      rw [List.eq_of_mem_replicate hz]; rfl
    rw [this, List.append_nil]
end Go.Proofs.YthgelhglfbgagaaGreatDoor

/- 'append(s, x...)' onto a slice of the call's own, x being any slice that reads as rows. No program in sight. -/
namespace Go.Proofs.YthgelhglfbgagaaGreatDoor
open Go Go.RowKit
variable {P : Program} {ops : Array Oper} {rest : List Oper} {o : Oper} {a : Act} {Q : Exit → Act → World → Prop}

theorem runR (w : World) (t ty e : TypeId) (base sz bytes M : Nat) (z : Value) (ht : P.underlying t = some (.slice e)) (hinf : (P.info? e).map (fun i => (i.zero, i.size, i.bytes)) = some (some z, sz, bytes)) (hzs : z.cells.size = sz) (hsz : 0 < sz) (hby : bytes ≤ 128)
    (v : Value) (cs : List (List Value)) (hown : Acc w base e sz v cs) (xv : Value) (cs2 : List (List Value)) (hr : RowAt M w xv sz cs2) (h1 : ∀ r ∈ cs2, ∀ u ∈ r, u.oneCell' = true) (hlen : cs.length + cs2.length ≤ 1073741824) (hbase : base ≤ w.heap.size) :
    ∃ v' w', (Builtin.append_ #[t, t] ty #[v, xv]).run P w = .ok v' w' ∧ Acc w' base e sz v' (cs ++ cs2) ∧ w.grownBy w' v.ownBlock ∧ (v'.ownBlock = v.ownBlock ∨ v'.ownBlock = some w.heap.size) := by
  obtain ⟨i, hi, hz0, hz1, hz2⟩ := info_parts hinf
  obtain ⟨ax, cx, rfl, _, _, hr5, _⟩ := id hr
  cases ax with
  | none =>
    obtain rfl := hr.nil_of_none
    obtain ⟨av, cv, rfl⟩ := hown.shape
    have hle : cs.length ≤ cv := by
      rcases hown.1.2 with ⟨e0, h0⟩ | ⟨g, c, cur, e0, _, _, h2, _⟩
      · simp only [Value.slice.injEq] at e0; omega
      · simp only [Value.slice.injEq] at e0; omega
    refine ⟨_, w, run_append_nothing w t t ty e i ht hi av cs.length cv hle _ (Src.ofNil w ht cx), by simpa using hown, ⟨rfl, rfl, rfl, Nat.le_refl _, fun _ _ _ => rfl⟩, .inl rfl⟩
  | some b =>
    obtain ⟨v', w', hrun, hown', hg, _, hat⟩ := run_append_own_at (P := P) w base t ty e i z sz bytes ht hi hz0 hz1 hz2 hzs hsz v cs.length cs.flatten hown.1 b cs2.length cx cs2.flatten (flatLen2 cs2 hr5) hr.news
      (fun u hu => by obtain ⟨r, hr, hu⟩ := List.mem_flatten.1 hu; exact h1 r hr u hu) (by unfold maxLen; omega) (by have : (cs.length + cs2.length) * bytes ≤ (cs.length + cs2.length) * 128 := Nat.mul_le_mul_left _ hby; omega) hbase
    refine ⟨v', w', hrun, ⟨by simpa using hown', fun r hr => ?_⟩, hg, hat⟩
    rcases List.mem_append.1 hr with hr | hr
    · exact hown.2 r hr
    · exact hr5 r hr

theorem appR (w : World) (hgd : o.guard = none) (s x : Operand) (t : TypeId) (ho : o.op = .call { callee := .builtin .append, args := #[s, x], argTypes := #[t, t] })
    (base e sz bytes M : Nat) (z : Value) (ht : P.underlying t = some (.slice e)) (hinf : (P.info? e).map (fun i => (i.zero, i.size, i.bytes)) = some (some z, sz, bytes)) (hzs : z.cells.size = sz) (hsz : 0 < sz) (hby : bytes ≤ 128)
    (v : Value) (cs : List (List Value)) (hs : a.eval s = v) (hown : Acc w base e sz v cs) (xv : Value) (cs2 : List (List Value)) (hx : a.eval x = xv) (hr : RowAt M w xv sz cs2) (h1 : ∀ r ∈ cs2, ∀ u ∈ r, u.oneCell' = true) (hlen : cs.length + cs2.length ≤ 1073741824) (hbase : base ≤ w.heap.size)
    (h : ∀ v' w', Acc w' base e sz v' (cs ++ cs2) → w.grownBy w' v.ownBlock → (v'.ownBlock = v.ownBlock ∨ v'.ownBlock = some w.heap.size) → wpList P ops Q rest (a.put o.dst v') w') :
    wpList P ops Q (o :: rest) a w := by
  obtain ⟨v', w', hrun, h2, h3, h4⟩ := runR (P := P) w t o.type e base sz bytes M z ht hinf hzs hsz hby v cs hown xv cs2 hr h1 hlen hbase
  refine wpList_plain hgd fun K hK => ?_
  unfold Oper.wp execOp
  simp only [ho, resolve, invoke, builtin, Sem.run_bind, Sem.run_pure, Result.andThen_ok, List.map_toArray, List.map_cons, List.map_nil, hs, hx, hrun]
  exact hK _ _ (h v' w' h2 h3 h4)
/-- One row in a block that is known. -/
theorem rowAt_one {w : World} {g : Nat} {row : List Value} {e' : TypeId} {c : Nat} (h : w.heap[g]? = some (.cells row.toArray e' (0, 0))) (hc : 1 ≤ c) : RowAt 1 w (.slice (some ⟨g, 0, none⟩) 1 c) row.length [row] := by
  refine ⟨some ⟨g, 0, none⟩, c, rfl, by simpa using hc, by simp, by simp, fun i r hi => ⟨g, 0, rfl, fun j u hj => ?_⟩⟩
  obtain ⟨rfl, rfl⟩ : i = 0 ∧ r = row := by
    cases i with
    | zero => simpa using hi.symm
    | succ i => simp at hi
  rw [Nat.zero_mul, Nat.zero_add, cell_of_row w g j _ e' (0, 0) h]
  simpa using hj
end Go.Proofs.YthgelhglfbgagaaGreatDoor

/- The place of a name in a list. -/
namespace Go.Proofs.YthgelhglfbgagaaGreatDoor
open Go Go.RowKit Go.BigFrame

theorem getD_of {l : List ByteArray} {k : Nat} {x : ByteArray} (h : l[k]? = some x) : l.getD k ByteArray.empty = x := by rw [List.getD_eq_getElem?_getD, h]; rfl
theorem idx_hit {l : List ByteArray} {k : Nat} {x : ByteArray} (h : l[k]? = some x) (hne : ∀ (j : Nat) y, j < k → l[j]? = some y → y ≠ x) : Lib.idxOfS l x = k := by
  have hk := (List.getElem?_eq_some_iff.1 h).1
  have := Lib.idxOfS_hit l l.length k x hk (Nat.le_refl _) (getD_of h) (fun j hj => by
    obtain ⟨y, hy⟩ := getElem?_of_lt (show j < l.length by omega)
    rw [getD_of hy]; exact hne j y hj hy)
  rwa [List.take_length] at this
theorem idx_miss {l : List ByteArray} {x : ByteArray} (hne : ∀ (j : Nat) y, j < l.length → l[j]? = some y → y ≠ x) : Lib.idxOfS l x = -1 := by
  have := Lib.idxOfS_miss l l.length x (fun j hj => by
    obtain ⟨y, hy⟩ := getElem?_of_lt hj
    rw [getD_of hy]; exact hne j y hj hy)
  rwa [List.take_length] at this
theorem idx_bd (l : List ByteArray) (x : ByteArray) : -1 ≤ Lib.idxOfS l x ∧ Lib.idxOfS l x < (l.length : Int) := by
  by_cases h : ∃ k : Nat, l[k]? = some x
  · have hex : ∃ k : Nat, l[k]? = some x ∧ ∀ (j : Nat) y, j < k → l[j]? = some y → y ≠ x := by
      obtain ⟨k, hk⟩ := h
      induction k using Nat.strongRecOn with
      | _ k ih =>
        by_cases h2 : ∃ j : Nat, j < k ∧ l[j]? = some x
        · obtain ⟨j, hj, hx⟩ := h2; exact ih j hj hx
        · exact ⟨k, hk, fun j y hj hy e => h2 ⟨j, hj, by rw [← e]; exact hy⟩⟩
    obtain ⟨k, hk, hne⟩ := hex
    have hlt := (List.getElem?_eq_some_iff.1 hk).1
    rw [idx_hit hk hne]; omega
  · rw [idx_miss (fun j y _ hy e => h ⟨j, by rw [← e]; exact hy⟩)]; omega
theorem idx_get {l : List ByteArray} {x : ByteArray} (h : x ∈ l) : ∃ k : Nat, Lib.idxOfS l x = k ∧ l[k]? = some x := by
  obtain ⟨k, hk⟩ := List.mem_iff_getElem?.1 h
  induction k using Nat.strongRecOn with
  | _ k ih =>
    by_cases h2 : ∃ j : Nat, j < k ∧ l[j]? = some x
    · obtain ⟨j, hj, hx⟩ := h2; exact ih j hj hx
    · exact ⟨k, idx_hit hk (fun j y hj hy e => h2 ⟨j, hj, by rw [← e]; exact hy⟩), hk⟩

theorem sIndex_ct (v : Value) (l : List ByteArray) (x : ByteArray) (w : World) (h : StrsAt w v l) : Calls Tryz.prog 113 #[v, .string x] w fun e w' => e = .returned (.int .i64 (Lib.idxOfS l x)) ∧ w' = w := by
  obtain ⟨a, c, rfl, _, hl, h3⟩ := h.open
  cases hl0 : l with
  | nil => exact Tryz.slices_Index_string_empty a c x w
  | cons s l' =>
    rw [← hl0]
    obtain ⟨_, b, o, rfl, _⟩ := h3 0 s (by rw [hl0]; rfl)
    refine (Tryz.slices_Index_string b o l.length c l x w (Nat.le_refl _) (by omega) (fun j hj => ?_)).mono ?_
    · obtain ⟨y, hy⟩ := getElem?_of_lt hj
      obtain ⟨_, b', o', e', hc⟩ := h3 j y hy
      obtain ⟨rfl, rfl⟩ : b = b' ∧ o = o' := by simpa using e'
      rw [hc, getD_of hy]
    · rintro e w' ⟨rfl, rfl⟩
      rw [List.take_length]; exact ⟨rfl, rfl⟩

end Go.Proofs.YthgelhglfbgagaaGreatDoor

/- Links turned, edges and outer names laid anew: plain words. No program in sight. -/
namespace Go.Proofs.YthgelhglfbgagaaGreatDoor
open Go Go.RowKit

/-- What a link is: an edge, or an outer name. -/
def endB (b : Big) (l : Int) : Int × ByteArray := if l < b.edges then (l, ⟨#[]⟩) else (0, b.outer.getD (l - b.edges).toNat ⟨#[]⟩)
/-- The link that an end is, where there are some edges and outer names. -/
def endL (E : Int) (outer : List ByteArray) (e : Int × ByteArray) : Int := if e.2 = ⟨#[]⟩ then e.1 else E + Lib.idxOfS outer e.2
def relB (b : Big) (E : Int) (outer : List ByteArray) (f : Int → Int) : Big :=
  ⟨b.roots, b.nodes.map (fun n => { n with links := n.links.map f }), b.sites, E, outer, b.inner.map (fun x => { x with link := f x.link })⟩
/-- The links that some point has. -/
def Used (b : Big) (l : Int) : Prop := (∃ n ∈ b.nodes, l ∈ n.links) ∨ ∃ x ∈ b.inner, x.link = l
theorem allN_map (f : Int → Int) (l : List Nd) : allN (fun _ _ => f) l = l.map fun n => { n with links := n.links.map f } := by
  unfold allN
  apply List.ext_getElem?; intro j
  simp only [List.getElem?_mapIdx, List.getElem?_map]
  cases l[j]? with
  | none => rfl
  | some n =>
    simp only [Option.map_some, Option.some.injEq, Nd.mk.injEq, true_and]
    apply List.ext_getElem?; intro k
    simp [List.getElem?_mapIdx]
theorem allW_map (f : Int → Int) (l : List Wr) : allW (fun _ => f) l = l.map fun x => { x with link := f x.link } := by
  unfold allW
  apply List.ext_getElem?; intro j
  simp [List.getElem?_mapIdx]
theorem relB_congr {b : Big} {E : Int} {outer : List ByteArray} {f g : Int → Int} (h : ∀ l, Used b l → f l = g l) : relB b E outer f = relB b E outer g := by
  unfold relB
  congr 1
  · apply List.map_congr_left; intro n hn
    congr 1
    apply List.map_congr_left; intro x hx
    exact h x (.inl ⟨n, hn, hx⟩)
  · apply List.map_congr_left; intro x hx
    rw [h x.link (.inr ⟨x, hx, rfl⟩)]
theorem idx_asc {l : List ByteArray} (h : Asc l) {k : Nat} {x : ByteArray} (hx : l[k]? = some x) : Lib.idxOfS l x = k := by
  refine idx_hit hx fun j y hj hy e => ?_
  subst e
  obtain ⟨h1, h2⟩ := List.getElem?_eq_some_iff.1 hx
  obtain ⟨h3, h4⟩ := List.getElem?_eq_some_iff.1 hy
  have := List.pairwise_iff_getElem.1 h j k h3 h1 hj
  rw [h2, h4] at this
  exact ltB_irrefl _ this
end Go.Proofs.YthgelhglfbgagaaGreatDoor

/- Names in ascending order, each once: the program's way, by sorting and compacting. -/
namespace Go.Proofs.YthgelhglfbgagaaGreatDoor
open Go Go.RowKit Go.BigFrame Go.Sort

theorem enc_bytes (s : ByteArray) : encStr s.data.toList = .string s := by
  unfold encStr
  congr 1
theorem map_bytes (l : List ByteArray) : (bytesL l).map encStr = (strRows l).flatten := by
  unfold bytesL strRows
  induction l with
  | nil => rfl
  | cons s l ih => rw [List.map_cons, List.map_cons, enc_bytes, ih]; simp
theorem map_strs (l : List (List UInt8)) : l.map encStr = (strRows (strsL l)).flatten := by
  unfold strsL strRows
  induction l with
  | nil => rfl
  | cons s l ih => rw [List.map_cons, ih]; simp [encStr]
theorem sortB_len (l : List (List UInt8)) : (sortB l).length = l.length := by unfold sortB; simp
theorem bytesL_len (l : List ByteArray) : (bytesL l).length = l.length := by unfold bytesL; simp
theorem strRows_len (l : List ByteArray) : (strRows l).length = l.length := by simp [strRows]

set_option maxRecDepth 100000 in
set_option maxHeartbeats 2000000 in
theorem sortedNames_ct (v : Value) (l : List ByteArray) (w : World) (h : StrsAt w v l) (h16 : l.length ≤ 16) : Calls Tryz.prog 152 #[v] w fun e w' => ∃ u, e = .returned u ∧ RowOwn w.heap.size w' u 1 (strRows (sortU l)) ∧ Below w.heap.size w w' := by
  obtain ⟨a, c, rfl, _, _, _⟩ := id h.open
  go_enter Tryz.func152, Tryz.ntmps152
  go_wp2_with fail
  refine (clone_ct _ l _ h h16).mono ?_
  rintro e w1 ⟨u1, rfl, hu1, hb1⟩
  rcases hu1.2 with ⟨hnil, p, cap, rfl⟩ | ⟨g, cap, cur, e1, rfl, hbase, hblk, hcap, htake⟩
  · have hl : l = [] := by cases l with | nil => rfl | cons s l => simp [strRows] at hnil
    subst hl
    go_wp2_with fail
    refine (Tryz.slices_Sort_string_none p cap _).mono ?_
    rintro e w2 ⟨rfl, rfl⟩
    go_wp2_with fail
    refine (Tryz.slices_Compact_string_empty p cap _).mono ?_
    rintro e w2 ⟨rfl, rfl⟩
    go_wp2_with fail
    go_ret
    exact ⟨_, rfl, hu1, hb1⟩
  · rw [strRows_len] at hcap htake ⊢
    have hlt := (Array.getElem?_eq_some_iff.1 hblk).1
    rw [← bytesL_len l] at hcap htake ⊢
    rw [Nat.mul_one, ← map_bytes] at htake
    obtain ⟨ss, hss⟩ : ∃ ss, ss = bytesL l := ⟨_, rfl⟩
    have hz : ss.length ≤ 16 := by rw [hss, bytesL_len]; exact h16
    have hsz : ss.length ≤ cur.size := by
      have := congrArg List.length htake
      rw [← hss] at this
      simp only [List.length_take, List.length_map, Array.length_toList] at this
      omega
    have HE : Hid (strsL (Lib.compact (sortB ss)) = sortU l) := by show _ = _; rw [hss]; exact compact_sortU l
    rw [← hss] at hcap htake ⊢
    clear hss hu1
    go_wp2_with fail
    refine (Tryz.slices_Sort_string g 0 cap ss _ (holds_of_block hblk htake) hlt (by omega)).mono ?_
    rintro e w2 ⟨rfl, n, os, hw2⟩
    have hblk2 := heap_sorted (n := n) (os := os) (sortB ss).toArray hblk
    have hg2 := grownBy_sorted (w := w1) (g := g) (n := n) (os := os) (sortB ss).toArray
    have hw2' : w2 = grow (putRow encStr (Sort.ahead w1 n) g 0 (sortB ss).toArray) os := hw2
    rw [← hw2'] at hblk2 hg2
    have ht2 := take_putCells cur (sortB ss) (by rw [sortB_len]; exact hsz)
    have hb2 := hb1.grown hg2 hb1.size (fun k hk => by simp at hk; omega)
    have hlt2 := (Array.getElem?_eq_some_iff.1 hblk2).1
    clear hw2 hw2' hblk hg2 hb1 htake
    have hl2 := sortB_len ss
    obtain ⟨zs, hzs⟩ : ∃ zs, zs = sortB ss := ⟨_, rfl⟩
    rw [← hzs] at hblk2 ht2 hl2 HE
    rw [← hl2] at hcap hsz hz ⊢
    clear hzs hl2
    go_wp2_with fail
    refine (Tryz.slices_Compact_string g 0 cap zs _ (holds_of_block hblk2 ht2) (by omega) hcap).mono ?_
    rintro e w3 ⟨rfl, q, hw3⟩
    have hlen : (Lib.compact zs).length ≤ zs.length := by
      unfold Lib.compact Lib.compactUpTo
      rw [List.length_map]
      exact Nat.le_trans (List.length_filter_le _ _) (by simp)
    obtain ⟨ds, hds⟩ : ∃ ds, ds = Lib.compact zs ++ List.replicate (zs.length - (Lib.compact zs).length) [] := ⟨_, rfl⟩
    have hdl : ds.length = zs.length := by rw [hds]; simp; omega
    rw [← hds] at hw3
    have hblk3 := heap_sorted (n := q) (os := #[]) ds.toArray hblk2
    have hg3 := grownBy_sorted (w := w2) (g := g) (n := q) (os := #[]) ds.toArray
    rw [grow_empty, ← hw3] at hblk3 hg3
    have hcs : (putCells encStr 0 zs.toArray cur).size = cur.size := by simp [putCells]
    have ht3 := take_putCells (putCells encStr 0 zs.toArray cur) ds (by rw [hdl, hcs]; exact hsz)
    have hb3 := hb2.grown hg3 hb2.size (fun k hk => by simp at hk; omega)
    clear hw3
    go_wp2_with fail
    go_ret
    refine ⟨_, rfl, ⟨fun r hr => ?_, .inr ⟨g, cap, _, _, ?_, hbase, hblk3, ?_, ?_⟩⟩, hb3⟩
    · simp only [strRows, List.mem_map] at hr; obtain ⟨x, _, rfl⟩ := hr; rfl
    · rw [strRows_len, ← HE.out]; simp [strsL]
    · rw [strRows_len, ← HE.out]; simp [strsL]; omega
    · rw [strRows_len, ← HE.out, ← map_strs, Nat.mul_one]
      have e1 : (strsL (Lib.compact zs)).length = (Lib.compact zs).length := by simp [strsL]
      rw [e1]
      have := congrArg (List.take (Lib.compact zs).length) ht3
      rw [List.take_take, Nat.min_eq_left (by omega)] at this
      rw [this, hds, List.map_append, List.take_left' (by simp)]
end Go.Proofs.YthgelhglfbgagaaGreatDoor
