/- Names in ascending order, each once: by insertion, and by sorting and compacting. No program in sight. -/
import Derived.Test.YtanndcclkmcfbaaDoorData
import Derived.Sort.Row
import Derived.Lib.SlicesCompact
namespace Go.Proofs.YtanndcclkmcfbaaDoor
open Go Go.RowKit

theorem bl_eq : ∀ x y : List UInt8, Op.bytesLess x y = decide (x < y)
  | [], [] => by simp [Op.bytesLess]
  | _ :: _, [] => by simp [Op.bytesLess]
  | [], _ :: _ => by simp [Op.bytesLess]
  | a :: x, b :: y => by
    rw [Op.bytesLess, bl_eq x y]
    simp only [List.cons_lt_cons_iff]
    by_cases h1 : a < b <;> by_cases h2 : a = b <;> by_cases h3 : x < y <;> simp [h1, h2, h3]
theorem tl_data (s : ByteArray) : s.toList = s.data.toList := by rw [ByteArray.toList_eq]
theorem bl_data (a b : ByteArray) : Op.bytesLess a.toList b.toList = decide (a.data.toList < b.data.toList) := by rw [bl_eq, tl_data, tl_data]
theorem ba_inj {a b : ByteArray} (h : a.data.toList = b.data.toList) : a = b := by
  apply ByteArray.ext; exact Array.toList_inj.1 h
theorem beq_data (a b : ByteArray) : (a.toList == b.toList) = decide (a = b) := by
  rw [tl_data, tl_data]
  by_cases h : a = b
  · subst h; simp
  · rw [decide_eq_false h]
    exact beq_eq_false_iff_ne.2 (fun e => h (ba_inj e))
/-- Ascending, each once. -/
def ltB (a b : ByteArray) : Prop := a.data.toList < b.data.toList
instance (a b : ByteArray) : Decidable (ltB a b) := by unfold ltB; infer_instance
def Asc (l : List ByteArray) : Prop := l.Pairwise ltB
theorem ltB_irrefl (a : ByteArray) : ¬ ltB a a := List.lt_irrefl _
theorem ltB_trans {a b c : ByteArray} (h : ltB a b) (k : ltB b c) : ltB a c := List.lt_trans h k
theorem ltB_tri {a b : ByteArray} (h : ¬ ltB a b) (hne : b ≠ a) : ltB b a := by
  unfold ltB at *
  have h1 := List.not_lt.1 h
  exact Classical.byContradiction fun h2 => hne (ba_inj (List.le_antisymm h1 (List.not_lt.1 h2)))
theorem asc_ext : ∀ {a b : List ByteArray}, Asc a → Asc b → (∀ z, z ∈ a ↔ z ∈ b) → a = b
  | [], [], _, _, _ => rfl
  | [], y :: b, _, _, h => by have := (h y).2 (List.mem_cons_self); cases this
  | x :: a, [], _, _, h => by have := (h x).1 (List.mem_cons_self); cases this
  | x :: a, y :: b, ha, hb, h => by
    obtain ⟨ha1, ha2⟩ := List.pairwise_cons.1 ha
    obtain ⟨hb1, hb2⟩ := List.pairwise_cons.1 hb
    have e : x = y := by
      rcases List.mem_cons.1 ((h x).1 (List.mem_cons_self)) with e | hx
      · exact e
      rcases List.mem_cons.1 ((h y).2 (List.mem_cons_self)) with e | hy
      · exact e.symm
      exact absurd (ltB_trans (ha1 y hy) (hb1 x hx)) (ltB_irrefl _)
    subst e
    congr 1
    refine asc_ext ha2 hb2 fun z => ⟨fun hz => ?_, fun hz => ?_⟩
    · rcases List.mem_cons.1 ((h z).1 (List.mem_cons_of_mem _ hz)) with rfl | h'
      · exact absurd (ha1 _ hz) (ltB_irrefl _)
      · exact h'
    · rcases List.mem_cons.1 ((h z).2 (List.mem_cons_of_mem _ hz)) with rfl | h'
      · exact absurd (hb1 _ hz) (ltB_irrefl _)
      · exact h'
/-- x is put to its place, once. -/
def insU (x : ByteArray) : List ByteArray → List ByteArray
  | [] => [x]
  | y :: l => if ltB y x then y :: insU x l else if y = x then y :: l else x :: y :: l
def sortU (l : List ByteArray) : List ByteArray := l.foldl (fun o x => insU x o) []
theorem insU_mem (x : ByteArray) : ∀ (l : List ByteArray) (z : ByteArray), z ∈ insU x l ↔ z = x ∨ z ∈ l
  | [], z => by simp [insU]
  | y :: l, z => by
    unfold insU
    split
    · rw [List.mem_cons, insU_mem x l, List.mem_cons]
      constructor
      · rintro (h | h | h) <;> simp [h]
      · rintro (h | h | h) <;> simp [h]
    · split
      · rename_i h; subst h; simp
      · simp
theorem insU_asc (x : ByteArray) : ∀ (l : List ByteArray), Asc l → Asc (insU x l)
  | [], _ => by simp [insU, Asc]
  | y :: l, h => by
    obtain ⟨h1, h2⟩ := List.pairwise_cons.1 h
    unfold insU
    split
    · rename_i hlt
      refine List.pairwise_cons.2 ⟨fun z hz => ?_, insU_asc x l h2⟩
      rcases (insU_mem x l z).1 hz with rfl | hz
      · exact hlt
      · exact h1 z hz
    · split
      · exact h
      · rename_i hlt hne
        have hxy := ltB_tri hlt (fun e => hne e.symm)
        refine List.pairwise_cons.2 ⟨fun z hz => ?_, h⟩
        rcases List.mem_cons.1 hz with rfl | hz
        · exact hxy
        · exact ltB_trans hxy (h1 z hz)
theorem sortU_snoc (l : List ByteArray) (x : ByteArray) : sortU (l ++ [x]) = insU x (sortU l) := by unfold sortU; rw [List.foldl_append]; rfl
theorem sortU_aux : ∀ (l o : List ByteArray), Asc o → Asc (l.foldl (fun o x => insU x o) o) ∧ ∀ z, z ∈ l.foldl (fun o x => insU x o) o ↔ z ∈ l ∨ z ∈ o
  | [], o, h => ⟨h, fun z => by simp⟩
  | x :: l, o, h => by
    obtain ⟨h1, h2⟩ := sortU_aux l (insU x o) (insU_asc x o h)
    refine ⟨h1, fun z => ?_⟩
    rw [List.foldl_cons, h2, insU_mem, List.mem_cons]
    constructor
    · rintro (h | h | h) <;> simp [h]
    · rintro ((h | h) | h) <;> simp [h]
theorem sortU_asc (l : List ByteArray) : Asc (sortU l) := (sortU_aux l [] List.Pairwise.nil).1
theorem sortU_mem (l : List ByteArray) (z : ByteArray) : z ∈ sortU l ↔ z ∈ l := by unfold sortU; rw [(sortU_aux l [] List.Pairwise.nil).2]; simp
theorem sortU_of {l o : List ByteArray} (ho : Asc o) (hm : ∀ z, z ∈ o ↔ z ∈ l) : sortU l = o := asc_ext (sortU_asc l) ho (fun z => by rw [sortU_mem, hm])
theorem sortU_congr {l o : List ByteArray} (hm : ∀ z, z ∈ o ↔ z ∈ l) : sortU l = sortU o := sortU_of (sortU_asc o) (fun z => by rw [sortU_mem, hm])
theorem sortU_self {l : List ByteArray} (h : Asc l) : sortU l = l := sortU_of h (fun _ => Iff.rfl)
theorem insU_len (x : ByteArray) : ∀ (l : List ByteArray), (insU x l).length ≤ l.length + 1
  | [] => by simp [insU]
  | y :: l => by
    unfold insU
    split
    · have := insU_len x l; simp; omega
    · split <;> simp
theorem sortU_len (l : List ByteArray) : (sortU l).length ≤ l.length := by
  unfold sortU
  have : ∀ (l o : List ByteArray), (l.foldl (fun o x => insU x o) o).length ≤ l.length + o.length := by
    intro l
    induction l with
    | nil => intro o; simp
    | cons x l ih => intro o; have h1 := ih (insU x o); have h2 := insU_len x o; simp only [List.foldl_cons, List.length_cons]; omega
  have := this l []
  simpa using this

/-! ### By sorting and compacting -/
def bytesL (l : List ByteArray) : List (List UInt8) := l.map fun s => s.data.toList
def strsL (l : List (List UInt8)) : List ByteArray := l.map fun s => ⟨s.toArray⟩
theorem strsL_bytesL (l : List ByteArray) : strsL (bytesL l) = l := by
  unfold strsL bytesL; rw [List.map_map]
  conv => rhs; rw [← List.map_id l]
  apply List.map_congr_left
  intro s _
  apply ba_inj; simp
def sortB (l : List (List UInt8)) : List (List UInt8) := l.mergeSort fun x y => decide (x ≤ y)
theorem sortB_le (l : List (List UInt8)) : (sortB l).Pairwise fun a b => a ≤ b := by
  have h := List.pairwise_mergeSort (le := fun x y : List UInt8 => decide (x ≤ y)) (fun a b c h1 h2 => by simp only [decide_eq_true_eq] at *; exact List.le_trans h1 h2) (fun a b => by simp only [Bool.or_eq_true, decide_eq_true_eq]; exact List.le_total a b) l
  exact h.imp (fun h => by simpa using h)
theorem sortB_mem (l : List (List UInt8)) (z : List UInt8) : z ∈ sortB l ↔ z ∈ l := (List.mergeSort_perm l _).mem_iff
theorem compact_asc {l : List (List UInt8)} (h : l.Pairwise fun a b => a ≤ b) : (Lib.compact l).Pairwise fun a b => a < b := by
  unfold Lib.compact Lib.compactUpTo
  rw [List.pairwise_map, List.pairwise_filter]
  refine (List.pairwise_lt_range.imp_of_mem ?_)
  intro i j hi hj hij hki hkj
  have hj' : j < l.length := List.mem_range.1 hj
  have h0 := List.pairwise_iff_getElem.1 h
  have e1 : l.toArray[i]! = l[i] := by rw [getElem!_pos l.toArray i (by simp; omega)]; simp
  have e2 : l.toArray[j]! = l[j] := by rw [getElem!_pos l.toArray j (by simp; omega)]; simp
  have e3 : l.toArray[j - 1]! = l[j - 1] := by rw [getElem!_pos l.toArray (j - 1) (by simp; omega)]; simp
  have hne : l[j] ≠ l[j - 1] := by
    unfold Lib.keeps at hkj
    simp only [decide_eq_true_eq] at hkj
    rcases hkj with hkj | hkj
    · omega
    · rw [e2, e3] at hkj; exact hkj
  rw [e1, e2]
  have hle1 : l[j - 1] ≤ l[j] := h0 (j - 1) j (by omega) hj' (by omega)
  have hlt : l[j - 1] < l[j] := Classical.byContradiction fun h2 => hne (List.le_antisymm (List.not_lt.1 h2) hle1)
  by_cases hij1 : i = j - 1
  · subst hij1; exact hlt
  · have hle2 : l[i] ≤ l[j - 1] := h0 i (j - 1) (by omega) (by omega) (by omega)
    exact Classical.byContradiction fun h2 => by
      have h3 := List.le_trans (List.not_lt.1 h2) hle2
      exact (List.not_lt.2 h3) hlt
theorem compact_mem (l : List (List UInt8)) (z : List UInt8) : z ∈ Lib.compact l ↔ z ∈ l := by
  unfold Lib.compact Lib.compactUpTo
  rw [List.mem_map]
  constructor
  · rintro ⟨i, hi, rfl⟩
    have hi' : i < l.length := List.mem_range.1 (List.mem_filter.1 hi).1
    rw [getElem!_pos l.toArray i (by simpa using hi')]
    simp
  · intro hz
    obtain ⟨i, hi, rfl⟩ := List.getElem_of_mem hz
    clear hz
    induction i using Nat.strongRecOn with
    | ind i ih =>
      have e2 : l.toArray[i]! = l[i] := by rw [getElem!_pos l.toArray i (by simpa using hi)]; simp
      cases hk : Lib.keeps l.toArray i with
      | true => exact ⟨i, List.mem_filter.2 ⟨List.mem_range.2 hi, hk⟩, e2⟩
      | false =>
        unfold Lib.keeps at hk
        simp only [decide_eq_false_iff_not, not_or, Decidable.not_not] at hk
        obtain ⟨h0, h1⟩ := hk
        have e3 : l.toArray[i - 1]! = l[i - 1] := by rw [getElem!_pos l.toArray (i - 1) (by simp; omega)]; simp
        rw [e2, e3] at h1
        obtain ⟨j, hj, e⟩ := ih (i - 1) (by omega) (by omega)
        exact ⟨j, hj, e.trans h1.symm⟩
theorem compact_sortU (l : List ByteArray) : strsL (Lib.compact (sortB (bytesL l))) = sortU l := by
  refine (sortU_of ?_ ?_).symm
  · unfold Asc strsL
    rw [List.pairwise_map]
    exact (compact_asc (sortB_le _)).imp (fun h => by unfold ltB; simpa using h)
  · intro z
    unfold strsL
    rw [List.mem_map]
    constructor
    · rintro ⟨y, hy, rfl⟩
      rw [compact_mem, sortB_mem] at hy
      unfold bytesL at hy
      obtain ⟨s, hs, rfl⟩ := List.mem_map.1 hy
      have : (⟨s.data.toList.toArray⟩ : ByteArray) = s := by apply ba_inj; simp
      rw [this]; exact hs
    · intro hz
      refine ⟨z.data.toList, ?_, by apply ba_inj; simp⟩
      rw [compact_mem, sortB_mem]
      exact List.mem_map.2 ⟨z, hz, rfl⟩

end Go.Proofs.YtanndcclkmcfbaaDoor
