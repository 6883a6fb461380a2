/- Reading the text of a bigraph: the parts as the walks hand them on. No program in sight. -/
import Derived.Test.YthgelhglfbgagaaGreatDoorReadP
namespace Go.Proofs.YthgelhglfbgagaaGreatDoor
open Go Go.RowKit Go.BigFrame

theorem allV_some {α : Type} {rd : ByteArray → Option α} {l : List ByteArray} {r : List α} (h : allR rd l = some r) : allV rd l = r ∧ allK rd l = true := by
  unfold allV allK; rw [h]; exact ⟨rfl, rfl⟩
theorem allV_none {α : Type} {rd : ByteArray → Option α} {l : List ByteArray} (h : allR rd l = none) : allV rd l = [] ∧ allK rd l = false := by
  unfold allV allK; rw [h]; exact ⟨rfl, rfl⟩
theorem allK_some {α : Type} {rd : ByteArray → Option α} {l : List ByteArray} (h : allK rd l = true) : allR rd l = some (allV rd l) := by
  unfold allK at h
  unfold allV
  cases ha : allR rd l with
  | none => rw [ha] at h; cases h
  | some r => rfl
theorem allK_none {α : Type} {rd : ByteArray → Option α} {l : List ByteArray} (h : allK rd l = false) : allR rd l = none := by
  unfold allK at h
  cases ha : allR rd l with
  | none => rfl
  | some r => rw [ha] at h; cases h
theorem allR_mem {α : Type} {rd : ByteArray → Option α} : ∀ {l : List ByteArray} {r : List α}, allR rd l = some r → ∀ y ∈ r, ∃ x ∈ l, rd x = some y
  | [], r, h, y, hy => by simp only [allR, Option.some.injEq] at h; subst h; cases hy
  | x :: l, r, h, y, hy => by
    unfold allR at h
    cases hx : rd x with
    | none => rw [hx] at h; cases h
    | some v =>
      cases hl : allR rd l with
      | none => rw [hx, hl] at h; cases h
      | some q =>
        rw [hx, hl] at h
        simp only [Option.some.injEq] at h
        subst h
        rcases List.mem_cons.1 hy with rfl | hy
        · exact ⟨x, by simp, hx⟩
        · obtain ⟨z, hz, e⟩ := allR_mem hl y hy; exact ⟨z, by simp [hz], e⟩
theorem allV_mem {α : Type} {rd : ByteArray → Option α} {l : List ByteArray} {y : α} (h : y ∈ allV rd l) : ∃ x ∈ l, rd x = some y := by
  cases ha : allR rd l with
  | none => rw [(allV_none ha).1] at h; cases h
  | some r => rw [(allV_some ha).1] at h; exact allR_mem ha y h
theorem allV_len {α : Type} {rd : ByteArray → Option α} (l : List ByteArray) : (allV rd l).length ≤ l.length := by
  cases ha : allR rd l with
  | none => rw [(allV_none ha).1]; simp
  | some r => rw [(allV_some ha).1, allR_len ha]; exact Nat.le_refl _
/-- What a node's text is read to, whether it can be read or not. -/
def headT (s : ByteArray) : ByteArray := (splitP s 32).getD 0 ⟨#[]⟩
def nodeJ (rd : ByteArray → Option Int) (sig : List Ctl) (s : ByteArray) : Nd := ⟨ctlX sig (cutA (headT s) 64), (rd (cutZ (headT s) 64)).getD 0, allV rd (wordsR s)⟩
def nodeK (rd : ByteArray → Option Int) (sig : List Ctl) (s : ByteArray) : Bool := allK rd (wordsR s) && ((rd (cutZ (headT s) 64)).isSome && decide (0 ≤ ctlX sig (cutA (headT s) 64)))
theorem nodeR_yes {rd : ByteArray → Option Int} {sig : List Ctl} {s : ByteArray} (h : nodeK rd sig s = true) : nodeR rd sig s = some (nodeJ rd sig s) := by
  unfold nodeK at h
  simp only [Bool.and_eq_true, decide_eq_true_eq] at h
  obtain ⟨h1, h2, h3⟩ := h
  have e1 := allK_some h1
  obtain ⟨p, hp⟩ := Option.isSome_iff_exists.1 h2
  unfold nodeJ nodeR
  have e2 : allR rd ((splitP s 32).drop 1) = some (allV rd (wordsR s)) := e1
  have e3 : rd (cutZ ((splitP s 32).getD 0 ⟨#[]⟩) 64) = some p := hp
  rw [e2, e3]
  show (if 0 ≤ ctlX sig (cutA (headT s) 64) then _ else none) = _
  rw [if_pos h3, hp]; rfl
theorem nodeR_no {rd : ByteArray → Option Int} {sig : List Ctl} {s : ByteArray} (h : nodeK rd sig s = false) : nodeR rd sig s = none := by
  unfold nodeK at h
  unfold nodeR
  cases h1 : allR rd ((splitP s 32).drop 1) with
  | none => cases rd (cutZ ((splitP s 32).getD 0 ⟨#[]⟩) 64) <;> rfl
  | some l =>
    cases h2 : rd (cutZ ((splitP s 32).getD 0 ⟨#[]⟩) 64) with
    | none => rfl
    | some p =>
      have e1 : allK rd (wordsR s) = true := (allV_some (l := wordsR s) h1).2
      have e2 : (rd (cutZ (headT s) 64)).isSome = true := by
        have : rd (cutZ (headT s) 64) = some p := h2
        rw [this]; rfl
      rw [e1, e2] at h
      simp only [Bool.true_and, decide_eq_false_iff_not] at h
      exact if_neg h
theorem wireR_rd {rd : ByteArray → Option Int} {s : ByteArray} {n : Int} (h : rd (cutZ s 61) = some n) : wireR rd s = some ⟨cutA s 61, n⟩ := by
  unfold wireR; rw [h]
theorem wireR_no {rd : ByteArray → Option Int} {s : ByteArray} (h : rd (cutZ s 61) = none) : wireR rd s = none := by
  unfold wireR; rw [h]
/-! All the parts of a text: what is read. -/
section
variable {rd : ByteArray → Option Int} {sig : List Ctl} {ps : List ByteArray} {s : ByteArray} {lim : Nat}
def nodesW (ps : List ByteArray) : List ByteArray := (ps.drop 1).take (ps.length - 5)
def part (ps : List ByteArray) (i : Nat) : ByteArray := ps.getD i ⟨#[]⟩
def bigJ (rd : ByteArray → Option Int) (sig : List Ctl) (ps : List ByteArray) : Big :=
  ⟨(rd (part ps 0)).getD 0, allV (nodeR rd sig) (nodesW ps), allV rd (wordsR (part ps (ps.length - 4))), (rd (part ps (ps.length - 3))).getD 0, wordsR (part ps (ps.length - 2)), allV (wireR rd) (wordsR (part ps (ps.length - 1)))⟩
theorem readR_yes (h0 : (rd (part ps 0)).isSome = true) (h1 : allK (nodeR rd sig) (nodesW ps) = true) (h2 : allK rd (wordsR (part ps (ps.length - 4))) = true) (h3 : (rd (part ps (ps.length - 3))).isSome = true) (h4 : allK (wireR rd) (wordsR (part ps (ps.length - 1))) = true) :
    readR rd sig ps = some (bigJ rd sig ps) := by
  obtain ⟨r, hr⟩ := Option.isSome_iff_exists.1 h0
  obtain ⟨e, he⟩ := Option.isSome_iff_exists.1 h3
  have e1 := allK_some h1
  have e2 := allK_some h2
  have e4 := allK_some h4
  unfold bigJ
  unfold part nodesW at *
  unfold readR
  rw [hr, he, e1, e2, e4]
  rfl
theorem parsR_out (h : ¬ (sigB sig = true ∧ 5 ≤ ps.length ∧ ps.length ≤ lim)) : parsR rd lim sig ps s = none := by unfold parsR; exact if_neg h
theorem parsR_no (h : readR rd sig ps = none) : parsR rd lim sig ps s = none := by
  unfold parsR
  rw [h]
  split <;> rfl
theorem readR_n0 (h : rd (part ps 0) = none) : readR rd sig ps = none := by
  unfold part at h; unfold readR; rw [h]
theorem readR_n1 (h : allR (nodeR rd sig) (nodesW ps) = none) : readR rd sig ps = none := by
  unfold nodesW at h; unfold readR; rw [h]
  cases rd (ps.getD 0 ⟨#[]⟩) <;> rfl
theorem readR_n2 (h : allR rd (wordsR (part ps (ps.length - 4))) = none) : readR rd sig ps = none := by
  unfold part at h; unfold readR; rw [h]
  cases rd (ps.getD 0 ⟨#[]⟩) <;> cases allR (nodeR rd sig) ((ps.drop 1).take (ps.length - 5)) <;> rfl
theorem readR_n3 (h : rd (part ps (ps.length - 3)) = none) : readR rd sig ps = none := by
  unfold part at h; unfold readR; rw [h]
  cases rd (ps.getD 0 ⟨#[]⟩) <;> cases allR (nodeR rd sig) ((ps.drop 1).take (ps.length - 5)) <;> cases allR rd (wordsR (ps.getD (ps.length - 4) ⟨#[]⟩)) <;> rfl
theorem readR_n4 (h : allR (wireR rd) (wordsR (part ps (ps.length - 1))) = none) : readR rd sig ps = none := by
  unfold part at h; unfold readR; rw [h]
  cases rd (ps.getD 0 ⟨#[]⟩) <;> cases allR (nodeR rd sig) ((ps.drop 1).take (ps.length - 5)) <;> cases allR rd (wordsR (ps.getD (ps.length - 4) ⟨#[]⟩)) <;> cases rd (ps.getD (ps.length - 3) ⟨#[]⟩) <;> rfl
theorem parsR_text (h0 : sigB sig = true ∧ 5 ≤ ps.length ∧ ps.length ≤ lim) {b : Big} (h : readR rd sig ps = some b) (hg : goodB sig b = true) (ht : textL sig b = s) : parsR rd lim sig ps s = some b := by
  unfold parsR
  rw [if_pos h0, h]
  exact if_pos ⟨hg, ht⟩
theorem parsR_bad {b : Big} (h : readR rd sig ps = some b) (hg : ¬ (goodB sig b = true ∧ textL sig b = s)) : parsR rd lim sig ps s = none := by
  unfold parsR
  rw [h]
  split
  · exact if_neg hg
  · rfl
end
/-! The parts of which the first is whole and the others have lost their first byte. -/
theorem dropH_none {s : ByteArray} (h : s.size = 0) : dropH s = s := by
  apply ByteArray.ext
  apply Array.toList_inj.1
  rw [dropH_list, List.drop_of_length_le (by have : s.data.toList.length = s.size := Array.length_toList; omega)]
  have : s.data.toList.length = s.size := Array.length_toList
  exact (List.eq_nil_of_length_eq_zero (by omega)).symm
def dropK (l : List ByteArray) (k : Nat) : List ByteArray := l.take 1 ++ (((l.drop 1).take k).map dropH ++ (l.drop 1).drop k)
theorem dropK_len (l : List ByteArray) (k : Nat) : (dropK l k).length = l.length := by
  unfold dropK; simp; omega
theorem dropK_zero (l : List ByteArray) : dropK l 0 = l := by
  unfold dropK
  rw [List.take_zero, List.map_nil, List.nil_append, List.drop_zero, List.take_append_drop]
theorem dropK_get {l : List ByteArray} {k : Nat} {x : ByteArray} (h : l[k + 1]? = some x) : (dropK l k)[k + 1]? = some x := by
  have hl := (List.getElem?_eq_some_iff.1 h).1
  unfold dropK
  rw [List.getElem?_append_right (by simp; omega), List.getElem?_append_right (by simp; omega)]
  simp only [List.length_take, List.length_map, List.length_drop, List.getElem?_drop]
  rw [← h]
  congr 1
  omega
theorem dropK_step {l : List ByteArray} {k : Nat} {x : ByteArray} (h : l[k + 1]? = some x) : dropK l (k + 1) = (dropK l k).set (k + 1) (dropH x) := by
  have hl := (List.getElem?_eq_some_iff.1 h).1
  cases l with
  | nil => simp at hl
  | cons y r =>
    simp only [List.getElem?_cons_succ] at h
    have hr := (List.getElem?_eq_some_iff.1 h).1
    unfold dropK
    simp only [List.take_succ_cons, List.take_zero, List.drop_succ_cons, List.drop_zero, List.cons_append, List.nil_append, List.set_cons_succ]
    congr 1
    rw [take_snoc_l h, List.map_append, List.append_assoc]
    rw [List.set_append_right _ _ (by simp; omega)]
    congr 1
    have e : k - (List.map dropH (List.take k r)).length = 0 := by simp; omega
    rw [e]
    have hd : r.drop k = x :: r.drop (k + 1) := by
      rw [List.drop_eq_getElem_cons hr]
      congr 1
      exact (List.getElem?_eq_some_iff.1 h).2
    rw [hd]; rfl
theorem dropK_stay {l : List ByteArray} {k : Nat} {x : ByteArray} (h : l[k + 1]? = some x) (h0 : x.size = 0) : dropK l (k + 1) = dropK l k := by
  rw [dropK_step h, dropH_none h0]
  obtain ⟨hi, e⟩ := List.getElem?_eq_some_iff.1 (dropK_get h)
  rw [← e, List.set_getElem_self]
theorem dropK_end {s : ByteArray} {k : Nat} (h : (splitP s 59).length ≤ k + 1) : dropK (splitP s 59) k = partsS s := by
  unfold partsS dropK
  cases hc : splitP s 59 with
  | nil => simp
  | cons x r =>
    rw [hc] at h
    simp only [List.length_cons] at h
    simp only [List.take_succ_cons, List.take_zero, List.drop_succ_cons, List.drop_zero, List.cons_append, List.nil_append]
    rw [List.take_of_length_le (by omega), List.drop_of_length_le (by omega), List.append_nil]
theorem partsS_len (s : ByteArray) : (partsS s).length = (splitP s 59).length := by
  rw [← dropK_end (Nat.le_succ _), dropK_len]
theorem dropH_size (s : ByteArray) : (dropH s).size ≤ s.size := by unfold dropH; rw [ByteArray.size_extract]; omega
theorem dropK_size {l : List ByteArray} {M : Nat} (h : ∀ x ∈ l, x.size ≤ M) (k : Nat) : ∀ x ∈ dropK l k, x.size ≤ M := by
  intro x hx
  unfold dropK at hx
  rcases List.mem_append.1 hx with hx | hx
  · exact h x (List.mem_of_mem_take hx)
  rcases List.mem_append.1 hx with hx | hx
  · obtain ⟨y, hy, rfl⟩ := List.mem_map.1 hx
    exact Nat.le_trans (dropH_size y) (h y (List.mem_of_mem_drop (List.mem_of_mem_take hy)))
  · exact h x (List.mem_of_mem_drop (List.mem_of_mem_drop hx))
end Go.Proofs.YthgelhglfbgagaaGreatDoor
