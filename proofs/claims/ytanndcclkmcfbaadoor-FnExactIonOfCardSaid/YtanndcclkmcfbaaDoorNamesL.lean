/- Lists of names: ascending, not too many. -/
import Derived.Test.YtanndcclkmcfbaaDoorNames
namespace Go.Proofs.YtanndcclkmcfbaaDoor
open Go Go.RowKit Go.BigFrame

def stepB (l : List ByteArray) (k : Nat) : Bool :=
  match l[k]? with
  | some s => nameB s && (match k with | 0 => true | j + 1 => match l[j]? with | some p => Op.bytesLess p.toList s.toList | none => true)
  | none => true
def namesB (l : List ByteArray) : Bool := (List.range l.length).all (stepB l) && decide (l.length ≤ 16)
theorem step_0 {l : List ByteArray} {s : ByteArray} (h : l[0]? = some s) : stepB l 0 = nameB s := by unfold stepB; simp [h]
theorem step_s {l : List ByteArray} {k : Nat} {s p : ByteArray} (h : l[k + 1]? = some s) (h' : l[k]? = some p) : stepB l (k + 1) = (nameB s && Op.bytesLess p.toList s.toList) := by unfold stepB; simp [h, h']
theorem names_not {l : List ByteArray} {k : Nat} (h : k < l.length) (hs : stepB l k = false) : namesB l = false := by
  unfold namesB
  rw [Bool.and_eq_false_iff]; left
  rw [List.all_eq_false]
  exact ⟨k, List.mem_range.2 h, by simp [hs]⟩
theorem range_snoc {l : List ByteArray} {k : Nat} (h : (List.range k).all (stepB l) = true) (hs : stepB l k = true) : (List.range (k + 1)).all (stepB l) = true := by
  rw [List.range_succ, List.all_append, h]; simp [hs]
theorem less_tri : ∀ x y : List UInt8, Op.bytesLess x y = false → Op.bytesLess y x = true ∨ (Op.bytesLess y x = false ∧ (y == x) = true)
  | [], [], _ => .inr ⟨rfl, rfl⟩
  | [], _ :: _, h => by simp [Op.bytesLess] at h
  | _ :: _, [], _ => .inl rfl
  | a :: x, b :: y, h => by
    simp only [Op.bytesLess, Bool.or_eq_false_iff, decide_eq_false_iff_not] at h
    obtain ⟨h1, h2⟩ := h
    by_cases hab : b < a
    · left; simp [Op.bytesLess, hab]
    · have e : a = b := by
        apply UInt8.toNat_inj.1
        have h1' : ¬ a.toNat < b.toNat := h1
        have h2' : ¬ b.toNat < a.toNat := hab
        omega
      subst e
      have h3 : Op.bytesLess x y = false := by simpa using h2
      rcases less_tri x y h3 with h4 | ⟨h4, h5⟩
      · left; simp [Op.bytesLess, h4]
      · right
        refine ⟨by simp [Op.bytesLess, h4, hab], ?_⟩
        simpa using h5
theorem less_asym : ∀ x y : List UInt8, Op.bytesLess x y = true → Op.bytesLess y x = false ∧ (y == x) = false
  | [], [], h => by simp [Op.bytesLess] at h
  | [], _ :: _, _ => ⟨rfl, rfl⟩
  | _ :: _, [], h => by simp [Op.bytesLess] at h
  | a :: x, b :: y, h => by
    simp only [Op.bytesLess, Bool.or_eq_true, decide_eq_true_eq, Bool.and_eq_true, beq_iff_eq] at h
    rcases h with h | ⟨rfl, h⟩
    · have h1 : a.toNat < b.toNat := h
      have h2 : ¬ b < a := by intro h3; have h3 : b.toNat < a.toNat := h3; omega
      have h4 : ¬ b = a := by rintro rfl; omega
      exact ⟨by simp [Op.bytesLess, h2, h4], by simp [h4]⟩
    · obtain ⟨h3, h4⟩ := less_asym x y h
      have h5 : ¬ a < a := by intro h5; have h5 : a.toNat < a.toNat := h5; omega
      exact ⟨by simp [Op.bytesLess, h3, h5], by simpa using h4⟩

end Go.Proofs.YtanndcclkmcfbaaDoor
