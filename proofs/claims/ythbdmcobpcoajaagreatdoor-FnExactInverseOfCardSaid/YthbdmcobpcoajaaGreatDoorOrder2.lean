/- The plain law of orders: a list has each number below its length iff, sorted, it is those numbers in order. -/
import Derived.Test.YthbdmcobpcoajaaGreatDoorOrder
namespace Go.Proofs.YthbdmcobpcoajaaGreatDoor
open Go Go.RowKit

theorem perm_of_sub : ∀ (R l : List Int), R.Nodup → (∀ x ∈ R, x ∈ l) → R.length = l.length → l.Perm R
  | [], l, _, _, h => by
    have : l = [] := List.eq_nil_of_length_eq_zero h.symm
    rw [this]
  | a :: R, l, hn, hs, h => by
    have ha := hs a (List.mem_cons_self)
    have hn' := List.nodup_cons.1 hn
    refine (List.perm_cons_erase ha).trans (List.Perm.cons a (perm_of_sub R (l.erase a) hn'.2 (fun x hx => ?_) ?_))
    · have hxa : x ≠ a := fun e => hn'.1 (e ▸ hx)
      exact (List.mem_erase_of_ne hxa).2 (hs x (List.mem_cons_of_mem _ hx))
    · rw [List.length_erase_of_mem ha]; simp at h; omega
def idxL (n : Nat) : List Int := (List.range n).map fun (i : Nat) => (i : Int)
def sortL (l : List Int) : List Int := l.mergeSort fun x y => decide (x ≤ y)
theorem idxL_sorted (n : Nat) : (idxL n).Pairwise fun a b => decide (a ≤ b) = true := by
  unfold idxL
  rw [List.pairwise_map]
  exact List.pairwise_lt_range.imp (fun h => by simp; omega)
theorem idxL_nodup (n : Nat) : (idxL n).Nodup := by
  unfold idxL List.Nodup
  rw [List.pairwise_map]
  exact List.pairwise_lt_range.imp (fun h => by omega)
theorem each_iff (l : List Int) : eachB l = true ↔ sortL l = idxL l.length := by
  have hp : (sortL l).Perm l := List.mergeSort_perm _ _
  constructor
  · intro h
    have hs : ∀ x ∈ idxL l.length, x ∈ l := by
      intro x hx
      unfold idxL at hx
      obtain ⟨i, hi, rfl⟩ := List.mem_map.1 hx
      unfold eachB at h
      rw [List.all_eq_true] at h
      simpa using h i hi
    have hq := perm_of_sub _ l (idxL_nodup _) hs (by simp [idxL])
    refine List.Perm.eq_of_pairwise (le := fun a b => decide (a ≤ b) = true) ?_ ?_ (idxL_sorted _) (hp.trans hq)
    · intro a b _ _ h1 h2; simp at h1 h2; omega
    · exact List.pairwise_mergeSort (fun a b c h1 h2 => by simp at h1 h2 ⊢; omega) (fun a b => by simp; omega) l
  · intro h
    unfold eachB
    rw [List.all_eq_true]
    intro i hi
    have : (i : Int) ∈ sortL l := by rw [h]; unfold idxL; exact List.mem_map.2 ⟨i, hi, rfl⟩
    simpa using hp.mem_iff.1 this
end Go.Proofs.YthbdmcobpcoajaaGreatDoor
