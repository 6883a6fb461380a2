/- A bigraph's own copy: the reference's. -/
import Derived.Test.YthgelhglfbgagaaGreatDoorRenB
import Derived.Test.YthgelhglfbgagaaGreatDoorG1
namespace Go.Proofs.YthgelhglfbgagaaGreatDoor
open Go Go.RowKit Go.BigFrame

def idRows (n k : Nat) : List (List Value) := intRows ((idL n).take k)
theorem idRows_len {n k : Nat} (h : k ≤ n) : (idRows n k).length = k := by simp [idRows, intRows, idL_length]; omega
theorem idRows_snoc {n k : Nat} (h : k < n) : idRows n (k + 1) = idRows n k ++ [[.int .i64 k]] := by
  unfold idRows
  rw [take_snoc_l (idL_get h)]; simp [intRows]
theorem idRows_full (n : Nat) : idRows n n = intRows (idL n) := by unfold idRows; rw [List.take_of_length_le (by rw [idL_length]; exact Nat.le_refl _)]
theorem idL_mem {n : Nat} {x : Int} (h : x ∈ idL n) : 0 ≤ x ∧ x < (n : Int) := by
  unfold idL at h
  obtain ⟨k, hk, rfl⟩ := List.mem_map.1 h
  have := List.mem_range.1 hk
  omega
end Go.Proofs.YthgelhglfbgagaaGreatDoor
