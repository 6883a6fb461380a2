/- The children of a parent. -/
import Derived.Test.YtjkebiodabheiaaDoorInner
import Derived.Test.YtjkebiodabheiaaDoorApp4
import Derived.Test.YtjkebiodabheiaaDoorIsA
import Derived.Test.YtjkebiodabheiaaDoorLaw1
namespace Go.Proofs.YtjkebiodabheiaaDoor
open Go Go.RowKit Go.BigFrame

def pickN (f : Nat → Bool) (k : Nat) : List Int := ((List.range k).filter f).map fun (i : Nat) => (i : Int)
theorem pickN_yes {f : Nat → Bool} {k : Nat} (h : f k = true) : pickN f (k + 1) = pickN f k ++ [(k : Int)] := by unfold pickN; rw [List.range_succ, List.filter_append, List.map_append]; simp [h]
theorem pickN_no {f : Nat → Bool} {k : Nat} (h : f k = false) : pickN f (k + 1) = pickN f k := by unfold pickN; rw [List.range_succ, List.filter_append, List.map_append]; simp [h]
theorem pickN_len (f : Nat → Bool) (k : Nat) : (pickN f k).length ≤ k := by
  unfold pickN; rw [List.length_map]; exact Nat.le_trans (List.length_filter_le _ _) (by simp)
theorem pickN_i64 (f : Nat → Bool) (k : Nat) (hk : k ≤ 1073741824) : ∀ x ∈ pickN f k, I64 x := by
  intro x hx
  unfold pickN at hx
  obtain ⟨i, hi, rfl⟩ := List.mem_map.1 hx
  have := List.mem_range.1 (List.mem_filter.1 hi).1
  unfold I64; omega
def kidF (b : Big) (p : Int) (k : Nat) : Bool := match b.nodes[k]? with | some n => decide (n.par = p) | none => false
def holeF (b : Big) (p : Int) (k : Nat) : Bool := match b.sites[k]? with | some x => decide (x = p) | none => false
def kidsL (b : Big) (p : Int) : List Int := pickN (kidF b p) b.nodes.length
def holesL (b : Big) (p : Int) : List Int := pickN (holeF b p) b.sites.length
theorem Apart.symm {v v' : Value} (h : Apart v v') : Apart v' v := fun g h1 h2 => h g h2 h1




end Go.Proofs.YtjkebiodabheiaaDoor
