/- A list that has each number below its length. -/
import Derived.Test.YtjkebiodabheiaaGreatDoorElem1
import Derived.IntWalk
import Derived.Test.YtjkebiodabheiaaGreatDoorShelf
namespace Go.Proofs.YtjkebiodabheiaaGreatDoor
open Go Go.RowKit Go.BigFrame

def eachB (l : List Int) : Bool := (List.range l.length).all fun i => l.contains (i : Int)
theorem has_snoc {l : List Int} {k : Nat} {x y : Int} (h : (l.take k).contains y = false) (hx : l[k]? = some x) (hne : ¬ x = y) : (l.take (k + 1)).contains y = false := by
  rw [take_snoc_l hx]
  simp only [List.contains_eq_mem, List.mem_append, List.mem_singleton, decide_eq_false_iff_not] at h ⊢
  rintro (h2 | h2)
  · exact h h2
  · exact hne h2.symm


theorem each_snoc {l : List Int} {k : Nat} (h : ((List.range k).all fun i => l.contains (i : Int)) = true) (hs : l.contains (k : Int) = true) : ((List.range (k + 1)).all fun i => l.contains (i : Int)) = true := by
  rw [List.range_succ, List.all_append, h]; simpa using hs
end Go.Proofs.YtjkebiodabheiaaGreatDoor
