/- Other numbers of nodes and edges: the reference's. -/
import Derived.Test.YthgelhglfbgagaaGreatDoorRenum
import Derived.Test.YthgelhglfbgagaaGreatDoorG2
namespace Go.Proofs.YthgelhglfbgagaaGreatDoor
open Go Go.RowKit Go.BigFrame

def ePtr (B : Nat) (cs : Array Value) (t : TypeId) : Ent where
  sh := fun v => ∃ g, v = .pointer (some ⟨g, 0, none⟩)
  ex := ⟨_, 0, rfl⟩
  fct := fun v W U => ∃ g, v = .pointer (some ⟨g, 0, none⟩) ∧ Box W g cs t ∧ B ≤ g ∧ U g
  hs := fun _ _ _ ⟨g, h, _⟩ => ⟨g, h⟩
  st := fun _ _ _ _ hb ⟨g, h, k, u⟩ => ⟨g, h, k.below hb, u⟩
def tieRows (E : Int) (es l : List Int) (k : Nat) : List (List Value) := intRows ((l.map (tieP E es)).take k)
theorem tieRows_len {E : Int} {es l : List Int} {k : Nat} (h : k ≤ l.length) : (tieRows E es l k).length = k := by simp [tieRows, intRows]; omega
theorem tieRows_snoc {E : Int} {es l : List Int} {k : Nat} {y : Int} (h : l[k]? = some y) : tieRows E es l (k + 1) = tieRows E es l k ++ [[.int .i64 (tieP E es y)]] := by
  have : (l.map (tieP E es))[k]? = some (tieP E es y) := by simp [h]
  unfold tieRows
  rw [take_snoc_l this]
  simp [intRows]
theorem tieRows_full (E : Int) (es l : List Int) : tieRows E es l l.length = intRows (l.map (tieP E es)) := by unfold tieRows; rw [List.take_of_length_le (by simp)]
def moveRows (tn l : List Int) (k : Nat) : List (List Value) := intRows ((l.map (moveP tn)).take k)
theorem moveRows_len {tn l : List Int} {k : Nat} (h : k ≤ l.length) : (moveRows tn l k).length = k := by simp [moveRows, intRows]; omega
theorem moveRows_snoc {tn l : List Int} {k : Nat} {y : Int} (h : l[k]? = some y) : moveRows tn l (k + 1) = moveRows tn l k ++ [[.int .i64 (moveP tn y)]] := by
  have : (l.map (moveP tn))[k]? = some (moveP tn y) := by simp [h]
  unfold moveRows
  rw [take_snoc_l this]
  simp [intRows]
theorem moveRows_full (tn l : List Int) : moveRows tn l l.length = intRows (l.map (moveP tn)) := by unfold moveRows; rw [List.take_of_length_le (by simp)]
def wrRows (b : Big) (es : List Int) (k : Nat) : List (List Value) := ((renWs b es).take k).map Wr.cells
theorem wrRows_len {b : Big} {es : List Int} {k : Nat} (h : k ≤ b.inner.length) : (wrRows b es k).length = k := by simp [wrRows, renWs]; omega
theorem wrRows_snoc {b : Big} {es : List Int} {k : Nat} {x : Wr} (h : b.inner[k]? = some x) : wrRows b es (k + 1) = wrRows b es k ++ [[.string x.name, .int .i64 (tieP b.edges es x.link)]] := by
  have : (renWs b es)[k]? = some ⟨x.name, tieP b.edges es x.link⟩ := by simp [renWs, h]
  unfold wrRows
  rw [take_snoc_l this]
  simp [Wr.cells]
theorem wrRows_full (b : Big) (es : List Int) : wrRows b es b.inner.length = (renWs b es).map Wr.cells := by unfold wrRows; rw [List.take_of_length_le (by simp [renWs])]
theorem i64_tie {E : Int} {es : List Int} {y : Int} (hes : ∀ x ∈ es, I64 x) (hy : 0 ≤ y ∧ y < 1073741824) : I64 (tieP E es y) := by
  unfold tieP
  split
  · unfold I64; omega
  · rw [List.getD_eq_getElem?_getD]
    cases h : es[y.toNat]? with
    | none => simp [I64]
    | some z => exact hes z (List.mem_of_getElem? h)
theorem i64_move {tn : List Int} {y : Int} (hes : ∀ x ∈ tn, I64 x) (hy : -1073741824 ≤ y ∧ y < 1073741824) : I64 (moveP tn y) := by
  unfold moveP
  split
  · unfold I64; omega
  · rw [List.getD_eq_getElem?_getD]
    cases h : tn[y.toNat]? with
    | none => simp [I64]
    | some z => exact hes z (List.mem_of_getElem? h)
end Go.Proofs.YthgelhglfbgagaaGreatDoor
