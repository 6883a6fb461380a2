/- Closures. -/
import Derived.Test.YthbdmcobpcoajaaGreatDoorG2
import Derived.IntWalk
namespace Go.Proofs.YthbdmcobpcoajaaGreatDoor
open Go Go.RowKit Go.BigFrame

def wiresAt (n : Nat) : List ByteArray → List Wr
  | [] => []
  | s :: l => ⟨s, n⟩ :: wiresAt (n + 1) l
def wires (l : List ByteArray) : List Wr := wiresAt 0 l
theorem wiresAt_length : ∀ (n : Nat) (l : List ByteArray), (wiresAt n l).length = l.length
  | _, [] => rfl
  | n, s :: l => by simp [wiresAt, wiresAt_length (n + 1) l]
theorem wires_length (l : List ByteArray) : (wires l).length = l.length := wiresAt_length 0 l
theorem wiresAt_get : ∀ (n : Nat) (l : List ByteArray) (k : Nat) (x : ByteArray), l[k]? = some x → (wiresAt n l)[k]? = some ⟨x, ((n + k : Nat) : Int)⟩
  | _, [], k, x, h => by simp at h
  | n, s :: l, 0, x, h => by simp at h; subst h; rfl
  | n, s :: l, k + 1, x, h => by
    have := wiresAt_get (n + 1) l k x (by simpa using h)
    simp only [wiresAt, List.getElem?_cons_succ]
    rw [this, show n + 1 + k = n + (k + 1) by omega]
def cwRows (l : List ByteArray) (k : Nat) : List (List Value) := ((wires l).take k).map Wr.cells
theorem wires_get {l : List ByteArray} {k : Nat} {x : ByteArray} (h : l[k]? = some x) : (wires l)[k]? = some ⟨x, (k : Int)⟩ := by
  have := wiresAt_get 0 l k x h
  rwa [Nat.zero_add] at this
theorem wires_ok {l : List ByteArray} (h : ∀ s ∈ l, s.size ≤ 1073741824) (hl : l.length ≤ 1073741824) : ∀ c ∈ wires l, c.name.size ≤ 1073741824 ∧ I64 c.link := by
  intro c hc
  obtain ⟨k, hk⟩ := List.mem_iff_getElem?.1 hc
  have hkl := (List.getElem?_eq_some_iff.1 hk).1
  rw [wires_length] at hkl
  obtain ⟨x, hx⟩ := getElem?_of_lt hkl
  rw [wires_get hx] at hk
  simp only [Option.some.injEq] at hk
  subst hk
  exact ⟨h x (List.mem_of_getElem? hx), by unfold I64; dsimp only; omega⟩
def closB (l : List ByteArray) : Bool := namesB l && decide (l.length ≤ 8)
def closP (l : List ByteArray) : Big := if closB l = true then ⟨0, [], [], l.length, [], wires l⟩ else noBig


end Go.Proofs.YthbdmcobpcoajaaGreatDoor
