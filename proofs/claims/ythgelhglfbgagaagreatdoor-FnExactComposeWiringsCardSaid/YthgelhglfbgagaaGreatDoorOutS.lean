/- Other outer names: the reference's. -/
import Derived.Test.YthgelhglfbgagaaGreatDoorOwnS
import Derived.Test.YthgelhglfbgagaaGreatDoorG2
namespace Go.Proofs.YthgelhglfbgagaaGreatDoor
open Go Go.RowKit Go.BigFrame

theorem progN_same {f : Nat → Nat → Int → Int} {l : List Nd} {i k : Nat} {n : Nd} {x : Int} (h : l[i]? = some n) (hx : n.links[k]? = some x) (hf : f i k x = x) : progN f l i (k + 1) = progN f l i k := by
  rw [progN_set h hx, hf, setLnk_of _ (progN_get h)]
  have e : (progI (f i) n.links k).set k x = progI (f i) n.links k := set_self (progI_get hx)
  show (progN f l i k).set i { n with links := (progI (f i) n.links k).set k x } = _
  rw [e]
  exact set_self (progN_get h)
theorem progW_same {f : Nat → Int → Int} {l : List Wr} {k : Nat} {x : Wr} (h : l[k]? = some x) (hf : f k x.link = x.link) : progW f l (k + 1) = progW f l k := by
  rw [progW_set h, hf]
  exact set_self (progW_get h)
/-- The link that a link becomes when the outer names become others. -/
def outF (b : Big) (names outer : List ByteArray) (x : Int) : Int := if x < b.edges then x else b.edges + Lib.idxOfS outer (names.getD (x - b.edges).toNat ⟨#[]⟩)
theorem outF_bd {b : Big} {names outer : List ByteArray} {x : Int} (hD : Bds b) (hx : 0 ≤ x ∧ x < b.edges + b.outer.length) (ho : outer.length ≤ 1000) : I64 (outF b names outer x) := by
  have h1 := hD.edges
  have h2 := hD.outer
  unfold outF I64
  split
  · omega
  · have := idx_bd outer (names.getD (x - b.edges).toNat ⟨#[]⟩); omega
theorem used_bd {b : Big} (hD : Bds b) {l : Int} (h : Used b l) : 0 ≤ l ∧ l < b.edges + b.outer.length := by
  rcases h with ⟨n, hn, hx⟩ | ⟨x, hx, rfl⟩
  · exact hD.lnk n hn l hx
  · exact hD.wire x hx
end Go.Proofs.YthgelhglfbgagaaGreatDoor
