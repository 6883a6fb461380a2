/- Links and parents: the reference's tests and the program's. -/
import Derived.Test.YtanndcclkmcfbaaDoorSig
import Derived.Test.YtanndcclkmcfbaaDoorElem1
namespace Go.Proofs.YtanndcclkmcfbaaDoor
open Go Go.RowKit Go.BigFrame

/-- The first n nodes are there, and their controls. -/
def okN (sig : List Ctl) (b : Big) (n : Nat) : Prop := ∀ k, k < n → ∃ nd c, b.nodes[k]? = some nd ∧ 0 ≤ nd.ctl ∧ sig[nd.ctl.toNat]? = some c
theorem okN_of {sig : List Ctl} {b : Big} {n : Nat} (hn : n ≤ b.nodes.length) (h : (List.range n).all (nodeStep sig b) = true) : okN sig b n := by
  intro k hk
  obtain ⟨nd, hnd⟩ := getElem?_of_lt (show k < b.nodes.length by omega)
  have := List.all_eq_true.1 h k (List.mem_range.2 hk)
  rw [nodeStep_eq hnd] at this
  have := node_ctl this
  obtain ⟨c, hc⟩ := getElem?_of_lt (l := sig) (i := nd.ctl.toNat) (by omega)
  exact ⟨nd, c, hnd, this.1, hc⟩
theorem BigAt.outer_len {w : World} {v : Value} {b : Big} (h : BigAt w v b) : b.outer.length ≤ 1073741824 := by
  obtain ⟨vn, vq, vo, vi, rfl, _, _, h3, _⟩ := h
  obtain ⟨_, _, _, _, h, _⟩ := h3.open
  exact h
theorem BigAt.parts {w : World} {v : Value} {b : Big} (h : BigAt w v b) : ∃ a1 c1 a2 c2 a3 c3 a4 c4, v = .agg #[.int .i64 b.roots, .slice a1 b.nodes.length c1, .slice a2 b.sites.length c2, .int .i64 b.edges, .slice a3 b.outer.length c3, .slice a4 b.inner.length c4] ∧
    NdsAt w (.slice a1 b.nodes.length c1) b.nodes ∧ IntsAt w (.slice a2 b.sites.length c2) b.sites ∧ StrsAt w (.slice a3 b.outer.length c3) b.outer ∧ WrsAt w (.slice a4 b.inner.length c4) b.inner ∧ I64 b.roots ∧ I64 b.edges := by
  obtain ⟨vn, vs, vo, vi, rfl, h1, h2, h3, h4, h5, h6⟩ := h
  obtain ⟨a1, c1, rfl, _⟩ := h1.open
  obtain ⟨a2, c2, rfl, _⟩ := h2.open
  obtain ⟨a3, c3, rfl, _⟩ := h3.open
  obtain ⟨a4, c4, rfl, _⟩ := h4.open
  exact ⟨a1, c1, a2, c2, a3, c3, a4, c4, rfl, h1, h2, h3, h4, h5, h6⟩





end Go.Proofs.YtanndcclkmcfbaaDoor
