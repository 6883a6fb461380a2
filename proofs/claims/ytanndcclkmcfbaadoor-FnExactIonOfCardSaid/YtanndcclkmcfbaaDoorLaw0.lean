/- Words for the laws' walks over bigraphs. -/
import Derived.Test.YtanndcclkmcfbaaDoorUnder
namespace Go.Proofs.YtanndcclkmcfbaaDoor
open Go Go.RowKit

theorem Box.drew {w : World} {g : Nat} {cs : Array Value} {t : TypeId} (h : Box w g cs t) : Box w.drew g cs t := h
theorem BigM.mshape {M : Nat} {w : World} {v : Value} {b : Big} (h : BigM M w v b) : ∃ a1 c1 a2 c2 a3 c3 a4 c4, v = .agg #[.int .i64 b.roots, .slice a1 b.nodes.length c1, .slice a2 b.sites.length c2, .int .i64 b.edges, .slice a3 b.outer.length c3, .slice a4 b.inner.length c4] := by
  obtain ⟨vn, vs, vo, vi, rfl, h1, h2, h3, h4, _⟩ := h
  obtain ⟨a1, c1, rfl, _⟩ := h1.open
  obtain ⟨a2, c2, rfl, _⟩ := h2.open
  obtain ⟨a3, c3, rfl, _⟩ := h3.open
  obtain ⟨a4, c4, rfl, _⟩ := h4.open
  exact ⟨a1, c1, a2, c2, a3, c3, a4, c4, rfl⟩
end Go.Proofs.YtanndcclkmcfbaaDoor
