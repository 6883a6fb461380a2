/- A bigraph's fields, one by one. No program in sight. -/
import Derived.Test.YthgelhglfbgagaaGreatDoorG1
namespace Go.Proofs.YthgelhglfbgagaaGreatDoor
open Go Go.RowKit

theorem BigAt.fields {w : World} {x0 x3 u1 u2 u4 u5 : Value} {b : Big} (h : BigAt w (.agg #[x0, u1, u2, x3, u4, u5]) b) : NdsAt w u1 b.nodes ∧ IntsAt w u2 b.sites ∧ StrsAt w u4 b.outer ∧ WrsAt w u5 b.inner ∧ I64 b.roots ∧ I64 b.edges := by
  obtain ⟨vn, vs, vo, vi, e, h1, h2, h3, h4, h5, h6⟩ := h
  simp only [Value.agg.injEq, Array.mk.injEq, List.cons.injEq, and_true] at e
  obtain ⟨_, rfl, rfl, _, rfl, rfl⟩ := e
  exact ⟨h1, h2, h3, h4, h5, h6⟩
end Go.Proofs.YthgelhglfbgagaaGreatDoor
