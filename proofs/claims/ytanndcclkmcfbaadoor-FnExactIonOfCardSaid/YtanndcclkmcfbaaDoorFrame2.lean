/- More openings of arguments: lists of controls. -/
import Derived.Test.YtanndcclkmcfbaaDoorFrame
import Derived.Deep.Strs
namespace Go.Proofs.YtanndcclkmcfbaaDoor
open Go Go.RowKit Go.ChangeShapes Go.WideShapes Go.ChangeAt

section
variable {H : Type} {enc : TypeId × Value → H} {P : Program} {W : World}
theorem ctl_of {e : TypeId} {f0 f1 f2 : Field} {fuel : Nat} {r : List Value} {y : DataW H × List MemPlace} (he : P.underlying e = some (.struct #[f0, f1, f2])) (hc : P.cellsOf e = 3)
    (o0 : f0.offset = 0) (o1 : f1.offset = 1) (o2 : f2.offset = 2) (c0 : P.cellsOf f0.type = 1) (c1 : P.cellsOf f1.type = 1) (c2 : P.cellsOf f2.type = 1)
    (u0 : P.underlying f0.type = some .string) (u1 : P.underlying f1.type = some (.int .i64)) (u2 : P.underlying f2.type = some (.int .i64))
    (h : DataW.trod enc P W 0 (fun _ => true) true fuel e r = some y) : ∃ c : Ctl, r = c.cells ∧ (c.name.size ≤ 9223372036854775807 ∧ I64 c.ports ∧ I64 c.kind) := by
  obtain ⟨y0, y1, y2, n, _, hl, h0, h1, h2⟩ := Go.Deep.trod_struct3 he h
  rw [hc] at hl
  rw [o0, c0] at h0
  rw [o1, c1] at h1
  rw [o2, c2] at h2
  match r, hl with
  | [x0, x1, x2], _ =>
    obtain ⟨s, e0, _, w0⟩ := DataW.trod_string u0 h0
    obtain ⟨p, e1, _, w1⟩ := DataW.trod_int u1 h1
    obtain ⟨k, e2, _, w2⟩ := DataW.trod_int u2 h2
    simp at e0 e1 e2
    subst e0 e1 e2
    exact ⟨⟨s, p, k⟩, rfl, w0, wf_i64 w1, wf_i64 w2⟩
end

theorem ctls_of {H : Type} {enc : TypeId × Value → H} {W : World} {fuel n c : Nat} {a : Option Addr} {x : DataW H × List MemPlace}
    (h : DataW.trod enc Tryd.prog W 0 (fun _ => true) true fuel 22 [.slice a n c] = some x) : ∃ l, CtlsM 9223372036854775807 W (.slice a n c) l := by
  obtain ⟨rows, h1, h2⟩ := trod_rows (by omega) Tryd.underlying22 (show Tryd.prog.cellsOf 44 = 3 by kernel_rfl) h
  obtain ⟨l, rfl, h3⟩ := exists_map (f := Ctl.cells) (Q := fun c => c.name.size ≤ 9223372036854775807 ∧ I64 c.ports ∧ I64 c.kind) rows (fun r hr => by
    obtain ⟨fu, y, hy⟩ := h2 r hr
    exact ctl_of Tryd.underlying44 (by kernel_rfl) rfl rfl rfl (by kernel_rfl) (by kernel_rfl) (by kernel_rfl) Tryd.underlying9 Tryd.underlying3 Tryd.underlying3 hy)
  exact ⟨l, h1, h3⟩
end Go.Proofs.YtanndcclkmcfbaaDoor
