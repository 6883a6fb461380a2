/- Openings of arguments: bigraphs. -/
import Derived.Test.YtjkebiodabheiaaDoorFrame2
import Derived.Deep.Slices
namespace Go.Proofs.YtjkebiodabheiaaDoor
open Go Go.RowKit Go.ChangeShapes Go.WideShapes Go.ChangeAt

section
variable {H : Type} {enc : TypeId × Value → H} {P : Program} {W : World}
theorem slice_of {t e : TypeId} {fuel : Nat} {cs : List Value} {x : DataW H × List MemPlace} (hu : P.underlying t = some (.slice e)) (h : DataW.trod enc P W 0 (fun _ => true) true fuel t cs = some x) : ∃ a n c, cs = [.slice a n c] := by
  rcases Go.Deep.open_slice hu h with ⟨rfl, _⟩ | ⟨a, len, cap, m, n, D, Pl, rfl, _⟩
  · exact ⟨_, _, _, rfl⟩
  · exact ⟨_, _, _, rfl⟩

theorem nd_of {e ei : TypeId} {f0 f1 f2 : Field} {fuel : Nat} {r : List Value} {y : DataW H × List MemPlace} (he : P.underlying e = some (.struct #[f0, f1, f2])) (hc : P.cellsOf e = 3)
    (o0 : f0.offset = 0) (o1 : f1.offset = 1) (o2 : f2.offset = 2) (c0 : P.cellsOf f0.type = 1) (c1 : P.cellsOf f1.type = 1) (c2 : P.cellsOf f2.type = 1)
    (u0 : P.underlying f0.type = some (.int .i64)) (u1 : P.underlying f1.type = some (.int .i64)) (u2 : P.underlying f2.type = some (.slice ei)) (ui : P.underlying ei = some (.int .i64)) (ci : P.cellsOf ei = 1)
    (h : DataW.trod enc P W 0 (fun _ => true) true fuel e r = some y) : ∃ n : Nd × Value, r = Nd.cells n ∧ (IntsM 9223372036854775807 W n.2 n.1.links ∧ I64 n.1.ctl ∧ I64 n.1.par) := by
  obtain ⟨y0, y1, y2, n, _, hl, h0, h1, h2⟩ := Go.Deep.trod_struct3 he h
  rw [hc] at hl
  rw [o0, c0] at h0
  rw [o1, c1] at h1
  rw [o2, c2] at h2
  match r, hl with
  | [x0, x1, x2], _ =>
    obtain ⟨p, e0, _, w0⟩ := DataW.trod_int u0 h0
    obtain ⟨k, e1, _, w1⟩ := DataW.trod_int u1 h1
    obtain ⟨a, m, c, e2⟩ := slice_of u2 h2
    simp at e0 e1 e2
    subst e0 e1 e2
    obtain ⟨l, hl⟩ := ints_of u2 ui ci h2
    exact ⟨(⟨p, k, l⟩, _), rfl, hl, wf_i64 w0, wf_i64 w1⟩
theorem wr_of {e : TypeId} {f0 f1 : Field} {fuel : Nat} {r : List Value} {y : DataW H × List MemPlace} (he : P.underlying e = some (.struct #[f0, f1])) (hc : P.cellsOf e = 2)
    (o0 : f0.offset = 0) (o1 : f1.offset = 1) (c0 : P.cellsOf f0.type = 1) (c1 : P.cellsOf f1.type = 1)
    (u0 : P.underlying f0.type = some .string) (u1 : P.underlying f1.type = some (.int .i64))
    (h : DataW.trod enc P W 0 (fun _ => true) true fuel e r = some y) : ∃ c : Wr, r = c.cells ∧ (c.name.size ≤ 9223372036854775807 ∧ I64 c.link) := by
  obtain ⟨y0, y1, n, _, hl, h0, h1⟩ := trod_struct2 he h
  rw [hc] at hl
  rw [o0, c0] at h0
  rw [o1, c1] at h1
  match r, hl with
  | [x0, x1], _ =>
    obtain ⟨s, e0, _, w0⟩ := DataW.trod_string u0 h0
    obtain ⟨p, e1, _, w1⟩ := DataW.trod_int u1 h1
    simp at e0 e1
    subst e0 e1
    exact ⟨⟨s, p⟩, rfl, w0, wf_i64 w1⟩
theorem trod_struct6 {t : TypeId} {f0 f1 f2 f3 f4 f5 : Field} {fuel : Nat} {cs : List Value} {x : DataW H × List MemPlace} (ht : P.underlying t = some (.struct #[f0, f1, f2, f3, f4, f5])) (h : DataW.trod enc P W 0 (fun _ => true) true fuel t cs = some x) :
    ∃ y0 y1 y2 y3 y4 y5 n, cs.length = P.cellsOf t ∧ DataW.trod enc P W 0 (fun _ => true) true n f0.type ((cs.drop f0.offset).take (P.cellsOf f0.type)) = some y0 ∧
      DataW.trod enc P W 0 (fun _ => true) true n f1.type ((cs.drop f1.offset).take (P.cellsOf f1.type)) = some y1 ∧ DataW.trod enc P W 0 (fun _ => true) true n f2.type ((cs.drop f2.offset).take (P.cellsOf f2.type)) = some y2 ∧
      DataW.trod enc P W 0 (fun _ => true) true n f3.type ((cs.drop f3.offset).take (P.cellsOf f3.type)) = some y3 ∧ DataW.trod enc P W 0 (fun _ => true) true n f4.type ((cs.drop f4.offset).take (P.cellsOf f4.type)) = some y4 ∧
      DataW.trod enc P W 0 (fun _ => true) true n f5.type ((cs.drop f5.offset).take (P.cellsOf f5.type)) = some y5 := by
  obtain ⟨xs, n, _, rfl, hl, hlen, hf⟩ := DataW.trod_struct ht h
  match xs, hlen with
  | [y0, y1, y2, y3, y4, y5], _ => exact ⟨y0, y1, y2, y3, y4, y5, n, hl, by simpa using hf 0 f0 rfl, by simpa using hf 1 f1 rfl, by simpa using hf 2 f2 rfl, by simpa using hf 3 f3 rfl, by simpa using hf 4 f4 rfl, by simpa using hf 5 f5 rfl⟩
theorem big_of' {t en es ei ew : TypeId} {f0 f1 f2 f3 f4 f5 : Field} {r : Reach} {b0 : Nat} {v : Value} {d : DataW H} {ps : List MemPlace} (ht : P.underlying t = some (.struct #[f0, f1, f2, f3, f4, f5])) (hc : P.cellsOf t = 6)
    (o0 : f0.offset = 0) (o1 : f1.offset = 1) (o2 : f2.offset = 2) (o3 : f3.offset = 3) (o4 : f4.offset = 4) (o5 : f5.offset = 5)
    (c0 : P.cellsOf f0.type = 1) (c1 : P.cellsOf f1.type = 1) (c2 : P.cellsOf f2.type = 1) (c3 : P.cellsOf f3.type = 1) (c4 : P.cellsOf f4.type = 1) (c5 : P.cellsOf f5.type = 1)
    (u0 : P.underlying f0.type = some (.int .i64)) (u1 : P.underlying f1.type = some (.slice en)) (u2 : P.underlying f2.type = some (.slice ei)) (u3 : P.underlying f3.type = some (.int .i64)) (u4 : P.underlying f4.type = some (.slice es)) (u5 : P.underlying f5.type = some (.slice ew))
    (un : ∀ fuel r y, DataW.trod enc P W 0 (fun _ => true) true fuel en r = some y → ∃ n : Nd × Value, r = Nd.cells n ∧ (IntsM 9223372036854775807 W n.2 n.1.links ∧ I64 n.1.ctl ∧ I64 n.1.par)) (cn : P.cellsOf en = 3)
    (ui : P.underlying ei = some (.int .i64)) (ci : P.cellsOf ei = 1) (us : P.underlying es = some .string) (cs : P.cellsOf es = 1)
    (uw : ∀ fuel r y, DataW.trod enc P W 0 (fun _ => true) true fuel ew r = some y → ∃ c : Wr, r = c.cells ∧ (c.name.size ≤ 9223372036854775807 ∧ I64 c.link)) (cw : P.cellsOf ew = 2)
    (hval : Value.okWide P W r b0 t v) (h : DataW.Trod enc P W 0 (fun _ => true) true t v d ps) : ∃ b, BigM 9223372036854775807 W v b := by
  obtain ⟨cells, rfl, hsz⟩ := okWide_struct ht hval
  rw [hc] at hsz
  obtain ⟨fuel, h⟩ := h
  obtain ⟨y0, y1, y2, y3, y4, y5, n, _, h0, h1, h2, h3, h4, h5⟩ := trod_struct6 ht h
  rw [o0, c0] at h0
  rw [o1, c1] at h1
  rw [o2, c2] at h2
  rw [o3, c3] at h3
  rw [o4, c4] at h4
  rw [o5, c5] at h5
  obtain ⟨l⟩ := cells
  match l, hsz with
  | [x0, x1, x2, x3, x4, x5], _ =>
    obtain ⟨p, e0, _, w0⟩ := DataW.trod_int u0 h0
    obtain ⟨q, e3, _, w3⟩ := DataW.trod_int u3 h3
    obtain ⟨a1, m1, d1, e1⟩ := slice_of u1 h1
    obtain ⟨a2, m2, d2, e2⟩ := slice_of u2 h2
    obtain ⟨a4, m4, d4, e4⟩ := slice_of u4 h4
    obtain ⟨a5, m5, d5, e5⟩ := slice_of u5 h5
    simp [Value.cells] at e0 e1 e2 e3 e4 e5
    subst e0 e1 e2 e3 e4 e5
    have h1' : DataW.trod enc P W 0 (fun _ => true) true n f1.type [.slice a1 m1 d1] = some y1 := h1
    have h5' : DataW.trod enc P W 0 (fun _ => true) true n f5.type [.slice a5 m5 d5] = some y5 := h5
    obtain ⟨ls, hs⟩ := ints_of (a := a2) (n := m2) (c := d2) u2 ui ci h2
    obtain ⟨lo, ho⟩ := strs_of (a := a4) (n := m4) (c := d4) u4 us cs h4
    obtain ⟨rows, k1, k2⟩ := trod_rows (by omega) u1 cn h1'
    obtain ⟨ln, rfl, k3⟩ := exists_map (f := Nd.cells) (Q := fun n => IntsM 9223372036854775807 W n.2 n.1.links ∧ I64 n.1.ctl ∧ I64 n.1.par) rows (fun r hr => by
      obtain ⟨fu, y, hy⟩ := k2 r hr
      exact un _ _ _ hy)
    obtain ⟨rows, j1, j2⟩ := trod_rows (by omega) u5 cw h5'
    obtain ⟨lw, rfl, j3⟩ := exists_map (f := Wr.cells) (Q := fun c => c.name.size ≤ 9223372036854775807 ∧ I64 c.link) rows (fun r hr => by
      obtain ⟨fu, y, hy⟩ := j2 r hr
      exact uw _ _ _ hy)
    refine ⟨⟨p, ln.map Prod.fst, ls, q, lo, lw⟩, _, _, _, _, rfl, ⟨ln, rfl, k1, fun n hn => (k3 n hn).1, fun n hn => ?_⟩, hs, ho, ⟨j1, j3⟩, wf_i64 w0, wf_i64 w3⟩
    obtain ⟨m, hm, rfl⟩ := List.mem_map.1 hn
    exact (k3 m hm).2
end
set_option maxRecDepth 100000 in
theorem nd_at {H : Type} {enc : TypeId × Value → H} {W : World} (fuel : Nat) (r : List Value) (y : DataW H × List MemPlace) (hy : DataW.trod enc Tryd.prog W 0 (fun _ => true) true fuel 96 r = some y) :
    ∃ n : Nd × Value, r = Nd.cells n ∧ (IntsM 9223372036854775807 W n.2 n.1.links ∧ I64 n.1.ctl ∧ I64 n.1.par) :=
  nd_of Tryd.underlying96 (by kernel_rfl) rfl rfl rfl (by kernel_rfl) (by kernel_rfl) (by kernel_rfl) Tryd.underlying3 Tryd.underlying3 Tryd.underlying30 Tryd.underlying3 (by kernel_rfl) hy
set_option maxRecDepth 100000 in
theorem wr_at {H : Type} {enc : TypeId × Value → H} {W : World} (fuel : Nat) (r : List Value) (y : DataW H × List MemPlace) (hy : DataW.trod enc Tryd.prog W 0 (fun _ => true) true fuel 98 r = some y) :
    ∃ c : Wr, r = c.cells ∧ (c.name.size ≤ 9223372036854775807 ∧ I64 c.link) :=
  wr_of Tryd.underlying98 (by kernel_rfl) rfl rfl (by kernel_rfl) (by kernel_rfl) Tryd.underlying9 Tryd.underlying3 hy
set_option maxRecDepth 100000 in
theorem big_of {H : Type} {enc : TypeId × Value → H} {W : World} {r : Reach} {b0 : Nat} {v : Value} {d : DataW H} {ps : List MemPlace} (hval : Value.okWide Tryd.prog W r b0 34 v)
    (h : DataW.Trod enc Tryd.prog W 0 (fun _ => true) true 34 v d ps) : ∃ b, BigM 9223372036854775807 W v b :=
  big_of' (en := 96) (ew := 98) Tryd.underlying34 (by kernel_rfl) rfl rfl rfl rfl rfl rfl (by kernel_rfl) (by kernel_rfl) (by kernel_rfl) (by kernel_rfl) (by kernel_rfl) (by kernel_rfl) Tryd.underlying3 Tryd.underlying29 Tryd.underlying30 Tryd.underlying3 Tryd.underlying31 Tryd.underlying32
    nd_at (by kernel_rfl) Tryd.underlying3 (by kernel_rfl) Tryd.underlying9 (by kernel_rfl) wr_at (by kernel_rfl) hval h
end Go.Proofs.YtjkebiodabheiaaDoor
