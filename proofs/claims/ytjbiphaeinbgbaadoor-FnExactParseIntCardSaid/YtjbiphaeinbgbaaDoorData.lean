/- What slices of numbers, names, controls, wires, nodes read as; what a call owns. No program in sight. -/
import Derived.Test.YtjbiphaeinbgbaaDoorExt
namespace Go.Proofs.YtjbiphaeinbgbaaDoor
open Go Go.RowKit

def I64 (x : Int) : Prop := -9223372036854775808 ≤ x ∧ x ≤ 9223372036854775807

structure Ctl where
  name : ByteArray
  ports : Int
  kind : Int
structure Nd where
  ctl : Int
  par : Int
  links : List Int
structure Wr where
  name : ByteArray
  link : Int
structure Big where
  roots : Int
  nodes : List Nd
  sites : List Int
  edges : Int
  outer : List ByteArray
  inner : List Wr

/-- The slice v has one row of cells for each element; each row has sz cells; at most M elements. -/
def RowAt (M : Nat) (w : World) (v : Value) (sz : Nat) (cs : List (List Value)) : Prop :=
  ∃ a c, v = .slice a cs.length c ∧ cs.length ≤ c ∧ cs.length ≤ M ∧ (∀ r ∈ cs, r.length = sz) ∧
    ∀ i r, cs[i]? = some r → ∃ b o, a = some ⟨b, o, none⟩ ∧ ∀ j u, r[j]? = some u → w.cell? ⟨b, o + i * sz + j, none⟩ = some u

theorem RowAt.below {M : Nat} {w w' : World} {v : Value} {sz : Nat} {cs : List (List Value)} (h : RowAt M w v sz cs) (hb : Below w.heap.size w w') : RowAt M w' v sz cs := by
  obtain ⟨a, c, h1, h2, h3, h4, h5⟩ := h
  refine ⟨a, c, h1, h2, h3, h4, fun i r hr => ?_⟩
  obtain ⟨b, o, e, hc⟩ := h5 i r hr
  exact ⟨b, o, e, fun j u hu => (hb.cell (World.block_lt_of_cell? w _ (hc j u hu))).trans (hc j u hu)⟩

theorem RowAt.le {M N : Nat} {w : World} {v : Value} {sz : Nat} {cs : List (List Value)} (h : RowAt M w v sz cs) (hN : cs.length ≤ N) : RowAt N w v sz cs := by
  obtain ⟨a, c, h1, h2, h3, h4⟩ := h
  exact ⟨a, c, h1, h2, hN, h4⟩

def Ctl.cells (c : Ctl) : List Value := [.string c.name, .int .i64 c.ports, .int .i64 c.kind]
def Wr.cells (c : Wr) : List Value := [.string c.name, .int .i64 c.link]
/-- A node and the value of its links. -/
def Nd.cells (n : Nd × Value) : List Value := [.int .i64 n.1.ctl, .int .i64 n.1.par, n.2]

def IntsM (M : Nat) (w : World) (v : Value) (l : List Int) : Prop := RowAt M w v 1 (l.map fun x => [.int .i64 x]) ∧ ∀ x ∈ l, I64 x
def StrsM (M : Nat) (w : World) (v : Value) (l : List ByteArray) : Prop := RowAt M w v 1 (l.map fun s => [.string s]) ∧ ∀ s ∈ l, s.size ≤ M
def CtlsM (M : Nat) (w : World) (v : Value) (l : List Ctl) : Prop := RowAt M w v 3 (l.map Ctl.cells) ∧ ∀ c ∈ l, c.name.size ≤ M ∧ I64 c.ports ∧ I64 c.kind
def WrsM (M : Nat) (w : World) (v : Value) (l : List Wr) : Prop := RowAt M w v 2 (l.map Wr.cells) ∧ ∀ c ∈ l, c.name.size ≤ M ∧ I64 c.link
def NdsM (M : Nat) (w : World) (v : Value) (l : List Nd) : Prop :=
  ∃ lv : List (Nd × Value), lv.map Prod.fst = l ∧ RowAt M w v 3 (lv.map Nd.cells) ∧ (∀ n ∈ lv, IntsM M w n.2 n.1.links) ∧ ∀ n ∈ l, I64 n.ctl ∧ I64 n.par
def BigM (M : Nat) (w : World) (v : Value) (b : Big) : Prop :=
  ∃ vn vs vo vi, v = .agg #[.int .i64 b.roots, vn, vs, .int .i64 b.edges, vo, vi] ∧ NdsM M w vn b.nodes ∧ IntsM M w vs b.sites ∧ StrsM M w vo b.outer ∧ WrsM M w vi b.inner ∧ I64 b.roots ∧ I64 b.edges

abbrev IntsAt := IntsM 1073741824
abbrev StrsAt := StrsM 1073741824
abbrev CtlsAt := CtlsM 1073741824
abbrev WrsAt := WrsM 1073741824
abbrev NdsAt := NdsM 1073741824
abbrev BigAt := BigM 1073741824

section
variable {M : Nat} {w w' : World} {v : Value}
theorem IntsM.below {l : List Int} (h : IntsM M w v l) (hb : Below w.heap.size w w') : IntsM M w' v l := ⟨h.1.below hb, h.2⟩
theorem StrsM.below {l : List ByteArray} (h : StrsM M w v l) (hb : Below w.heap.size w w') : StrsM M w' v l := ⟨h.1.below hb, h.2⟩
theorem CtlsM.below {l : List Ctl} (h : CtlsM M w v l) (hb : Below w.heap.size w w') : CtlsM M w' v l := ⟨h.1.below hb, h.2⟩
theorem WrsM.below {l : List Wr} (h : WrsM M w v l) (hb : Below w.heap.size w w') : WrsM M w' v l := ⟨h.1.below hb, h.2⟩
theorem NdsM.below {l : List Nd} (h : NdsM M w v l) (hb : Below w.heap.size w w') : NdsM M w' v l := by
  obtain ⟨lv, h1, h2, h3, h4⟩ := h
  exact ⟨lv, h1, h2.below hb, fun n hn => (h3 n hn).below hb, h4⟩
theorem BigM.below {b : Big} (h : BigM M w v b) (hb : Below w.heap.size w w') : BigM M w' v b := by
  obtain ⟨vn, vs, vo, vi, e, h1, h2, h3, h4, h5⟩ := h
  exact ⟨vn, vs, vo, vi, e, h1.below hb, h2.below hb, h3.below hb, h4.below hb, h5⟩

/-! The slice taken apart: an address, a capacity; each element's cells. -/
theorem IntsM.open {l : List Int} (h : IntsM M w v l) :
    ∃ a c, v = .slice a l.length c ∧ l.length ≤ c ∧ l.length ≤ M ∧ ∀ i x, l[i]? = some x → I64 x ∧ ∃ b o, a = some ⟨b, o, none⟩ ∧ w.cell? ⟨b, o + i, none⟩ = some (.int .i64 x) := by
  obtain ⟨⟨a, c, h1, h2, h3, _, h5⟩, h6⟩ := h
  simp only [List.length_map] at h1 h2 h3
  refine ⟨a, c, h1, h2, h3, fun i x hx => ⟨h6 x (List.mem_of_getElem? hx), ?_⟩⟩
  obtain ⟨b, o, e, hc⟩ := h5 i [.int .i64 x] (by simp [hx])
  exact ⟨b, o, e, by simpa using hc 0 _ rfl⟩

theorem StrsM.open {l : List ByteArray} (h : StrsM M w v l) :
    ∃ a c, v = .slice a l.length c ∧ l.length ≤ c ∧ l.length ≤ M ∧ ∀ i x, l[i]? = some x → x.size ≤ M ∧ ∃ b o, a = some ⟨b, o, none⟩ ∧ w.cell? ⟨b, o + i, none⟩ = some (.string x) := by
  obtain ⟨⟨a, c, h1, h2, h3, _, h5⟩, h6⟩ := h
  simp only [List.length_map] at h1 h2 h3
  refine ⟨a, c, h1, h2, h3, fun i x hx => ⟨h6 x (List.mem_of_getElem? hx), ?_⟩⟩
  obtain ⟨b, o, e, hc⟩ := h5 i [.string x] (by simp [hx])
  exact ⟨b, o, e, by simpa using hc 0 _ rfl⟩

theorem CtlsM.open {l : List Ctl} (h : CtlsM M w v l) :
    ∃ a c, v = .slice a l.length c ∧ l.length ≤ c ∧ l.length ≤ M ∧ ∀ i x, l[i]? = some x → x.name.size ≤ M ∧ I64 x.ports ∧ I64 x.kind ∧ ∃ b o, a = some ⟨b, o, none⟩ ∧
      w.cell? ⟨b, o + i * 3, none⟩ = some (.string x.name) ∧ w.cell? ⟨b, o + i * 3 + 1, none⟩ = some (.int .i64 x.ports) ∧ w.cell? ⟨b, o + i * 3 + 2, none⟩ = some (.int .i64 x.kind) := by
  obtain ⟨⟨a, c, h1, h2, h3, _, h5⟩, h6⟩ := h
  simp only [List.length_map] at h1 h2 h3
  refine ⟨a, c, h1, h2, h3, fun i x hx => ⟨(h6 x (List.mem_of_getElem? hx)).1, (h6 x (List.mem_of_getElem? hx)).2.1, (h6 x (List.mem_of_getElem? hx)).2.2, ?_⟩⟩
  obtain ⟨b, o, e, hc⟩ := h5 i x.cells (by simp [hx])
  exact ⟨b, o, e, by simpa using hc 0 _ rfl, hc 1 _ rfl, hc 2 _ rfl⟩

theorem WrsM.open {l : List Wr} (h : WrsM M w v l) :
    ∃ a c, v = .slice a l.length c ∧ l.length ≤ c ∧ l.length ≤ M ∧ ∀ i x, l[i]? = some x → x.name.size ≤ M ∧ I64 x.link ∧ ∃ b o, a = some ⟨b, o, none⟩ ∧
      w.cell? ⟨b, o + i * 2, none⟩ = some (.string x.name) ∧ w.cell? ⟨b, o + i * 2 + 1, none⟩ = some (.int .i64 x.link) := by
  obtain ⟨⟨a, c, h1, h2, h3, _, h5⟩, h6⟩ := h
  simp only [List.length_map] at h1 h2 h3
  refine ⟨a, c, h1, h2, h3, fun i x hx => ⟨(h6 x (List.mem_of_getElem? hx)).1, (h6 x (List.mem_of_getElem? hx)).2, ?_⟩⟩
  obtain ⟨b, o, e, hc⟩ := h5 i x.cells (by simp [hx])
  exact ⟨b, o, e, by simpa using hc 0 _ rfl, hc 1 _ rfl⟩

theorem NdsM.open {l : List Nd} (h : NdsM M w v l) :
    ∃ a c, v = .slice a l.length c ∧ l.length ≤ c ∧ l.length ≤ M ∧ ∀ i x, l[i]? = some x → I64 x.ctl ∧ I64 x.par ∧ ∃ b o vl, a = some ⟨b, o, none⟩ ∧ IntsM M w vl x.links ∧
      w.cell? ⟨b, o + i * 3, none⟩ = some (.int .i64 x.ctl) ∧ w.cell? ⟨b, o + i * 3 + 1, none⟩ = some (.int .i64 x.par) ∧ w.cell? ⟨b, o + i * 3 + 2, none⟩ = some vl := by
  obtain ⟨lv, rfl, ⟨a, c, h1, h2, h3, _, h5⟩, h6, h7⟩ := h
  simp only [List.length_map] at h1 h2 h3 ⊢
  refine ⟨a, c, h1, h2, h3, fun i x hx => ⟨(h7 x (List.mem_of_getElem? hx)).1, (h7 x (List.mem_of_getElem? hx)).2, ?_⟩⟩
  rw [List.getElem?_map] at hx
  cases hy : lv[i]? with
  | none => rw [hy] at hx; cases hx
  | some y =>
    rw [hy] at hx
    simp only [Option.map_some, Option.some.injEq] at hx
    subst hx
    obtain ⟨b, o, e, hc⟩ := h5 i (Nd.cells y) (by simp [hy])
    exact ⟨b, o, y.2, e, h6 y (List.mem_of_getElem? hy), by simpa using hc 0 _ rfl, hc 1 _ rfl, hc 2 _ rfl⟩
end

/-- Element i of a list that has one. -/
theorem getElem?_of_lt {α : Type} {l : List α} {i : Nat} (h : i < l.length) : ∃ x, l[i]? = some x := ⟨l[i], List.getElem?_eq_getElem h⟩

theorem take_snoc_l {α : Type} {l : List α} {k : Nat} {x : α} (h : l[k]? = some x) : l.take (k + 1) = l.take k ++ [x] := by
  obtain ⟨hk, rfl⟩ := List.getElem?_eq_some_iff.1 h
  rw [List.take_succ_eq_append_getElem hk]

/-! ### How much an argument holds: the laws look at this first. -/
def totI (l : List Int) : Nat := l.length
def sumOf {α : Type} (f : α → Nat) (l : List α) : Nat := (l.map f).sum
theorem sumOf_nil {α : Type} (f : α → Nat) : sumOf f [] = 0 := rfl
theorem sumOf_cons {α : Type} (f : α → Nat) (x : α) (l : List α) : sumOf f (x :: l) = f x + sumOf f l := by simp [sumOf]
theorem sumOf_snoc {α : Type} (f : α → Nat) (l : List α) (x : α) : sumOf f (l ++ [x]) = sumOf f l + f x := by simp [sumOf]
theorem sumOf_take {α : Type} (f : α → Nat) {l : List α} {k : Nat} {x : α} (h : l[k]? = some x) : sumOf f (l.take (k + 1)) = sumOf f (l.take k) + f x := by rw [take_snoc_l h, sumOf_snoc]
theorem sumOf_take_le {α : Type} (f : α → Nat) (l : List α) (k : Nat) : sumOf f (l.take k) ≤ sumOf f l := by
  have h : sumOf f l = sumOf f (l.take k) + sumOf f (l.drop k) := by
    conv => lhs; rw [← List.take_append_drop k l]
    unfold sumOf
    rw [List.map_append, List.sum_append]
  omega
theorem le_sumOf {α : Type} (f : α → Nat) {l : List α} {x : α} (h : x ∈ l) : f x ≤ sumOf f l := by
  induction l with
  | nil => cases h
  | cons y l ih =>
    rw [sumOf_cons]
    rcases List.mem_cons.1 h with rfl | h
    · omega
    · have := ih h; omega
def totS (l : List ByteArray) : Nat := l.length + sumOf ByteArray.size l
def totC (l : List Ctl) : Nat := l.length + sumOf (fun c => c.name.size) l
def totW (l : List Wr) : Nat := l.length + sumOf (fun c => c.name.size) l
def totN (l : List Nd) : Nat := l.length + sumOf (fun c => c.links.length) l
def totB (b : Big) : Nat := totN b.nodes + totI b.sites + totS b.outer + totW b.inner
/-- What is left of a number when so much is taken; -1 if it does not suffice. -/
def left (n : Int) (t : Nat) : Int := if n < (t : Int) then -1 else n - t

section
variable {w : World} {v : Value}
theorem IntsM.small {M N : Nat} {l : List Int} (h : IntsM M w v l) (hN : l.length ≤ N) : IntsM N w v l := ⟨h.1.le (by simpa using hN), h.2⟩
theorem StrsM.small {M N : Nat} {l : List ByteArray} (h : StrsM M w v l) (hN : totS l ≤ N) : StrsM N w v l :=
  ⟨h.1.le (by unfold totS at hN; simp; omega), fun s hs => by have := le_sumOf ByteArray.size hs; unfold totS at hN; omega⟩
theorem CtlsM.small {M N : Nat} {l : List Ctl} (h : CtlsM M w v l) (hN : totC l ≤ N) : CtlsM N w v l :=
  ⟨h.1.le (by unfold totC at hN; simp; omega), fun s hs => ⟨by have := le_sumOf (fun c : Ctl => c.name.size) hs; unfold totC at hN; omega, (h.2 s hs).2⟩⟩
theorem WrsM.small {M N : Nat} {l : List Wr} (h : WrsM M w v l) (hN : totW l ≤ N) : WrsM N w v l :=
  ⟨h.1.le (by unfold totW at hN; simp; omega), fun s hs => ⟨by have := le_sumOf (fun c : Wr => c.name.size) hs; unfold totW at hN; omega, (h.2 s hs).2⟩⟩
theorem NdsM.small {M N : Nat} {l : List Nd} (h : NdsM M w v l) (hN : totN l ≤ N) : NdsM N w v l := by
  obtain ⟨lv, rfl, h2, h3, h4⟩ := h
  refine ⟨lv, rfl, h2.le (by unfold totN at hN; simp at hN ⊢; omega), fun n hn => (h3 n hn).small ?_, h4⟩
  have := le_sumOf (fun c : Nd => c.links.length) (List.mem_map_of_mem (f := Prod.fst) hn)
  unfold totN at hN; omega
theorem BigM.small {M N : Nat} {b : Big} (h : BigM M w v b) (hN : totB b ≤ N) : BigM N w v b := by
  obtain ⟨vn, vs, vo, vi, e, h1, h2, h3, h4, h5⟩ := h
  unfold totB totI at hN
  exact ⟨vn, vs, vo, vi, e, h1.small (by omega), h2.small (by omega), h3.small (by omega), h4.small (by omega), h5⟩
end

end Go.Proofs.YtjbiphaeinbgbaaDoor
