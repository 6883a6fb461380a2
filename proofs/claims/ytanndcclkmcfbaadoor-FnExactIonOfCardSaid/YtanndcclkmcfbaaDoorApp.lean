/- 'out = append(out, x)' onto a slice of the call's own: a law of the walk, in the words of rows. No program in sight. -/
import Derived.Test.YtanndcclkmcfbaaDoorOwn
import Derived.Deep.AppendLies
import Derived.Deep.RegionLaw
import Derived.BigRegion
namespace Go.Proofs.YtanndcclkmcfbaaDoor
open Go Go.RowKit

/-- The slice value v owns the rows cs, in blocks from base on; exact as append wants it. -/
def Acc (w : World) (base : Nat) (e : TypeId) (sz : Nat) (v : Value) (cs : List (List Value)) : Prop := w.ownsRow base e sz v cs.length cs.flatten ∧ ∀ r ∈ cs, r.length = sz

section
variable {w w' : World} {base e sz : Nat} {v : Value} {cs : List (List Value)}
theorem Acc.nil (w : World) (base e sz : Nat) : Acc w base e sz (.slice none 0 0) [] := ⟨by simpa using World.ownsRow_nil w base e sz, fun r hr => by cases hr⟩
theorem Acc.lit0 (w : World) (base e sz : Nat) (hb : base ≤ w.heap.size) : Acc (w.alloc (.cells #[] e)) base e sz (.slice (some ⟨w.heap.size, 0, none⟩) 0 0) [] :=
  ⟨by simpa using World.ownsRow_lit (e := e) (size := sz) w #[] 0 hb (Nat.zero_le _) (by simp), fun r hr => by cases hr⟩
theorem Acc.below (h : Acc w base e sz v cs) (hb : Below w.heap.size w w') : Acc w' base e sz v cs := ⟨owns_below h.1 hb, h.2⟩
theorem Acc.own (h : Acc w base e sz v cs) : RowOwn base w v sz cs := RowOwn.of_owns h.1 rfl h.2
theorem Acc.keep (h : Acc w base e sz v cs) (hk : ∀ k, base ≤ k → k < w.heap.size → w'.heap[k]? = w.heap[k]?) : Acc w' base e sz v cs := by
  refine ⟨⟨h.1.1, ?_⟩, h.2⟩
  rcases h.1.2 with hn | ⟨g, c, cur, h1, h2, h3, h4⟩
  · exact .inl hn
  · exact .inr ⟨g, c, cur, h1, h2, (hk g h2 (Array.getElem?_eq_some_iff.1 h3).1).trans h3, h4⟩
theorem Acc.shape (h : Acc w base e sz v cs) : ∃ a c, v = .slice a cs.length c := by
  rcases h.1.2 with ⟨rfl, h0⟩ | ⟨g, c, cur, rfl, _⟩
  · exact ⟨none, 0, by rw [h0]⟩
  · exact ⟨_, c, rfl⟩
theorem Acc.le (h : Acc w base e sz v cs) {b' : Nat} (hb : b' ≤ base) : Acc w b' e sz v cs := by
  refine ⟨⟨h.1.1, ?_⟩, h.2⟩
  rcases h.1.2 with hn | ⟨g, c, cur, h1, h2, h3⟩
  · exact .inl hn
  · exact .inr ⟨g, c, cur, h1, Nat.le_trans hb h2, h3⟩
end

/-- What an append leaves of all that is not the slice's own: it only grows. -/
theorem grown_below {w w1 w' : World} {base B : Nat} {v : Value} {e sz : Nat} {cs : List (List Value)} (hb : Below B w w1) (hown : Acc w1 base e sz v cs) (hg : w1.grownBy w' v.ownBlock) (hB : B ≤ base) (hs : B ≤ w1.heap.size) : Below B w w' :=
  hb.grown hg hs (fun k hk => Nat.le_trans hB (hown.1.lt k hk).1)
theorem grown_block {w1 w' : World} {base : Nat} {v : Value} {e sz : Nat} {cs : List (List Value)} (hown : Acc w1 base e sz v cs) (hg : w1.grownBy w' v.ownBlock) {k : Nat} (hk : k < base) (hs : k < w1.heap.size) : w'.heap[k]? = w1.heap[k]? :=
  hg.block k hs (fun h => by have := (hown.1.lt k h.symm).1; omega)

variable {P : Program} {ops : Array Oper} {rest : List Oper} {o : Oper} {a : Act} {Q : Exit → Act → World → Prop}

/-- ONE element is appended: it lies in a new block, the newest. -/
theorem app1 (w : World) (hgd : o.guard = none) (s x : Operand) (t : TypeId) (ho : o.op = .call { callee := .builtin .append, args := #[s, x], argTypes := #[t, t] })
    (base e sz bytes : Nat) (z : Value) (ht : P.underlying t = some (.slice e)) (hinf : (P.info? e).map (fun i => (i.zero, i.size, i.bytes)) = some (some z, sz, bytes)) (hzs : z.cells.size = sz) (hsz : 0 < sz) (hby : bytes ≤ 128)
    (v : Value) (cs : List (List Value)) (hs : a.eval s = v) (hown : Acc w base e sz v cs) (row : List Value) (e' : TypeId) (hrow : row.length = sz) (h1 : ∀ u ∈ row, u.oneCell' = true)
    (hx : a.eval x = .slice (some ⟨w.heap.size, 0, none⟩) 1 1) (hlen : cs.length ≤ 1073741824) (hbase : base ≤ w.heap.size)
    (h : ∀ g c w', Acc w' base e sz (.slice (some ⟨g, 0, none⟩) (cs.length + 1) c) (cs ++ [row]) → w.grownBy w' v.ownBlock → wpList P ops Q rest (a.put o.dst (.slice (some ⟨g, 0, none⟩) (cs.length + 1) c)) w') :
    wpList P ops Q (o :: rest) a (w.alloc (.cells row.toArray e')) := by
  obtain ⟨i, hi, hz0, hz1, hz2⟩ := info_parts hinf
  refine wpList_append_own (w.alloc (.cells row.toArray e')) hgd s x t ho base e i z sz bytes ht hi hz0 hz1 hz2 hzs hsz v cs.length cs.flatten hs (hown.1.alloc _) ⟨w.heap.size, 0, none⟩ 1 1 row hx (by omega) ?_ h1 ?_ ?_ ?_ ?_
  · intro j u hu
    have hadd : (⟨w.heap.size, 0, none⟩ : Addr).add j = ⟨w.heap.size, j, none⟩ := by unfold Addr.add; split <;> simp_all
    rw [hadd, cell_of_row _ w.heap.size j row.toArray e' (0, 0) (heap_alloc_new w _)]
    simpa using hu
  · unfold maxLen; omega
  · have : (cs.length + 1) * bytes ≤ (cs.length + 1) * 128 := Nat.mul_le_mul_left _ hby
    omega
  · simp; omega
  · intro v' w' hown' hg hv'
    have hrest : ∃ g c, v' = .slice (some ⟨g, 0, none⟩) (cs.length + 1) c := by
      rcases hown'.2 with ⟨h0, hn⟩ | ⟨g, c, cur, h0, _⟩
      · omega
      · exact ⟨g, c, h0⟩
    obtain ⟨g, c, rfl⟩ := hrest
    refine h g c w' ⟨by simpa using hown', ?_⟩ ?_
    · intro r hr
      rcases List.mem_append.1 hr with hr | hr
      · exact hown.2 r hr
      · rw [List.mem_singleton.1 hr]; exact hrow
    · have hlt : ∀ k, k < w.heap.size → some k ≠ v.ownBlock → w'.heap[k]? = w.heap[k]? := fun k hk hne => (hg.block k (by simp; omega) hne).trans (Below.heap_alloc w _ k hk)
      exact ⟨hg.os, hg.tape, hg.output, by have := hg.size; simp at this; omega, fun k hk hne => hlt k hk hne⟩

/-- The same as a step of a region that draws its order. -/
theorem app1s {K : Act → World → Prop} {E : Prop} (w : World) (hgd : o.guard = none) (s x : Operand) (t : TypeId) (ho : o.op = .call { callee := .builtin .append, args := #[s, x], argTypes := #[t, t] })
    (base e sz bytes : Nat) (z : Value) (ht : P.underlying t = some (.slice e)) (hinf : (P.info? e).map (fun i => (i.zero, i.size, i.bytes)) = some (some z, sz, bytes)) (hzs : z.cells.size = sz) (hsz : 0 < sz) (hby : bytes ≤ 128)
    (v : Value) (cs : List (List Value)) (hs : a.eval s = v) (hown : Acc w base e sz v cs) (row : List Value) (e' : TypeId) (hrow : row.length = sz) (h1 : ∀ u ∈ row, u.oneCell' = true)
    (hx : a.eval x = .slice (some ⟨w.heap.size, 0, none⟩) 1 1) (hlen : cs.length ≤ 1073741824) (hbase : base ≤ w.heap.size)
    (h : ∀ g c w', Acc w' base e sz (.slice (some ⟨g, 0, none⟩) (cs.length + 1) c) (cs ++ [row]) → w.grownBy w' v.ownBlock → K (a.put o.dst (.slice (some ⟨g, 0, none⟩) (cs.length + 1) c)) w') :
    if Region.wanted o (yielded ops a.tmps) = true then Oper.wp P o a (w.alloc (.cells row.toArray e')) K Q else E := by
  obtain ⟨i, hi, hz0, hz1, hz2⟩ := info_parts hinf
  refine step_append_lies (w.alloc (.cells row.toArray e')) hgd s x t ho base e i z sz bytes ht hi hz0 hz1 hz2 hzs hsz v cs.length cs.flatten hs (hown.1.alloc _) ⟨w.heap.size, 0, none⟩ 1 1 row hx (by omega) ?_ h1 (by omega) ?_ ?_ ?_ _ rfl ?_
  · intro j u hu
    have hadd : (⟨w.heap.size, 0, none⟩ : Addr).add j = ⟨w.heap.size, j, none⟩ := by unfold Addr.add; split <;> simp_all
    rw [hadd, cell_of_row _ w.heap.size j row.toArray e' (0, 0) (heap_alloc_new w _)]
    simpa using hu
  · unfold maxLen; omega
  · have : (cs.length + 1) * bytes ≤ (cs.length + 1) * 128 := Nat.mul_le_mul_left _ hby
    omega
  · simp; omega
  · intro g c w' hown' hg _ _
    refine h g c w' ⟨by simpa using hown', ?_⟩ ?_
    · intro r hr
      rcases List.mem_append.1 hr with hr | hr
      · exact hown.2 r hr
      · rw [List.mem_singleton.1 hr]; exact hrow
    · have hlt : ∀ k, k < w.heap.size → some k ≠ v.ownBlock → w'.heap[k]? = w.heap[k]? := fun k hk hne => (hg.block k (by simp; omega) hne).trans (Below.heap_alloc w _ k hk)
      exact ⟨hg.os, hg.tape, hg.output, by have := hg.size; simp at this; omega, fun k hk hne => hlt k hk hne⟩

end Go.Proofs.YtanndcclkmcfbaaDoor
