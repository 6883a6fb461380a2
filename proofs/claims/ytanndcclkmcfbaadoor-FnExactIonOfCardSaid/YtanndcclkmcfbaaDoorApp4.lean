/- 'append' of one element, and where the longer slice lies; two slices of the same elements side by side. No program in sight. -/
import Derived.Test.YtanndcclkmcfbaaDoorApp3
import Derived.Maps.AppendAt
namespace Go.Proofs.YtanndcclkmcfbaaDoor
open Go Go.RowKit
variable {P : Program} {ops : Array Oper} {rest : List Oper} {o : Oper} {a : Act} {Q : Exit → Act → World → Prop}

theorem app1k (w : World) (g0 : Nat) (hgd : o.guard = none) (s x : Operand) (t : TypeId) (ho : o.op = .call { callee := .builtin .append, args := #[s, x], argTypes := #[t, t] })
    (base e sz bytes : Nat) (z : Value) (ht : P.underlying t = some (.slice e)) (hinf : (P.info? e).map (fun i => (i.zero, i.size, i.bytes)) = some (some z, sz, bytes)) (hzs : z.cells.size = sz) (hsz : 0 < sz) (hby : bytes ≤ 128)
    (v : Value) (cs : List (List Value)) (hs : a.eval s = v) (hown : Acc w base e sz v cs) (row : List Value) (e' : TypeId) (hrow : row.length = sz) (h1 : ∀ u ∈ row, u.oneCell' = true)
    (hx : a.eval x = .slice (some ⟨g0, 0, none⟩) 1 1) (hg0 : g0 = w.heap.size) (hlen : cs.length ≤ 1073741824) (hbase : base ≤ w.heap.size)
    (h : ∀ g c w', Acc w' base e sz (.slice (some ⟨g, 0, none⟩) (cs.length + 1) c) (cs ++ [row]) → w.grownBy w' v.ownBlock → (v.ownBlock = some g ∨ w.heap.size < g) → wpList P ops Q rest (a.put o.dst (.slice (some ⟨g, 0, none⟩) (cs.length + 1) c)) w') :
    wpList P ops Q (o :: rest) a (w.alloc (.cells row.toArray e')) := by
  subst hg0
  obtain ⟨i, hi, hz0, hz1, hz2⟩ := info_parts hinf
  refine wpList_append_own_at (w.alloc (.cells row.toArray e')) hgd s x t ho base e i z sz bytes ht hi hz0 hz1 hz2 hzs hsz v cs.length cs.flatten hs (hown.1.alloc _) ⟨w.heap.size, 0, none⟩ 1 1 row hx (by omega) ?_ h1 ?_ ?_ ?_ ?_
  · intro j u hu
    have hadd : (⟨w.heap.size, 0, none⟩ : Addr).add j = ⟨w.heap.size, j, none⟩ := by unfold Addr.add; split <;> simp_all
    rw [hadd, cell_of_row _ w.heap.size j row.toArray e' (0, 0) (heap_alloc_new w _)]
    simpa using hu
  · unfold maxLen; omega
  · have : (cs.length + 1) * bytes ≤ (cs.length + 1) * 128 := Nat.mul_le_mul_left _ hby
    omega
  · simp; omega
  · intro v' w' hown' hg hv' hat
    have hrest : ∃ g c, v' = .slice (some ⟨g, 0, none⟩) (cs.length + 1) c := by
      rcases hown'.2 with ⟨h0, hn⟩ | ⟨g, c, cur, h0, _⟩
      · omega
      · exact ⟨g, c, h0⟩
    obtain ⟨g, c, rfl⟩ := hrest
    refine h g c w' ⟨by simpa using hown', ?_⟩ ?_ ?_
    · intro r hr
      rcases List.mem_append.1 hr with hr | hr
      · exact hown.2 r hr
      · rw [List.mem_singleton.1 hr]; exact hrow
    · have hlt : ∀ k, k < w.heap.size → some k ≠ v.ownBlock → w'.heap[k]? = w.heap[k]? := fun k hk hne => (hg.block k (by simp; omega) hne).trans (Below.heap_alloc w _ k hk)
      exact ⟨hg.os, hg.tape, hg.output, by have := hg.size; simp at this; omega, fun k hk hne => hlt k hk hne⟩
    · rcases hat with h2 | h2
      · exact .inl h2.symm
      · right
        simp only [Value.ownBlock, Option.some.injEq] at h2
        rw [h2]; simp

section
variable {w w' : World} {base base' e e' sz sz' : Nat} {v v' : Value} {cs cs' : List (List Value)}
/-- Two slices lie in different blocks. -/
def Apart (v v' : Value) : Prop := ∀ g, v.ownBlock = some g → v'.ownBlock ≠ some g
theorem Acc.keepA (h : Acc w base e sz v cs) (hne : Apart v v') (hg : w.grownBy w' v'.ownBlock) : Acc w' base e sz v cs :=
  h.keep1 fun g hgv => hg.block g (h.lt1 g hgv) fun heq => hne g hgv heq.symm
theorem Apart.grow (h : Acc w base e sz v cs) (hne : Apart v v') {g n c : Nat} (hg : v'.ownBlock = some g ∨ w.heap.size < g) : Apart v (.slice (some ⟨g, 0, none⟩) n c) := by
  intro k hk hk'
  simp only [Value.ownBlock, Option.some.injEq] at hk'
  subst hk'
  rcases hg with h2 | h2
  · exact hne g hk h2
  · have := h.lt1 g hk; omega
theorem Apart.grow' (h : Acc w base e sz v cs) (hne : Apart v' v) {g n c : Nat} (hg : v'.ownBlock = some g ∨ w.heap.size < g) : Apart (.slice (some ⟨g, 0, none⟩) n c) v := by
  intro k hk hk'
  simp only [Value.ownBlock, Option.some.injEq] at hk
  subst hk
  rcases hg with h2 | h2
  · exact hne g h2 hk'
  · have := h.lt1 g hk'; omega
theorem Apart.blks (hne : Apart v v') : ∀ g ∈ blks v, g ∉ blks v' := fun g hg hg' => hne g (blks_own hg) (blks_own hg')
end
end Go.Proofs.YtanndcclkmcfbaaDoor
