/- 'append' of one element whose block's number is spelled otherwise. No program in sight. -/
import Derived.Test.YtanndcclkmcfbaaDoorApp
namespace Go.Proofs.YtanndcclkmcfbaaDoor
open Go Go.RowKit
variable {P : Program} {ops : Array Oper} {rest : List Oper} {o : Oper} {a : Act} {Q : Exit → Act → World → Prop}

theorem app1g (w : World) (g0 : Nat) (hgd : o.guard = none) (s x : Operand) (t : TypeId) (ho : o.op = .call { callee := .builtin .append, args := #[s, x], argTypes := #[t, t] })
    (base e sz bytes : Nat) (z : Value) (ht : P.underlying t = some (.slice e)) (hinf : (P.info? e).map (fun i => (i.zero, i.size, i.bytes)) = some (some z, sz, bytes)) (hzs : z.cells.size = sz) (hsz : 0 < sz) (hby : bytes ≤ 128)
    (v : Value) (cs : List (List Value)) (hs : a.eval s = v) (hown : Acc w base e sz v cs) (row : List Value) (e' : TypeId) (hrow : row.length = sz) (h1 : ∀ u ∈ row, u.oneCell' = true)
    (hx : a.eval x = .slice (some ⟨g0, 0, none⟩) 1 1) (hg0 : g0 = w.heap.size) (hlen : cs.length ≤ 1073741824) (hbase : base ≤ w.heap.size)
    (h : ∀ g c w', Acc w' base e sz (.slice (some ⟨g, 0, none⟩) (cs.length + 1) c) (cs ++ [row]) → w.grownBy w' v.ownBlock → wpList P ops Q rest (a.put o.dst (.slice (some ⟨g, 0, none⟩) (cs.length + 1) c)) w') :
    wpList P ops Q (o :: rest) a (w.alloc (.cells row.toArray e')) := by
  subst hg0
  exact app1 w hgd s x t ho base e sz bytes z ht hinf hzs hsz hby v cs hs hown row e' hrow h1 hx hlen hbase h
theorem app1gs {K : Act → World → Prop} {E : Prop} (w : World) (g0 : Nat) (hgd : o.guard = none) (s x : Operand) (t : TypeId) (ho : o.op = .call { callee := .builtin .append, args := #[s, x], argTypes := #[t, t] })
    (base e sz bytes : Nat) (z : Value) (ht : P.underlying t = some (.slice e)) (hinf : (P.info? e).map (fun i => (i.zero, i.size, i.bytes)) = some (some z, sz, bytes)) (hzs : z.cells.size = sz) (hsz : 0 < sz) (hby : bytes ≤ 128)
    (v : Value) (cs : List (List Value)) (hs : a.eval s = v) (hown : Acc w base e sz v cs) (row : List Value) (e' : TypeId) (hrow : row.length = sz) (h1 : ∀ u ∈ row, u.oneCell' = true)
    (hx : a.eval x = .slice (some ⟨g0, 0, none⟩) 1 1) (hg0 : g0 = w.heap.size) (hlen : cs.length ≤ 1073741824) (hbase : base ≤ w.heap.size)
    (h : ∀ g c w', Acc w' base e sz (.slice (some ⟨g, 0, none⟩) (cs.length + 1) c) (cs ++ [row]) → w.grownBy w' v.ownBlock → K (a.put o.dst (.slice (some ⟨g, 0, none⟩) (cs.length + 1) c)) w') :
    if Region.wanted o (yielded ops a.tmps) = true then Oper.wp P o a (w.alloc (.cells row.toArray e')) K Q else E := by
  subst hg0
  exact app1s w hgd s x t ho base e sz bytes z ht hinf hzs hsz hby v cs hs hown row e' hrow h1 hx hlen hbase h
end Go.Proofs.YtanndcclkmcfbaaDoor
