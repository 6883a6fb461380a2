/- 'append(s, x...)' onto a slice of the call's own, x being any slice that reads as rows. No program in sight. -/
import Derived.Test.YtanndcclkmcfbaaDoorApp4
import Derived.Test.YtanndcclkmcfbaaDoorCopy
import Derived.ArgAppend
import Derived.Deep.Upon
namespace Go.Proofs.YtanndcclkmcfbaaDoor
open Go Go.RowKit
variable {P : Program} {ops : Array Oper} {rest : List Oper} {o : Oper} {a : Act} {Q : Exit → Act → World → Prop}

theorem runR (w : World) (t ty e : TypeId) (base sz bytes M : Nat) (z : Value) (ht : P.underlying t = some (.slice e)) (hinf : (P.info? e).map (fun i => (i.zero, i.size, i.bytes)) = some (some z, sz, bytes)) (hzs : z.cells.size = sz) (hsz : 0 < sz) (hby : bytes ≤ 128)
    (v : Value) (cs : List (List Value)) (hown : Acc w base e sz v cs) (xv : Value) (cs2 : List (List Value)) (hr : RowAt M w xv sz cs2) (h1 : ∀ r ∈ cs2, ∀ u ∈ r, u.oneCell' = true) (hlen : cs.length + cs2.length ≤ 1073741824) (hbase : base ≤ w.heap.size) :
    ∃ v' w', (Builtin.append_ #[t, t] ty #[v, xv]).run P w = .ok v' w' ∧ Acc w' base e sz v' (cs ++ cs2) ∧ w.grownBy w' v.ownBlock ∧ (v'.ownBlock = v.ownBlock ∨ v'.ownBlock = some w.heap.size) := by
  obtain ⟨i, hi, hz0, hz1, hz2⟩ := info_parts hinf
  obtain ⟨ax, cx, rfl, _, _, hr5, _⟩ := id hr
  cases ax with
  | none =>
    obtain rfl := hr.nil_of_none
    obtain ⟨av, cv, rfl⟩ := hown.shape
    have hle : cs.length ≤ cv := by
      rcases hown.1.2 with ⟨e0, h0⟩ | ⟨g, c, cur, e0, _, _, h2, _⟩
      · simp only [Value.slice.injEq] at e0; omega
      · simp only [Value.slice.injEq] at e0; omega
    refine ⟨_, w, run_append_nothing w t t ty e i ht hi av cs.length cv hle _ (Src.ofNil w ht cx), by simpa using hown, ⟨rfl, rfl, rfl, Nat.le_refl _, fun _ _ _ => rfl⟩, .inl rfl⟩
  | some b =>
    obtain ⟨v', w', hrun, hown', hg, _, hat⟩ := run_append_own_at (P := P) w base t ty e i z sz bytes ht hi hz0 hz1 hz2 hzs hsz v cs.length cs.flatten hown.1 b cs2.length cx cs2.flatten (flatLen2 cs2 hr5) hr.news
      (fun u hu => by obtain ⟨r, hr, hu⟩ := List.mem_flatten.1 hu; exact h1 r hr u hu) (by unfold maxLen; omega) (by have : (cs.length + cs2.length) * bytes ≤ (cs.length + cs2.length) * 128 := Nat.mul_le_mul_left _ hby; omega) hbase
    refine ⟨v', w', hrun, ⟨by simpa using hown', fun r hr => ?_⟩, hg, hat⟩
    rcases List.mem_append.1 hr with hr | hr
    · exact hown.2 r hr
    · exact hr5 r hr

theorem appR (w : World) (hgd : o.guard = none) (s x : Operand) (t : TypeId) (ho : o.op = .call { callee := .builtin .append, args := #[s, x], argTypes := #[t, t] })
    (base e sz bytes M : Nat) (z : Value) (ht : P.underlying t = some (.slice e)) (hinf : (P.info? e).map (fun i => (i.zero, i.size, i.bytes)) = some (some z, sz, bytes)) (hzs : z.cells.size = sz) (hsz : 0 < sz) (hby : bytes ≤ 128)
    (v : Value) (cs : List (List Value)) (hs : a.eval s = v) (hown : Acc w base e sz v cs) (xv : Value) (cs2 : List (List Value)) (hx : a.eval x = xv) (hr : RowAt M w xv sz cs2) (h1 : ∀ r ∈ cs2, ∀ u ∈ r, u.oneCell' = true) (hlen : cs.length + cs2.length ≤ 1073741824) (hbase : base ≤ w.heap.size)
    (h : ∀ v' w', Acc w' base e sz v' (cs ++ cs2) → w.grownBy w' v.ownBlock → (v'.ownBlock = v.ownBlock ∨ v'.ownBlock = some w.heap.size) → wpList P ops Q rest (a.put o.dst v') w') :
    wpList P ops Q (o :: rest) a w := by
  obtain ⟨v', w', hrun, h2, h3, h4⟩ := runR (P := P) w t o.type e base sz bytes M z ht hinf hzs hsz hby v cs hown xv cs2 hr h1 hlen hbase
  refine wpList_plain hgd fun K hK => ?_
  unfold Oper.wp execOp
  simp only [ho, resolve, invoke, builtin, Sem.run_bind, Sem.run_pure, Result.andThen_ok, List.map_toArray, List.map_cons, List.map_nil, hs, hx, hrun]
  exact hK _ _ (h v' w' h2 h3 h4)
/-- One row in a block that is known. -/
theorem rowAt_one {w : World} {g : Nat} {row : List Value} {e' : TypeId} {c : Nat} (h : w.heap[g]? = some (.cells row.toArray e' (0, 0))) (hc : 1 ≤ c) : RowAt 1 w (.slice (some ⟨g, 0, none⟩) 1 c) row.length [row] := by
  refine ⟨some ⟨g, 0, none⟩, c, rfl, by simpa using hc, by simp, by simp, fun i r hi => ⟨g, 0, rfl, fun j u hj => ?_⟩⟩
  obtain ⟨rfl, rfl⟩ : i = 0 ∧ r = row := by
    cases i with
    | zero => simpa using hi.symm
    | succ i => simp at hi
  rw [Nat.zero_mul, Nat.zero_add, cell_of_row w g j _ e' (0, 0) h]
  simpa using hj
end Go.Proofs.YtanndcclkmcfbaaDoor
