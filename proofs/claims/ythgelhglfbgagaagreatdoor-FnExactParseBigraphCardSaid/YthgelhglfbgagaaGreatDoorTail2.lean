/- 's[m:]' and 's[1:m]' of a slice, as operations. No program in sight. -/
import Derived.Test.YthgelhglfbgagaaGreatDoorTail
namespace Go.Proofs.YthgelhglfbgagaaGreatDoor
open Go Go.RowKit
section
variable {P : Program} {ops : Array Oper} {rest : List Oper} {o : Oper} {a : Act} {Q : Exit → Act → World → Prop}
theorem slice_from (w : World) (hgd : o.guard = none) (s x : Operand) (t e : TypeId) (ho : o.op = .slice t s (some x) none none) (ht : P.underlying t = some (.slice e)) (hsz : ∀ w, (sizeOf e).run P w = .ok 1 w)
    (g n c m : Nat) (hs : a.eval s = .slice (some ⟨g, 0, none⟩) n c) (hx : a.eval x = .int .i64 (m : Int)) (h1 : m ≤ n) (h2 : m < c)
    (h : wpList P ops Q rest (a.put o.dst (.slice (some ⟨g, m, none⟩) (n - m) (c - m))) w) :
    wpList P ops Q (o :: rest) a w := by
  have he : P.elem t = e := by unfold Program.elem; rw [ht]
  have ht' : P.underlying t = some (.slice (P.elem t)) := by rw [he]; exact ht
  have hrun : (Instr.sliceAt t (.slice (some ⟨g, 0, none⟩) n c) (some (.int .i64 (m : Int))) none none).run P w = .ok (.slice (some ⟨g, m, none⟩) (n - m) (c - m)) w := by
    rw [run_sliceAt_slice w t _ _ _ _ ht', run_slice_l w t _ n c ht' .i64 (m : Int) (by omega) (by omega), he, hsz]
    have e1 : (⟨g, 0, none⟩ : Addr).add m = ⟨g, m, none⟩ := by simp [Addr.add]; intro h; exact h.symm
    have e2 : ¬ c = m := by omega
    simp [Result.andThen, sliced, e2, e1]
  refine wpList_plain hgd fun K hK => ?_
  unfold Oper.wp execOp
  simp only [ho, Option.map_some, Option.map_none, hs, hx, Sem.run_bind, Sem.run_pure, hrun, Result.andThen_ok]
  exact hK _ _ h
/-- 's[1:l+1]', where the capacity goes on behind the first element. -/
theorem slice_mid (w : World) (hgd : o.guard = none) (s x : Operand) (t e : TypeId) (ho : o.op = .slice t s (some (.const (.int .i64 1))) (some x) none) (ht : P.underlying t = some (.slice e)) (hsz : ∀ w, (sizeOf e).run P w = .ok 1 w)
    (g n c l : Nat) (xi : Int) (hs : a.eval s = .slice (some ⟨g, 0, none⟩) n c) (hx : a.eval x = .int .i64 xi) (hxi : xi = (l : Int) + 1) (h2 : l + 1 ≤ c) (h3 : 1 < c)
    (h : wpList P ops Q rest (a.put o.dst (.slice (some ⟨g, 1, none⟩) l (c - 1))) w) :
    wpList P ops Q (o :: rest) a w := by
  have he : P.elem t = e := by unfold Program.elem; rw [ht]
  have ht' : P.underlying t = some (.slice (P.elem t)) := by rw [he]; exact ht
  have hrun : (Instr.sliceAt t (.slice (some ⟨g, 0, none⟩) n c) (some (.int .i64 1)) (some (.int .i64 xi)) none).run P w = .ok (.slice (some ⟨g, 1, none⟩) l (c - 1)) w := by
    rw [run_sliceAt_slice w t _ _ _ _ ht', run_slice_lh w t _ n c ht' .i64 .i64 1 xi (by decide) (by omega) (by omega), he, hsz]
    have e1 : (⟨g, 0, none⟩ : Addr).add 1 = ⟨g, 1, none⟩ := rfl
    have e2 : ¬ c = 1 := by omega
    have e3 : xi.toNat = l + 1 := by omega
    simp [Result.andThen, sliced, e2, e1, e3]
  refine wpList_plain hgd fun K hK => ?_
  unfold Oper.wp execOp
  have e1 : a.eval (.const (.int .i64 1)) = .int .i64 1 := rfl
  simp only [ho, Option.map_some, Option.map_none, hs, hx, e1, Sem.run_bind, Sem.run_pure, hrun, Result.andThen_ok]
  exact hK _ _ h
end
end Go.Proofs.YthgelhglfbgagaaGreatDoor
