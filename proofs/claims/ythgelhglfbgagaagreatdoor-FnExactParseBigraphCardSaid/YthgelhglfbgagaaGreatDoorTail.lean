/- 's[1:]' of a slice of the call's own, as an operation. No program in sight. -/
import Derived.Test.YthgelhglfbgagaaGreatDoorG2
import Derived.Lib.Hide
namespace Go.Proofs.YthgelhglfbgagaaGreatDoor
open Go Go.RowKit
section
variable {P : Program} {ops : Array Oper} {rest : List Oper} {o : Oper} {a : Act} {Q : Exit → Act → World → Prop}
/-- 's[1:]': where nothing of the capacity is left the address stays. -/
theorem slice_tail (w : World) (hgd : o.guard = none) (s : Operand) (t e : TypeId) (ho : o.op = .slice t s (some (.const (.int .i64 1))) none none) (ht : P.underlying t = some (.slice e)) (hsz : ∀ w, (sizeOf e).run P w = .ok 1 w)
    (g n c : Nat) (hs : a.eval s = .slice (some ⟨g, 0, none⟩) n c) (h1 : 1 ≤ n) (hc : n ≤ c)
    (h : ∀ o' : Nat, Hid (o' = 1 ∨ n = 1) → wpList P ops Q rest (a.put o.dst (.slice (some ⟨g, o', none⟩) (n - 1) (c - 1))) w) :
    wpList P ops Q (o :: rest) a w := by
  have he : P.elem t = e := by unfold Program.elem; rw [ht]
  have ht' : P.underlying t = some (.slice (P.elem t)) := by rw [he]; exact ht
  obtain ⟨o', ho', hrun⟩ : ∃ o', (o' = 1 ∨ n = 1) ∧ (Instr.sliceAt t (.slice (some ⟨g, 0, none⟩) n c) (some (.int .i64 1)) none none).run P w = .ok (.slice (some ⟨g, o', none⟩) (n - 1) (c - 1)) w := by
    rw [run_sliceAt_slice w t _ _ _ _ ht', run_slice_l w t _ n c ht' .i64 1 (by decide) (by omega), he, hsz]
    by_cases hcc : c = 1
    · exact ⟨0, .inr (by omega), by simp [Result.andThen, sliced, hcc]⟩
    · refine ⟨1, .inl rfl, ?_⟩
      have e1 : (⟨g, 0, none⟩ : Addr).add 1 = ⟨g, 1, none⟩ := rfl
      simp [Result.andThen, sliced, hcc, e1]
  refine wpList_plain hgd fun K hK => ?_
  unfold Oper.wp execOp
  have e1 : a.eval (.const (.int .i64 1)) = .int .i64 1 := rfl
  simp only [ho, Option.map_some, Option.map_none, hs, e1, Sem.run_bind, Sem.run_pure, hrun, Result.andThen_ok]
  exact hK _ _ (h o' ho')
end
end Go.Proofs.YthgelhglfbgagaaGreatDoor
