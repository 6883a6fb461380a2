/- Regions that draw their order and hold several calls that lay memory of their own: one walk, in one order; what each call hands back is told by a word of the prover's that later memory does not spoil. No program in sight. -/
import Derived.Test.YtanndcclkmcfbaaDoorExt
import Derived.StillTail
namespace Go.Proofs.YtanndcclkmcfbaaDoor
open Go Go.RowKit

inductive RgX where
  | val (u : Value)
  | ent (f : FuncId) (args : Array Value)
  | made
def knd (o : Oper) : Nat :=
  match o.op with
  | .move _ => 0
  | .assign _ => 0
  | .load .. => 0
  | .binOp .. => 0
  | .unOp .. => 0
  | .fieldAddr .. => 0
  | .field .. => 0
  | .indexAddr .. => 0
  | .index .. => 0
  | .slice .. => 0
  | .build .. => 0
  | .extract .. => 0
  | .buildSlice .. => 2
  | .alloc .. => 2
  | .box .. => 2
  | .makeSlice .. => 2
  | .call c => (match c.callee with | .value _ => 1 | .builtin _ => 2 | _ => 3)
  | _ => 3
/-- A fact on a world, and the blocks that it claims. -/
abbrev Fct := World → (Nat → Prop) → Prop
abbrev RgK := Act → Fct → Prop
def emp : Fct := fun _ U => ∀ k, ¬ U k
/-- Both, at blocks that are apart. -/
def star (F H : Fct) : Fct := fun w U => ∃ U1 U2 : Nat → Prop, (∀ k, U1 k → U2 k → False) ∧ (∀ k, U k ↔ U1 k ∨ U2 k) ∧ F w U1 ∧ H w U2
def news (w w' : World) : Nat → Prop := fun k => w.heap.size ≤ k ∧ k < w'.heap.size
theorem star_swap {F H J : Fct} {w : World} {U : Nat → Prop} (h : star (star F H) J w U) : star (star F J) H w U := by
  obtain ⟨U1, U2, hd, hu, ⟨U3, U4, hd', hu', hF, hH⟩, hJ⟩ := h
  refine ⟨fun k => U3 k ∨ U2 k, U4, fun k h1 h2 => ?_, fun k => ?_, ⟨U3, U2, fun k h1 h2 => hd k ((hu' k).2 (.inl h1)) h2, fun _ => Iff.rfl, hF, hJ⟩, hH⟩
  · rcases h1 with h1 | h1
    · exact hd' k h1 h2
    · exact hd k ((hu' k).2 (.inr h2)) h1
  · rw [hu, hu']
    constructor
    · rintro ((h | h) | h)
      · exact .inl (.inl h)
      · exact .inr h
      · exact .inl (.inr h)
    · rintro ((h | h) | h)
      · exact .inl (.inl h)
      · exact .inr h
      · exact .inl (.inr h)
theorem star_mono {F F' H H' : Fct} {w : World} {U : Nat → Prop} (h1 : ∀ U, F w U → F' w U) (h2 : ∀ U, H w U → H' w U) (h : star F H w U) : star F' H' w U := by
  obtain ⟨U1, U2, hd, hu, hF, hH⟩ := h
  exact ⟨U1, U2, hd, hu, h1 _ hF, h2 _ hH⟩
theorem star_emp {F : Fct} {w : World} {U : Nat → Prop} (h : star F emp w U) : F w U := by
  obtain ⟨U1, U2, _, hu, hF, hE⟩ := h
  have : U = U1 := funext fun k => propext ((hu k).trans ⟨fun h => h.resolve_right (hE k), .inl⟩)
  rw [this]; exact hF
theorem emp_star {F : Fct} {w : World} {U : Nat → Prop} (h : F w U) : star F emp w U := ⟨U, fun _ => False, fun _ _ h => h, fun _ => by simp, h, fun _ h => h⟩
def Anti (K : RgK) : Prop := ∀ a F F', (∀ w U, F' w U → F w U) → K a F → K a F'
def Stab (F : Fct) : Prop := ∀ w w' U, Below w.heap.size w w' → F w U → F w' U
theorem star_stab {F H : Fct} (h1 : Stab F) (h2 : Stab H) : Stab (star F H) := by
  intro w w' U hb h
  obtain ⟨U1, U2, hd, hu, hF, hH⟩ := h
  exact ⟨U1, U2, hd, hu, h1 _ _ _ hb hF, h2 _ _ _ hb hH⟩

/-- What each operation's value is told to be, by the operation's number: a shape, and a fact that later memory does not spoil. -/
structure Told where
  sh : Nat → Value → Prop
  ex : ∀ i, ∃ v, sh i v
  fct : Nat → Value → Fct
  hs : ∀ i v w U, fct i v w U → sh i v
  st : ∀ i v, Stab (fct i v)

section
variable {P : Program} {ops : Array Oper} {C : World → Prop} {G : Told} {md : Region.Mode}

/-- What is known where an operation is carried out: what it waits for has been told. -/
def Deps (md : Region.Mode) (ops : Array Oper) (G : Told) (a : Act) (o : Oper) (w : World) : Prop :=
  ∀ e ∈ o.after, Region.binds md e = true → ∀ oi, ops[e.on]? = some oi → knd oi ≠ 0 → ∀ d, oi.dst = some d → ∃ U, G.fct e.on (a.tmps.getD d undef) w U
def RgX.ok (P : Program) (md : Region.Mode) (ops : Array Oper) (C : World → Prop) (G : Told) (j : Nat) (o : Oper) (a : Act) : RgX → Prop
  | .val u => knd o = 0 ∧ ∀ w, C w → ((execOp a.eval o).run P w = .ok (.value u) w ∨ ((execOp a.eval o).run P w = .ok .skip w ∧ u = undef))
  | .ent f args => knd o = 1 ∧ (∀ w, C w → (execOp a.eval o).run P w = .ok (.enter f args) w) ∧ ∀ w, C w → Deps md ops G a o w → Calls P f args w fun e w'' => ∃ u, e = .returned u ∧ Below w.heap.size w w'' ∧ G.fct j u w'' (news w w'')
  | .made => knd o = 2 ∧ ∀ w, C w → Deps md ops G a o w → ∃ u w1, (execOp a.eval o).run P w = .ok (.value u) w1 ∧ Below w.heap.size w w1 ∧ G.fct j u w1 (news w w1)
def RgX.sel (G : Told) (j : Nat) : RgX → Value → Prop
  | .val u, v => v = u
  | .ent _ _, v => G.sh j v
  | .made, v => G.sh j v
def RgX.post (G : Told) (j : Nat) : RgX → Value → Fct
  | .val _, _ => emp
  | .ent _ _, v => G.fct j v
  | .made, v => G.fct j v
theorem RgX.sel_ex (j : Nat) (x : RgX) : ∃ v, x.sel G j v := by
  cases x with
  | val u => exact ⟨_, rfl⟩
  | ent f args => exact G.ex j
  | made => exact G.ex j
theorem RgX.post_stab (j : Nat) (x : RgX) (v : Value) : Stab (x.post G j v) := by
  intro w w' U hb h
  cases x
  · exact h
  · exact G.st _ _ w w' U hb h
  · exact G.st _ _ w w' U hb h
theorem RgX.uniq {j : Nat} {o : Oper} {a : Act} {x y : RgX} {w0 : World} (h0 : C w0) (hx : x.ok P md ops C G j o a) (hy : y.ok P md ops C G j o a) : x = y := by
  cases x with
  | val u =>
    cases y with
    | val t =>
      rcases hx.2 w0 h0 with h1 | ⟨h1, rfl⟩ <;> rcases hy.2 w0 h0 with h2 | ⟨h2, rfl⟩ <;> rw [h1] at h2 <;> first | rfl | (injection h2 with h3; injection h3 with h4; rw [h4]) | (injection h2 with h3; cases h3)
    | ent f args => have := hx.1; have := hy.1; omega
    | made => have := hx.1; have := hy.1; omega
  | ent f args =>
    cases y with
    | val t => have := hx.1; have := hy.1; omega
    | ent g bs =>
      have h1 := hx.2.1 w0 h0
      have h2 := hy.2.1 w0 h0
      rw [h1] at h2
      injection h2 with h3
      injection h3 with h4 h5
      rw [h4, h5]
    | made => have := hx.1; have := hy.1; omega
  | made =>
    cases y with
    | val t => have := hx.1; have := hy.1; omega
    | ent g bs => have := hx.1; have := hy.1; omega
    | made => rfl
/-- Another operation's value makes no difference to what is known here. -/
theorem deps_put {i : Nat} {oi oj : Oper} {a : Act} {w : World} (hoi : ops[i]? = some oi) (hds : ∀ (k l : Nat) ok ol d, ops[k]? = some ok → ops[l]? = some ol → ok.dst = some d → ol.dst = some d → k = l)
    (hno : ∀ e ∈ oj.after, Region.binds md e = true → e.on ≠ i) (v : Value) : Deps md ops G (a.put oi.dst v) oj w ↔ Deps md ops G a oj w := by
  have key : ∀ e ∈ oj.after, Region.binds md e = true → ∀ ok, ops[e.on]? = some ok → ∀ d, ok.dst = some d → (a.put oi.dst v).tmps.getD d undef = a.tmps.getD d undef := by
    intro e he hb ok hok d hd
    cases hdi : oi.dst with
    | none => rfl
    | some d' =>
      have hne : d' ≠ d := fun e' => hno e he hb (hds _ _ _ _ d hok hoi hd (by rw [hdi, e']))
      simp [Act.put, Array.getElem?_setIfInBounds_ne hne]
  constructor
  · intro h e he hb ok hok hk d hd
    have := h e he hb ok hok hk d hd
    rwa [key e he hb ok hok d hd] at this
  · intro h e he hb ok hok hk d hd
    rw [key e he hb ok hok d hd]
    exact h e he hb ok hok hk d hd
theorem RgX.ok_put {i j : Nat} {oi oj : Oper} {a : Act} {x : RgX} (hoi : ops[i]? = some oi) (hds : ∀ (k l : Nat) ok ol d, ops[k]? = some ok → ops[l]? = some ol → ok.dst = some d → ol.dst = some d → k = l)
    (hno : ∀ e ∈ oj.after, Region.binds md e = true → e.on ≠ i) (v : Value) (he : execOp (a.put oi.dst v).eval oj = execOp a.eval oj) : x.ok P md ops C G j oj (a.put oi.dst v) ↔ x.ok P md ops C G j oj a := by
  cases x <;> simp only [RgX.ok, he, deps_put hoi hds hno v]

/-- One operation, then K. -/
def rgOp (P : Program) (md : Region.Mode) (ops : Array Oper) (C : World → Prop) (G : Told) (i : Nat) (K : RgK) : RgK := fun a F =>
  match ops[i]? with
  | none => K a F
  | some o => ∃ x : RgX, x.ok P md ops C G i o a ∧ ∀ v, x.sel G i v → K (a.put o.dst v) (star F (x.post G i v))
theorem rgOp_mono {i : Nat} {K K' : RgK} (h : ∀ a F, K a F → K' a F) {a : Act} {F : Fct} (hh : rgOp P md ops C G i K a F) : rgOp P md ops C G i K' a F := by
  unfold rgOp at *
  split
  · rename_i ho; simp only [ho] at hh; exact h _ _ hh
  · rename_i o ho
    simp only [ho] at hh
    obtain ⟨x, h1, h2⟩ := hh
    exact ⟨x, h1, fun v hv => h _ _ (h2 v hv)⟩
theorem rgOp_anti {i : Nat} {K : RgK} (h : Anti K) : Anti (rgOp P md ops C G i K) := by
  intro a F F' hF hh
  unfold rgOp at *
  split
  · rename_i ho; simp only [ho] at hh; exact h _ _ _ hF hh
  · rename_i o ho
    simp only [ho] at hh
    obtain ⟨x, h1, h2⟩ := hh
    exact ⟨x, h1, fun v hv => h _ _ _ (fun w U hw => star_mono (hF w) (fun _ h => h) hw) (h2 v hv)⟩

theorem rgOp_put {i j : Nat} {oi oj : Oper} {x : RgX} (hi : ops[i]? = some oi) (hj : ops[j]? = some oj) (hap : oi.apart ops oj = true) (hsi : ∀ cs b, oi.op ≠ .select cs b) (hsj : ∀ cs b, oj.op ≠ .select cs b)
    (hds : ∀ (k l : Nat) ok ol d, ops[k]? = some ok → ops[l]? = some ol → ok.dst = some d → ol.dst = some d → k = l)
    (hnj : ∀ e ∈ oj.after, Region.binds md e = true → e.on ≠ i) (hni : ∀ e ∈ oi.after, Region.binds md e = true → e.on ≠ j) {w0 : World} (h0 : C w0)
    {K : RgK} (hK : Anti K) {a : Act} {F : Fct} (hx : x.ok P md ops C G i oi a)
    (h : ∀ v, x.sel G i v → rgOp P md ops C G j K (a.put oi.dst v) (star F (x.post G i v))) :
    rgOp P md ops C G j (fun a' F' => x.ok P md ops C G i oi a' ∧ ∀ v, x.sel G i v → K (a'.put oi.dst v) (star F' (x.post G i v))) a F := by
  obtain ⟨h1, h2, h3⟩ := Oper.apart_spec hap
  have ej : ∀ v, execOp (a.put oi.dst v).eval oj = execOp a.eval oj := fun v => execOp_put oj hsj a oi.dst v h1
  have ei : ∀ u, execOp (a.put oj.dst u).eval oi = execOp a.eval oi := fun u => execOp_put oi hsi a oj.dst u h3
  have key : ∀ v, x.sel G i v → ∃ y : RgX, y.ok P md ops C G j oj a ∧ ∀ t, y.sel G j t → K ((a.put oi.dst v).put oj.dst t) (star (star F (x.post G i v)) (y.post G j t)) := by
    intro v hv
    have := h v hv
    unfold rgOp at this
    simp only [hj] at this
    obtain ⟨y, hy, hn⟩ := this
    exact ⟨y, (RgX.ok_put hi hds hnj v (ej v)).1 hy, hn⟩
  obtain ⟨v0, hv0⟩ := x.sel_ex (G := G) i
  obtain ⟨y, hy, _⟩ := key v0 hv0
  unfold rgOp
  simp only [hj]
  refine ⟨y, hy, fun t ht => ⟨(RgX.ok_put hj hds hni t (ei t)).2 hx, fun v hv => ?_⟩⟩
  obtain ⟨y', hy', hn⟩ := key v hv
  obtain rfl := RgX.uniq h0 hy' hy
  have := hn t ht
  rw [Act.put_comm a v t h2] at this
  exact hK _ _ _ (fun w U hw => star_swap hw) this

def wpAnyR (P : Program) (md : Region.Mode) (ops : Array Oper) (C : World → Prop) (G : Told) (tl : List Nat) (L : Array Bool → RgK) : Nat → Array Bool → RgK
  | 0, listed, a, F => L listed a F
  | f + 1, listed, a, F => Region.ready md ops listed ≠ [] ∧ ∀ i ∈ Region.ready md ops listed, tl.contains i = false ∧ rgOp P md ops C G i (wpAnyR P md ops C G tl L f (listed.setIfInBounds i true)) a F
theorem wpAnyR_anti {tl : List Nat} {L : Array Bool → RgK} (hL : ∀ l, Anti (L l)) : ∀ (f : Nat) (listed : Array Bool), Anti (wpAnyR P md ops C G tl L f listed)
  | 0, listed => hL listed
  | f + 1, listed => fun a F F' hF h => ⟨h.1, fun i hi => ⟨(h.2 i hi).1, rgOp_anti (wpAnyR_anti hL f _) a F F' hF (h.2 i hi).2⟩⟩

/-- What has been carried out has been told. -/
def Carried (ops : Array Oper) (G : Told) (listed : Array Bool) (a : Act) (w : World) : Prop :=
  ∀ (i : Nat) o, listed.getD i false = true → ops[i]? = some o → knd o ≠ 0 → ∀ d, o.dst = some d → ∃ U, G.fct i (a.tmps.getD d undef) w U
theorem carried_set {listed : Array Bool} {a : Act} {w w' : World} {i : Nat} {o : Oper} {v : Value} (h : Carried ops G listed a w) (hb : Below w.heap.size w w') (ho : ops[i]? = some o)
    (hds : ∀ (k l : Nat) ok ol d, ops[k]? = some ok → ops[l]? = some ol → ok.dst = some d → ol.dst = some d → k = l) (hsz : ∀ d, o.dst = some d → knd o ≠ 0 → d < a.tmps.size) (hv : knd o ≠ 0 → ∃ U, G.fct i v w' U) : Carried ops G (listed.setIfInBounds i true) (a.put o.dst v) w' := by
  intro k ok hk hok hkn d hd
  by_cases hki : i = k
  · subst hki
    have : ok = o := Option.some.inj (hok.symm.trans ho)
    subst this
    have hlt := hsz d hd hkn
    rw [hd]
    have e : (a.put (some d) v).tmps.getD d undef = v := by simp [Act.put, hlt]
    rw [e]
    exact hv hkn
  · rw [getD_set_ne false hki] at hk
    obtain ⟨U, hU⟩ := h k ok hk hok hkn d hd
    have e : (a.put o.dst v).tmps.getD d undef = a.tmps.getD d undef := by
      cases hdi : o.dst with
      | none => rfl
      | some d' =>
        have hne : d' ≠ d := fun e' => hki (hds _ _ _ _ d ho hok (by rw [hdi, e']) hd)
        simp [Act.put, Array.getElem?_setIfInBounds_ne hne]
    rw [e]
    exact ⟨U, G.st _ _ _ _ _ hb hU⟩

theorem wpAny_of_R {tl : List Nat} {g n : Nat} {L : Array Bool → RgK} {Q : Exit → Act → World → Prop} (hC : ∀ w w', C w → Below w.heap.size w w' → C w')
    (hds : ∀ (k l : Nat) ok ol d, ops[k]? = some ok → ops[l]? = some ol → ok.dst = some d → ol.dst = some d → k = l) (hn0 : ∀ (i : Nat) o d, ops[i]? = some o → o.dst = some d → d < n)
    (hgd : ∀ (i : Nat) o, ops[i]? = some o → o.guard = none) (hL : ∀ listed a F w U, L listed a F → C w → F w U → wpAny P md ops Q g listed a w) :
    ∀ (f : Nat) (listed : Array Bool) (a : Act) (F : Fct) (w : World) (U : Nat → Prop), Stab F → wpAnyR P md ops C G tl L f listed a F → C w → F w U → (∀ k, U k → k < w.heap.size) → Carried ops G listed a w → a.tmps.size = n → wpAny P md ops Q (f + g) listed a w
  | 0, listed, a, F, w, U, _, h, hw, hF, _, _, _ => by rw [Nat.zero_add]; exact hL _ _ _ _ _ h hw hF
  | f + 1, listed, a, F, w, U, hS, h, hw, hF, hU, hca, hsz => by
    rw [show f + 1 + g = (f + g) + 1 by omega]
    refine ⟨fun h0 => absurd h0 h.1, fun i hi => ?_⟩
    have h1 := (h.2 i hi).2
    obtain ⟨_, o, ho, hall⟩ := mem_ready.1 hi
    unfold rgOp at h1
    simp only [ho] at h1
    obtain ⟨x, hx, hn⟩ := h1
    have hw1 : Region.wanted o (yielded ops a.tmps) = true := by unfold Region.wanted; rw [hgd i o ho]
    have hdep : Deps md ops G a o w := fun e he hb oi hoi hk d hd => hca e.on oi (hall e he hb) hoi hk d hd
    have hput : ∀ v, (a.put o.dst v).tmps.size = n := by intro v; cases o.dst <;> simp [Act.put, hsz]
    unfold wpOp
    simp only [ho, hw1, if_true]
    left
    unfold Oper.wp
    have ih := fun v w' U' hv hw' hF' hU' hca' => wpAny_of_R (tl := tl) hC hds hn0 hgd hL f (listed.setIfInBounds i true) (a.put o.dst v) _ w' U' (star_stab hS (RgX.post_stab i x v)) (hn v hv) hw' hF' hU' hca' (hput v)
    have hcs := fun v w' hb hv => carried_set (v := v) (w' := w') hca hb ho hds (fun d hd _ => by rw [hsz]; exact hn0 i o d ho hd) hv
    have join : ∀ w'' (H : Fct), Below w.heap.size w w'' → H w'' (news w w'') → star F H w'' (fun k => U k ∨ news w w'' k) ∧ ∀ k, (U k ∨ news w w'' k) → k < w''.heap.size := fun w'' H hb hH =>
      ⟨⟨U, news w w'', fun k h1 h2 => by have := hU k h1; have := h2.1; omega, fun _ => Iff.rfl, hS _ _ _ hb hF, hH⟩, fun k h => by
        rcases h with h | h
        · have := hU k h; have := hb.size; omega
        · exact h.2⟩
    cases x with
    | val u =>
      rcases hx.2 w hw with e | ⟨e, rfl⟩
      · rw [e]; exact ih u w U rfl hw (emp_star hF) hU (hcs u w (Below.refl _ _) (fun h => absurd hx.1 h))
      · rw [e]; exact ih _ w U rfl hw (emp_star hF) hU (hcs _ w (Below.refl _ _) (fun h => absurd hx.1 h))
    | ent fn args =>
      rw [hx.2.1 w hw]
      refine (hx.2.2 w hw hdep).mono ?_
      rintro e' w'' ⟨u, rfl, hb, hg⟩
      obtain ⟨j1, j2⟩ := join w'' _ hb hg
      exact ih u w'' _ (G.hs _ _ _ _ hg) (hC _ _ hw hb) j1 j2 (hcs u w'' hb (fun _ => ⟨_, hg⟩))
    | made =>
      obtain ⟨u, w1, e, hb, hg⟩ := hx.2 w hw hdep
      rw [e]
      obtain ⟨j1, j2⟩ := join w1 _ hb hg
      exact ih u w1 _ (G.hs _ _ _ _ hg) (hC _ _ hw hb) j1 j2 (hcs u w1 hb (fun _ => ⟨_, hg⟩))

/-! ### What the order asks -/
def waits (md : Region.Mode) (ops : Array Oper) (j i : Nat) : Bool :=
  match ops[j]? with
  | some oj => oj.after.any fun e => Region.binds md e && e.on == i
  | none => false
theorem waits_spec {j i : Nat} (h : waits md ops j i = true) : ∃ oj, ops[j]? = some oj ∧ ∃ e ∈ oj.after, Region.binds md e = true ∧ e.on = i := by
  unfold waits at h
  split at h
  · rename_i oj hj
    obtain ⟨e, he, hb⟩ := Array.any_eq_true'.1 h
    simp only [Bool.and_eq_true, beq_iff_eq] at hb
    exact ⟨oj, hj, e, he, hb.1, hb.2⟩
  · cases h
/-- j waits for i, directly or through others. -/
def reach (md : Region.Mode) (ops : Array Oper) : Nat → Nat → Nat → Bool
  | 0, _, _ => false
  | f + 1, j, i => waits md ops j i || (List.range ops.size).any fun k => waits md ops j k && reach md ops f k i
structure RgInv (md : Region.Mode) (ops : Array Oper) (tl : List Nat) (listed : Array Bool) : Prop where
  size : listed.size = ops.size
  closed : ∀ j oj, ops[j]? = some oj → listed.getD j false = true → ∀ e ∈ oj.after, Region.binds md e = true → listed.getD e.on false = true
  tail : ∀ t, tl.contains t = true → t < ops.size → listed.getD t true = false
theorem RgInv.set {tl : List Nat} {i : Nat} {listed : Array Bool} (inv : RgInv md ops tl listed) (hi : i ∈ Region.ready md ops listed) (hin : tl.contains i = false) : RgInv md ops tl (listed.setIfInBounds i true) := by
  obtain ⟨_, oi, hoi, hall⟩ := mem_ready.1 hi
  refine ⟨by simp [inv.size], fun j oj hj hl e he hb => ?_, fun t ht ht' => ?_⟩
  · by_cases hij : i = j
    · subst hij
      have : oj = oi := Option.some.inj (hj.symm.trans hoi)
      subst this
      exact getD_set_true (hall e he hb)
    · rw [getD_set_ne false hij] at hl
      exact getD_set_true (inv.closed j oj hj hl e he hb)
  · have hit : i ≠ t := by intro e; subst e; rw [ht] at hin; cases hin
    rw [getD_set_ne true hit]; exact inv.tail t ht ht'
theorem reach_listed {tl : List Nat} {listed : Array Bool} (inv : RgInv md ops tl listed) : ∀ (f j i : Nat), reach md ops f j i = true → (∀ oj, ops[j]? = some oj → ∀ e ∈ oj.after, Region.binds md e = true → listed.getD e.on false = true) → listed.getD i false = true
  | 0, _, _, h, _ => by cases h
  | f + 1, j, i, h, hd => by
    unfold reach at h
    rw [Bool.or_eq_true] at h
    rcases h with h | h
    · obtain ⟨oj, hj, e, he, hb, rfl⟩ := waits_spec h
      exact hd oj hj e he hb
    · obtain ⟨k, _, hk⟩ := List.any_eq_true.1 h
      rw [Bool.and_eq_true] at hk
      obtain ⟨oj, hj, e, he, hb, rfl⟩ := waits_spec hk.1
      have hl := hd oj hj e he hb
      exact reach_listed inv f e.on i hk.2 (fun ok hok e' he' hb' => inv.closed e.on ok hok hl e' he' hb')
def tailB (md : Region.Mode) (ops : Array Oper) (head tl : List Nat) : Bool := tl.all fun t => head.all fun i => reach md ops ops.size t i
theorem tail_not_ready {head tl : List Nat} {listed : Array Bool} (hB : tailB md ops head tl = true) (inv : RgInv md ops tl listed) {i : Nat} (hi : i ∈ head) (hun : listed.getD i true = false) : ∀ t, tl.contains t = true → t ∉ Region.ready md ops listed := by
  intro t ht hr
  obtain ⟨_, ot, hot, hall⟩ := mem_ready.1 hr
  have h1 := List.all_eq_true.1 (List.all_eq_true.1 hB t (by simpa using ht)) i hi
  have h2 := reach_listed inv _ _ _ h1 (fun oj hj e he hb => by
    have : oj = ot := Option.some.inj (hj.symm.trans hot)
    subst this
    exact hall e he hb)
  rw [getD_both hun] at h2
  cases h2

theorem wpAnyR_first {head tl : List Nat} {i : Nat} {oi : Oper} {x : RgX} {L : Array Bool → RgK} (hi : ops[i]? = some oi) (hsel : ∀ (j : Nat) (o : Oper) cs b, ops[j]? = some o → o.op ≠ .select cs b)
    (hds : ∀ (k l : Nat) ok ol d, ops[k]? = some ok → ops[l]? = some ol → ok.dst = some d → ol.dst = some d → k = l)
    {w0 : World} (h0 : C w0) (hL : ∀ l, Anti (L l)) (hT : tailB md ops head tl = true) (hin : i ∈ head)
    (hdone : ∀ listed a F, L listed a F → ∀ j ∈ Region.ready md ops listed, tl.contains j = true) :
    ∀ (f : Nat) (listed : Array Bool) (a : Act) (F : Fct), RgInv md ops tl listed →
      (∀ j oj, ops[j]? = some oj → j ≠ i → listed.getD j true = false → (∀ e ∈ oj.after, Region.binds md e = true → e.on ≠ i) → oi.apart ops oj = true) →
      i ∈ Region.ready md ops listed → x.ok P md ops C G i oi a →
      (∀ v, x.sel G i v → wpAnyR P md ops C G tl L f (listed.setIfInBounds i true) (a.put oi.dst v) (star F (x.post G i v))) → wpAnyR P md ops C G tl L (f + 1) listed a F := by
  intro f
  induction f with
  | zero =>
    intro listed a F inv _ hr hx H
    have hun := (mem_ready.1 hr).1
    refine ⟨fun h => (by rw [h] at hr; cases hr), fun j hj => ?_⟩
    have hjn : tl.contains j = false := by
      cases h : tl.contains j with
      | false => rfl
      | true => exact absurd hj (tail_not_ready hT inv hin hun j h)
    refine ⟨hjn, ?_⟩
    by_cases hji : j = i
    · subst hji; unfold rgOp; simp only [hi]; exact ⟨x, hx, H⟩
    · obtain ⟨v0, hv0⟩ := x.sel_ex (G := G) i
      have := hdone _ _ _ (H v0 hv0) j (ready_mono hj hji)
      rw [hjn] at this; cases this
  | succ f ih =>
    intro listed a F inv hfree hr hx H
    have hun := (mem_ready.1 hr).1
    refine ⟨fun h => (by rw [h] at hr; cases hr), fun j hj => ?_⟩
    have hjn : tl.contains j = false := by
      cases h : tl.contains j with
      | false => rfl
      | true => exact absurd hj (tail_not_ready hT inv hin hun j h)
    refine ⟨hjn, ?_⟩
    by_cases hji : j = i
    · subst hji; unfold rgOp; simp only [hi]; exact ⟨x, hx, H⟩
    · obtain ⟨hjun, oj, hoj, hall⟩ := mem_ready.1 hj
      have hnot : ∀ e ∈ oj.after, Region.binds md e = true → e.on ≠ i := fun e he hb heq => by
        have h1 := hall e he hb
        rw [heq, getD_both hun] at h1
        cases h1
      have h1 := fun v hv => ((H v hv).2 j (ready_mono hj hji)).2
      have hni : ∀ e ∈ oi.after, Region.binds md e = true → e.on ≠ j := fun e he hb heq => by
        obtain ⟨_, oi', hoi', hall'⟩ := mem_ready.1 hr
        have : oi' = oi := Option.some.inj (hoi'.symm.trans hi)
        subst this
        have h1 := hall' e he hb
        rw [heq, getD_both hjun] at h1
        cases h1
      have h2 := rgOp_put hi hoj (hfree j oj hoj hji hjun hnot) (fun cs b => hsel i oi cs b hi) (fun cs b => hsel j oj cs b hoj) hds hnot hni h0 (wpAnyR_anti hL f _) hx h1
      have hfree' : ∀ k ok, ops[k]? = some ok → k ≠ i → (listed.setIfInBounds j true).getD k true = false →
          (∀ e ∈ ok.after, Region.binds md e = true → e.on ≠ i) → oi.apart ops ok = true := fun k ok hk hki hun hno => by
        refine hfree k ok hk hki ?_ hno
        by_cases hjk : j = k
        · subst hjk; exact hjun
        · rw [getD_set_ne true hjk] at hun; exact hun
      refine rgOp_mono (fun a' F' h3 => ih (listed.setIfInBounds j true) a' F' (inv.set hj hjn) hfree' (ready_mono hr (Ne.symm hji)) h3.1 ?_) h2
      rw [Array.setIfInBounds_comm _ _ hji]
      exact h3.2

def seqL (md : Region.Mode) (ops : Array Oper) : List Nat → Array Bool → Bool
  | [], listed => (Region.ready md ops listed).isEmpty
  | t :: r, listed => decide (Region.ready md ops listed = [t]) && seqL md ops r (listed.setIfInBounds t true)
def ordB (md : Region.Mode) (ops : Array Oper) (tl : List Nat) : List Nat → Array Bool → Bool
  | [], listed => seqL md ops tl listed
  | i :: r, listed => (Region.ready md ops listed).contains i && Region.free md ops listed i && !tl.contains i && ordB md ops tl r (listed.setIfInBounds i true)
def wpRG (P : Program) (ops : Array Oper) (C : World → Prop) (G : Told) (L : RgK) : List Nat → RgK
  | [] => L
  | i :: r => rgOp P .any ops C G i (wpRG P ops C G L r)
theorem wpRG_anti {L : RgK} (hL : Anti L) : ∀ l, Anti (wpRG P ops C G L l)
  | [] => hL
  | _ :: r => rgOp_anti (wpRG_anti hL r)

theorem seqL_ready {tl : List Nat} {listed : Array Bool} (h : seqL md ops tl listed = true) : ∀ j ∈ Region.ready md ops listed, tl.contains j = true := by
  intro j hj
  cases tl with
  | nil => simp only [seqL, List.isEmpty_iff] at h; rw [h] at hj; cases hj
  | cons t r =>
    simp only [seqL, Bool.and_eq_true, decide_eq_true_eq] at h
    rw [h.1] at hj
    obtain rfl : j = t := by simpa using hj
    simp
theorem wpAnyR_ord {head tl : List Nat} {L : RgK} (hsel : Region.noSelect ops = true)
    (hds : ∀ (k l : Nat) ok ol d, ops[k]? = some ok → ops[l]? = some ol → ok.dst = some d → ol.dst = some d → k = l) {w0 : World} (h0 : C w0) (hL : Anti L) (hT : tailB .any ops head tl = true) :
    ∀ (l : List Nat) (listed : Array Bool) (a : Act) (F : Fct), (∀ i ∈ l, i ∈ head) → RgInv .any ops tl listed → ordB .any ops tl l listed = true → wpRG P ops C G L l a F →
    wpAnyR P .any ops C G tl (fun listed' a' F' => seqL .any ops tl listed' = true ∧ L a' F') l.length listed a F
  | [], listed, a, F, _, _, hB, h => ⟨hB, h⟩
  | i :: l, listed, a, F, hl, inv, hB, h => by
    simp only [ordB, Bool.and_eq_true, Bool.not_eq_true'] at hB
    obtain ⟨⟨⟨hr, hf⟩, hn⟩, hB'⟩ := hB
    have hr' : i ∈ Region.ready .any ops listed := by simpa using hr
    obtain ⟨_, oi, hoi, _⟩ := mem_ready.1 hr'
    unfold wpRG rgOp at h
    simp only [hoi] at h
    obtain ⟨x, hx, hK⟩ := h
    exact wpAnyR_first hoi (Region.noSelect_spec hsel) hds h0 (fun _ _ _ _ hF h => ⟨h.1, hL _ _ _ hF h.2⟩) hT (hl i (List.mem_cons_self)) (fun listed' a' F' hL' => seqL_ready hL'.1) l.length listed a F inv (Region.free_spec hoi hf) hr' hx
      (fun v hv => wpAnyR_ord hsel hds h0 hL hT l _ _ _ (fun k hk => hl k (List.mem_cons_of_mem _ hk)) (inv.set hr' hn) hB' (hK v hv))

theorem wpAny_of_seqL {Q : Exit → Act → World → Prop} : ∀ (tl : List Nat) (lo : List Oper) (listed : Array Bool) (a : Act) (w : World), tl.map (ops[·]?) = lo.map some →
    seqL md ops tl listed = true → wpList P ops Q lo a w → wpAny P md ops Q tl.length listed a w
  | [], [], _, _, _, _, hB, h => ⟨by simpa [seqL] using hB, h⟩
  | [], _ :: _, _, _, _, hl, _, _ => by simp at hl
  | _ :: _, [], _, _, _, hl, _, _ => by simp at hl
  | t :: tl, o :: lo, listed, a, w, hl, hB, h => by
    simp only [List.map_cons, List.cons.injEq] at hl
    simp only [seqL, Bool.and_eq_true, decide_eq_true_eq] at hB
    refine ⟨fun h1 => (by rw [hB.1] at h1; cases h1), fun i hi => ?_⟩
    rw [hB.1] at hi
    obtain rfl : i = t := by simpa using hi
    have hw : wpOp P ops Q i (wpList P ops Q lo) a w := by unfold wpOp; simp only [hl.1]; exact h
    exact wpOp_mono (fun a' w' h' => wpAny_of_seqL tl lo _ a' w' hl.2 hB.2 h') hw

/-- The whole check, for the kernel. -/
def rgB (ops : Array Oper) (n : Nat) (head tl : List Nat) : Bool :=
  Region.noSelect ops && ops.all (fun o => o.guard.isNone) && tailB .any ops head tl && decide (head.length + tl.length = ops.size) && ordB .any ops tl head (Array.replicate ops.size false) &&
    ((List.range ops.size).all fun k => (List.range ops.size).all fun l => k == l || match ops[k]?, ops[l]? with
      | some ok, some ol => (match ok.dst, ol.dst with | some d, some d' => d != d' | _, _ => true)
      | _, _ => true) && ops.all (fun o => match o.dst with | some d => decide (d < n) | none => true)
theorem wp_region_rg {id : Nat} {Q : Exit → Act → World → Prop} {a : Act} {w : World} {l : List Oper} (head tl : List Nat) (lo : List Oper) (G : Told) (n : Nat) (hm : P.follows .mixedOrders = true) (hsz : a.tmps.size = n)
    (hB : rgB l.toArray n head tl = true) (hlo : tl.map (l.toArray[·]?) = lo.map some)
    (h : wpRG P l.toArray (fun w' => ∃ x, w' = gr w x) G (fun a' F => ∀ w' U, Below w.heap.size w w' → F w' U → wpList P l.toArray Q lo a' w') head a emp) : (Code.region id l.toArray true).wp P Q a w := by
  simp only [rgB, Bool.and_eq_true, decide_eq_true_eq] at hB
  obtain ⟨⟨⟨⟨⟨⟨hsel, hgd⟩, hT⟩, hlen⟩, hord⟩, hdd⟩, hdn⟩ := hB
  refine wp_region_any hm ?_
  have hgd' : ∀ (i : Nat) o, l.toArray[i]? = some o → o.guard = none := fun i o ho => by
    have := Array.all_eq_true_iff_forall_mem.1 hgd o (Array.mem_of_getElem? ho)
    simpa using this
  have hds : ∀ (k m : Nat) ok om d, l.toArray[k]? = some ok → l.toArray[m]? = some om → ok.dst = some d → om.dst = some d → k = m := fun k m ok om d hk hm' hd hd' => by
    have h1 := List.all_eq_true.1 (List.all_eq_true.1 hdd k (List.mem_range.2 (Array.getElem?_eq_some_iff.1 hk).1)) m (List.mem_range.2 (Array.getElem?_eq_some_iff.1 hm').1)
    simp only [hk, hm', hd, hd', Bool.or_eq_true, beq_iff_eq, bne_self_eq_false, Bool.false_eq_true, or_false] at h1
    exact h1
  have hn0 : ∀ (i : Nat) o d, l.toArray[i]? = some o → o.dst = some d → d < n := fun i o d ho hd => by
    have := Array.all_eq_true_iff_forall_mem.1 hdn o (Array.mem_of_getElem? ho)
    rw [hd] at this
    simpa using this
  have hC0 : (fun w' => ∃ x, w' = gr w x) (w.drew : World) := below_gr (bdrew (Below.refl _ _))
  have hCC : ∀ w1 w2 : World, (∃ x, w1 = gr w x) → Below w1.heap.size w1 w2 → ∃ x, w2 = gr w x := by
    rintro w1 w2 ⟨x, rfl⟩ hb; exact gr_below_of hb
  have inv0 : RgInv .any l.toArray tl (Array.replicate l.toArray.size false) :=
    ⟨by simp, fun j oj _ hl => (by rw [getD_replicate_false] at hl; cases hl), fun t _ ht => getD_in (by simpa using ht) (getD_replicate_false _ _)⟩
  have hAnti : Anti (fun a' F => ∀ w' U, Below w.heap.size w w' → F w' U → wpList P l.toArray Q lo a' w') := fun a F F' hF hh w' U hb hw => hh w' U hb (hF w' U hw)
  rw [show l.toArray.size = head.length + tl.length by omega]
  rw [show (Array.replicate (head.length + tl.length) false) = Array.replicate l.toArray.size false by rw [← hlen]]
  refine wpAny_of_R (n := n) hCC hds hn0 hgd' (fun listed a F w' U hL hw hF => ?_) head.length _ a emp _ (fun _ => False) (fun _ _ _ _ h => h)
    (wpAnyR_ord (head := head) hsel hds hC0 hAnti hT head _ a _ (fun _ h => h) inv0 hord h) hC0 (fun _ h => h) (fun _ h => h.elim) (fun i o hl => (by rw [getD_replicate_false] at hl; cases hl)) hsz
  obtain ⟨x, rfl⟩ := hw
  exact wpAny_of_seqL tl lo listed a _ hlo hL.1 (hL.2 _ _ (gr_below w x) hF)

/-! ### Steps -/
theorem bindv_noenter (s : Sem Value) (w : World) (f : FuncId) (args : Array Value) (w' : World) : (do pure (Next.value (← s)) : Sem Next).run P w ≠ .ok (.enter f args) w' := by
  intro h
  simp [go_sem] at h
  generalize s.run P w = r at h
  cases r <;> simp at h
theorem knd0_noenter (o : Oper) (h : knd o = 0) (ρ : Operand → Value) (w : World) (f : FuncId) (args : Array Value) (w' : World) : (execOp ρ o).run P w ≠ .ok (.enter f args) w' := by
  unfold knd at h
  unfold execOp
  generalize o.op = p at h
  cases p <;> first | exact bindv_noenter _ _ _ _ _ | (intro h'; simp [go_sem] at h'; done) | (simp only at h; split at h <;> omega) | (simp only at h; omega)
theorem bindv_noskip (s : Sem Value) (w : World) (w' : World) : (do pure (Next.value (← s)) : Sem Next).run P w ≠ .ok .skip w' := by
  intro h
  simp [go_sem] at h
  generalize s.run P w = r at h
  cases r <;> simp at h
theorem knd0_noskip (o : Oper) (h : knd o = 0) (ρ : Operand → Value) (w : World) (w' : World) : (execOp ρ o).run P w ≠ .ok .skip w' := by
  unfold knd at h
  unfold execOp
  generalize o.op = p at h
  cases p <;> first | exact bindv_noskip _ _ _ | (intro h'; simp [go_sem] at h'; done) | (simp only at h; split at h <;> omega) | (simp only at h; omega)
theorem wanted_none {o : Oper} {b : Nat → Option Bool} (h : o.guard = none) : Region.wanted o b = true := by unfold Region.wanted; rw [h]

/-! ### Operations that ask no memory come first -/
def preS : List Nat → Array Bool → Array Bool
  | [], listed => listed
  | i :: r, listed => preS r (listed.setIfInBounds i true)
def preB (md : Region.Mode) (ops : Array Oper) : List Nat → Array Bool → Bool
  | [], _ => true
  | i :: r, listed => (Region.ready md ops listed).contains i && Region.free md ops listed i && preB md ops r (listed.setIfInBounds i true)
theorem wpAny_pre {Q : Exit → Act → World → Prop} (hQ : ∀ c (a : Act) (d : Nat) v w, Q (.panic c) (a.put (some d) v) w → Q (.panic c) a w) (hs : Region.noSelect ops = true) {f : Nat} {K : Act → Prop} {w : World} : ∀ (idx : List Nat) (l : List Oper) (listed : Array Bool) (a : Act),
    idx.map (ops[·]?) = l.map some → l.all (fun o => knd o == 0 && o.guard.isNone) = true → preB md ops idx listed = true → wpQuiet P ops (fun _ => True) K l a → (∀ a', K a' → wpAny P md ops Q f (preS idx listed) a' w) → wpAny P md ops Q (idx.length + f) listed a w
  | [], [], listed, a, _, _, _, h, hK => by rw [List.length_nil, Nat.zero_add]; exact hK a h
  | [], _ :: _, _, _, hl, _, _, _, _ => by simp at hl
  | _ :: _, [], _, _, hl, _, _, _, _ => by simp at hl
  | i :: idx, o :: l, listed, a, hl, hk, hB, h, hK => by
    simp only [List.map_cons, List.cons.injEq] at hl
    simp only [List.all_cons, Bool.and_eq_true, beq_iff_eq, Option.isNone_iff_eq_none] at hk
    obtain ⟨⟨hk0, hg0⟩, hk⟩ := hk
    simp only [preB, Bool.and_eq_true] at hB
    obtain ⟨⟨hr, hf⟩, hB⟩ := hB
    unfold wpQuiet at h
    rw [if_pos (wanted_none hg0)] at h
    obtain ⟨u, hu, hn⟩ := h
    have hy : ∀ w, (execOp a.eval o).run P w = .ok (.value u) w := fun w => by
      have h1 := hu w trivial
      unfold Oper.quietAt at h1
      have h2 := knd0_noenter (P := P) o hk0 a.eval w
      have h3 := knd0_noskip (P := P) o hk0 a.eval w
      generalize (execOp a.eval o).run P w = r at h1 h2 h3 ⊢
      cases r with
      | ok n w' =>
        cases n <;> simp only [Oper.quietUpon] at h1
        case value t => obtain ⟨rfl, rfl⟩ := h1; rfl
        case skip => exact absurd rfl (h3 w')
        case enter f args => exact absurd rfl (h2 f args w')
      | halt x w' => simp only [Oper.quietUpon] at h1
    rw [List.length_cons, show idx.length + 1 + f = (idx.length + f) + 1 by omega]
    exact wpAny_take hl.1 hs hf hr (fun c a' w' h' => by cases hd : o.dst with | none => (rw [hd] at h'; exact h') | some d => (rw [hd] at h'; exact hQ c a' d _ w' h')) (.inl ⟨wanted_none hg0, hy⟩) (wpAny_pre hQ hs idx l _ _ hl.2 (by simpa using hk) hB hn hK)
def shutB (md : Region.Mode) (ops : Array Oper) (listed : Array Bool) : Bool :=
  (List.range ops.size).all fun j => !listed.getD j false || (match ops[j]? with | some oj => oj.after.all (fun e => !Region.binds md e || listed.getD e.on false) | none => true)
/-- The whole check, for the kernel. -/
def rgpB (ops : Array Oper) (n : Nat) (pre head tl : List Nat) : Bool :=
  Region.noSelect ops && ops.all (fun o => o.guard.isNone) && tailB .any ops head tl && decide (pre.length + head.length + tl.length = ops.size) && preB .any ops pre (Array.replicate ops.size false) && ordB .any ops tl head (preS pre (Array.replicate ops.size false)) &&
    ((List.range ops.size).all fun k => (List.range ops.size).all fun l => k == l || match ops[k]?, ops[l]? with
      | some ok, some ol => (match ok.dst, ol.dst with | some d, some d' => d != d' | _, _ => true)
      | _, _ => true) && ops.all (fun o => match o.dst with | some d => decide (d < n) | none => true) &&
    shutB .any ops (preS pre (Array.replicate ops.size false)) && tl.all (fun t => decide (ops.size ≤ t) || !(preS pre (Array.replicate ops.size false)).getD t true) && pre.all (fun i => match ops[i]? with | some o => knd o == 0 | none => false) &&
    (List.range ops.size).all (fun i => !(preS pre (Array.replicate ops.size false)).getD i false || pre.contains i)
theorem preS_size : ∀ (idx : List Nat) (listed : Array Bool), (preS idx listed).size = listed.size
  | [], _ => rfl
  | i :: r, listed => by unfold preS; rw [preS_size r]; simp
theorem wp_region_rgp {id : Nat} {Q : Exit → Act → World → Prop} {a : Act} {w : World} {l : List Oper} (pre head tl : List Nat) (lo lp : List Oper) (G : Told) (n : Nat) (hm : P.follows .mixedOrders = true)
    (hB : rgpB l.toArray n pre head tl = true) (hlo : tl.map (l.toArray[·]?) = lo.map some) (hlp : pre.map (l.toArray[·]?) = lp.map some) (hkp : lp.all (fun o => knd o == 0 && o.guard.isNone) = true) (hQ : ∀ c (a : Act) (d : Nat) v w, Q (.panic c) (a.put (some d) v) w → Q (.panic c) a w)
    (h : wpQuiet P l.toArray (fun _ => True) (fun a => a.tmps.size = n ∧ wpRG P l.toArray (fun w' => ∃ x, w' = gr w x) G (fun a' F => ∀ w' U, Below w.heap.size w w' → F w' U → wpList P l.toArray Q lo a' w') head a emp) lp a) : (Code.region id l.toArray true).wp P Q a w := by
  simp only [rgpB, Bool.and_eq_true, decide_eq_true_eq] at hB
  obtain ⟨⟨⟨⟨⟨⟨⟨⟨⟨⟨⟨hsel, hgd⟩, hT⟩, hlen⟩, hpre⟩, hord⟩, hdd⟩, hdn⟩, hcl⟩, htl⟩, hpk⟩, hpm⟩ := hB
  refine wp_region_any hm ?_
  have hgd' : ∀ (i : Nat) o, l.toArray[i]? = some o → o.guard = none := fun i o ho => by
    have := Array.all_eq_true_iff_forall_mem.1 hgd o (Array.mem_of_getElem? ho)
    simpa using this
  have hds : ∀ (k m : Nat) ok om d, l.toArray[k]? = some ok → l.toArray[m]? = some om → ok.dst = some d → om.dst = some d → k = m := fun k m ok om d hk hm' hd hd' => by
    have h1 := List.all_eq_true.1 (List.all_eq_true.1 hdd k (List.mem_range.2 (Array.getElem?_eq_some_iff.1 hk).1)) m (List.mem_range.2 (Array.getElem?_eq_some_iff.1 hm').1)
    simp only [hk, hm', hd, hd', Bool.or_eq_true, beq_iff_eq, bne_self_eq_false, Bool.false_eq_true, or_false] at h1
    exact h1
  have hn0 : ∀ (i : Nat) o d, l.toArray[i]? = some o → o.dst = some d → d < n := fun i o d ho hd => by
    have := Array.all_eq_true_iff_forall_mem.1 hdn o (Array.mem_of_getElem? ho)
    rw [hd] at this
    simpa using this
  have hC0 : (fun w' => ∃ x, w' = gr w x) (w.drew : World) := below_gr (bdrew (Below.refl _ _))
  have hCC : ∀ w1 w2 : World, (∃ x, w1 = gr w x) → Below w1.heap.size w1 w2 → ∃ x, w2 = gr w x := by
    rintro w1 w2 ⟨x, rfl⟩ hb; exact gr_below_of hb
  have hsz0 : (preS pre (Array.replicate l.toArray.size false)).size = l.toArray.size := by rw [preS_size]; simp
  have hlt : ∀ i, (preS pre (Array.replicate l.toArray.size false)).getD i false = true → i < l.toArray.size := fun i hi => by
    rw [← hsz0]
    exact Classical.byContradiction fun hne => by
      rw [Array.getD_eq_getD_getElem?, Array.getElem?_eq_none (by omega)] at hi
      cases hi
  have inv0 : RgInv .any l.toArray tl (preS pre (Array.replicate l.toArray.size false)) := by
    refine ⟨hsz0, fun j oj hj hl e he hb => ?_, fun t ht ht' => ?_⟩
    · have h1 := List.all_eq_true.1 hcl j (List.mem_range.2 (hlt j hl))
      rw [hl] at h1
      simp only [Bool.not_true, Bool.false_or, hj] at h1
      have h2 := Array.all_eq_true_iff_forall_mem.1 h1 e he
      rw [hb] at h2
      simpa using h2
    · have h1 := List.all_eq_true.1 htl t (by simpa using ht)
      simp only [Bool.or_eq_true, decide_eq_true_eq, Bool.not_eq_true'] at h1
      rcases h1 with h1 | h1
      · omega
      · exact h1
  have hAnti : Anti (fun a' F => ∀ w' U, Below w.heap.size w w' → F w' U → wpList P l.toArray Q lo a' w') := fun a F F' hF hh w' U hb hw => hh w' U hb (hF w' U hw)
  rw [show l.toArray.size = pre.length + (head.length + tl.length) by omega]
  rw [show (Array.replicate (pre.length + (head.length + tl.length)) false) = Array.replicate l.toArray.size false by rw [← hlen]; simp [Nat.add_assoc]]
  refine wpAny_pre hQ hsel pre lp _ a hlp hkp hpre h ?_
  rintro a1 ⟨hsz, h⟩
  refine wpAny_of_R (n := n) hCC hds hn0 hgd' (fun listed a F w' U hL hw hF => ?_) head.length _ a1 emp _ (fun _ => False) (fun _ _ _ _ h => h)
    (wpAnyR_ord (head := head) hsel hds hC0 hAnti hT head _ a1 _ (fun _ h => h) inv0 hord h) hC0 (fun _ h => h) (fun _ h => h.elim) (fun i o hl ho hk => ?_) hsz
  · obtain ⟨x, rfl⟩ := hw
    exact wpAny_of_seqL tl lo listed a _ hlo hL.1 (hL.2 _ _ (gr_below w x) hF)
  · exfalso
    have h1 := List.all_eq_true.1 hpm i (List.mem_range.2 (hlt i hl))
    rw [hl] at h1
    simp only [Bool.not_true, Bool.false_or] at h1
    have h2 := List.all_eq_true.1 hpk i (by simpa using h1)
    rw [ho] at h2
    simp only [beq_iff_eq] at h2
    exact hk h2

theorem wpRG_quiet {L : RgK} {rest : List Nat} {F : Fct} (hL : Anti L) : ∀ (idx : List Nat) (l : List Oper) (a : Act), idx.map (ops[·]?) = l.map some → l.all (fun o => knd o == 0 && o.guard.isNone) = true →
    wpQuiet P ops C (fun a' => wpRG P ops C G L rest a' F) l a → wpRG P ops C G L (idx ++ rest) a F
  | [], [], a, _, _, h => h
  | [], _ :: _, _, hl, _, _ => by simp at hl
  | _ :: _, [], _, hl, _, _ => by simp at hl
  | i :: idx, o :: l, a, hl, hk, h => by
    simp only [List.map_cons, List.cons.injEq] at hl
    simp only [List.all_cons, Bool.and_eq_true, beq_iff_eq, Option.isNone_iff_eq_none] at hk
    obtain ⟨⟨hk0, hg0⟩, hk⟩ := hk
    unfold wpQuiet at h
    rw [if_pos (wanted_none hg0)] at h
    obtain ⟨u, hu, hn⟩ := h
    show rgOp P .any ops C G i (wpRG P ops C G L (idx ++ rest)) a F
    unfold rgOp
    simp only [hl.1]
    refine ⟨.val u, ⟨hk0, fun w hw => ?_⟩, ?_⟩
    · have h1 := hu w hw
      unfold Oper.quietAt at h1
      have h2 := knd0_noenter (P := P) o hk0 a.eval w
      generalize (execOp a.eval o).run P w = r at h1 h2 ⊢
      cases r with
      | ok n w' =>
        cases n <;> simp only [Oper.quietUpon] at h1
        case value t => obtain ⟨rfl, rfl⟩ := h1; exact .inl rfl
        case skip => obtain ⟨rfl, rfl⟩ := h1; exact .inr ⟨rfl, rfl⟩
        case enter f args => exact absurd rfl (h2 f args w')
      | halt x w' => simp only [Oper.quietUpon] at h1
    · rintro v rfl
      exact wpRG_anti hL _ _ _ _ (fun w U hw => star_emp hw) (wpRG_quiet hL idx l _ hl.2 (by simpa using hk) hn)

/-! ### The forms that a walk uses -/
def nth : List Oper → Nat → Option Oper
  | [], _ => none
  | o :: _, 0 => some o
  | _ :: l, i + 1 => nth l i
theorem nth_eq : ∀ (l : List Oper) (i : Nat), nth l i = l[i]?
  | [], _ => by simp [nth]
  | _ :: _, 0 => rfl
  | _ :: l, i + 1 => by rw [nth, nth_eq l i, List.getElem?_cons_succ]
def pickF (l : List Oper) : List Nat → List Oper
  | [] => []
  | i :: r => match nth l i with
    | some o => o :: pickF l r
    | none => pickF l r
def pick (ops : Array Oper) (idx : List Nat) : List Oper := pickF ops.toList idx
theorem pick_map : ∀ {idx : List Nat}, idx.all (fun i => decide (i < ops.size)) = true → idx.map (ops[·]?) = (pick ops idx).map some
  | [], _ => rfl
  | i :: r, h => by
    simp only [List.all_cons, Bool.and_eq_true, decide_eq_true_eq] at h
    have ih := pick_map (idx := r) h.2
    unfold pick at ih ⊢
    have e : nth ops.toList i = some ops[i] := by rw [nth_eq, Array.getElem?_toList, Array.getElem?_eq_getElem h.1]
    rw [List.map_cons, pickF, e, ih, Array.getElem?_eq_getElem h.1]
    rfl
def quietB (ops : Array Oper) (idx : List Nat) : Bool := idx.all (fun i => decide (i < ops.size)) && (pick ops idx).all (fun o => knd o == 0 && o.guard.isNone)
theorem rg_quiet {L : RgK} {F : Fct} {a : Act} (hL : Anti L) (idx rest : List Nat) {lo : List Oper} (hp : pick ops idx = lo) (hB : quietB ops idx = true)
    (h : wpQuiet P ops C (fun a' => wpRG P ops C G L rest a' F) lo a) : wpRG P ops C G L (idx ++ rest) a F := by
  subst hp
  unfold quietB at hB
  rw [Bool.and_eq_true] at hB
  exact wpRG_quiet hL idx _ a (pick_map hB.1) hB.2 h
theorem anti_end {w : World} {R : Act → World → Prop} : Anti (fun a' F => ∀ w' U, Below w.heap.size w w' → F w' U → R a' w') := fun _ _ _ hF h w' U hb hw => h w' U hb (hF w' U hw)
theorem rg_region {id : Nat} {Q : Exit → Act → World → Prop} {a : Act} {w : World} {l : List Oper} (head tl : List Nat) {lo : List Oper} (hp : pick l.toArray tl = lo) (G : Told) {n : Nat} (hm : P.follows .mixedOrders = true) (hsz : a.tmps.size = n)
    (hB : (rgB l.toArray n head tl && tl.all (fun i => decide (i < l.toArray.size))) = true)
    (h : wpRG P l.toArray (fun w' => ∃ x, w' = gr w x) G (fun a' F => ∀ w' U, Below w.heap.size w w' → F w' U → wpList P l.toArray Q lo a' w') head a emp) : (Code.region id l.toArray true).wp P Q a w := by
  subst hp
  rw [Bool.and_eq_true] at hB
  exact wp_region_rg head tl _ G n hm hsz hB.1 (pick_map hB.2) h
theorem rg_region_pre {id : Nat} {Q : Exit → Act → World → Prop} {a : Act} {w : World} {l : List Oper} (pre head tl : List Nat) {lo lp : List Oper} (hp : pick l.toArray tl = lo) (hpp : pick l.toArray pre = lp) (G : Told) (hm : P.follows .mixedOrders = true)
    (hB : (rgpB l.toArray a.tmps.size pre head tl && tl.all (fun i => decide (i < l.toArray.size)) && quietB l.toArray pre) = true) (hQ : ∀ c (a : Act) (d : Nat) v w, Q (.panic c) (a.put (some d) v) w → Q (.panic c) a w)
    (h : wpQuiet P l.toArray (fun _ => True) (fun a1 => a1.tmps.size = a.tmps.size ∧ wpRG P l.toArray (fun w' => ∃ x, w' = gr w x) G (fun a' F => ∀ w' U, Below w.heap.size w w' → F w' U → wpList P l.toArray Q lo a' w') head a1 emp) lp a) : (Code.region id l.toArray true).wp P Q a w := by
  subst hp hpp
  rw [Bool.and_eq_true, Bool.and_eq_true] at hB
  have hq := hB.2
  unfold quietB at hq
  rw [Bool.and_eq_true] at hq
  exact wp_region_rgp pre head tl _ _ G a.tmps.size hm hB.1.1 (pick_map hB.1.2) (pick_map hq.1) hq.2 hQ h
/-- A call: its operands are slots that hold values. -/
theorem rg_call {L : RgK} {rest : List Nat} {F : Fct} {a : Act} (i : Nat) {o : Oper} (hi : nth ops.toList i = some o) (hk : knd o = 1) (f : FuncId) (args : Array Value)
    (he : ∀ w, (execOp a.eval o).run P w = .ok (.enter f args) w) (hc : ∀ w, C w → Deps .any ops G a o w → Calls P f args w fun e w'' => ∃ u, e = .returned u ∧ Below w.heap.size w w'' ∧ G.fct i u w'' (news w w''))
    (hn : ∀ v, G.sh i v → wpRG P ops C G L rest (a.put o.dst v) (star F (G.fct i v))) : wpRG P ops C G L (i :: rest) a F := by
  show rgOp P .any ops C G i (wpRG P ops C G L rest) a F
  unfold rgOp
  have hi' : ops[i]? = some o := by rw [← hi, nth_eq, Array.getElem?_toList]
  simp only [hi']
  exact ⟨.ent f args, ⟨hk, fun w _ => he w, hc⟩, hn⟩
theorem rg_made {L : RgK} {rest : List Nat} {F : Fct} {a : Act} (i : Nat) {o : Oper} (hi : nth ops.toList i = some o) (hk : knd o = 2)
    (hr : ∀ w, C w → Deps .any ops G a o w → ∃ u w1, (execOp a.eval o).run P w = .ok (.value u) w1 ∧ Below w.heap.size w w1 ∧ G.fct i u w1 (news w w1))
    (hn : ∀ v, G.sh i v → wpRG P ops C G L rest (a.put o.dst v) (star F (G.fct i v))) : wpRG P ops C G L (i :: rest) a F := by
  show rgOp P .any ops C G i (wpRG P ops C G L rest) a F
  unfold rgOp
  have hi' : ops[i]? = some o := by rw [← hi, nth_eq, Array.getElem?_toList]
  simp only [hi']
  exact ⟨.made, ⟨hk, hr⟩, hn⟩
end
end Go.Proofs.YtanndcclkmcfbaaDoor
