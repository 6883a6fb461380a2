/- Regions that draw their order, some of whose operations (parts of a tuple) may come late, among the last ones. No program in sight. -/
import Derived.Test.YthbdmcobpcoajaaGreatDoorG1
namespace Go.Proofs.YthbdmcobpcoajaaGreatDoor
open Go Go.RowKit
section
variable {P : Program} {ops : Array Oper} {C : World → Prop} {G : Told} {md : Region.Mode}

def wpAnyWs (P : Program) (md : Region.Mode) (ops : Array Oper) (C : World → Prop) (G : Told) (tl : List Nat) (gs : List Nat) (L : Array Bool → RgK) : Nat → Array Bool → RgK
  | 0, listed, a, F => L listed a F
  | f + 1, listed, a, F =>
    ((∃ t ∈ Region.ready md ops listed, tl.contains t = true) → (∃ g ∈ gs, g ∈ Region.ready md ops listed) ∧ ∀ g ∈ gs, g ∈ Region.ready md ops listed → apartAll md ops listed g ∧ rgOp P md ops C G g (wpAnyWs P md ops C G tl gs L f (listed.setIfInBounds g true)) a F) ∧
    ((∀ t ∈ Region.ready md ops listed, tl.contains t = false) → Region.ready md ops listed ≠ [] ∧ ∀ i ∈ Region.ready md ops listed, rgOp P md ops C G i (wpAnyWs P md ops C G tl gs L f (listed.setIfInBounds i true)) a F)
theorem wpAnyWs_anti {tl gs : List Nat} {L : Array Bool → RgK} (hL : ∀ l, Anti (L l)) : ∀ (f : Nat) (listed : Array Bool), Anti (wpAnyWs P md ops C G tl gs L f listed)
  | 0, listed => hL listed
  | f + 1, listed => fun a F F' hF h => ⟨fun ht => ⟨(h.1 ht).1, fun g hg hr => ⟨((h.1 ht).2 g hg hr).1, rgOp_anti (wpAnyWs_anti hL f _) a F F' hF ((h.1 ht).2 g hg hr).2⟩⟩, fun ht => ⟨(h.2 ht).1, fun i hi => rgOp_anti (wpAnyWs_anti hL f _) a F F' hF ((h.2 ht).2 i hi)⟩⟩

theorem apart_symm {x y : Oper} (h : x.apart ops y = true) : y.apart ops x = true := by
  obtain ⟨h1, h2, h3⟩ := Oper.apart_spec h
  unfold Oper.apart
  rw [Bool.and_eq_true]
  constructor
  · cases hy : y.dst with
    | none => rfl
    | some d =>
      have h4 := h3 d hy
      have h5 : x.dst ≠ some d := fun e => h2 d e hy
      simp [h4, h5]
  · cases hx : x.dst with
    | none => rfl
    | some d =>
      have h4 := h1 d hx
      simp [h4]
theorem wpAny_of_Ws {tl gs : List Nat} {g n : Nat} {L : Array Bool → RgK} {Q : Exit → Act → World → Prop} (hC : ∀ w w', C w → Below w.heap.size w w' → C w')
    (hsel : ∀ (j : Nat) (o : Oper) cs b, ops[j]? = some o → o.op ≠ .select cs b) (hQ : ∀ c (a : Act) (d : Nat) v w, Q (.panic c) (a.put (some d) v) w → Q (.panic c) a w) (hgl : ∀ gl ∈ gs, ∀ o, ops[gl]? = some o → ∃ x k, o.op = .extract x k)
    (hds : ∀ (k l : Nat) ok ol d, ops[k]? = some ok → ops[l]? = some ol → ok.dst = some d → ol.dst = some d → k = l) (hn0 : ∀ (i : Nat) o d, ops[i]? = some o → o.dst = some d → d < n)
    (hgd : ∀ (i : Nat) o, ops[i]? = some o → o.guard = none) (hL : ∀ listed a F w U, L listed a F → C w → F w U → wpAny P md ops Q g listed a w) :
    ∀ (f : Nat) (listed : Array Bool) (a : Act) (F : Fct) (w : World) (U : Nat → Prop), Stab F → wpAnyWs P md ops C G tl gs L f listed a F → C w → F w U → (∀ k, U k → k < w.heap.size) → Carried ops G listed a w → a.tmps.size = n → wpAny P md ops Q (f + g) listed a w
  | 0, listed, a, F, w, U, _, h, hw, hF, _, _, _ => by rw [Nat.zero_add]; exact hL _ _ _ _ _ h hw hF
  | f + 1, listed, a, F, w, U, hS, h, hw, hF, hU, hca, hsz => by
    rw [show f + 1 + g = (f + g) + 1 by omega]
    by_cases ht : ∃ t ∈ Region.ready md ops listed, tl.contains t = true
    · obtain ⟨⟨gl, hgm, hg⟩, hall0⟩ := h.1 ht
      obtain ⟨hap, h1⟩ := hall0 gl hgm hg
      obtain ⟨_, o, ho, hall⟩ := mem_ready.1 hg
      unfold rgOp at h1
      simp only [ho] at h1
      obtain ⟨x, hx, hn⟩ := h1
      obtain ⟨ox, ok, hoe⟩ := hgl gl hgm o ho
      have hk0 : knd o = 0 := by unfold knd; rw [hoe]
      have hw1 : Region.wanted o (yielded ops a.tmps) = true := by unfold Region.wanted; rw [hgd gl o ho]
      have hput : ∀ v, (a.put o.dst v).tmps.size = n := by intro v; cases o.dst <;> simp [Act.put, hsz]
      have ih := fun v w' U' hv hw' hF' hU' hca' => wpAny_of_Ws (tl := tl) hC hsel hQ hgl hds hn0 hgd hL f (listed.setIfInBounds gl true) (a.put o.dst v) _ w' U' (star_stab hS (RgX.post_stab gl x v)) (hn v hv) hw' hF' hU' hca' (hput v)
      have hcs := fun v w' hb hv => carried_set (v := v) (w' := w') hca hb ho hds (fun d hd _ => by rw [hsz]; exact hn0 gl o d ho hd) hv
      cases x with
      | val u =>
        rcases hx.2 w hw with e | ⟨e, _⟩
        · exact wpAny_first ho hsel (fun c a' w' h' => by cases hd : o.dst with | none => (rw [hd] at h'; exact h') | some d => (rw [hd] at h'; exact hQ c a' d _ w' h')) (f + g) listed a w (hap o ho) hg (.inl ⟨hw1, extract_all hoe _ e⟩)
            (ih u w U rfl hw (emp_star hF) hU (hcs u w (Below.refl _ _) (fun h => absurd hx.1 h)))
        · exact absurd e (knd0_noskip o hk0 _ _ _)
      | ent fn args => have := hx.1; omega
      | made => have := hx.1; omega
    · have h2 := h.2 (fun t ht' => by cases hc : tl.contains t with | false => rfl | true => exact absurd ⟨t, ht', hc⟩ ht)
      refine ⟨fun h0 => absurd h0 h2.1, fun i hi => ?_⟩
      have h1 := h2.2 i hi
      obtain ⟨_, o, ho, hall⟩ := mem_ready.1 hi
      unfold rgOp at h1
      simp only [ho] at h1
      obtain ⟨x, hx, hn⟩ := h1
      have hw1 : Region.wanted o (yielded ops a.tmps) = true := by unfold Region.wanted; rw [hgd i o ho]
      have hdep : Deps md ops G a o w := fun e he hb oi hoi hk d hd => hca e.on oi (hall e he hb) hoi hk d hd
      have hput : ∀ v, (a.put o.dst v).tmps.size = n := by intro v; cases o.dst <;> simp [Act.put, hsz]
      unfold wpOp
      simp only [ho, hw1, if_true]
      left
      unfold Oper.wp
      have ih := fun v w' U' hv hw' hF' hU' hca' => wpAny_of_Ws (tl := tl) hC hsel hQ hgl hds hn0 hgd hL f (listed.setIfInBounds i true) (a.put o.dst v) _ w' U' (star_stab hS (RgX.post_stab i x v)) (hn v hv) hw' hF' hU' hca' (hput v)
      have hcs := fun v w' hb hv => carried_set (v := v) (w' := w') hca hb ho hds (fun d hd _ => by rw [hsz]; exact hn0 i o d ho hd) hv
      have join : ∀ w'' (H : Fct), Below w.heap.size w w'' → H w'' (news w w'') → star F H w'' (fun k => U k ∨ news w w'' k) ∧ ∀ k, (U k ∨ news w w'' k) → k < w''.heap.size := fun w'' H hb hH =>
        ⟨⟨U, news w w'', fun k h1 h2 => by have := hU k h1; have := h2.1; omega, fun _ => Iff.rfl, hS _ _ _ hb hF, hH⟩, fun k h => by
          rcases h with h | h
          · have := hU k h; have := hb.size; omega
          · exact h.2⟩
      cases x with
      | val u =>
        rcases hx.2 w hw with e | ⟨e, rfl⟩
        · rw [e]; exact ih u w U rfl hw (emp_star hF) hU (hcs u w (Below.refl _ _) (fun h => absurd hx.1 h))
        · rw [e]; exact ih _ w U rfl hw (emp_star hF) hU (hcs _ w (Below.refl _ _) (fun h => absurd hx.1 h))
      | ent fn args =>
        rw [hx.2.1 w hw]
        refine (hx.2.2 w hw hdep).mono ?_
        rintro e' w'' ⟨u, rfl, hb, hg⟩
        obtain ⟨j1, j2⟩ := join w'' _ hb hg
        exact ih u w'' _ (G.hs _ _ _ _ hg) (hC _ _ hw hb) j1 j2 (hcs u w'' hb (fun _ => ⟨_, hg⟩))
      | made =>
        obtain ⟨u, w1, e, hb, hg⟩ := hx.2 w hw hdep
        rw [e]
        obtain ⟨j1, j2⟩ := join w1 _ hb hg
        exact ih u w1 _ (G.hs _ _ _ _ hg) (hC _ _ hw hb) j1 j2 (hcs u w1 hb (fun _ => ⟨_, hg⟩))

def tailWs (md : Region.Mode) (ops : Array Oper) (head tl gs : List Nat) : Bool := tl.all fun t => head.all fun i => gs.contains i || reach md ops ops.size t i
theorem tailWs_not_readys {head tl gs : List Nat} {listed : Array Bool} (hB : tailWs md ops head tl gs = true) (inv : RgInv md ops tl listed) {i : Nat} (hi : i ∈ head) (hig : gs.contains i = false) (hun : listed.getD i true = false) : ∀ t, tl.contains t = true → t ∉ Region.ready md ops listed := by
  intro t ht hr
  obtain ⟨_, ot, hot, hall⟩ := mem_ready.1 hr
  have h1 := List.all_eq_true.1 (List.all_eq_true.1 hB t (by simpa using ht)) i hi
  rw [hig, Bool.false_or] at h1
  have h2 := reach_listed inv _ _ _ h1 (fun oj hj e he hb => by
    have : oj = ot := Option.some.inj (hj.symm.trans hot)
    subst this
    exact hall e he hb)
  rw [getD_both hun] at h2
  cases h2

theorem wpAnyWs_firsts {head tl gs : List Nat} {i : Nat} {oi : Oper} {x : RgX} {L : Array Bool → RgK} (hi : ops[i]? = some oi) (hsel : ∀ (j : Nat) (o : Oper) cs b, ops[j]? = some o → o.op ≠ .select cs b)
    (hds : ∀ (k l : Nat) ok ol d, ops[k]? = some ok → ops[l]? = some ol → ok.dst = some d → ol.dst = some d → k = l)
    {w0 : World} (h0 : C w0) (hL : ∀ l, Anti (L l)) (hT : tailWs md ops head tl gs = true) (hcov : ∀ j, j < ops.size → tl.contains j = false → j ∈ head) (hgt : ∀ g ∈ gs, tl.contains g = false) (hin : i ∈ head)
    (hdone : ∀ listed a F, L listed a F → ∀ j ∈ Region.ready md ops listed, tl.contains j = true) :
    ∀ (f : Nat) (listed : Array Bool) (a : Act) (F : Fct), RgInv md ops tl listed → tl.contains i = false →
      (∀ j oj, ops[j]? = some oj → j ≠ i → listed.getD j true = false → (∀ e ∈ oj.after, Region.binds md e = true → e.on ≠ i) → oi.apart ops oj = true) →
      i ∈ Region.ready md ops listed → x.ok P md ops C G i oi a →
      (∀ v, x.sel G i v → wpAnyWs P md ops C G tl gs L f (listed.setIfInBounds i true) (a.put oi.dst v) (star F (x.post G i v))) → wpAnyWs P md ops C G tl gs L (f + 1) listed a F := by
  intro f
  induction f with
  | zero =>
    intro listed a F inv hit hfree hr hx H
    have hun := (mem_ready.1 hr).1
    have hself : rgOp P md ops C G i (wpAnyWs P md ops C G tl gs L 0 (listed.setIfInBounds i true)) a F := by unfold rgOp; simp only [hi]; exact ⟨x, hx, H⟩
    have honly : ∀ j ∈ Region.ready md ops listed, tl.contains j = false → j = i := fun j hj hjt => by
      refine Classical.byContradiction fun hji => ?_
      obtain ⟨v0, hv0⟩ := x.sel_ex (G := G) i
      have := hdone _ _ _ (H v0 hv0) j (ready_mono hj hji)
      rw [hjt] at this; cases this
    refine ⟨fun ⟨t, ht, htl⟩ => ⟨?_, fun g hg hgr => ?_⟩, fun hno => ⟨fun h => (by rw [h] at hr; cases hr), fun j hj => ?_⟩⟩
    · refine ⟨i, ?_, hr⟩
      refine Classical.byContradiction fun hne => tailWs_not_readys hT inv hin (by simpa using hne) hun t htl ht
    · obtain rfl := honly g hgr (hgt g hg)
      exact ⟨fun og hog => by obtain rfl := Option.some.inj (hog.symm.trans hi); exact hfree, hself⟩
    · obtain rfl := honly j hj (hno j hj)
      exact hself
  | succ f ih =>
    intro listed a F inv hit hfree hr hx H
    have hun := (mem_ready.1 hr).1
    have hself : rgOp P md ops C G i (wpAnyWs P md ops C G tl gs L (f + 1) (listed.setIfInBounds i true)) a F := by unfold rgOp; simp only [hi]; exact ⟨x, hx, H⟩
    have hother : ∀ j ∈ Region.ready md ops listed, tl.contains j = false → j ≠ i → rgOp P md ops C G j (wpAnyWs P md ops C G tl gs L (f + 1) (listed.setIfInBounds j true)) a F := fun j hj hjn hji => by
      obtain ⟨hjun, oj, hoj, hall⟩ := mem_ready.1 hj
      have hnot : ∀ e ∈ oj.after, Region.binds md e = true → e.on ≠ i := fun e he hb heq => by
        have h1 := hall e he hb
        rw [heq, getD_both hun] at h1
        cases h1
      have h1 : ∀ v, x.sel G i v → rgOp P md ops C G j (wpAnyWs P md ops C G tl gs L f ((listed.setIfInBounds i true).setIfInBounds j true)) (a.put oi.dst v) (star F (x.post G i v)) := fun v hv => by
        by_cases ht : ∃ t ∈ Region.ready md ops (listed.setIfInBounds i true), tl.contains t = true
        · obtain ⟨_, hop⟩ := (H v hv).1 ht
          obtain ⟨t, ht1, ht2⟩ := ht
          have hjg : j ∈ gs := Classical.byContradiction fun hne => by
            have hlt := (Array.getElem?_eq_some_iff.1 hoj).1
            have hjun' : (listed.setIfInBounds i true).getD j true = false := by rw [getD_set_ne true (Ne.symm hji)]; exact hjun
            exact tailWs_not_readys hT (inv.set hr hit) (hcov j hlt hjn) (by simpa using hne) hjun' t ht2 ht1
          exact (hop j hjg (ready_mono hj hji)).2
        · exact ((H v hv).2 (fun t ht' => by cases hc : tl.contains t with | false => rfl | true => exact absurd ⟨t, ht', hc⟩ ht)).2 j (ready_mono hj hji)
      have hni : ∀ e ∈ oi.after, Region.binds md e = true → e.on ≠ j := fun e he hb heq => by
        obtain ⟨_, oi', hoi', hall'⟩ := mem_ready.1 hr
        have : oi' = oi := Option.some.inj (hoi'.symm.trans hi)
        subst this
        have h1 := hall' e he hb
        rw [heq, getD_both hjun] at h1
        cases h1
      have h2 := rgOp_put hi hoj (hfree j oj hoj hji hjun hnot) (fun cs b => hsel i oi cs b hi) (fun cs b => hsel j oj cs b hoj) hds hnot hni h0 (wpAnyWs_anti hL f _) hx h1
      have hfree' : ∀ k ok, ops[k]? = some ok → k ≠ i → (listed.setIfInBounds j true).getD k true = false →
          (∀ e ∈ ok.after, Region.binds md e = true → e.on ≠ i) → oi.apart ops ok = true := fun k ok hk hki hun hno => by
        refine hfree k ok hk hki ?_ hno
        by_cases hjk : j = k
        · subst hjk; exact hjun
        · rw [getD_set_ne true hjk] at hun; exact hun
      refine rgOp_mono (fun a' F' h3 => ih (listed.setIfInBounds j true) a' F' (inv.set hj hjn) hit hfree' (ready_mono hr (Ne.symm hji)) h3.1 ?_) h2
      rw [Array.setIfInBounds_comm _ _ hji]
      exact h3.2
    refine ⟨fun ⟨t, ht, htl⟩ => ⟨?_, fun g hg hgr => ?_⟩, fun hno => ⟨fun h => (by rw [h] at hr; cases hr), fun j hj => ?_⟩⟩
    · refine ⟨i, ?_, hr⟩
      refine Classical.byContradiction fun hne => tailWs_not_readys hT inv hin (by simpa using hne) hun t htl ht
    · by_cases hgi : g = i
      · subst hgi
        exact ⟨fun og hog => by obtain rfl := Option.some.inj (hog.symm.trans hi); exact hfree, hself⟩
      · refine ⟨fun og hog j oj hoj hjg hjun hjno => ?_, hother g hgr (hgt g hg) hgi⟩
        obtain ⟨hgun, og', hog', hgall⟩ := mem_ready.1 hgr
        obtain rfl := Option.some.inj (hog'.symm.trans hog)
        by_cases hji : j = i
        · subst hji
          obtain rfl := Option.some.inj (hoj.symm.trans hi)
          refine apart_symm (hfree g og' hog' hgi hgun (fun e he hb heq => ?_))
          have h1 := hgall e he hb
          rw [heq, getD_both hun] at h1
          cases h1
        · obtain ⟨v0, hv0⟩ := x.sel_ex (G := G) i
          have htt : ∃ t ∈ Region.ready md ops (listed.setIfInBounds i true), tl.contains t = true := ⟨t, ready_mono ht (fun e => by rw [e, hit] at htl; cases htl), htl⟩
          have h4 := (((H v0 hv0).1 htt).2 g hg (ready_mono hgr hgi)).1
          exact h4 og' hog' j oj hoj hjg (by rw [getD_set_ne true (Ne.symm hji)]; exact hjun) hjno
    · by_cases hji : j = i
      · subst hji; exact hself
      · exact hother j hj (hno j hj) hji

theorem wpAnyWs_ords {head tl gs : List Nat} {L : RgK} (hsel : Region.noSelect ops = true)
    (hds : ∀ (k l : Nat) ok ol d, ops[k]? = some ok → ops[l]? = some ol → ok.dst = some d → ol.dst = some d → k = l) {w0 : World} (h0 : C w0) (hL : Anti L) (hT : tailWs .any ops head tl gs = true) (hcov : ∀ j, j < ops.size → tl.contains j = false → j ∈ head) (hgt : ∀ g ∈ gs, tl.contains g = false) :
    ∀ (l : List Nat) (listed : Array Bool) (a : Act) (F : Fct), (∀ i ∈ l, i ∈ head) → RgInv .any ops tl listed → ordB .any ops tl l listed = true → wpRG P ops C G L l a F →
    wpAnyWs P .any ops C G tl gs (fun listed' a' F' => seqL .any ops tl listed' = true ∧ L a' F') l.length listed a F
  | [], listed, a, F, _, _, hB, h => ⟨hB, h⟩
  | i :: l, listed, a, F, hl, inv, hB, h => by
    simp only [ordB, Bool.and_eq_true, Bool.not_eq_true'] at hB
    obtain ⟨⟨⟨hr, hf⟩, hn⟩, hB'⟩ := hB
    have hr' : i ∈ Region.ready .any ops listed := by simpa using hr
    obtain ⟨_, oi, hoi, _⟩ := mem_ready.1 hr'
    unfold wpRG rgOp at h
    simp only [hoi] at h
    obtain ⟨x, hx, hK⟩ := h
    exact wpAnyWs_firsts hoi (Region.noSelect_spec hsel) hds h0 (fun _ _ _ _ hF h => ⟨h.1, hL _ _ _ hF h.2⟩) hT hcov hgt (hl i (List.mem_cons_self)) (fun listed' a' F' hL' => seqL_ready hL'.1) l.length listed a F inv hn (Region.free_spec hoi hf) hr' hx
      (fun v hv => wpAnyWs_ords hsel hds h0 hL hT hcov hgt l _ _ _ (fun k hk => hl k (List.mem_cons_of_mem _ hk)) (inv.set hr' hn) hB' (hK v hv))

/-- The whole check, for the kernel. -/
def rgwBs (ops : Array Oper) (n : Nat) (gs head tl : List Nat) : Bool :=
  Region.noSelect ops && ops.all (fun o => o.guard.isNone) && tailWs .any ops head tl gs && decide (head.length + tl.length = ops.size) && ordB .any ops tl head (Array.replicate ops.size false) &&
    ((List.range ops.size).all fun k => (List.range ops.size).all fun l => k == l || match ops[k]?, ops[l]? with
      | some ok, some ol => (match ok.dst, ol.dst with | some d, some d' => d != d' | _, _ => true)
      | _, _ => true) && ops.all (fun o => match o.dst with | some d => decide (d < n) | none => true) &&
    (List.range ops.size).all (fun j => tl.contains j || head.contains j) && gs.all (fun g => (match ops[g]? with | some o => (match o.op with | .extract _ _ => true | _ => false) | none => true) && !tl.contains g)
theorem wp_region_rgws {id : Nat} {Q : Exit → Act → World → Prop} {a : Act} {w : World} {l : List Oper} (gs head tl : List Nat) (lo : List Oper) (G : Told) (n : Nat) (hm : P.follows .mixedOrders = true) (hsz : a.tmps.size = n)
    (hB : rgwBs l.toArray n gs head tl = true) (hlo : tl.map (l.toArray[·]?) = lo.map some) (hQ : ∀ c (a : Act) (d : Nat) v w, Q (.panic c) (a.put (some d) v) w → Q (.panic c) a w)
    (h : wpRG P l.toArray (fun w' => ∃ x, w' = gr w x) G (fun a' F => ∀ w' U, Below w.heap.size w w' → F w' U → wpList P l.toArray Q lo a' w') head a emp) : (Code.region id l.toArray true).wp P Q a w := by
  simp only [rgwBs, Bool.and_eq_true, decide_eq_true_eq] at hB
  obtain ⟨⟨⟨⟨⟨⟨⟨⟨hsel, hgd⟩, hT⟩, hlen⟩, hord⟩, hdd⟩, hdn⟩, hcv⟩, hge⟩ := hB
  refine wp_region_any hm ?_
  have hcov : ∀ j, j < l.toArray.size → tl.contains j = false → j ∈ head := fun j hj hjt => by
    have h1 := List.all_eq_true.1 hcv j (List.mem_range.2 hj)
    rw [hjt, Bool.false_or] at h1
    simpa using h1
  have hgl : ∀ g ∈ gs, ∀ o, l.toArray[g]? = some o → ∃ x k, o.op = .extract x k := fun g hg o ho => by
    have h1 := List.all_eq_true.1 hge g hg
    rw [Bool.and_eq_true] at h1
    have h2 := h1.1
    rw [ho] at h2
    simp only at h2
    split at h2
    · rename_i x k he; exact ⟨x, k, he⟩
    · cases h2
  have hgt : ∀ g ∈ gs, tl.contains g = false := fun g hg => by
    have h1 := List.all_eq_true.1 hge g hg
    rw [Bool.and_eq_true] at h1
    simpa using h1.2
  have hgd' : ∀ (i : Nat) o, l.toArray[i]? = some o → o.guard = none := fun i o ho => by
    have := Array.all_eq_true_iff_forall_mem.1 hgd o (Array.mem_of_getElem? ho)
    simpa using this
  have hds : ∀ (k m : Nat) ok om d, l.toArray[k]? = some ok → l.toArray[m]? = some om → ok.dst = some d → om.dst = some d → k = m := fun k m ok om d hk hm' hd hd' => by
    have h1 := List.all_eq_true.1 (List.all_eq_true.1 hdd k (List.mem_range.2 (Array.getElem?_eq_some_iff.1 hk).1)) m (List.mem_range.2 (Array.getElem?_eq_some_iff.1 hm').1)
    simp only [hk, hm', hd, hd', Bool.or_eq_true, beq_iff_eq, bne_self_eq_false, Bool.false_eq_true, or_false] at h1
    exact h1
  have hn0 : ∀ (i : Nat) o d, l.toArray[i]? = some o → o.dst = some d → d < n := fun i o d ho hd => by
    have := Array.all_eq_true_iff_forall_mem.1 hdn o (Array.mem_of_getElem? ho)
    rw [hd] at this
    simpa using this
  have hC0 : (fun w' => ∃ x, w' = gr w x) (w.drew : World) := below_gr (bdrew (Below.refl _ _))
  have hCC : ∀ w1 w2 : World, (∃ x, w1 = gr w x) → Below w1.heap.size w1 w2 → ∃ x, w2 = gr w x := by
    rintro w1 w2 ⟨x, rfl⟩ hb; exact gr_below_of hb
  have inv0 : RgInv .any l.toArray tl (Array.replicate l.toArray.size false) :=
    ⟨by simp, fun j oj _ hl => (by rw [getD_replicate_false] at hl; cases hl), fun t _ ht => getD_in (by simpa using ht) (getD_replicate_false _ _)⟩
  have hAnti : Anti (fun a' F => ∀ w' U, Below w.heap.size w w' → F w' U → wpList P l.toArray Q lo a' w') := fun a F F' hF hh w' U hb hw => hh w' U hb (hF w' U hw)
  rw [show l.toArray.size = head.length + tl.length by omega]
  rw [show (Array.replicate (head.length + tl.length) false) = Array.replicate l.toArray.size false by rw [← hlen]]
  refine wpAny_of_Ws (n := n) hCC (Region.noSelect_spec hsel) hQ hgl hds hn0 hgd' (fun listed a F w' U hL hw hF => ?_) head.length _ a emp _ (fun _ => False) (fun _ _ _ _ h => h)
    (wpAnyWs_ords (head := head) hsel hds hC0 hAnti hT hcov hgt head _ a _ (fun _ h => h) inv0 hord h) hC0 (fun _ h => h) (fun _ h => h.elim) (fun i o hl => (by rw [getD_replicate_false] at hl; cases hl)) hsz
  obtain ⟨x, rfl⟩ := hw
  exact wpAny_of_seqL tl lo listed a _ hlo hL.1 (hL.2 _ _ (gr_below w x) hF)
theorem rg_region_lates {id : Nat} {Q : Exit → Act → World → Prop} {a : Act} {w : World} {l : List Oper} (gs head tl : List Nat) {lo : List Oper} (hp : pick l.toArray tl = lo) (G : Told) {n : Nat} (hm : P.follows .mixedOrders = true) (hsz : a.tmps.size = n)
    (hB : (rgwBs l.toArray n gs head tl && tl.all (fun i => decide (i < l.toArray.size))) = true) (hQ : ∀ c (a : Act) (d : Nat) v w, Q (.panic c) (a.put (some d) v) w → Q (.panic c) a w)
    (h : wpRG P l.toArray (fun w' => ∃ x, w' = gr w x) G (fun a' F => ∀ w' U, Below w.heap.size w w' → F w' U → wpList P l.toArray Q lo a' w') head a emp) : (Code.region id l.toArray true).wp P Q a w := by
  subst hp
  rw [Bool.and_eq_true] at hB
  exact wp_region_rgws gs head tl _ G n hm hsz hB.1 (pick_map hB.2) hQ h
end
end Go.Proofs.YthbdmcobpcoajaaGreatDoor
