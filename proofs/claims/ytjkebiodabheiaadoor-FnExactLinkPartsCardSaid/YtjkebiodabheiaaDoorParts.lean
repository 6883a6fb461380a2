/- The least node of each node's part: what a sweep does to a list of numbers, and when it is done. No program in sight. -/
import Derived.Test.YtjkebiodabheiaaDoorData
namespace Go.Proofs.YtjkebiodabheiaaDoor
open Go Go.RowKit

inductive Conn (meet : Nat → Nat → Bool) (n : Nat) : Nat → Nat → Prop
  | refl (i : Nat) : Conn meet n i i
  | step {i j k : Nat} : i < n → j < n → meet i j = true → Conn meet n j k → Conn meet n i k
def PartOk (meet : Nat → Nat → Bool) (n : Nat) (o : List Int) : Prop := o.length = n ∧ ∀ i, i < n → ∃ m : Nat, o[i]? = some (m : Int) ∧ m ≤ i ∧ Conn meet n i m
def IsParts (meet : Nat → Nat → Bool) (n : Nat) (o : List Int) : Prop := o.length = n ∧ ∀ i, i < n → ∃ m : Nat, o[i]? = some (m : Int) ∧ Conn meet n i m ∧ ∀ j, Conn meet n i j → m ≤ j
def atI (o : List Int) (i : Nat) : Int := o.getD i 0
theorem atI_of {o : List Int} {i : Nat} {x : Int} (h : o[i]? = some x) : atI o i = x := by simp [atI, h]
theorem atI_set {o : List Int} {i k : Nat} {x : Int} (hi : i < o.length) : atI (o.set i x) k = if i = k then x else atI o k := by
  unfold atI
  simp only [List.getD_eq_getElem?_getD]
  by_cases h : i = k
  · subst h; simp [hi]
  · simp [h]

section
variable {meet : Nat → Nat → Bool} {n : Nat} {o o0 : List Int}
theorem Conn.trans {i j k : Nat} (h : Conn meet n i j) (h' : Conn meet n j k) : Conn meet n i k := by
  induction h with
  | refl => exact h'
  | step a b c _ ih => exact .step a b c (ih h')
theorem Conn.symm (hs : ∀ i k, meet i k = true → meet k i = true) {i j : Nat} (h : Conn meet n i j) : Conn meet n j i := by
  induction h with
  | refl => exact .refl _
  | step a b c _ ih => exact ih.trans (.step b a (hs _ _ c) (.refl _))
theorem Conn.lt {i j : Nat} (h : Conn meet n i j) : i < n → j < n := by
  induction h with
  | refl => exact id
  | step a b c _ ih => exact fun _ => ih b
theorem IsParts.uniq {o' : List Int} (h : IsParts meet n o) (h' : IsParts meet n o') : o = o' := by
  apply List.ext_getElem?
  intro i
  by_cases hi : i < n
  · obtain ⟨m, e, c, l⟩ := h.2 i hi
    obtain ⟨m', e', c', l'⟩ := h'.2 i hi
    rw [e, e', Nat.le_antisymm (l _ c') (l' _ c)]
  · rw [List.getElem?_eq_none (by have := h.1; omega), List.getElem?_eq_none (by have := h'.1; omega)]
theorem PartOk.idx : PartOk meet n ((List.range n).map fun (i : Nat) => (i : Int)) :=
  ⟨by simp, fun i hi => ⟨i, by simp [hi], Nat.le_refl _, .refl _⟩⟩
theorem PartOk.at (h : PartOk meet n o) {i : Nat} (hi : i < n) : ∃ m : Nat, o[i]? = some (m : Int) ∧ atI o i = m ∧ m ≤ i ∧ m < n ∧ Conn meet n i m := by
  obtain ⟨m, e, l, c⟩ := h.2 i hi
  exact ⟨m, e, atI_of e, l, by omega, c⟩
theorem PartOk.set (h : PartOk meet n o) {i k : Nat} (hi : i < n) (hk : k < n) (hm : meet i k = true) (hlt : atI o k < atI o i) : PartOk meet n (o.set i (atI o k)) := by
  refine ⟨by rw [List.length_set]; exact h.1, fun j hj => ?_⟩
  by_cases hij : i = j
  · subst hij
    obtain ⟨m, e, ea, l, _, c⟩ := h.at hk
    obtain ⟨m', _, ea', l', _, _⟩ := h.at hi
    refine ⟨m, ?_, by omega, .step hi hk hm c⟩
    rw [List.getElem?_set_self (by rw [h.1]; exact hi), ea]
  · rw [List.getElem?_set_ne hij]; exact h.2 j hj

/-! ### A round of the reference -/
def Below' (n : Nat) (o o0 : List Int) : Prop := ∀ i, i < n → atI o i ≤ atI o0 i
def Swept (meet : Nat → Nat → Bool) (n : Nat) (o0 o : List Int) (i k : Nat) : Prop := ∀ i' k', i' < n → k' < n → (i' < i ∨ i' = i ∧ k' < k) → meet i' k' = true → atI o i' ≤ atI o0 k'
theorem Swept.next {i k : Nat} (h : Swept meet n o0 o i k) (hp : meet i k = true → atI o i ≤ atI o0 k) : Swept meet n o0 o i (k + 1) := by
  intro i' k' hi hk hc hm
  by_cases e : i' = i ∧ k' = k
  · obtain ⟨rfl, rfl⟩ := e; exact hp hm
  · exact h i' k' hi hk (by omega) hm
theorem Swept.row {i : Nat} (h : Swept meet n o0 o i n) : Swept meet n o0 o (i + 1) 0 := fun i' k' hi hk hc hm => h i' k' hi hk (by omega) hm
theorem Swept.lower {o' : List Int} {i k : Nat} (h : Swept meet n o0 o i k) (hl : Below' n o' o) : Swept meet n o0 o' i k := fun i' k' hi hk hc hm => Int.le_trans (hl i' hi) (h i' k' hi hk hc hm)
theorem lower_set {i : Nat} {x : Int} (hi : i < o.length) (h : x ≤ atI o i) : Below' n (o.set i x) o := by
  intro j _
  rw [atI_set hi]
  split
  · subst_vars; exact h
  · exact Int.le_refl _
theorem Below'.refl : Below' n o o := fun _ _ => Int.le_refl _
theorem Below'.trans {o' : List Int} (h : Below' n o' o) (k : Below' n o o0) : Below' n o' o0 := fun i hi => Int.le_trans (h i hi) (k i hi)

/-! ### How many are not at their end yet -/
def bad (m : Nat → Nat) (n : Nat) (o : List Int) : Nat := (List.range n).countP fun i => atI o i != (m i : Int)
theorem countP_mono {α : Type} {p q : α → Bool} : ∀ {l : List α}, (∀ x ∈ l, p x = true → q x = true) → l.countP p ≤ l.countP q
  | [], _ => Nat.le_refl _
  | x :: l, h => by
    have ih := countP_mono (l := l) (p := p) (q := q) (fun y hy => h y (List.mem_cons_of_mem _ hy))
    have hx := h x (List.mem_cons_self)
    simp only [List.countP_cons]
    cases hp : p x with
    | false => simp; omega
    | true => rw [hx hp]; simp; omega
theorem countP_less {α : Type} {p q : α → Bool} : ∀ {l : List α}, (∀ x ∈ l, p x = true → q x = true) → (∃ x ∈ l, q x = true ∧ p x = false) → l.countP p < l.countP q
  | [], _, h => by obtain ⟨x, hx, _⟩ := h; cases hx
  | x :: l, h, hx => by
    have hm := countP_mono (l := l) (p := p) (q := q) (fun y hy => h y (List.mem_cons_of_mem _ hy))
    have h1 := h x (List.mem_cons_self)
    simp only [List.countP_cons]
    obtain ⟨y, hy, hq, hp⟩ := hx
    rcases List.mem_cons.1 hy with rfl | hy
    · rw [hq, hp]; simp; omega
    · have ih := countP_less (l := l) (p := p) (q := q) (fun y hy => h y (List.mem_cons_of_mem _ hy)) ⟨y, hy, hq, hp⟩
      cases hpx : p x with
      | false => simp; omega
      | true => rw [h1 hpx]; simp; omega
def Least (meet : Nat → Nat → Bool) (n : Nat) (m : Nat → Nat) : Prop := ∀ i, Conn meet n i (m i) ∧ ∀ j, Conn meet n i j → m i ≤ j
theorem least_one (P : Nat → Prop) : ∀ (k : Nat), P k → ∃ m, P m ∧ ∀ j, P j → m ≤ j := by
  intro k
  induction k using Nat.strongRecOn with
  | _ k ih =>
    intro hk
    by_cases h : ∃ j, j < k ∧ P j
    · obtain ⟨j, hj, hp⟩ := h; exact ih j hj hp
    · exact ⟨k, hk, fun j hj => Nat.le_of_not_lt fun hlt => h ⟨j, hlt, hj⟩⟩
theorem least_all (meet : Nat → Nat → Bool) (n : Nat) : ∃ m, Least meet n m := by
  have h : ∀ i, ∃ m, Conn meet n i m ∧ ∀ j, Conn meet n i j → m ≤ j := fun i => least_one _ i (.refl i)
  exact ⟨fun i => Classical.choose (h i), fun i => Classical.choose_spec (h i)⟩
theorem isParts_of_bad {m : Nat → Nat} (hm : Least meet n m) (h : PartOk meet n o) (hb : bad m n o = 0) : IsParts meet n o := by
  refine ⟨h.1, fun i hi => ?_⟩
  obtain ⟨k, e, ea, _, _, _⟩ := h.at hi
  have := List.countP_eq_zero.1 hb i (List.mem_range.2 hi)
  simp only [bne_iff_ne, ne_eq, Decidable.not_not] at this
  refine ⟨m i, ?_, hm i⟩
  rw [e, ← ea, this]
theorem cross {Q : Nat → Prop} {i j : Nat} (h : Conn meet n i j) : Q i → ¬ Q j → ∃ p q, p < n ∧ q < n ∧ meet p q = true ∧ Q p ∧ ¬ Q q ∧ Conn meet n i p := by
  induction h with
  | refl => exact fun a b => absurd a b
  | @step i j k a b c _ ih =>
    intro hi hk
    by_cases hj : Q j
    · obtain ⟨p, q, h1, h2, h3, h4, h5, h6⟩ := ih hj hk
      exact ⟨p, q, h1, h2, h3, h4, h5, .step a b c h6⟩
    · exact ⟨i, j, a, b, c, hi, hj, .refl _⟩
theorem bad_round {m : Nat → Nat} (hs : ∀ i k, meet i k = true → meet k i = true) (hm : Least meet n m) (h0 : PartOk meet n o0) (h : PartOk meet n o) (hl : Below' n o o0) (hsw : Swept meet n o0 o n 0) : bad m n o ≤ bad m n o0 - 1 := by
  have hge : ∀ i, i < n → (m i : Int) ≤ atI o i := fun i hi => by
    obtain ⟨k, _, ea, _, _, c⟩ := h.at hi
    have := (hm i).2 k c
    omega
  have hge0 : ∀ i, i < n → (m i : Int) ≤ atI o0 i := fun i hi => by
    obtain ⟨k, _, ea, _, _, c⟩ := h0.at hi
    have := (hm i).2 k c
    omega
  have hmono : ∀ i ∈ List.range n, (atI o i != (m i : Int)) = true → (atI o0 i != (m i : Int)) = true := fun i hi hb => by
    simp only [bne_iff_ne, ne_eq] at hb ⊢
    have := hl i (List.mem_range.1 hi)
    have := hge i (List.mem_range.1 hi)
    omega
  by_cases hz : bad m n o0 = 0
  · have := countP_mono hmono
    unfold bad at hz ⊢
    omega
  · have hex : ∃ i ∈ List.range n, (atI o0 i != (m i : Int)) = true := by
      have : 0 < (List.range n).countP fun i => atI o0 i != (m i : Int) := by unfold bad at hz; omega
      simpa using List.countP_pos_iff.1 this
    obtain ⟨i, hi, hb⟩ := hex
    have hin := List.mem_range.1 hi
    have same : ∀ j, Conn meet n i j → m j = m i := fun j hj => Nat.le_antisymm ((hm j).2 _ ((hj.symm hs).trans (hm i).1)) ((hm i).2 _ (hj.trans (hm j).1))
    have hmn : m i < n := (hm i).1.lt hin
    have hgood : atI o0 (m i) = (m (m i) : Int) := by
      obtain ⟨k, _, ea, l, _, c⟩ := h0.at hmn
      have := (hm (m i)).2 k c
      have := same _ (hm i).1
      omega
    obtain ⟨p, q, hp, hq, hpq, hbp, hgq, hcp⟩ := cross (Q := fun j => atI o0 j ≠ (m j : Int)) (hm i).1 (by simpa using hb) (by simpa using hgood)
    have h1 := same p hcp
    have h2 := same q (hcp.trans (.step hp hq hpq (.refl _)))
    have h3 := hsw p q hp hq (.inl hp) hpq
    have h4 := hge p hp
    have h5 : atI o0 q = (m q : Int) := by simpa using hgq
    have := countP_less hmono ⟨p, List.mem_range.2 hp, by simpa using hbp, by simp only [bne_eq_false_iff_eq]; omega⟩
    unfold bad at hz ⊢
    omega
theorem bad_le (m : Nat → Nat) (n : Nat) (o : List Int) : bad m n o ≤ n := by
  have := List.countP_le_length (p := fun i => atI o i != (m i : Int)) (l := List.range n)
  simpa [bad] using this

/-! ### A sweep of the program that changes nothing -/
theorem isParts_of_still (hs : ∀ i k, meet i k = true → meet k i = true) (h : PartOk meet n o) (hf : ∀ i k, i < n → k < n → meet i k = true → atI o k ≤ atI o i) : IsParts meet n o := by
  have key : ∀ {i j : Nat}, Conn meet n i j → atI o j ≤ atI o i := fun {i j} hc => by
    induction hc with
    | refl => exact Int.le_refl _
    | step a b c _ ih => exact Int.le_trans ih (hf _ _ a b c)
  refine ⟨h.1, fun i hi => ?_⟩
  obtain ⟨m, e, ea, _, _, c⟩ := h.at hi
  refine ⟨m, e, c, fun j hj => ?_⟩
  have h1 := key (hj.symm hs)
  obtain ⟨k, _, ek, l, _, _⟩ := h.at (hj.lt hi)
  omega
/-- All numbers together. -/
def sumI (o : List Int) : Nat := (o.map Int.toNat).sum
theorem sumI_set : ∀ {o : List Int} {i : Nat} {x : Int}, i < o.length → 0 ≤ x → x < atI o i → sumI (o.set i x) < sumI o
  | [], i, x, h, _, _ => by simp at h
  | y :: o, 0, x, _, h0, hx => by
    simp [atI] at hx
    simp [sumI]; omega
  | y :: o, i + 1, x, h, h0, hx => by
    have ih := sumI_set (o := o) (i := i) (x := x) (by simpa using h) h0 (by simpa [atI] using hx)
    simp only [sumI, List.set_cons_succ, List.map_cons, List.sum_cons] at ih ⊢
    omega
end
end Go.Proofs.YtjkebiodabheiaaDoor
