/- One wiring after another: what it means. No program in sight. -/
import Derived.Test.YthgelhglfbgagaaGreatDoorG2
import Derived.Test.YthgelhglfbgagaaGreatDoorOutS
import Derived.Test.YthgelhglfbgagaaGreatDoorFits
import Derived.Test.YthgelhglfbgagaaGreatDoorCntB
import Derived.Test.YthgelhglfbgagaaGreatDoorValid
namespace Go.Proofs.YthgelhglfbgagaaGreatDoor
open Go Go.RowKit Go.BigFrame

theorem asc_namesC : ∀ {l : List ByteArray}, (∀ k, k < l.length → stepB l k = true) → Asc l := by
  intro l h
  unfold Asc
  rw [List.pairwise_iff_getElem]
  intro i j hi hj hij
  have step : ∀ k (hk : k + 1 < l.length), ltB l[k] l[k + 1] := by
    intro k hk
    have h1 := h (k + 1) hk
    rw [step_s (List.getElem?_eq_getElem hk) (List.getElem?_eq_getElem (by omega)), Bool.and_eq_true, bl_data, decide_eq_true_eq] at h1
    exact h1.2
  induction j with
  | zero => omega
  | succ j ih =>
    by_cases e : i = j
    · subst e; exact step i hj
    · exact ltB_trans (ih (by omega) (by omega) step) (step j hj)
theorem Good.ascC {sig : List Ctl} {b : Big} (h : Good sig b) : Asc b.outer := by
  have h1 := h.outer
  unfold namesB at h1
  simp only [Bool.and_eq_true, List.all_eq_true, List.mem_range] at h1
  exact asc_namesC h1.1
/-- The link of an inner name. -/
def lnkAt (a : Big) (k : Nat) : Int := (a.inner.getD k ⟨⟨#[]⟩, 0⟩).link
theorem lnkAt_of {a : Big} {k : Nat} {x : Wr} (h : a.inner[k]? = some x) : lnkAt a k = x.link := by
  unfold lnkAt; rw [List.getD_eq_getElem?_getD, h]; rfl
/-- A link of b behind a. -/
def thrF (a b : Big) (l : Int) : Int := if l < b.edges then a.edges + l else if lnkAt a (l - b.edges).toNat < a.edges then lnkAt a (l - b.edges).toNat else lnkAt a (l - b.edges).toNat + b.edges
def cmpR (a b : Big) : Big := ⟨0, [], [], a.edges + b.edges, a.outer, b.inner.map fun x => { x with link := thrF a b x.link }⟩
/-- What an end of b becomes behind a. -/
def cmpE (a : Big) (e : Int × ByteArray) : Int × ByteArray := if e.2 = ⟨#[]⟩ then (e.1 + a.edges, ⟨#[]⟩) else endB a (lnkAt a (Lib.idxOfS (innerN a) e.2).toNat)
def cmpK (sig : List Ctl) (a b : Big) : Bool := goodWB sig a && (goodWB sig b && sameN (innerN a) b.outer)
def cmpP (sig : List Ctl) (a b : Big) : Big := if cmpK sig a b then validR sig (cmpR a b) else noBig
def cmpC (sig : List Ctl) (a b : Big) : Bool := cmpK sig a b && goodB sig (cmpR a b)
theorem cmp_no {sig : List Ctl} {a b : Big} (h : cmpK sig a b = false) : cmpP sig a b = noBig ∧ cmpC sig a b = false := by
  unfold cmpP cmpC; rw [h]; exact ⟨rfl, rfl⟩
theorem cmp_yes {sig : List Ctl} {a b : Big} (h : cmpK sig a b = true) : cmpP sig a b = validR sig (cmpR a b) ∧ cmpC sig a b = goodB sig (cmpR a b) := by
  unfold cmpP cmpC; rw [h]; exact ⟨rfl, by rw [Bool.true_and]⟩
theorem valid_len {sig : List Ctl} {b : Big} : (cntB (validR sig b) : Int) ≤ 100000000 := by
  unfold validR
  split
  · rename_i h
    have hD := (good_of h).bds
    refine cntB_bd ?_ ?_ ?_ ?_ ?_
    · have := hD.nodes; omega
    · intro n hn; have := hD.links n hn; omega
    · have := hD.sites; omega
    · have := hD.outer; omega
    · have := hD.inner; omega
  · unfold cntB cntN noBig; simp [sumOf_nil]
theorem cmpP_len (sig : List Ctl) (a b : Big) : (cntB (cmpP sig a b) : Int) ≤ 100000000 := by
  unfold cmpP
  split
  · exact valid_len
  · unfold cntB cntN noBig; simp [sumOf_nil]
theorem sameN_eq : ∀ {l m : List ByteArray}, sameN l m = true → l = m
  | [], [], _ => rfl
  | [], _ :: _, h => by simp [sameN] at h
  | _ :: _, [], h => by simp [sameN] at h
  | x :: l, y :: m, h => by
    simp only [sameN, Bool.and_eq_true, beq_data, decide_eq_true_eq] at h
    rw [h.1, sameN_eq h.2]
/-- What is known of both once they fit. -/
structure Fit2 (sig : List Ctl) (a b : Big) : Prop where
  ga : Good sig a
  gb : Good sig b
  ra : a.roots = 0
  rb : b.roots = 0
  eq : innerN a = b.outer
theorem fit2_of {sig : List Ctl} {a b : Big} (h : cmpK sig a b = true) : Fit2 sig a b := by
  unfold cmpK goodWB wiringB at h
  simp only [Bool.and_eq_true, decide_eq_true_eq] at h
  exact ⟨good_of h.1.1, good_of h.2.1.1, h.1.2, h.2.1.2, sameN_eq h.2.2⟩
theorem Good.none {sig : List Ctl} {b : Big} (h : Good sig b) (hr : b.roots = 0) : b.nodes = [] ∧ b.sites = [] := by
  have hn : b.nodes = [] := by
    cases hc : b.nodes with
    | nil => rfl
    | cons n r =>
      exfalso
      have h0 : b.nodes[0]? = some n := by rw [hc]; rfl
      have hu := node_under (h.node 0 n h0)
      unfold underB at hu
      split at hu
      · simp only [decide_eq_true_eq] at hu; omega
      · simp only [Bool.and_eq_true, decide_eq_true_eq] at hu; omega
  refine ⟨hn, ?_⟩
  cases hc : b.sites with
  | nil => rfl
  | cons p r =>
    exfalso
    have hu := h.under_bd (Nat.le_refl _) (h.site p (by rw [hc]; simp))
    rw [hn] at hu
    simp only [List.length_nil] at hu
    omega
theorem Fit2.len {sig : List Ctl} {a b : Big} (h : Fit2 sig a b) : a.inner.length = b.outer.length := by
  rw [← h.eq]; unfold innerN; rw [List.length_map]
theorem Fit2.end_ {sig : List Ctl} {a b : Big} (h : Fit2 sig a b) {l : Int} (hl : 0 ≤ l ∧ l < b.edges + b.outer.length) : endL (a.edges + b.edges) (sortU a.outer) (cmpE a (endB b l)) = thrF a b l ∧ ((endB b l).2 ≠ ⟨#[]⟩ → ∃ (k : Nat) (x : Wr), Lib.idxOfS (innerN a) (endB b l).2 = k ∧ a.inner[k]? = some x ∧ lnkAt a k = x.link ∧ 0 ≤ x.link ∧ x.link < a.edges + a.outer.length) ∧ -1000 ≤ (endB b l).1 ∧ (endB b l).1 ≤ 1000 := by
  rw [sortU_self h.ga.ascC]
  have hb := h.gb.bds
  have hpos : ∀ s, nameB s = true → ¬ s = ⟨#[]⟩ := fun s hs e => by
    have := name_pos hs
    rw [e] at this
    exact absurd this.1 (by decide)
  unfold endB thrF
  by_cases hlt : l < b.edges
  · rw [if_pos hlt, if_pos hlt]
    refine ⟨?_, fun h => absurd rfl h, by dsimp only; omega, by dsimp only; have := hb.edges; omega⟩
    unfold cmpE endL
    rw [if_pos rfl]
    show (if (⟨#[]⟩ : ByteArray) = ⟨#[]⟩ then l + a.edges else _) = _
    rw [if_pos rfl]; omega
  · rw [if_neg hlt, if_neg hlt]
    obtain ⟨m, hm⟩ : ∃ m : Nat, l - b.edges = m := ⟨(l - b.edges).toNat, by omega⟩
    rw [hm, Int.toNat_natCast]
    obtain ⟨x, hx⟩ := getElem?_of_lt (l := b.outer) (i := m) (by omega)
    obtain ⟨y, hy⟩ := getElem?_of_lt (l := a.inner) (i := m) (by rw [h.len]; omega)
    have hxn := hpos x (h.gb.name (List.mem_of_getElem? hx))
    have hix : Lib.idxOfS (innerN a) x = m := by rw [h.eq]; exact idx_asc h.gb.ascC hx
    have hyl := h.ga.bds.wire y (List.mem_of_getElem? hy)
    rw [List.getD_eq_getElem?_getD, hx]
    show endL _ _ (cmpE a (0, x)) = _ ∧ (x ≠ _ → _) ∧ _
    refine ⟨?_, fun _ => ⟨m, y, hix, hy, lnkAt_of hy, hyl⟩, by dsimp only; omega, by dsimp only; omega⟩
    unfold cmpE
    rw [if_neg hxn, hix, Int.toNat_natCast, lnkAt_of hy]
    unfold endB
    by_cases h2 : y.link < a.edges
    · rw [if_pos h2, if_pos h2]
      unfold endL
      rw [if_pos rfl]
    · rw [if_neg h2, if_neg h2]
      obtain ⟨q, hq⟩ : ∃ q : Nat, y.link - a.edges = q := ⟨(y.link - a.edges).toNat, by omega⟩
      rw [hq, Int.toNat_natCast]
      obtain ⟨z, hz⟩ := getElem?_of_lt (l := a.outer) (i := q) (by omega)
      rw [List.getD_eq_getElem?_getD, hz]
      unfold endL
      show (if z = ⟨#[]⟩ then _ else _ + Lib.idxOfS a.outer z) = _
      rw [if_neg (hpos z (h.ga.name (List.mem_of_getElem? hz))), idx_asc h.ga.ascC hz]
      omega
theorem Fit2.bd {sig : List Ctl} {a b : Big} (h : Fit2 sig a b) {l : Int} (hl : 0 ≤ l ∧ l < b.edges + b.outer.length) : 0 ≤ thrF a b l ∧ thrF a b l ≤ 1000 := by
  have hb := h.gb.bds
  have ha := h.ga.bds
  have e1 := hb.edges
  have e2 := ha.edges
  have e3 := ha.outer
  unfold thrF
  by_cases hlt : l < b.edges
  · rw [if_pos hlt]; omega
  · rw [if_neg hlt]
    obtain ⟨m, hm⟩ : ∃ m : Nat, l - b.edges = m := ⟨(l - b.edges).toNat, by omega⟩
    rw [hm, Int.toNat_natCast]
    obtain ⟨y, hy⟩ := getElem?_of_lt (l := a.inner) (i := m) (by rw [h.len]; omega)
    have := ha.wire y (List.mem_of_getElem? hy)
    rw [lnkAt_of hy]
    split <;> omega
end Go.Proofs.YthgelhglfbgagaaGreatDoor
