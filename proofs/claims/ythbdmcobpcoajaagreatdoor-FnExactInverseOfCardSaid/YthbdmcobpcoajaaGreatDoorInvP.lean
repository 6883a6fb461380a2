/- The inverse of a permutation or of a renaming: what it means. No program in sight. -/
import Derived.Test.YthbdmcobpcoajaaGreatDoorLeanP
import Derived.Test.YthbdmcobpcoajaaGreatDoorPermT
import Derived.Test.YthbdmcobpcoajaaGreatDoorSubstL
import Derived.Test.YthbdmcobpcoajaaGreatDoorSingle
import Derived.Test.YthbdmcobpcoajaaGreatDoorCntB
import Derived.Test.YthbdmcobpcoajaaGreatDoorPerm
namespace Go.Proofs.YthbdmcobpcoajaaGreatDoor
open Go Go.RowKit Go.BigFrame

def fromL (b : Big) : List ByteArray := (List.range b.outer.length).map fun i : Nat => (endsL b ((i : Nat) : Int)).getD 0 ⟨#[]⟩
theorem fromL_len (b : Big) : (fromL b).length = b.outer.length := by simp [fromL]
theorem fromL_get {b : Big} {k : Nat} (h : k < b.outer.length) : (fromL b)[k]? = some ((endsL b (k : Int)).getD 0 ⟨#[]⟩) := by simp [fromL, h]
/-- The places of 0, 1, .. in a list. -/
def invN (l z : List Int) : Nat → List Int
  | 0 => z
  | k + 1 => (invN l z k).set (l.getD k 0).toNat k
theorem invN_len (l z : List Int) : ∀ k, (invN l z k).length = z.length
  | 0 => rfl
  | k + 1 => by unfold invN; rw [List.length_set, invN_len l z k]
theorem invN_bd (l z : List Int) (hz : ∀ x ∈ z, -1000 ≤ x ∧ x ≤ 1000) : ∀ k, k ≤ 1000 → ∀ x ∈ invN l z k, -1000 ≤ x ∧ x ≤ 1000
  | 0, _, x, hx => hz x hx
  | k + 1, h, x, hx => by
    unfold invN at hx
    rcases List.mem_or_eq_of_mem_set hx with h1 | rfl
    · exact invN_bd l z hz k (by omega) x h1
    · omega
theorem invN_succ {l z : List Int} {k t : Nat} (ht : l[k]? = some (t : Int)) : invN l z (k + 1) = (invN l z k).set t k := by
  show (invN l z k).set (l.getD k 0).toNat k = _
  rw [List.getD_eq_getElem?_getD, ht]; rfl
def invL (b : Big) : List Int := invN (unders b) (List.replicate b.roots.toNat 0) b.roots.toNat
theorem invL_len (b : Big) : (invL b).length = b.roots.toNat := by unfold invL; rw [invN_len]; simp
def invR (b : Big) : Big := if 0 < b.roots then permP (invL b) else subBig b.outer (fromL b)
def invC (sig : List Ctl) (b : Big) : Bool := goodB sig b && (permB b || renmB b)
def invP (sig : List Ctl) (b : Big) : Big := if invC sig b then invR b else noBig
theorem inv_no {sig : List Ctl} {b : Big} (h : invC sig b = false) : invP sig b = noBig := by unfold invP; rw [h]; rfl
theorem inv_yes {sig : List Ctl} {b : Big} (h : invC sig b = true) : invP sig b = invR b := by unfold invP; rw [h]; rfl
theorem Good.ascI {sig : List Ctl} {b : Big} (h : Good sig b) : Asc (innerN b) := by
  have h1 := h.inner
  unfold namesB at h1
  simp only [Bool.and_eq_true, List.all_eq_true, List.mem_range] at h1
  exact asc_names h1.1
theorem endsL_of {b : Big} {x : Wr} (hx : x ∈ b.inner) : x.name ∈ endsL b x.link := by
  unfold endsL endsN
  rw [List.mem_flatMap]
  obtain ⟨j, hj⟩ := List.mem_iff_getElem?.1 hx
  refine ⟨j, List.mem_range.2 (List.getElem?_eq_some_iff.1 hj).1, ?_⟩
  rw [hj]; simp
theorem no_nodes {sig : List Ctl} {b : Big} (h : Good sig b) (hr : b.roots = 0) : b.nodes = [] := by
  cases hn : b.nodes with
  | nil => rfl
  | cons n l =>
    exfalso
    have h1 := h.node 0 n (by rw [hn]; rfl)
    unfold nodeB at h1
    simp only [Bool.and_eq_true] at h1
    have h2 := h1.2.1
    unfold underB at h2
    split at h2
    · rename_i hp; simp only [decide_eq_true_eq] at h2; omega
    · simp only [Bool.and_eq_true, decide_eq_true_eq] at h2; omega
theorem no_sites {sig : List Ctl} {b : Big} (h : Good sig b) (hr : b.roots = 0) : b.sites = [] := by
  cases hn : b.sites with
  | nil => rfl
  | cons p l =>
    exfalso
    have h2 := h.site p (by rw [hn]; simp)
    unfold underB at h2
    rw [no_nodes h hr] at h2
    split at h2
    · rename_i hp; simp only [decide_eq_true_eq] at h2; omega
    · simp only [Bool.and_eq_true, decide_eq_true_eq, List.length_nil] at h2; omega
theorem ren_one {sig : List Ctl} {b : Big} (h : Good sig b) (hr : renmB b = true) {k : Nat} (hk : k < b.outer.length) : ∃ s, endsL b (k : Int) = [s] := by
  unfold renmB openB wiringB singleB at hr
  simp only [Bool.and_eq_true, decide_eq_true_eq] at hr
  obtain ⟨⟨hr0, he0⟩, h1, _⟩ := hr
  unfold hasOneB at h1
  rw [List.all_eq_true] at h1
  have h2 := h1 k (List.mem_range.2 hk)
  unfold oneB at h2
  rw [he0, Int.zero_add] at h2
  simp only [decide_eq_true_eq] at h2
  have hp : portsL b (k : Int) = [] := by unfold portsL portsN; rw [no_nodes h hr0]; rfl
  rw [hp, List.length_nil, Nat.zero_add] at h2
  exact List.length_eq_one_iff.1 h2
theorem ren_edges {b : Big} (hr : renmB b = true) : b.edges = 0 ∧ b.roots = 0 := by
  unfold renmB openB wiringB at hr
  simp only [Bool.and_eq_true, decide_eq_true_eq] at hr
  exact ⟨hr.1.2, hr.1.1⟩
theorem from_sort {sig : List Ctl} {b : Big} (h : Good sig b) (hr : renmB b = true) : sortU (fromL b) = innerN b := by
  refine sortU_of h.ascI fun z => ?_
  constructor
  · intro hz
    obtain ⟨x, hx, rfl⟩ := List.mem_map.1 hz
    have hb := h.bds.wire x hx
    have he := (ren_edges hr).1
    obtain ⟨k, hk⟩ : ∃ k : Nat, x.link = k := ⟨x.link.toNat, by omega⟩
    have hkl : k < b.outer.length := by omega
    obtain ⟨s, hs⟩ := ren_one h hr hkl
    have hm := endsL_of hx
    rw [hk, hs] at hm
    refine List.mem_iff_getElem?.2 ⟨k, ?_⟩
    rw [fromL_get hkl, hs, List.mem_singleton.1 hm]; rfl
  · intro hz
    obtain ⟨k, hk⟩ := List.mem_iff_getElem?.1 hz
    have hkl : k < b.outer.length := by have := (List.getElem?_eq_some_iff.1 hk).1; rw [fromL_len] at this; exact this
    rw [fromL_get hkl] at hk
    obtain ⟨s, hs⟩ := ren_one h hr hkl
    rw [hs] at hk
    obtain rfl : s = z := Option.some.inj hk
    obtain ⟨x, hx, rfl⟩ := endsN_mem (b := b) (link := (k : Int)) (k := b.inner.length) (s := s) (by show s ∈ endsL b _; rw [hs]; simp)
    exact List.mem_map.2 ⟨x, hx, rfl⟩
/-- Nothing at all is its own inverse. -/
theorem inv_empty {sig : List Ctl} {b : Big} (h : permB b = true) (hr : b.roots = 0) : invR b = permP [] := by
  unfold permB placingB at h
  simp only [Bool.and_eq_true, decide_eq_true_eq] at h
  obtain ⟨⟨_, _, h3, h4⟩, _⟩ := h
  have ho : b.outer = [] := List.eq_nil_of_length_eq_zero h3
  unfold invR
  rw [if_neg (by omega)]
  unfold fromL subBig subW
  rw [ho]; rfl
theorem invP_len (sig : List Ctl) (b : Big) : (cntB (invP sig b) : Int) ≤ 100000000 := by
  unfold invP
  split
  · rename_i h
    have hg : goodB sig b = true := by unfold invC at h; simp only [Bool.and_eq_true] at h; exact h.1
    have hD := (good_of hg).bds
    unfold invR
    split
    · refine cntB_bd ?_ ?_ ?_ ?_ ?_
      · show ([] : List Nd).length ≤ _; simp
      · intro n hn; cases hn
      · show (neg (invL b)).length ≤ _; rw [neg_length, invL_len]; have := hD.roots; omega
      · show ([] : List ByteArray).length ≤ _; simp
      · show ([] : List Wr).length ≤ _; simp
    · refine cntB_bd ?_ ?_ ?_ ?_ ?_
      · show ([] : List Nd).length ≤ _; simp
      · intro n hn; cases hn
      · show ([] : List Int).length ≤ _; simp
      · show (sortU (fromL b)).length ≤ _; have := sortU_len (fromL b); rw [fromL_len] at this; have := hD.outer; omega
      · show (subW b.outer (fromL b)).length ≤ _; rw [subW_len (fromL_len b)]; have := hD.outer; omega
  · unfold cntB cntN noBig; simp [sumOf_nil]
end Go.Proofs.YthbdmcobpcoajaaGreatDoor
