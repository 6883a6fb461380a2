/- A bigraph without its idle edges: plain words. No program in sight. -/
import Derived.Test.YthbdmcobpcoajaaGreatDoorOutS
import Derived.Test.YthbdmcobpcoajaaGreatDoorSingle
import Derived.Test.YthbdmcobpcoajaaGreatDoorKids
namespace Go.Proofs.YthbdmcobpcoajaaGreatDoor
open Go Go.RowKit

def actF (b : Big) (k : Nat) : Bool := !idleB b (k : Int)
def cntA (b : Big) (k : Nat) : Nat := (pickN (actF b) k).length
def leftL (b : Big) : List Int := pickN (actF b) b.edges.toNat
/-- The link that a link becomes. -/
def sqF (b : Big) (x : Int) : Int := if x < b.edges then (cntA b x.toNat : Int) else x - b.edges + cntA b b.edges.toNat
def leanBig (b : Big) : Big := relB b (cntA b b.edges.toNat) b.outer (sqF b)
def leanT (b : Big) (e : Int × ByteArray) : Int × ByteArray := if e.2 = ⟨#[]⟩ then (Lib.idxOf (leftL b) e.1, e.2) else e
theorem cntA_le (b : Big) (k : Nat) : cntA b k ≤ k := pickN_len _ _
theorem pickN_mem {f : Nat → Bool} {k : Nat} {x : Int} (h : x ∈ pickN f k) : 0 ≤ x ∧ x < (k : Int) := by
  unfold pickN at h
  obtain ⟨j, hj, rfl⟩ := List.mem_map.1 h
  have := List.mem_range.1 (List.mem_filter.1 hj).1
  omega
theorem pickN_split {f : Nat → Bool} {x : Nat} (hx : f x = true) : ∀ n, x < n → ∃ r, pickN f n = pickN f x ++ (x : Int) :: r
  | 0, h => by omega
  | n + 1, h => by
    by_cases e : x = n
    · subst e; exact ⟨[], pickN_yes hx⟩
    · obtain ⟨r, hr⟩ := pickN_split hx n (by omega)
      cases hf : f n with
      | true => exact ⟨r ++ [(n : Int)], by rw [pickN_yes hf, hr]; simp⟩
      | false => exact ⟨r, by rw [pickN_no hf, hr]⟩
theorem idxOf_pick {f : Nat → Bool} {x n : Nat} (hx : f x = true) (hn : x < n) : Lib.idxOf (pickN f n) (x : Int) = ((pickN f x).length : Int) := by
  obtain ⟨r, hr⟩ := pickN_split hx n hn
  have hl : (pickN f x).length < (pickN f n).length := by rw [hr]; simp
  have := Lib.idxOf_hit (pickN f n) (pickN f n).length (pickN f x).length (x : Int) hl (Nat.le_refl _)
    (by rw [hr, List.getD_eq_getElem?_getD, List.getElem?_append_right (Nat.le_refl _), Nat.sub_self]; rfl)
    (fun j hj => by
      rw [hr, List.getD_eq_getElem?_getD, List.getElem?_append_left hj]
      obtain ⟨y, hy⟩ := getElem?_of_lt hj
      rw [hy]
      have := pickN_mem (List.mem_of_getElem? hy)
      simp only [Option.getD_some]; omega)
  rwa [List.take_length] at this
theorem used_act {b : Big} {l : Int} (h : Used b l) : idleB b l = false := by
  unfold idleB
  rcases h with ⟨n, hn, hx⟩ | ⟨x, hx, rfl⟩
  · have : (portsL b l).length ≠ 0 := by
      intro e
      have he := List.eq_nil_of_length_eq_zero e
      unfold portsL portsN at he
      rw [List.flatMap_eq_nil_iff] at he
      obtain ⟨i, hi⟩ := List.mem_iff_getElem?.1 hn
      have h1 := he i (List.mem_range.2 (List.getElem?_eq_some_iff.1 hi).1)
      rw [hi] at h1
      simp only at h1
      unfold hitsN at h1
      rw [List.flatMap_eq_nil_iff] at h1
      obtain ⟨j, hj⟩ := List.mem_iff_getElem?.1 hx
      have h2 := h1 j (List.mem_range.2 (List.getElem?_eq_some_iff.1 hj).1)
      rw [hj] at h2
      simp at h2
    rw [decide_eq_false this, Bool.false_and]
  · have : (endsL b x.link).length ≠ 0 := by
      intro e
      have he := List.eq_nil_of_length_eq_zero e
      unfold endsL endsN at he
      rw [List.flatMap_eq_nil_iff] at he
      obtain ⟨j, hj⟩ := List.mem_iff_getElem?.1 hx
      have h2 := he j (List.mem_range.2 (List.getElem?_eq_some_iff.1 hj).1)
      rw [hj] at h2
      simp at h2
    rw [decide_eq_false this, Bool.and_false]
theorem asc_names : ∀ {l : List ByteArray}, (∀ k, k < l.length → stepB l k = true) → Asc l := by
  intro l h
  unfold Asc
  rw [List.pairwise_iff_getElem]
  intro i j hi hj hij
  have step : ∀ k (hk : k + 1 < l.length), ltB l[k] l[k + 1] := by
    intro k hk
    have h1 := h (k + 1) hk
    rw [step_s (List.getElem?_eq_getElem hk) (List.getElem?_eq_getElem (by omega)), Bool.and_eq_true, bl_data, decide_eq_true_eq] at h1
    exact h1.2
  induction j with
  | zero => omega
  | succ j ih =>
    by_cases e : i = j
    · subst e; exact step i hj
    · exact ltB_trans (ih (by omega) (by omega) step) (step j hj)
theorem Good.asc {sig : List Ctl} {b : Big} (h : Good sig b) : Asc b.outer := by
  have h1 := h.outer
  unfold namesB at h1
  simp only [Bool.and_eq_true, List.all_eq_true, List.mem_range] at h1
  exact asc_names h1.1
theorem sqF_lean {sig : List Ctl} {b : Big} {l : Int} (hG : Good sig b) (hu : Used b l) : endL (cntA b b.edges.toNat) (sortU b.outer) (leanT b (endB b l)) = sqF b l := by
  have hb := used_bd hG.bds hu
  rw [sortU_self hG.asc]
  unfold endB sqF
  by_cases h : l < b.edges
  · rw [if_pos h, if_pos h]
    unfold leanT endL
    rw [if_pos rfl]
    simp only
    rw [if_pos trivial]
    obtain ⟨k, rfl⟩ : ∃ k : Nat, l = k := ⟨l.toNat, by omega⟩
    have hk : actF b k = true := by unfold actF; rw [used_act hu]; rfl
    unfold leftL
    rw [idxOf_pick hk (by omega)]
    rfl
  · rw [if_neg h, if_neg h]
    obtain ⟨x, hx⟩ := getElem?_of_lt (l := b.outer) (i := (l - b.edges).toNat) (by omega)
    rw [List.getD_eq_getElem?_getD, hx]
    have hn := name_pos (hG.name (List.mem_of_getElem? hx))
    have hne : ¬ x = ⟨#[]⟩ := fun e' => by
      rw [e'] at hn
      exact absurd hn.1 (by decide)
    simp only [Option.getD_some]
    unfold leanT endL
    simp only
    rw [if_neg hne]
    simp only
    rw [if_neg hne, idx_asc hG.asc hx]
    omega
theorem sqF_bd {b : Big} {l : Int} (hD : Bds b) (hu : Used b l) : I64 (sqF b l) := by
  have hb := used_bd hD hu
  have h1 := hD.edges
  have h2 := hD.outer
  have h3 := cntA_le b l.toNat
  have h4 := cntA_le b b.edges.toNat
  unfold sqF I64
  split <;> omega
end Go.Proofs.YthbdmcobpcoajaaGreatDoor
