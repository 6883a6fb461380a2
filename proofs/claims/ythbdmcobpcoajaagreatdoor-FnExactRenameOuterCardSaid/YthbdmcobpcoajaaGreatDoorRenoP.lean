/- An outer name that becomes another one: what it means. No program in sight. -/
import Derived.Test.YthbdmcobpcoajaaGreatDoorAddN
import Derived.Test.YthbdmcobpcoajaaGreatDoorLeanP
namespace Go.Proofs.YthbdmcobpcoajaaGreatDoor
open Go Go.RowKit Go.BigFrame

def renmL (b : Big) (fr tt : ByteArray) : List ByteArray := b.outer.set (Lib.idxOfS b.outer fr).toNat tt
def without (l : List ByteArray) (fr : ByteArray) : List ByteArray := l.filter fun x => !decide (x = fr)
def rnoR (b : Big) (fr tt : ByteArray) : Big := relB b b.edges (sortU (renmL b fr tt)) (outF b (renmL b fr tt) (sortU (renmL b fr tt)))
def rnoC (sig : List Ctl) (b : Big) (fr tt : ByteArray) : Bool := goodB sig b && (nameB tt && (Lib.containsS b.outer fr && (decide (fr = tt) || !Lib.containsS b.outer tt)))
def rnoP (sig : List Ctl) (b : Big) (fr tt : ByteArray) : Big := if rnoC sig b fr tt then rnoR b fr tt else noBig
def rnoT (fr tt : ByteArray) (e : Int × ByteArray) : Int × ByteArray := if e.2 = fr then (e.1, tt) else e
theorem rno_no {sig : List Ctl} {b : Big} {fr tt : ByteArray} (h : rnoC sig b fr tt = false) : rnoP sig b fr tt = noBig := by
  unfold rnoP; rw [h]; rfl
theorem rno_yes {sig : List Ctl} {b : Big} {fr tt : ByteArray} (h : rnoC sig b fr tt = true) : rnoP sig b fr tt = rnoR b fr tt := by
  unfold rnoP; rw [h]; rfl
theorem renmL_len (b : Big) (fr tt : ByteArray) : (renmL b fr tt).length = b.outer.length := by unfold renmL; simp
theorem rnoP_len (sig : List Ctl) (b : Big) (fr tt : ByteArray) : (cntB (rnoP sig b fr tt) : Int) ≤ 100000000 := by
  unfold rnoP
  split
  · rename_i h
    have hg : goodB sig b = true := by unfold rnoC at h; simp only [Bool.and_eq_true] at h; exact h.1
    have hD := (good_of hg).bds
    have h1 := sortU_len (renmL b fr tt)
    rw [renmL_len] at h1
    refine cntB_bd ?_ ?_ ?_ ?_ ?_
    · show (b.nodes.map _).length ≤ _; rw [List.length_map]; have := hD.nodes; omega
    · intro n hn
      obtain ⟨m, hm, rfl⟩ := List.mem_map.1 hn
      show (m.links.map _).length ≤ _
      rw [List.length_map]; have := hD.links m hm; omega
    · show b.sites.length ≤ _; have := hD.sites; omega
    · show (sortU (renmL b fr tt)).length ≤ _; have := hD.outer; omega
    · show (b.inner.map _).length ≤ _; rw [List.length_map]; have := hD.inner; omega
  · unfold cntB cntN noBig; simp [sumOf_nil]
theorem rno_mem {l : List ByteArray} {i : Nat} {fr tt : ByteArray} (hA : Asc l) (hi : l[i]? = some fr) (z : ByteArray) : z ∈ without l fr ++ [tt] ↔ z ∈ l.set i tt := by
  obtain ⟨hil, hie⟩ := List.getElem?_eq_some_iff.1 hi
  rw [List.mem_append, List.mem_singleton, without, List.mem_filter]
  constructor
  · rintro (⟨h1, h2⟩ | rfl)
    · have hne : z ≠ fr := by simpa using h2
      obtain ⟨j, hj⟩ := List.mem_iff_getElem?.1 h1
      refine List.mem_iff_getElem?.2 ⟨j, ?_⟩
      rw [List.getElem?_set_ne (fun e => hne (by rw [← e, hi] at hj; exact (Option.some.inj hj).symm)), hj]
    · exact List.mem_iff_getElem?.2 ⟨i, by rw [List.getElem?_set_self hil]⟩
  · intro h
    obtain ⟨j, hj⟩ := List.mem_iff_getElem?.1 h
    by_cases e : i = j
    · subst e
      rw [List.getElem?_set_self hil] at hj
      exact .inr (Option.some.inj hj).symm
    · rw [List.getElem?_set_ne e] at hj
      refine .inl ⟨List.mem_of_getElem? hj, ?_⟩
      have hne : z ≠ fr := by
        rintro rfl
        have h1 := idx_asc hA hi
        have h2 := idx_asc hA hj
        omega
      simpa using hne
theorem rno_sort {sig : List Ctl} {b : Big} {fr tt : ByteArray} (hG : Good sig b) (hc : Lib.containsS b.outer fr = true) : sortU (without b.outer fr ++ [tt]) = sortU (renmL b fr tt) := by
  obtain ⟨k, hk, hx⟩ := idx_get ((Lib.containsS_iff _ _).1 hc)
  unfold renmL
  rw [hk, Int.toNat_natCast]
  exact sortU_congr fun z => (rno_mem hG.asc hx z).symm
theorem rno_link {sig : List Ctl} {b : Big} {fr tt : ByteArray} {l : Int} (hG : Good sig b) (hc : Lib.containsS b.outer fr = true) (hn : nameB tt = true) (hu : Used b l) : endL b.edges (sortU (without b.outer fr ++ [tt])) (rnoT fr tt (endB b l)) = outF b (renmL b fr tt) (sortU (renmL b fr tt)) l := by
  have hb := used_bd hG.bds hu
  rw [rno_sort hG hc]
  have hpos : ∀ s, nameB s = true → ¬ s = ⟨#[]⟩ := fun s hs e => by
    have := name_pos hs
    rw [e] at this
    exact absurd this.1 (by decide)
  have hfr := (Lib.containsS_iff _ _).1 hc
  obtain ⟨k, hk, hx⟩ := idx_get hfr
  have hnf := hpos fr (hG.name hfr)
  unfold endB outF
  by_cases h : l < b.edges
  · rw [if_pos h, if_pos h]
    have e1 : rnoT fr tt (l, ⟨#[]⟩) = (l, ⟨#[]⟩) := by unfold rnoT; rw [if_neg (fun e : (⟨#[]⟩ : ByteArray) = fr => hnf e.symm)]
    rw [e1]
    unfold endL
    rw [if_pos rfl]
  · rw [if_neg h, if_neg h]
    obtain ⟨m, hm⟩ : ∃ m : Nat, l - b.edges = m := ⟨(l - b.edges).toNat, by omega⟩
    rw [hm, Int.toNat_natCast]
    obtain ⟨x, hx2⟩ := getElem?_of_lt (l := b.outer) (i := m) (by omega)
    have hset : (renmL b fr tt).getD m ⟨#[]⟩ = if x = fr then tt else x := by
      unfold renmL
      rw [hk, Int.toNat_natCast, List.getD_eq_getElem?_getD]
      by_cases e : k = m
      · subst e
        rw [List.getElem?_set_self (List.getElem?_eq_some_iff.1 hx).1]
        rw [hx] at hx2
        rw [if_pos (Option.some.inj hx2).symm]; rfl
      · rw [List.getElem?_set_ne e, hx2]
        have hne : ¬ x = fr := by
          rintro rfl
          have h1 := idx_asc hG.asc hx
          have h2 := idx_asc hG.asc hx2
          omega
        rw [if_neg hne]; rfl
    rw [hset, List.getD_eq_getElem?_getD, hx2]
    show endL b.edges (sortU (renmL b fr tt)) (rnoT fr tt (0, x)) = _
    by_cases e : x = fr
    · have e1 : rnoT fr tt (0, x) = (0, tt) := by unfold rnoT; rw [if_pos e]
      rw [if_pos e, e1]
      unfold endL
      rw [if_neg (hpos tt hn)]
    · have e1 : rnoT fr tt (0, x) = (0, x) := by unfold rnoT; rw [if_neg e]
      rw [if_neg e, e1]
      unfold endL
      rw [if_neg (hpos x (hG.name (List.mem_of_getElem? hx2)))]
end Go.Proofs.YthbdmcobpcoajaaGreatDoor
