/- How many nodes of each control. -/
import Derived.Test.YtjkebiodabheiaaDoorInner
import Derived.Test.YtjkebiodabheiaaDoorIsA
import Derived.Test.YtjkebiodabheiaaDoorLaw1
import Derived.BigRegion
import Derived.IntWalk
namespace Go.Proofs.YtjkebiodabheiaaDoor
open Go Go.RowKit Go.BigFrame

def countN (sig : List Ctl) (b : Big) : Nat → List Int
  | 0 => List.replicate sig.length 0
  | k + 1 => match b.nodes[k]? with
    | some n => (countN sig b k).set n.ctl.toNat ((countN sig b k).getD n.ctl.toNat 0 + 1)
    | none => countN sig b k
theorem countN_len (sig : List Ctl) (b : Big) : ∀ k, (countN sig b k).length = sig.length
  | 0 => by simp [countN]
  | k + 1 => by
    unfold countN
    split
    · rw [List.length_set]; exact countN_len sig b k
    · exact countN_len sig b k
theorem countN_bd (sig : List Ctl) (b : Big) : ∀ k, ∀ x ∈ countN sig b k, 0 ≤ x ∧ x ≤ k
  | 0 => by intro x hx; simp only [countN, List.mem_replicate] at hx; omega
  | k + 1 => by
    intro x hx
    unfold countN at hx
    split at hx
    · rcases List.mem_or_eq_of_mem_set hx with h | h
      · have := countN_bd sig b k x h; omega
      · subst h
        rename_i n _
        cases hq : (countN sig b k)[n.ctl.toNat]? with
        | none => rw [List.getD_eq_getElem?_getD, hq]; simp; omega
        | some y =>
          have := countN_bd sig b k y (List.mem_of_getElem? hq)
          rw [List.getD_eq_getElem?_getD, hq]; simp only [Option.getD_some]; omega
    · have := countN_bd sig b k x hx; omega
theorem countN_succ {sig : List Ctl} {b : Big} {k : Nat} {n : Nd} {j : Nat} {x : Int} (hn : b.nodes[k]? = some n) (hj : n.ctl = j) (hx : (countN sig b k)[j]? = some x) : countN sig b (k + 1) = (countN sig b k).set j (x + 1) := by
  rw [countN, hn]
  simp only [hj, Int.toNat_natCast, List.getD_eq_getElem?_getD, hx, Option.getD_some]
def countR (sig : List Ctl) (b : Big) : List Int := if goodB sig b then countN sig b b.nodes.length else []
theorem countR_len (sig : List Ctl) (b : Big) : ((countR sig b).length : Int) ≤ 100000000 := by
  unfold countR
  split
  · rename_i h; have hG := good_of h; have := sig_len hG.sg; rw [countN_len]; omega
  · simp
theorem IntsOwn.cellAt {B g n c : Nat} {w : World} {l : List Int} (h : IntsOwn B w (.slice (some ⟨g, 0, none⟩) n c) l) {i : Nat} {x : Int} (hi : l[i]? = some x) : w.cell? ⟨g, i, none⟩ = some (.int .i64 x) := by
  obtain ⟨a, c', e, _, _, h3⟩ := h.at.open
  obtain ⟨_, b, o, ea, hc⟩ := h3 i x hi
  simp only [Value.slice.injEq] at e
  rw [ea] at e
  obtain ⟨⟨rfl, rfl⟩, _⟩ : (g = b ∧ 0 = o) ∧ True := ⟨by simpa using e.1, trivial⟩
  simpa using hc
theorem IntsOwn.put {B g n c : Nat} {w : World} {l : List Int} (h : IntsOwn B w (.slice (some ⟨g, 0, none⟩) n c) l) {i : Nat} (hi : i < l.length) {x : Int} (hx : I64 x) : IntsOwn B (w.setCell ⟨g, i, none⟩ (.int .i64 x)) (.slice (some ⟨g, 0, none⟩) n c) (l.set i x) := by
  refine ⟨?_, by simpa using h.2.1, fun y hy => ?_⟩
  · obtain ⟨y, hy⟩ := getElem?_of_lt hi
    have := RowOwn.store h.1 (i := i) (r := [.int .i64 y]) (j := 0) (by simp [intRows, hy]) (by omega) (.int .i64 x)
    rw [show intRows (l.set i x) = (intRows l).set i [.int .i64 x] by simp [intRows, List.map_set]]
    simpa using this
  · rcases List.mem_or_eq_of_mem_set hy with h' | rfl
    · exact h.2.2 y h'
    · exact hx
theorem ints_flat (l : List Int) : (intRows l).flatten = l.map (Value.int .i64) := by induction l <;> simp_all [intRows]
theorem made_ints (n : Nat) : (madeCells #[.int .i64 0] n).toList = (intRows (List.replicate n 0)).flatten := by
  rw [ints_flat, List.map_replicate]
  unfold madeCells
  rw [List.eq_replicate_iff]
  refine ⟨by simp, fun b hb => ?_⟩
  simp only [Array.toList_map, List.mem_map] at hb
  obtain ⟨k, _, rfl⟩ := hb
  simp [Nat.mod_one]
theorem made_own {g n : Nat} {w : World} (hn : n ≤ 1073741824) (h : w.ownsRow g 3 1 (.slice (some ⟨g, 0, none⟩) n n) n (madeCells #[.int .i64 0] n).toList) : IntsOwn g w (.slice (some ⟨g, 0, none⟩) n n) (List.replicate n 0) := by
  refine ⟨RowOwn.of_owns (cs := intRows (List.replicate n 0)) (e := 3) (n := n) ?_ (by simp [intRows]) (by simp [intRows]), by simp; omega, fun x hx => by have := List.eq_of_mem_replicate hx; unfold I64; omega⟩
  rw [← made_ints]
  exact h


end Go.Proofs.YtjkebiodabheiaaDoor
