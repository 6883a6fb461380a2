/- The elements of numbers alone: barren roots, swaps, merges. -/
import Derived.Test.YtlkadcmicjencaaSmall
import Derived.Test.YtlkadcmicjencaaApp
namespace Go.Proofs.Ytlkadcmicjencaa
open Go Go.RowKit Go.BigFrame

def noBig : Big := ⟨0, [], [], 0, [], []⟩
theorem own_none (B : Nat) (w : World) (sz : Nat) (a : Option Addr) (c : Nat) : RowOwn B w (.slice a 0 c) sz [] := ⟨fun r hr => (by cases hr), .inl ⟨rfl, _, _, rfl⟩⟩
theorem nds_none (B : Nat) (w : World) : NdsOwn B w (.slice none 0 0) [] [] := ⟨[], rfl, own_none _ _ _ _ _, by simp, fun n hn => (by cases hn), fun n hn => (by cases hn), rfl⟩
theorem ints_none (B : Nat) (w : World) : IntsOwn B w (.slice none 0 0) [] := ⟨own_none _ _ _ _ _, by simp, fun n hn => (by cases hn)⟩
theorem strs_none (B : Nat) (w : World) : StrsOwn B w (.slice none 0 0) [] := ⟨own_none _ _ _ _ _, by simp, fun n hn => (by cases hn)⟩
theorem wrs_none (B : Nat) (w : World) : WrsOwn B w (.slice none 0 0) [] := ⟨own_none _ _ _ _ _, by simp, fun n hn => (by cases hn)⟩
theorem noBig_own (B : Nat) (w : World) : BigOwn B w (.agg #[.int .i64 0, .slice none 0 0, .slice none 0 0, .int .i64 0, .slice none 0 0, .slice none 0 0]) noBig [] :=
  ⟨_, _, _, _, [], rfl, nds_none _ _, ints_none _ _, strs_none _ _, wrs_none _ _, by unfold I64; decide, by unfold I64; decide, rfl⟩

theorem BigAt.shape {w : World} {v : Value} {b : Big} (h : BigAt w v b) : ∃ a1 c1 a2 c2 a3 c3 a4 c4, v = .agg #[.int .i64 b.roots, .slice a1 b.nodes.length c1, .slice a2 b.sites.length c2, .int .i64 b.edges, .slice a3 b.outer.length c3, .slice a4 b.inner.length c4] := by
  obtain ⟨vn, vs, vo, vi, rfl, h1, h2, h3, h4, _⟩ := h
  obtain ⟨a1, c1, rfl, _⟩ := h1.open
  obtain ⟨a2, c2, rfl, _⟩ := h2.open
  obtain ⟨a3, c3, rfl, _⟩ := h3.open
  obtain ⟨a4, c4, rfl, _⟩ := h4.open
  exact ⟨a1, c1, a2, c2, a3, c3, a4, c4, rfl⟩

/-- A function hands back a bigraph that it owns, and whether all is well. -/
def GivesBig (R : Big) (ok : Bool) (w : World) (e : Ending) (w' : World) : Prop :=
  ∃ v bs, e = .returned (.tuple #[v, .bool ok]) ∧ BigOwn w.heap.size w' v R bs ∧ bs.Nodup ∧ Below w.heap.size w w' 

def barrenP (n : Int) : Big := if 0 ≤ n ∧ n ≤ 4 then ⟨n, [], [], 0, [], []⟩ else noBig
def barrenB (n : Int) : Bool := decide (0 ≤ n ∧ n ≤ 4)
theorem barren_own (B : Nat) (w : World) (n : Int) (hn : 0 ≤ n ∧ n ≤ 4) : BigOwn B w (.agg #[.int .i64 n, .slice none 0 0, .slice none 0 0, .int .i64 0, .slice none 0 0, .slice none 0 0]) ⟨n, [], [], 0, [], []⟩ [] :=
  ⟨_, _, _, _, [], rfl, nds_none _ _, ints_none _ _, strs_none _ _, wrs_none _ _, by unfold I64; dsimp only; omega, by unfold I64; dsimp only; omega, rfl⟩

set_option maxHeartbeats 1000000 in
theorem specBarrenOf_ct (n : Int) (w : World) : Calls Try.prog 7 #[.int .i64 n] w (GivesBig (barrenP n) (barrenB n) w) := by
  by_cases hn : 0 ≤ n ∧ n ≤ 4
  · have HP : Hid (barrenP n = ⟨n, [], [], 0, [], []⟩) := if_pos hn
    have HB : Hid (barrenB n = true) := decide_eq_true hn
    rw [HP.out, HB.out]
    go_enter Try.func7, Try.ntmps7
    go_wp2_with (go_at_call 21; refine (l1In_ct _ _ _ true (by simp; omega) _).mono ?_; rintro e w2 ⟨rfl, rfl⟩)
    exact bodyPost_ret (v := .tuple #[.agg #[.int .i64 n, .slice none 0 0, .slice none 0 0, .int .i64 0, .slice none 0 0, .slice none 0 0], .bool true]) (by simp [results, Try.results7, go_sem]) rfl ⟨_, _, rfl, barren_own _ _ n hn, by simp, balloc _ _⟩
  · have HP : Hid (barrenP n = noBig) := if_neg hn
    have HB : Hid (barrenB n = false) := decide_eq_false hn
    rw [HP.out, HB.out]
    have hn' : n < 0 ∨ 4 < n := by omega
    go_enter Try.func7, Try.ntmps7
    go_wp2_with (go_at_call 21; refine (l1In_ct _ _ _ false (by simp; omega) _).mono ?_; rintro e w2 ⟨rfl, rfl⟩)
    exact bodyPost_ret (v := .tuple #[.agg #[.int .i64 0, .slice none 0 0, .slice none 0 0, .int .i64 0, .slice none 0 0, .slice none 0 0], .bool false]) (by simp [results, Try.results7, go_sem]) rfl ⟨_, _, rfl, noBig_own _ _, by simp, balloc _ _⟩
set_option maxHeartbeats 1000000 in
theorem implBarrenOf_ct (n : Int) (w : World) : Calls Try.prog 8 #[.int .i64 n] w (GivesBig (barrenP n) (barrenB n) w) := by
  by_cases hn : 0 ≤ n ∧ n ≤ 4
  · have HP : Hid (barrenP n = ⟨n, [], [], 0, [], []⟩) := if_pos hn
    have HB : Hid (barrenB n = true) := decide_eq_true hn
    rw [HP.out, HB.out]
    go_enter Try.func8, Try.ntmps8
    go_wp2_with (go_at_call 22; refine (within_ct _ _ _ true (by simp; omega) _).mono ?_; rintro e w2 ⟨rfl, rfl⟩)
    exact bodyPost_ret (v := .tuple #[.agg #[.int .i64 n, .slice none 0 0, .slice none 0 0, .int .i64 0, .slice none 0 0, .slice none 0 0], .bool true]) (by simp [results, Try.results8, go_sem]) rfl ⟨_, _, rfl, barren_own _ _ n hn, by simp, balloc _ _⟩
  · have HP : Hid (barrenP n = noBig) := if_neg hn
    have HB : Hid (barrenB n = false) := decide_eq_false hn
    rw [HP.out, HB.out]
    have hn' : n < 0 ∨ 4 < n := by omega
    go_enter Try.func8, Try.ntmps8
    go_wp2_with (go_at_call 22; refine (within_ct _ _ _ false (by simp; omega) _).mono ?_; rintro e w2 ⟨rfl, rfl⟩)
    exact bodyPost_ret (v := .tuple #[.agg #[.int .i64 0, .slice none 0 0, .slice none 0 0, .int .i64 0, .slice none 0 0, .slice none 0 0], .bool false]) (by simp [results, Try.results8, go_sem]) rfl ⟨_, _, rfl, noBig_own _ _, by simp, balloc _ _⟩

end Go.Proofs.Ytlkadcmicjencaa
