/- The elements of numbers alone: barren roots, swaps, merges. -/
import Derived.Test.YtanndcclkmcfbaaDoorSmall
import Derived.Test.YtanndcclkmcfbaaDoorApp
namespace Go.Proofs.YtanndcclkmcfbaaDoor
open Go Go.RowKit Go.BigFrame

def noBig : Big := ⟨0, [], [], 0, [], []⟩
theorem own_none (B : Nat) (w : World) (sz : Nat) (a : Option Addr) (c : Nat) : RowOwn B w (.slice a 0 c) sz [] := ⟨fun r hr => (by cases hr), .inl ⟨rfl, _, _, rfl⟩⟩
theorem nds_none (B : Nat) (w : World) : NdsOwn B w (.slice none 0 0) [] [] := ⟨[], rfl, own_none _ _ _ _ _, by simp, fun n hn => (by cases hn), fun n hn => (by cases hn), rfl⟩
theorem ints_none (B : Nat) (w : World) : IntsOwn B w (.slice none 0 0) [] := ⟨own_none _ _ _ _ _, by simp, fun n hn => (by cases hn)⟩
theorem strs_none (B : Nat) (w : World) : StrsOwn B w (.slice none 0 0) [] := ⟨own_none _ _ _ _ _, by simp, fun n hn => (by cases hn)⟩
theorem wrs_none (B : Nat) (w : World) : WrsOwn B w (.slice none 0 0) [] := ⟨own_none _ _ _ _ _, by simp, fun n hn => (by cases hn)⟩
theorem noBig_own (B : Nat) (w : World) : BigOwn B w (.agg #[.int .i64 0, .slice none 0 0, .slice none 0 0, .int .i64 0, .slice none 0 0, .slice none 0 0]) noBig [] :=
  ⟨_, _, _, _, [], rfl, nds_none _ _, ints_none _ _, strs_none _ _, wrs_none _ _, by unfold I64; decide, by unfold I64; decide, rfl⟩

theorem BigAt.shape {w : World} {v : Value} {b : Big} (h : BigAt w v b) : ∃ a1 c1 a2 c2 a3 c3 a4 c4, v = .agg #[.int .i64 b.roots, .slice a1 b.nodes.length c1, .slice a2 b.sites.length c2, .int .i64 b.edges, .slice a3 b.outer.length c3, .slice a4 b.inner.length c4] := by
  obtain ⟨vn, vs, vo, vi, rfl, h1, h2, h3, h4, _⟩ := h
  obtain ⟨a1, c1, rfl, _⟩ := h1.open
  obtain ⟨a2, c2, rfl, _⟩ := h2.open
  obtain ⟨a3, c3, rfl, _⟩ := h3.open
  obtain ⟨a4, c4, rfl, _⟩ := h4.open
  exact ⟨a1, c1, a2, c2, a3, c3, a4, c4, rfl⟩

/-- A function hands back a bigraph that it owns, and whether all is well. -/
def GivesBig (R : Big) (ok : Bool) (w : World) (e : Ending) (w' : World) : Prop :=
  ∃ v bs, e = .returned (.tuple #[v, .bool ok]) ∧ BigOwn w.heap.size w' v R bs ∧ bs.Nodup ∧ Below w.heap.size w w' 

def barrenP (n : Int) : Big := if 0 ≤ n ∧ n ≤ 4 then ⟨n, [], [], 0, [], []⟩ else noBig
def barrenB (n : Int) : Bool := decide (0 ≤ n ∧ n ≤ 4)
theorem barren_own (B : Nat) (w : World) (n : Int) (hn : 0 ≤ n ∧ n ≤ 4) : BigOwn B w (.agg #[.int .i64 n, .slice none 0 0, .slice none 0 0, .int .i64 0, .slice none 0 0, .slice none 0 0]) ⟨n, [], [], 0, [], []⟩ [] :=
  ⟨_, _, _, _, [], rfl, nds_none _ _, ints_none _ _, strs_none _ _, wrs_none _ _, by unfold I64; dsimp only; omega, by unfold I64; dsimp only; omega, rfl⟩


end Go.Proofs.YtanndcclkmcfbaaDoor
