/- Two owned slices side by side. No program in sight. -/
import Derived.Test.YtanndcclkmcfbaaDoorApp2
namespace Go.Proofs.YtanndcclkmcfbaaDoor
open Go Go.RowKit

section
variable {w w' : World} {base base' e e' sz sz' : Nat} {v v' : Value} {cs cs' : List (List Value)}
theorem Acc.cells (h : Acc w base e sz v cs) : ∀ g, v.ownBlock = some g → ∃ cur, w.heap[g]? = some (.cells cur e (0, 0)) := by
  intro g hg
  rcases h.1.2 with ⟨rfl, _⟩ | ⟨g', c, cur, rfl, _, h3, _⟩
  · simp [Value.ownBlock] at hg
  · simp only [Value.ownBlock, Option.some.injEq] at hg
    exact ⟨cur, hg ▸ h3⟩
theorem Acc.keep1 (h : Acc w base e sz v cs) (hk : ∀ g, v.ownBlock = some g → w'.heap[g]? = w.heap[g]?) : Acc w' base e sz v cs := by
  refine ⟨⟨h.1.1, ?_⟩, h.2⟩
  rcases h.1.2 with hn | ⟨g, c, cur, h1, h2, h3, h4⟩
  · exact .inl hn
  · exact .inr ⟨g, c, cur, h1, h2, (hk g (by rw [h1]; rfl)).trans h3, h4⟩
theorem Acc.lt1 (h : Acc w base e sz v cs) : ∀ g, v.ownBlock = some g → g < w.heap.size := by
  intro g hg
  obtain ⟨cur, hc⟩ := h.cells g hg
  exact (Array.getElem?_eq_some_iff.1 hc).1
/-- One slice grows: another one, of other elements, stays. -/
theorem Acc.beside (h : Acc w base e sz v cs) (h' : Acc w base' e' sz' v' cs') (hne : e ≠ e') (hg : w.grownBy w' v'.ownBlock) : Acc w' base e sz v cs := by
  refine h.keep1 fun g hgv => hg.block g (h.lt1 g hgv) fun heq => ?_
  obtain ⟨c1, k1⟩ := h.cells g hgv
  obtain ⟨c2, k2⟩ := h'.cells g heq.symm
  rw [k1] at k2
  simp at k2
  exact hne k2.2
theorem Acc.box {g : Nat} {cells : Array Value} {t : TypeId} (B : Box w g cells t) (h : Acc w base e sz v cs) (hne : t ≠ e) (hg : w.grownBy w' v.ownBlock) : Box w' g cells t := by
  refine B.keep (hg.block g B.lt fun heq => ?_)
  obtain ⟨c2, k2⟩ := h.cells g heq.symm
  unfold Box at B
  rw [B] at k2
  simp at k2
  exact hne k2.2
theorem Acc.of_box0 {g : Nat} (B : Box w g #[] e) (hb : base ≤ g) : Acc w base e sz (.slice (some ⟨g, 0, none⟩) 0 0) [] :=
  ⟨⟨by simp, .inr ⟨g, 0, #[], rfl, hb, B, Nat.le_refl _, by unfold maxLen; omega, by simp, by simp⟩⟩, fun r hr => by cases hr⟩
theorem blks_own {g : Nat} {v : Value} (h : g ∈ blks v) : v.ownBlock = some g := by
  unfold blks at h
  split at h
  · simp at h; subst h; rfl
  · cases h
theorem Acc.disj (h : Acc w base e sz v cs) (h' : Acc w base' e' sz' v' cs') (hne : e ≠ e') : ∀ g ∈ blks v, g ∉ blks v' := by
  intro g hg hg'
  obtain ⟨c1, k1⟩ := h.cells g (blks_own hg)
  obtain ⟨c2, k2⟩ := h'.cells g (blks_own hg')
  rw [k1] at k2
  simp at k2
  exact hne k2.2
theorem Acc.len_le (h : Acc w base e sz v cs) : ∃ a c, v = .slice a cs.length c := h.shape
end
end Go.Proofs.YtanndcclkmcfbaaDoor
