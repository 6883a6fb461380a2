/- How much a small bigraph holds. No program in sight. -/
import Derived.Test.YthgelhglfbgagaaGreatDoorG4
namespace Go.Proofs.YthgelhglfbgagaaGreatDoor
open Go Go.RowKit

theorem cntB_bd {b : Big} (h1 : b.nodes.length ≤ 1000) (h2 : ∀ n ∈ b.nodes, n.links.length ≤ 1000) (h3 : b.sites.length ≤ 1000) (h4 : b.outer.length ≤ 1000) (h5 : b.inner.length ≤ 1000) : (cntB b : Int) ≤ 100000000 := by
  have h := cntB_le b
  have hs : sumOf (fun c : Nd => c.links.length) b.nodes ≤ b.nodes.length * 1000 := by
    clear h h1 h3 h4 h5
    generalize b.nodes = l at h2 ⊢
    induction l with
    | nil => simp [sumOf]
    | cons x l ih =>
      have := ih (fun n hn => h2 n (List.mem_cons_of_mem _ hn))
      have := h2 x (List.mem_cons_self)
      rw [sumOf_cons]
      simp only [List.length_cons]
      omega
  have hn := cntN_le b.nodes
  unfold cntB
  unfold totN at hn
  omega
end Go.Proofs.YthgelhglfbgagaaGreatDoor
