/- Reading the text of a bigraph: both functions of the law. -/
import Derived.Test.YthgelhglfbgagaaGreatDoorPrsB
import Derived.Test.YthgelhglfbgagaaGreatDoorPrsJ
import Derived.Test.YthgelhglfbgagaaGreatDoorCntB
namespace Go.Proofs.YthgelhglfbgagaaGreatDoor
open Go Go.RowKit Go.BigFrame
theorem parV_len (sig : List Ctl) (s : ByteArray) : (cntB (parV sig s) : Int) ≤ 100000000 := by
  rcases parV_good (sig := sig) (s := s) with h | h
  · rw [h]; unfold cntB cntN noBig; simp [sumOf_nil]
  · have hD := (good_of h).bds
    refine cntB_bd ?_ ?_ ?_ ?_ ?_
    · have := hD.nodes; omega
    · intro n hn; have := hD.links n hn; omega
    · have := hD.sites; omega
    · have := hD.outer; omega
    · have := hD.inner; omega
end Go.Proofs.YthgelhglfbgagaaGreatDoor
