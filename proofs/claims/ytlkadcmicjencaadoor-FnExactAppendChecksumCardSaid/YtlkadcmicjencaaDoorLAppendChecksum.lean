import Derived.Test.YtlkadcmicjencaaDoorSeal
namespace Go.Proofs.YtlkadcmicjencaaDoor
open Go Go.RowKit Go.BigFrame

set_option maxHeartbeats 2000000 in
theorem lawAppendChecksum (s : ByteArray) (w : World) (_ : s.size ≤ maxLen) (htab : Lib.TabIs Tryd.prog w "internal/strconv.uint64pow10" .u64 Lib.pow10Tab) : Calls Tryd.prog 3 #[.string s] w fun e w' => e = .returned (.bool true) ∧ Below w.heap.size w w' := by
  by_cases hs : s.size ≤ 1048576
  case neg =>
    go_enter Tryd.func3, Tryd.ntmps3
    go_wp2_with fail
    go_ret
    exact ⟨rfl, Below.refl _ _⟩
  obtain ⟨r, ok, hss, hi⟩ : ∃ (r : ByteArray) (ok : Bool), (∀ W, Calls Tryd.prog 11 #[.string s] W fun e w' => e = .returned (.tuple #[.string r, .bool ok]) ∧ Below W.heap.size W w') ∧ (∀ W, Lib.TabIs Tryd.prog W "internal/strconv.uint64pow10" .u64 Lib.pow10Tab → Calls Tryd.prog 12 #[.string s] W fun e w' => e = .returned (.tuple #[.string r, .bool ok]) ∧ Below W.heap.size W w') :=
    ⟨appR s, appB s, fun W => specAppendChecksum_ct s W hs, fun W ht => implAppendChecksum_ct s W hs ht⟩
  have HS := Lib.hid hss
  have HI := Lib.hid hi
  have HT := Lib.hid htab
  clear hss hi htab
  go_enter Tryd.func3, Tryd.ntmps3
  go_wp2_with fail
  refine (HS.out _).mono ?_
  rintro e w1 ⟨rfl, b1⟩
  go_wp2_with fail
  refine (HI.out _ (TabIs.below HT.out b1)).mono ?_
  rintro e w2 ⟨rfl, b2⟩
  go_wp2_with fail
  go_ret
  exact ⟨rfl, bthen b1 b2⟩
end Go.Proofs.YtlkadcmicjencaaDoor
