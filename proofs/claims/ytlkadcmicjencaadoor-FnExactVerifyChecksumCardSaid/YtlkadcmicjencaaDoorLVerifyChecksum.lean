import Derived.Test.YtlkadcmicjencaaDoorVerify
namespace Go.Proofs.YtlkadcmicjencaaDoor
open Go Go.RowKit Go.BigFrame

set_option maxHeartbeats 2000000 in
theorem lawVerifyChecksum (s : ByteArray) (w : World) (_ : s.size ≤ maxLen) (htab : Lib.TabIs Tryd.prog w "internal/strconv.uint64pow10" .u64 Lib.pow10Tab) : Calls Tryd.prog 5 #[.string s] w fun e w' => e = .returned (.bool true) ∧ Below w.heap.size w w' := by
  by_cases hs : s.size ≤ 1048576
  case neg =>
    go_enter Tryd.func5, Tryd.ntmps5
    go_wp2_with fail
    go_ret
    exact ⟨rfl, Below.refl _ _⟩
  obtain ⟨r, ok, hss, hi⟩ : ∃ (r : ByteArray) (ok : Bool), (∀ W, Calls Tryd.prog 18 #[.string s] W fun e w' => e = .returned (.tuple #[.string r, .bool ok]) ∧ Below W.heap.size W w') ∧ (∀ W, Lib.TabIs Tryd.prog W "internal/strconv.uint64pow10" .u64 Lib.pow10Tab → Calls Tryd.prog 19 #[.string s] W fun e w' => e = .returned (.tuple #[.string r, .bool ok]) ∧ Below W.heap.size W w') :=
    ⟨verR s, verB s, fun W => specVerifyChecksum_ct s W hs, fun W ht => implVerifyChecksum_ct s W hs ht⟩
  have HS := Lib.hid hss
  have HI := Lib.hid hi
  have HT := Lib.hid htab
  clear hss hi htab
  go_enter Tryd.func5, Tryd.ntmps5
  go_wp2_with fail
  refine (HS.out _).mono ?_
  rintro e w1 ⟨rfl, b1⟩
  go_wp2_with fail
  refine (HI.out _ (TabIs.below HT.out b1)).mono ?_
  rintro e w2 ⟨rfl, b2⟩
  go_wp2_with fail
  go_ret
  exact ⟨rfl, bthen b1 b2⟩
end Go.Proofs.YtlkadcmicjencaaDoor
