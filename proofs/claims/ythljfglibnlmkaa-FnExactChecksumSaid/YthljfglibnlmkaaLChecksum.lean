import Derived.Test.YthljfglibnlmkaaCsum
namespace Go.Proofs.Ythljfglibnlmkaa
open Go Go.RowKit

set_option maxHeartbeats 1000000 in
theorem specChecksum_ct (s : ByteArray) (hs : s.size ≤ 1073741824) (r : Value) (h : r = .tuple #[.int .i64 (if s.size ≤ 4000 then csum s.data.toList else 0), .bool (decide (s.size ≤ 4000))]) (w : World) : Calls Try.prog 10 #[.string s] w fun e w' => e = .returned r ∧ w' = w := by
  by_cases hn : s.size ≤ 4000
  · have HR : Hid (r = .tuple #[.int .i64 (csum s.data.toList), .bool true]) := show r = _ from by rw [h]; simp [hn]
    rw [HR.out]
    clear h
    go_enter Try.func10, Try.ntmps10
    go_wp2_with (go_at_call 21; refine (l1Sum_ct s _ hs).mono ?_; rintro e w2 ⟨rfl, rfl⟩)
    exact bodyPost_ret (v := .tuple #[.int .i64 (csum s.data.toList), .bool true]) (by simp [results, Try.results10, go_sem]) rfl ⟨rfl, rfl⟩
  · have HR : Hid (r = .tuple #[.int .i64 0, .bool false]) := show r = _ from by rw [h]; simp [hn]
    rw [HR.out]
    clear h
    go_enter Try.func10, Try.ntmps10
    go_wp2
    exact bodyPost_ret (v := .tuple #[.int .i64 0, .bool false]) (by simp [results, Try.results10, go_sem]) rfl ⟨rfl, rfl⟩
set_option maxHeartbeats 1000000 in
theorem implChecksum_ct (s : ByteArray) (hs : s.size ≤ 1073741824) (r : Value) (h : r = .tuple #[.int .i64 (if s.size ≤ 4000 then csum s.data.toList else 0), .bool (decide (s.size ≤ 4000))]) (w : World) : Calls Try.prog 11 #[.string s] w fun e w' => e = .returned r ∧ w' = w := by
  by_cases hn : s.size ≤ 4000
  · have HR : Hid (r = .tuple #[.int .i64 (csum s.data.toList), .bool true]) := show r = _ from by rw [h]; simp [hn]
    rw [HR.out]
    clear h
    go_enter Try.func11, Try.ntmps11
    go_wp2_with (go_at_call 22; refine (checksum_ct s _ hs).mono ?_; rintro e w2 ⟨rfl, rfl⟩)
    exact bodyPost_ret (v := .tuple #[.int .i64 (csum s.data.toList), .bool true]) (by simp [results, Try.results11, go_sem]) rfl ⟨rfl, rfl⟩
  · have HR : Hid (r = .tuple #[.int .i64 0, .bool false]) := show r = _ from by rw [h]; simp [hn]
    rw [HR.out]
    clear h
    go_enter Try.func11, Try.ntmps11
    go_wp2
    exact bodyPost_ret (v := .tuple #[.int .i64 0, .bool false]) (by simp [results, Try.results11, go_sem]) rfl ⟨rfl, rfl⟩

set_option maxHeartbeats 1000000 in
theorem lawChecksum (s : ByteArray) (hm : s.size ≤ maxLen) (w : World) : Calls Try.prog 5 #[.string s] w fun e w' => e = .returned (.bool true) ∧ Below w.heap.size w w' := by
  have hm' : s.size ≤ 9223372036854775807 := hm
  clear hm
  by_cases hs : s.size ≤ 1048576
  · generalize hx : (if s.size ≤ 4000 then csum s.data.toList else 0) = x
    generalize hy : decide (s.size ≤ 4000) = y
    go_enter Try.func5, Try.ntmps5
    go_wp2_with fail
    refine (specChecksum_ct s (by omega) (.tuple #[.int .i64 x, .bool y]) (by rw [hx, hy]) _).mono ?_
    rintro e w2 ⟨rfl, rfl⟩
    go_wp2_with fail
    refine (implChecksum_ct s (by omega) (.tuple #[.int .i64 x, .bool y]) (by rw [hx, hy]) _).mono ?_
    rintro e w2 ⟨rfl, rfl⟩
    clear hx hy
    go_wp2_with fail
    go_ret
    exact ⟨rfl, Below.refl _ _⟩
  · go_enter Try.func5, Try.ntmps5
    go_wp2
    go_ret
    exact ⟨rfl, Below.refl _ _⟩
end Go.Proofs.Ythljfglibnlmkaa
