/- The checksum of a string: both functions compute csum. -/
import Derived.Test.YtlkadcmicjencaaDoorProg
import Derived.Test.YtlkadcmicjencaaDoorCore
namespace Go.Proofs.YtlkadcmicjencaaDoor
open Go Go.RowKit

def csum (l : List UInt8) : Int := l.foldl (fun h c => (41 * h + (c.toNat : Int) + 1) % 999979) 7
theorem csum_snoc (l : List UInt8) (c : UInt8) : csum (l ++ [c]) = (41 * csum l + (c.toNat : Int) + 1) % 999979 := by simp [csum]
theorem csum_bd (l : List UInt8) : 0 ≤ csum l ∧ csum l < 999979 := by
  rcases List.eq_nil_or_concat l with rfl | ⟨l', c, rfl⟩
  · decide
  · rw [List.concat_eq_append, csum_snoc]; omega
theorem csum_take (s : ByteArray) (k : Nat) (h : k < s.size) : csum (s.data.toList.take (k + 1)) = (41 * csum (s.data.toList.take k) + (s[k].toNat : Int) + 1) % 999979 := by
  rw [take_snoc s k h, csum_snoc]

set_option maxHeartbeats 400000 in
theorem l1Sum_ct (s : ByteArray) (w : World) (hs : s.size ≤ 1073741824) :
    Calls Tryd.prog 89 #[.string s] w fun e w' => e = .returned (.int .i64 (csum s.data.toList)) ∧ w' = w := by
  go_enter Tryd.func89, Tryd.ntmps89
  go_wp2
  go_loop [3, 4] (fun n i => ∃ k : Nat, k ≤ s.size ∧ i = .int .i64 k ∧ ∃ h : Int, 0 ≤ h ∧ h < 999979 ∧ n = .int .i64 h ∧ h = csum (s.data.toList.take k)) (fun _ i => s.size - (intOf i).toNat)
  case atStart => exact ⟨0, Nat.zero_le _, rfl, 7, by omega, by omega, rfl, rfl⟩
  case round =>
    obtain ⟨k, hk, rfl, h, h0, h1, rfl, he⟩ := hrel
    have HE : Hid (h = csum (s.data.toList.take k)) := he
    clear he
    by_cases hlt : k < s.size
    · have hb : (s[k].toNat : Int) < 256 := by have := s[k].toNat_lt; omega
      go_wp2
      go_round
      case rel => exact ⟨k + 1, by omega, by go_num, _, by omega, by omega, rfl, by rw [csum_take s k hlt, ← HE.out]⟩
      case measure => simp [intOf]; omega
    · go_wp2
      go_ret
      exact ⟨ret_int (by rw [HE.out, List.take_of_length_le (by simp; omega)]), rfl⟩

set_option maxHeartbeats 400000 in
theorem checksum_ct (s : ByteArray) (w : World) (hs : s.size ≤ 1073741824) :
    Calls Tryd.prog 43 #[.string s] w fun e w' => e = .returned (.int .i64 (csum s.data.toList)) ∧ w' = w := by
  go_enter Tryd.func43, Tryd.ntmps43
  go_wp2
  go_loop [3, 7] (fun n i => ∃ k : Nat, k ≤ s.size ∧ i = .int .i64 k ∧ ∃ h : Int, 0 ≤ h ∧ h < 999979 ∧ n = .int .i64 h ∧ h = csum (s.data.toList.take k)) (fun _ i => s.size - (intOf i).toNat)
  case atStart => exact ⟨0, Nat.zero_le _, rfl, 7, by omega, by omega, rfl, rfl⟩
  case round =>
    obtain ⟨k, hk, rfl, h, h0, h1, rfl, he⟩ := hrel
    have HE : Hid (h = csum (s.data.toList.take k)) := he
    clear he
    by_cases hlt : k < s.size
    · have hb : (s[k].toNat : Int) < 256 := by have := s[k].toNat_lt; omega
      go_wp2
      go_round
      case rel => exact ⟨k + 1, by omega, by go_num, _, by omega, by omega, rfl, by rw [csum_take s k hlt, ← HE.out]⟩
      case measure => simp [intOf]; omega
    · go_wp2
      go_ret
      exact ⟨ret_int (by rw [HE.out, List.take_of_length_le (by simp; omega)]), rfl⟩

end Go.Proofs.YtlkadcmicjencaaDoor
