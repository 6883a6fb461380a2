/- Numbers in decimal, signed. -/
import Derived.Test.YthgelhglfbgagaaGreatDoorItoa
namespace Go.Proofs.YthgelhglfbgagaaGreatDoor
open Go Go.RowKit Go.BigFrame

def decZ (n : Int) : ByteArray := if n < 0 then ⟨#[45]⟩ ++ decS n.natAbs else decS n.toNat
theorem itoa_decZ (n : Int) : (⟨(Lib.itoa n).toArray⟩ : ByteArray) = decZ n := by
  unfold Lib.itoa decZ decS
  split
  · apply ByteArray.ext; simp [ByteArray.data_append]
  · rfl
set_option maxHeartbeats 2000000 in
theorem l1NumZ_ct (n : Int) (h0 : -999999 ≤ n) (h1 : n ≤ 999999) (w : World) : Calls Tryz.prog 72 #[.int .i64 n] w fun e w' => e = .returned (.string (decZ n)) ∧ Below w.heap.size w w' := by
  by_cases hn : n < 0
  · have HZ : Hid (decZ n = ⟨#[45]⟩ ++ decS n.natAbs) := if_pos hn
    have hsz := decS_size_le 9 n.natAbs (by omega) (by omega)
    have e : ((n.natAbs : Nat) : Int) = -n := by omega
    have hc := l1Num_ct n.natAbs (by omega) w
    rw [e] at hc
    have HC := Lib.hid hc
    clear hc
    go_enter Tryz.func72, Tryz.ntmps72
    go_wp2_with fail
    refine HC.out.mono ?_
    rintro e w2 ⟨rfl, hb2⟩
    go_wp2_with fail
    go_ret
    exact ⟨by rw [HZ.out]; rfl, hb2⟩
  · obtain ⟨k, rfl⟩ : ∃ k : Nat, n = k := ⟨n.toNat, by omega⟩
    have e : decZ (k : Int) = decS k := by unfold decZ; rw [if_neg hn, Int.toNat_natCast]
    rw [e]
    exact l1Num_ct k (by omega) w
set_option maxHeartbeats 1000000 in
theorem decZ_ct (n : Int) (h0 : -999999 ≤ n) (h1 : n ≤ 999999) (w : World) (htab : Lib.TabIs Tryz.prog w "internal/strconv.uint64pow10" .u64 Lib.pow10Tab) :
    Calls Tryz.prog 87 #[.int .i64 n] w fun e w' => e = .returned (.string (decZ n)) ∧ Below w.heap.size w w' := by
  have hc := Tryz.strconv_Itoa n (by omega) (by omega) w htab
  rw [itoa_decZ] at hc
  have HC := Lib.hid hc
  clear hc htab
  go_enter Tryz.func87, Tryz.ntmps87
  go_wp2_with fail
  refine HC.out.mono ?_
  rintro e w2 ⟨rfl, k, os, rfl⟩
  go_wp2_with fail
  go_ret
  exact ⟨rfl, Lib.below_grow _ _ (Nat.le_refl _) _ _⟩
end Go.Proofs.YthgelhglfbgagaaGreatDoor
