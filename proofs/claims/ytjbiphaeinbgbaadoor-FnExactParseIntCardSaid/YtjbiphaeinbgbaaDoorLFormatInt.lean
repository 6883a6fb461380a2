/- Numbers in decimal, signed; FormatInt: the walks and the law. -/
import Derived.Test.YtjbiphaeinbgbaaDoorItoa
namespace Go.Proofs.YtjbiphaeinbgbaaDoor
open Go Go.RowKit Go.BigFrame

def decZ (n : Int) : ByteArray := if n < 0 then ⟨#[45]⟩ ++ decS n.natAbs else decS n.toNat
theorem itoa_decZ (n : Int) : (⟨(Lib.itoa n).toArray⟩ : ByteArray) = decZ n := by
  unfold Lib.itoa decZ decS
  split
  · apply ByteArray.ext; simp [ByteArray.data_append]
  · rfl
set_option maxHeartbeats 2000000 in
theorem l1NumZ_ct (n : Int) (h0 : -999999 ≤ n) (h1 : n ≤ 999999) (w : World) : Calls Tryd.prog 10 #[.int .i64 n] w fun e w' => e = .returned (.string (decZ n)) ∧ Below w.heap.size w w' := by
  by_cases hn : n < 0
  · have HZ : Hid (decZ n = ⟨#[45]⟩ ++ decS n.natAbs) := if_pos hn
    have hsz := decS_size_le 9 n.natAbs (by omega) (by omega)
    have e : ((n.natAbs : Nat) : Int) = -n := by omega
    have hc := l1Num_ct n.natAbs (by omega) w
    rw [e] at hc
    have HC := Lib.hid hc
    clear hc
    go_enter Tryd.func10, Tryd.ntmps10
    go_wp2_with fail
    refine HC.out.mono ?_
    rintro e w2 ⟨rfl, hb2⟩
    go_wp2_with fail
    go_ret
    exact ⟨by rw [HZ.out]; rfl, hb2⟩
  · obtain ⟨k, rfl⟩ : ∃ k : Nat, n = k := ⟨n.toNat, by omega⟩
    have e : decZ (k : Int) = decS k := by unfold decZ; rw [if_neg hn, Int.toNat_natCast]
    rw [e]
    exact l1Num_ct k (by omega) w
set_option maxHeartbeats 1000000 in
theorem decZ_ct (n : Int) (h0 : -999999 ≤ n) (h1 : n ≤ 999999) (w : World) (htab : Lib.TabIs Tryd.prog w "internal/strconv.uint64pow10" .u64 Lib.pow10Tab) :
    Calls Tryd.prog 12 #[.int .i64 n] w fun e w' => e = .returned (.string (decZ n)) ∧ Below w.heap.size w w' := by
  have hc := Tryd.strconv_Itoa n (by omega) (by omega) w htab
  rw [itoa_decZ] at hc
  have HC := Lib.hid hc
  clear hc htab
  go_enter Tryd.func12, Tryd.ntmps12
  go_wp2_with fail
  refine HC.out.mono ?_
  rintro e w2 ⟨rfl, k, os, rfl⟩
  go_wp2_with fail
  go_ret
  exact ⟨rfl, Lib.below_grow _ _ (Nat.le_refl _) _ _⟩
def fmtB (n : Int) : Bool := decide (-999999 ≤ n ∧ n ≤ 999999)
def fmtR (n : Int) : ByteArray := if fmtB n then decZ n else ⟨#[]⟩
set_option maxHeartbeats 1000000 in
theorem specFormatInt_ct (n : Int) (w : World) : Calls Tryd.prog 5 #[.int .i64 n] w fun e w' => e = .returned (.tuple #[.string (fmtR n), .bool (fmtB n)]) ∧ Below w.heap.size w w' := by
  cases hb : fmtB n with
  | false =>
    have HR : Hid (fmtR n = ⟨#[]⟩) := by show _ = _; unfold fmtR; rw [hb]; rfl
    rw [HR.out]
    go_enter Tryd.func5, Tryd.ntmps5
    go_wp2_with fail
    refine (l1In_ct _ _ _ false (by rw [← hb]; unfold fmtB; rw [decide_eq_true_iff]) _).mono ?_
    rintro e w2 ⟨rfl, rfl⟩
    go_wp2_with fail
    go_ret2
    exact ⟨rfl, Below.refl _ _⟩
  | true =>
    have HR : Hid (fmtR n = decZ n) := by show _ = _; unfold fmtR; rw [hb]; rfl
    have hn : -999999 ≤ n ∧ n ≤ 999999 := of_decide_eq_true hb
    rw [HR.out]
    go_enter Tryd.func5, Tryd.ntmps5
    go_wp2_with fail
    refine (l1In_ct _ _ _ true (by constructor <;> intro _ <;> first | exact hn | rfl) _).mono ?_
    rintro e w2 ⟨rfl, rfl⟩
    go_wp2_with fail
    refine (l1NumZ_ct n hn.1 hn.2 _).mono ?_
    rintro e w3 ⟨rfl, hb3⟩
    go_wp2_with fail
    go_ret2
    exact ⟨rfl, hb3⟩
set_option maxHeartbeats 1000000 in
theorem implFormatInt_ct (n : Int) (w : World) (htab : Lib.TabIs Tryd.prog w "internal/strconv.uint64pow10" .u64 Lib.pow10Tab) : Calls Tryd.prog 6 #[.int .i64 n] w fun e w' => e = .returned (.tuple #[.string (fmtR n), .bool (fmtB n)]) ∧ Below w.heap.size w w' := by
  have HTB := Lib.hid htab
  clear htab
  cases hb : fmtB n with
  | false =>
    have HR : Hid (fmtR n = ⟨#[]⟩) := by show _ = _; unfold fmtR; rw [hb]; rfl
    rw [HR.out]
    go_enter Tryd.func6, Tryd.ntmps6
    go_wp2_with fail
    refine (within_ct _ _ _ false (by rw [← hb]; unfold fmtB; rw [decide_eq_true_iff]) _).mono ?_
    rintro e w2 ⟨rfl, rfl⟩
    go_wp2_with fail
    go_ret2
    exact ⟨rfl, Below.refl _ _⟩
  | true =>
    have HR : Hid (fmtR n = decZ n) := by show _ = _; unfold fmtR; rw [hb]; rfl
    have hn : -999999 ≤ n ∧ n ≤ 999999 := of_decide_eq_true hb
    rw [HR.out]
    go_enter Tryd.func6, Tryd.ntmps6
    go_wp2_with fail
    refine (within_ct _ _ _ true (by constructor <;> intro _ <;> first | exact hn | rfl) _).mono ?_
    rintro e w2 ⟨rfl, rfl⟩
    go_wp2_with fail
    refine (decZ_ct n hn.1 hn.2 _ HTB.out).mono ?_
    rintro e w3 ⟨rfl, hb3⟩
    go_wp2_with fail
    go_ret2
    exact ⟨rfl, hb3⟩
set_option maxHeartbeats 2000000 in
theorem lawFormatInt (n : Int) (w : World) (htab : Lib.TabIs Tryd.prog w "internal/strconv.uint64pow10" .u64 Lib.pow10Tab) : Calls Tryd.prog 3 #[.int .i64 n] w fun e w' => e = .returned (.bool true) ∧ Below w.heap.size w w' := by
  obtain ⟨r, ok, hss, hi⟩ : ∃ (r : ByteArray) (ok : Bool), (∀ W, Calls Tryd.prog 5 #[.int .i64 n] W fun e w' => e = .returned (.tuple #[.string r, .bool ok]) ∧ Below W.heap.size W w') ∧ (∀ W, Lib.TabIs Tryd.prog W "internal/strconv.uint64pow10" .u64 Lib.pow10Tab → Calls Tryd.prog 6 #[.int .i64 n] W fun e w' => e = .returned (.tuple #[.string r, .bool ok]) ∧ Below W.heap.size W w') :=
    ⟨fmtR n, fmtB n, fun W => specFormatInt_ct n W, fun W ht => implFormatInt_ct n W ht⟩
  have HS := Lib.hid hss
  have HI := Lib.hid hi
  have HT := Lib.hid htab
  clear hss hi htab
  go_enter Tryd.func3, Tryd.ntmps3
  go_wp2_with fail
  refine (HS.out _).mono ?_
  rintro e w1 ⟨rfl, b1⟩
  go_wp2_with fail
  refine (HI.out _ (TabIs.below HT.out b1)).mono ?_
  rintro e w2 ⟨rfl, b2⟩
  go_wp2_with fail
  go_ret
  exact ⟨rfl, bthen b1 b2⟩
end Go.Proofs.YtjbiphaeinbgbaaDoor
