/- Numbers in decimal: the reference's and Go's. -/
import Derived.Test.YtjbiphaeinbgbaaDoorSmall
import Derived.Test.YtjbiphaeinbgbaaDoorShelf
import Derived.Test.YtjbiphaeinbgbaaDoorExt
import Derived.Lib.LaidTab
import Derived.Lib.ItoaNum
import Derived.IntWalk
import Derived.Lib.Hide
import Derived.Lib.AppendIntMem
namespace Go.Proofs.YtjbiphaeinbgbaaDoor
open Go Go.RowKit Go.BigFrame

theorem TabIs.below {P : Program} {w w' : World} {name : String} {k : IntKind} {zs : List Int} (h : Lib.TabIs P w name k zs) (hb : Below w.heap.size w w') : Lib.TabIs P w' name k zs := by
  unfold Lib.TabIs World.var? at h ⊢
  cases hg : P.globalNamed name with
  | none => rw [hg] at h; simp at h
  | some g =>
    rw [hg] at h
    simp only [Option.bind_eq_bind, Option.bind_some] at h ⊢
    cases hc : w.heap[g]? with
    | none => rw [hc] at h; simp at h
    | some o =>
      have hl := (Array.getElem?_eq_some_iff.1 hc).1
      rw [hb.block g hl]
      exact h
def decS (n : Nat) : ByteArray := ⟨(Lib.decDigits n).toArray⟩
theorem decS_size_le : ∀ (f n : Nat), n < 10 ^ f → 1 ≤ f → (decS n).size ≤ f
  | 0, n, _, h => by omega
  | f + 1, n, hn, _ => by
    unfold decS
    rw [Lib.decDigits]
    split
    · simp [ByteArray.size]
    · have h1 : n / 10 < 10 ^ f := by rw [Nat.pow_succ] at hn; omega
      have h2 : 1 ≤ f := by
        rcases Nat.eq_zero_or_pos f with rfl | h
        · simp at h1; omega
        · exact h
      have := decS_size_le f (n / 10) h1 h2
      unfold decS at this
      simp only [ByteArray.size, List.size_toArray, List.length_append, List.length_singleton] at this ⊢
      omega
def digs : ByteArray := ⟨#[48, 49, 50, 51, 52, 53, 54, 55, 56, 57]⟩
theorem dig_extract (d : Nat) (h : d < 10) : digs.extract d (d + 1) = ⟨#[UInt8.ofNat (48 + d)]⟩ := by
  have : ∀ x : Fin 10, digs.extract x.val (x.val + 1) = ⟨#[UInt8.ofNat (48 + x.val)]⟩ := by decide +kernel
  exact this ⟨d, h⟩
theorem decS_small {n : Nat} (h : n < 10) : decS n = digs.extract n (n + 1) := by
  rw [dig_extract n h]; unfold decS; rw [Lib.decDigits, dif_pos h]
theorem decS_big {n : Nat} (h : ¬ n < 10) : decS n = decS (n / 10) ++ digs.extract (n % 10) (n % 10 + 1) := by
  rw [dig_extract _ (by omega)]
  unfold decS
  conv => lhs; rw [Lib.decDigits, dif_neg h]
  apply ByteArray.ext
  simp [ByteArray.data_append]

set_option maxHeartbeats 2000000 in
theorem l1Num_ct (n : Nat) : n < 1000000000 → ∀ w : World, Calls Tryd.prog 10 #[.int .i64 n] w fun e w' => e = .returned (.string (decS n)) ∧ Below w.heap.size w w' := by
  induction n using Nat.strongRecOn with
  | ind n ih =>
    intro hn w
    by_cases h10 : n < 10
    · have HS : Hid (decS n = digs.extract n (n + 1)) := decS_small h10
      clear ih
      go_enter Tryd.func10, Tryd.ntmps10
      go_wp2_with fail
      go_ret
      exact ⟨by rw [HS.out]; rfl, Below.refl _ _⟩
    · have HS : Hid (decS n = decS (n / 10) ++ digs.extract (n % 10) (n % 10 + 1)) := decS_big h10
      have hsz := decS_size_le 9 (n / 10) (by omega) (by omega)
      have IH := Lib.hid (ih (n / 10) (by omega) (by omega))
      have q1 : (n : Int).tdiv 10 = ((n / 10 : Nat) : Int) := by rw [Int.tdiv_eq_ediv_of_nonneg (by omega)]; omega
      have q2 : (n : Int).tmod 10 = ((n % 10 : Nat) : Int) := by rw [Int.tmod_eq_emod_of_nonneg (by omega)]; omega
      have hd0 : n % 10 < 10 := by omega
      obtain ⟨d, hd⟩ : ∃ d, d = n % 10 := ⟨_, rfl⟩
      obtain ⟨m, hm⟩ : ∃ m, m = n / 10 := ⟨_, rfl⟩
      rw [← hd] at q2 hd0 HS
      rw [← hm] at q1 hsz IH HS
      have hm9 : m < 1000000000 := by omega
      have q1w : IntKind.i64.wrap (m : Int) = (m : Int) := Go.IntWalk.i64_in _ (by omega)
      have q2w : IntKind.i64.wrap (d : Int) = (d : Int) := Go.IntWalk.i64_in _ (by omega)
      have q3w : IntKind.i64.wrap ((d : Int) + 1) = (d : Int) + 1 := Go.IntWalk.i64_in _ (by omega)
      have q4 : ((d : Int) + 1).toNat = d + 1 := by omega
      have q5 : (0 : Int) ≤ (d : Int) + 1 := by omega
      have q6 : (d : Int) + 1 ≤ 10 := by omega
      clear hd hm ih
      go_enter Tryd.func10, Tryd.ntmps10
      go_wp2_with fail
      refine wp_region_gr (by kernel_rfl) (by kernel_rfl) ?_
      repeat (go_big_quiet_step ((go_at_call 10; exact Calls.gr_of (IH.out _))))
      refine wpQuiet_nil ?_
      intro w2 hb2
      go_wp2_with fail
      go_ret
      exact ⟨by rw [HS.out]; rfl, hb2⟩
set_option maxHeartbeats 1000000 in
theorem dec_ct (n : Nat) (hn : n < 1000000000) (w : World) (htab : Lib.TabIs Tryd.prog w "internal/strconv.uint64pow10" .u64 Lib.pow10Tab) :
    Calls Tryd.prog 12 #[.int .i64 n] w fun e w' => e = .returned (.string (decS n)) ∧ Below w.heap.size w w' := by
  have hc := Tryd.strconv_Itoa (n : Int) (by omega) (by omega) w htab
  have e : (⟨(Lib.itoa (n : Int)).toArray⟩ : ByteArray) = decS n := by unfold Lib.itoa decS; rw [if_neg (by omega), Int.toNat_natCast]
  rw [e] at hc
  have HC := Lib.hid hc
  clear hc e htab
  go_enter Tryd.func12, Tryd.ntmps12
  go_wp2_with fail
  refine HC.out.mono ?_
  rintro e w2 ⟨rfl, k, os, rfl⟩
  go_wp2_with fail
  go_ret
  exact ⟨rfl, Lib.below_grow _ _ (Nat.le_refl _) _ _⟩
end Go.Proofs.YtjbiphaeinbgbaaDoor
