/- ParseInt: the numeral of a number is read again. Pure. -/
import Derived.Test.YtjbiphaeinbgbaaDoorLFormatInt
import Derived.Lib.AtoiTie
namespace Go.Proofs.YtjbiphaeinbgbaaDoor
open Go

theorem size_list (s : ByteArray) : s.data.toList.length = s.size := Array.length_toList
theorem digitVal_of {d : Nat} (h : d < 10) : Lib.digitVal (UInt8.ofNat (48 + d)) = some d := by
  have : ∀ x : Fin 10, Lib.digitVal (UInt8.ofNat (48 + x.val)) = some x.val := by decide +kernel
  exact this ⟨d, h⟩
theorem decFrom_append : ∀ (l r : List UInt8) (acc m : Nat), Lib.decFrom acc l = some m → Lib.decFrom acc (l ++ r) = Lib.decFrom m r
  | [], r, acc, m, h => by simp only [Lib.decFrom, Option.some.injEq] at h; subst h; rfl
  | b :: l, r, acc, m, h => by
    simp only [List.cons_append, Lib.decFrom] at h ⊢
    cases hd : Lib.digitVal b with
    | none => rw [hd] at h; cases h
    | some d => rw [hd] at h; exact decFrom_append l r _ m h
theorem decFrom_dec (n : Nat) : Lib.decFrom 0 (Lib.decDigits n) = some n := by
  induction n using Nat.strongRecOn with
  | ind n ih =>
    rw [Lib.decDigits]
    split
    · rename_i h; simp only [Lib.decFrom, digitVal_of h, Nat.zero_mul, Nat.zero_add]
    · rw [decFrom_append _ _ _ _ (ih (n / 10) (by omega))]
      simp only [Lib.decFrom, digitVal_of (show n % 10 < 10 by omega), Option.some.injEq]
      omega
theorem decDigits_ne (n : Nat) : Lib.decDigits n ≠ [] := by
  rw [Lib.decDigits]; split <;> simp
theorem decDigits_cons (n : Nat) : ∃ b r, Lib.decDigits n = b :: r ∧ 48 ≤ b.toNat ∧ b.toNat ≤ 57 := by
  cases h : Lib.decDigits n with
  | nil => exact absurd h (decDigits_ne n)
  | cons b r =>
    obtain ⟨d, hd⟩ := Lib.digit_of_decFrom _ _ _ (decFrom_dec n) 0 b (by rw [h]; rfl)
    have := Lib.digitVal_eq hd
    exact ⟨b, r, rfl, this.1, this.2.1⟩
theorem decNat_dec (n : Nat) : Lib.decNat (Lib.decDigits n) = some n := by
  unfold Lib.decNat
  rw [if_neg (by obtain ⟨b, r, h, _⟩ := decDigits_cons n; rw [h]; simp), decFrom_dec]
theorem atoi_itoa (n : Int) : Lib.atoi (Lib.itoa n) = some n := by
  unfold Lib.itoa
  split
  · rename_i h
    simp only [Lib.atoi, beq_self_eq_true, if_true, decNat_dec, Option.map_some, Option.some.injEq]
    omega
  · rename_i h
    obtain ⟨b, r, hb, h0, h1⟩ := decDigits_cons n.toNat
    have hd := decNat_dec n.toNat
    rw [hb] at hd ⊢
    have e45 : (b == 45) = false := by
      rw [beq_eq_false_iff_ne]; intro e; subst e; exact absurd h0 (by decide)
    have e43 : (b == 43) = false := by
      rw [beq_eq_false_iff_ne]; intro e; subst e; exact absurd h0 (by decide)
    simp only [Lib.atoi, e45, e43, Bool.false_eq_true, if_false, hd, Option.map_some, Option.some.injEq]
    omega
theorem decZ_list (n : Int) : (decZ n).data.toList = Lib.itoa n := by rw [← itoa_decZ]
theorem itoa_length (n : Int) (h0 : -999999 ≤ n) (h1 : n ≤ 999999) : (Lib.itoa n).length ≤ 7 := by
  unfold Lib.itoa
  have key : ∀ k : Nat, k < 1000000 → (Lib.decDigits k).length ≤ 6 := fun k hk => by
    have := decS_size_le 6 k (by omega) (by omega)
    simpa [decS, ByteArray.size] using this
  split
  · have := key n.natAbs (by omega); simp; omega
  · have := key n.toNat (by omega); omega
theorem atoiAll_dec {s : ByteArray} {n : Int} (h0 : -999999 ≤ n) (h1 : n ≤ 999999) (h : decZ n = s) : Lib.atoiAll s.data.toList = .ok n := by
  have hl := itoa_length n h0 h1
  rw [← h, decZ_list, Lib.atoiAll_short _ (by omega), atoi_itoa]
  rfl

/-- The reference's answer. -/
def rdN (s : ByteArray) : Option Int :=
  match Lib.atoi s.data.toList with
  | some n => if -999999 ≤ n ∧ n ≤ 999999 ∧ decZ n = s then some n else none
  | none => none
theorem rdN_dec {s : ByteArray} {n : Int} (h0 : -999999 ≤ n) (h1 : n ≤ 999999) (h : decZ n = s) : rdN s = some n := by
  have e : Lib.atoi s.data.toList = some n := by rw [← h, decZ_list, atoi_itoa]
  unfold rdN
  rw [e]
  exact if_pos ⟨h0, h1, h⟩
theorem rdN_some {s : ByteArray} {n : Int} (h : rdN s = some n) : -999999 ≤ n ∧ n ≤ 999999 ∧ decZ n = s := by
  unfold rdN at h
  split at h
  · split at h
    · rename_i hc; obtain rfl := Option.some.inj h; exact hc
    · cases h
  · cases h
theorem rdN_none {s : ByteArray} (h : ∀ n : Int, -999999 ≤ n → n ≤ 999999 → decZ n = s → False) : rdN s = none := by
  cases hr : rdN s with
  | none => rfl
  | some n => obtain ⟨a, b, c⟩ := rdN_some hr; exact (h n a b c).elim

/-- The magnitude's text, and the sign. -/
def negP (s : ByteArray) : Bool := decide (1 < s.size ∧ s.data.toList[0]? = some 45)
def magP (s : ByteArray) : ByteArray := if negP s then s.extract 1 s.size else s
def valP (s : ByteArray) (m : Nat) : Int := if negP s then -(m : Int) else m
theorem decS_list (n : Nat) : (decS n).data.toList = Lib.decDigits n := rfl
theorem parts_dec {s : ByteArray} {n : Int} (h : decZ n = s) : magP s = decS n.natAbs ∧ n = valP s n.natAbs := by
  subst h
  have hl := decZ_list n
  have hz : (decZ n).size = (Lib.itoa n).length := by rw [← hl, size_list]
  unfold Lib.itoa at hl hz
  by_cases hn : n < 0
  · rw [if_pos hn] at hl hz
    have hp : 0 < (Lib.decDigits n.natAbs).length := List.length_pos_iff.2 (decDigits_ne _)
    have hneg : negP (decZ n) = true := by
      unfold negP; rw [hl, hz]; simp; omega
    unfold magP valP
    rw [hneg, if_pos rfl, if_pos rfl]
    refine ⟨?_, by omega⟩
    apply ByteArray.ext
    apply Array.toList_inj.1
    rw [ByteArray.data_extract, Array.toList_extract, List.extract_eq_take_drop, hl, hz, decS_list]
    simp
  · rw [if_neg hn] at hl hz
    obtain ⟨b, r, hb, h0, h1⟩ := decDigits_cons n.toNat
    have hneg : negP (decZ n) = false := by
      unfold negP; rw [hl, hb]; simp only [List.getElem?_cons_zero, Option.some.injEq, decide_eq_false_iff_not]
      rintro ⟨_, e⟩; subst e; exact absurd h0 (by decide)
    unfold magP valP
    rw [hneg, if_neg (by simp), if_neg (by simp)]
    refine ⟨?_, by omega⟩
    unfold decZ
    rw [if_neg hn]
    congr 1
    omega
theorem mag_dec {s : ByteArray} {n : Int} (h0 : -999999 ≤ n) (h1 : n ≤ 999999) (h : decZ n = s) : 1 ≤ (magP s).size ∧ (magP s).size ≤ 6 ∧ Lib.decFrom 0 (magP s).data.toList = some n.natAbs := by
  obtain ⟨h2, _⟩ := parts_dec h
  rw [h2, decS_list, decFrom_dec]
  refine ⟨?_, decS_size_le 6 _ (by omega) (by omega), rfl⟩
  rw [← size_list, decS_list]
  exact List.length_pos_iff.2 (decDigits_ne n.natAbs)
/-- Every way out of the reference's reading. -/
theorem rd_size {s : ByteArray} (h : ¬ (1 ≤ (magP s).size ∧ (magP s).size ≤ 6)) : rdN s = none :=
  rdN_none fun n a b c => h ⟨(mag_dec a b c).1, (mag_dec a b c).2.1⟩
theorem rd_digit {s : ByteArray} (k : Nat) (b : UInt8) (hb : (magP s).data.toList[k]? = some b) (h : Lib.digitVal b = none) : rdN s = none :=
  rdN_none fun n h0 h1 c => by
    obtain ⟨d, hd⟩ := Lib.digit_of_decFrom _ _ _ (mag_dec h0 h1 c).2.2 k b hb
    rw [h] at hd; cases hd
theorem rd_other {s : ByteArray} {m : Nat} (hm : Lib.decFrom 0 (magP s).data.toList = some m) (h : decZ (valP s m) ≠ s) : rdN s = none :=
  rdN_none fun n h0 h1 c => by
    have e := (mag_dec h0 h1 c).2.2
    rw [hm] at e
    obtain rfl := Option.some.inj e
    exact h (by rw [← (parts_dec c).2]; exact c)
theorem mag_lt {t : ByteArray} {m : Nat} (hz : t.size ≤ 6) (hm : Lib.decFrom 0 t.data.toList = some m) : m ≤ 999999 := by
  have h := Lib.decFrom_lt _ _ _ hm
  have hl : t.data.toList.length ≤ 6 := by rw [size_list]; exact hz
  have hp : 10 ^ t.data.toList.length ≤ 10 ^ 6 := Nat.pow_le_pow_right (by decide) hl
  omega
theorem rd_same {s : ByteArray} {m : Nat} (hz : (magP s).size ≤ 6) (hm : Lib.decFrom 0 (magP s).data.toList = some m) (h : decZ (valP s m) = s) : rdN s = some (valP s m) := by
  have := mag_lt hz hm
  refine rdN_dec ?_ ?_ h <;> unfold valP <;> split <;> omega
theorem rd_atoi {s : ByteArray} (h : ∀ n, Lib.atoiAll s.data.toList ≠ .ok n) : rdN s = none :=
  rdN_none fun n h0 h1 c => h n (atoiAll_dec h0 h1 c)
theorem rd_ok {s : ByteArray} {v : Int} (hv : Lib.atoiAll s.data.toList = .ok v) (h : ¬ (-999999 ≤ v ∧ v ≤ 999999 ∧ decZ v = s)) : rdN s = none :=
  rdN_none fun n h0 h1 c => by
    have e := atoiAll_dec h0 h1 c
    rw [hv] at e
    injection e with e
    subst e
    exact h ⟨h0, h1, c⟩
def rdV (s : ByteArray) : Int := (rdN s).getD 0
def rdB (s : ByteArray) : Bool := (rdN s).isSome
theorem rdB_size {s : ByteArray} (h : rdB s = true) : s.size ≤ 7 := by
  unfold rdB at h
  cases hr : rdN s with
  | none => rw [hr] at h; cases h
  | some n =>
    obtain ⟨a, b, c⟩ := rdN_some hr
    have := itoa_length n a b
    rw [← decZ_list, c, size_list] at this
    exact this
theorem rd_none {s : ByteArray} (h : rdN s = none) : rdV s = 0 ∧ rdB s = false := by unfold rdV rdB; rw [h]; exact ⟨rfl, rfl⟩
theorem rd_some {s : ByteArray} {n : Int} (h : rdN s = some n) : rdV s = n ∧ rdB s = true := by unfold rdV rdB; rw [h]; exact ⟨rfl, rfl⟩
end Go.Proofs.YtjbiphaeinbgbaaDoor
