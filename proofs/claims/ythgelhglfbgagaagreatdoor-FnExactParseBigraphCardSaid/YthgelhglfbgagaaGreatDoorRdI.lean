/- Reading a number: the program's walk. -/
import Derived.Test.YthgelhglfbgagaaGreatDoorRdS
import Derived.Test.YthgelhglfbgagaaGreatDoorReadP
import Derived.Test.YthgelhglfbgagaaGreatDoorShelf
import Derived.Lib.AtoiErrMem
namespace Go.Proofs.YthgelhglfbgagaaGreatDoor
open Go Go.RowKit Go.BigFrame

theorem var_below {P : Program} {w w' : World} {name : String} {cs : Array Value} (h : w.var? P name = some cs) (hb : Below w.heap.size w w') : w'.var? P name = some cs := by
  unfold World.var? at h ⊢
  cases hg : P.globalNamed name with
  | none => rw [hg] at h; simp at h
  | some g =>
    rw [hg] at h
    simp only [Option.bind_eq_bind, Option.bind_some] at h ⊢
    cases hc : w.heap[g]? with
    | none => rw [hc] at h; simp at h
    | some o =>
      have hl := (Array.getElem?_eq_some_iff.1 hc).1
      rw [hb.block g hl, hc]
      rw [hc] at h
      exact h
/-- What readDec answers. -/
def raN (s : ByteArray) : Option Int :=
  match Lib.atoiAll s.data.toList with
  | .ok n => if decZ n = s then some n else none
  | _ => none
def raV (s : ByteArray) : Int := (raN s).getD 0
def raB (s : ByteArray) : Bool := (raN s).isSome
theorem ra_none {s : ByteArray} (h : raN s = none) : raV s = 0 ∧ raB s = false := by unfold raV raB; rw [h]; exact ⟨rfl, rfl⟩
theorem ra_some {s : ByteArray} {n : Int} (h : raN s = some n) : raV s = n ∧ raB s = true := by unfold raV raB; rw [h]; exact ⟨rfl, rfl⟩
theorem raN_of_ok {s : ByteArray} {n : Int} (h : Lib.atoiAll s.data.toList = .ok n) : raN s = if decZ n = s then some n else none := by unfold raN; rw [h]
theorem raN_of_not {s : ByteArray} (h : ∀ n, Lib.atoiAll s.data.toList ≠ .ok n) : raN s = none := by
  unfold raN
  split
  · rename_i n hn; exact absurd hn (h n)
  · rfl
theorem raN_spec {s : ByteArray} {n : Int} (h : raN s = some n) : Lib.atoiAll s.data.toList = .ok n ∧ decZ n = s := by
  unfold raN at h
  split at h
  · rename_i m hm
    split at h
    · rename_i hd; obtain rfl := Option.some.inj h; exact ⟨hm, hd⟩
    · cases h
  · cases h
theorem raN_eq : raN = rdA := rfl
set_option maxHeartbeats 1000000 in
theorem decAny_ct (n : Int) (h0 : -9223372036854775808 ≤ n) (h1 : n ≤ 9223372036854775807) (w : World) (htab : Lib.TabIs Tryz.prog w "internal/strconv.uint64pow10" .u64 Lib.pow10Tab) :
    Calls Tryz.prog 87 #[.int .i64 n] w fun e w' => e = .returned (.string (decZ n)) ∧ Below w.heap.size w w' := by
  have hc := Tryz.strconv_Itoa n h0 h1 w htab
  rw [itoa_decZ] at hc
  have HC := Lib.hid hc
  clear hc htab
  go_enter Tryz.func87, Tryz.ntmps87
  go_wp2_with fail
  refine HC.out.mono ?_
  rintro e w2 ⟨rfl, k, os, rfl⟩
  go_wp2_with fail
  go_ret
  exact ⟨rfl, Lib.below_grow _ _ (Nat.le_refl _) _ _⟩
set_option maxRecDepth 100000 in
set_option maxHeartbeats 2000000 in
theorem readDec_ct (s : ByteArray) (w : World) (hs : s.size ≤ 1073741824) (htab : Lib.TabIs Tryz.prog w "internal/strconv.uint64pow10" .u64 Lib.pow10Tab)
    (ts : TypeId) (ps : Value) (hS : w.var? Tryz.prog "strconv.ErrSyntax" = some #[.iface ts ps]) (tr : TypeId) (pr : Value) (hR : w.var? Tryz.prog "strconv.ErrRange" = some #[.iface tr pr]) :
    Calls Tryz.prog 30 #[.string s] w fun e w' => e = .returned (.tuple #[.int .i64 (raV s), .bool (raB s)]) ∧ Below w.heap.size w w' := by
  have HTB := Lib.hid htab
  clear htab
  rcases ha : Lib.atoiAll s.data.toList with n | _ | _
  rotate_left
  ·
    have HN := Lib.hid (ra_none (raN_of_not (s := s) (by intro n; rw [ha]; intro h; cases h)))
    have HC := Lib.hid (Tryz.strconv_Atoi_syntax_var s (by omega) ha ts ps w hS)
    clear hS hR ha
    go_enter Tryz.func30, Tryz.ntmps30
    go_wp2_with fail
    refine HC.out.mono ?_
    rintro e w2 ⟨N, rfl, _, _, hb2⟩
    go_wp2_with fail
    go_ret2
    exact ⟨by rw [HN.out.1, HN.out.2]; rfl, hb2⟩
  ·
    have HN := Lib.hid (ra_none (raN_of_not (s := s) (by intro n; rw [ha]; intro h; cases h)))
    have HC := Lib.hid (Tryz.strconv_Atoi_range_var s (by omega) ha tr pr w hR)
    clear hS hR ha
    go_enter Tryz.func30, Tryz.ntmps30
    go_wp2_with fail
    refine HC.out.mono ?_
    rintro e w2 ⟨N, rfl, _, _, hb2⟩
    go_wp2_with fail
    go_ret2
    exact ⟨by rw [HN.out.1, HN.out.2]; rfl, hb2⟩
  ·
    obtain ⟨n0, n1⟩ := Lib.atoiAll_bounds ha
    have hR0 := raN_of_ok ha
    have HC := Lib.hid (Tryz.strconv_Atoi_ok s (by omega) n ha w)
    have HD := Lib.hid (fun W h => decAny_ct n n0 n1 W h)
    clear hS hR ha
    by_cases hd : decZ n = s
    · rw [if_pos hd] at hR0
      have HN := Lib.hid (ra_some hR0)
      have hbq : ((decZ n).toList == s.toList) = true := by rw [hd]; simp
      clear hd hR0
      go_enter Tryz.func30, Tryz.ntmps30
      go_wp2_with fail
      refine HC.out.mono ?_
      rintro e w2 ⟨rfl, hw⟩
      have hb2 : Below w.heap.size w w2 := by
        rcases hw with rfl | ⟨t, rfl⟩
        · exact Below.refl _ _
        · exact Lib.bytesWorld_below _ _ _
      clear hw
      go_wp2_with fail
      refine (HD.out _ (TabIs.below HTB.out hb2)).mono ?_
      rintro e w3 ⟨rfl, hb3⟩
      go_wp2_with fail
      go_ret2
      exact ⟨by rw [HN.out.1, HN.out.2]; rfl, bthen hb2 hb3⟩
    · rw [if_neg hd] at hR0
      have HN := Lib.hid (ra_none hR0)
      have hbq : ((decZ n).toList == s.toList) = false := by rw [beq_eq_false_iff_ne]; intro h; exact hd (bytes_extR h)
      clear hd hR0
      go_enter Tryz.func30, Tryz.ntmps30
      go_wp2_with fail
      refine HC.out.mono ?_
      rintro e w2 ⟨rfl, hw⟩
      have hb2 : Below w.heap.size w w2 := by
        rcases hw with rfl | ⟨t, rfl⟩
        · exact Below.refl _ _
        · exact Lib.bytesWorld_below _ _ _
      clear hw
      go_wp2_with fail
      refine (HD.out _ (TabIs.below HTB.out hb2)).mono ?_
      rintro e w3 ⟨rfl, hb3⟩
      go_wp2_with fail
      go_ret2
      exact ⟨by rw [HN.out.1, HN.out.2]; rfl, bthen hb2 hb3⟩
end Go.Proofs.YthgelhglfbgagaaGreatDoor
