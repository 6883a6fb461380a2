/- ParseInt: Go's side, and the law. -/
import Derived.Test.YtjbiphaeinbgbaaDoorLParseA
import Derived.Lib.AtoiErrMem
namespace Go.Proofs.YtjbiphaeinbgbaaDoor
open Go Go.RowKit Go.BigFrame

theorem var_below {P : Program} {w w' : World} {name : String} {cs : Array Value} (h : w.var? P name = some cs) (hb : Below w.heap.size w w') : w'.var? P name = some cs := by
  unfold World.var? at h ⊢
  cases hg : P.globalNamed name with
  | none => rw [hg] at h; simp at h
  | some g =>
    rw [hg] at h
    simp only [Option.bind_eq_bind, Option.bind_some] at h ⊢
    cases hc : w.heap[g]? with
    | none => rw [hc] at h; simp at h
    | some o =>
      have hl := (Array.getElem?_eq_some_iff.1 hc).1
      rw [hb.block g hl, hc]
      rw [hc] at h
      exact h
/-- What readDec answers. -/
def raN (s : ByteArray) : Option Int :=
  match Lib.atoiAll s.data.toList with
  | .ok n => if decZ n = s then some n else none
  | _ => none
def raV (s : ByteArray) : Int := (raN s).getD 0
def raB (s : ByteArray) : Bool := (raN s).isSome
theorem ra_none {s : ByteArray} (h : raN s = none) : raV s = 0 ∧ raB s = false := by unfold raV raB; rw [h]; exact ⟨rfl, rfl⟩
theorem ra_some {s : ByteArray} {n : Int} (h : raN s = some n) : raV s = n ∧ raB s = true := by unfold raV raB; rw [h]; exact ⟨rfl, rfl⟩
theorem raN_of_ok {s : ByteArray} {n : Int} (h : Lib.atoiAll s.data.toList = .ok n) : raN s = if decZ n = s then some n else none := by unfold raN; rw [h]
theorem raN_of_not {s : ByteArray} (h : ∀ n, Lib.atoiAll s.data.toList ≠ .ok n) : raN s = none := by
  unfold raN
  split
  · rename_i n hn; exact absurd hn (h n)
  · rfl
theorem raN_spec {s : ByteArray} {n : Int} (h : raN s = some n) : Lib.atoiAll s.data.toList = .ok n ∧ decZ n = s := by
  unfold raN at h
  split at h
  · rename_i m hm
    split at h
    · rename_i hd; obtain rfl := Option.some.inj h; exact ⟨hm, hd⟩
    · cases h
  · cases h
theorem rd_of_ra_none {s : ByteArray} (h : raN s = none) : rdN s = none :=
  rdN_none fun n h0 h1 c => by
    rw [raN_of_ok (atoiAll_dec h0 h1 c), if_pos c] at h; cases h
theorem rd_of_ra_in {s : ByteArray} {n : Int} (h : raN s = some n) (h0 : -999999 ≤ n) (h1 : n ≤ 999999) : rdN s = some n := rdN_dec h0 h1 (raN_spec h).2
theorem rd_of_ra_out {s : ByteArray} {n : Int} (h : raN s = some n) (h0 : ¬ (-999999 ≤ n ∧ n ≤ 999999)) : rdN s = none :=
  rd_ok (raN_spec h).1 fun hc => h0 ⟨hc.1, hc.2.1⟩
set_option maxHeartbeats 1000000 in
theorem decAny_ct (n : Int) (h0 : -9223372036854775808 ≤ n) (h1 : n ≤ 9223372036854775807) (w : World) (htab : Lib.TabIs Tryd.prog w "internal/strconv.uint64pow10" .u64 Lib.pow10Tab) :
    Calls Tryd.prog 12 #[.int .i64 n] w fun e w' => e = .returned (.string (decZ n)) ∧ Below w.heap.size w w' := by
  have hc := Tryd.strconv_Itoa n h0 h1 w htab
  rw [itoa_decZ] at hc
  have HC := Lib.hid hc
  clear hc htab
  go_enter Tryd.func12, Tryd.ntmps12
  go_wp2_with fail
  refine HC.out.mono ?_
  rintro e w2 ⟨rfl, k, os, rfl⟩
  go_wp2_with fail
  go_ret
  exact ⟨rfl, Lib.below_grow _ _ (Nat.le_refl _) _ _⟩
set_option maxRecDepth 100000 in
set_option maxHeartbeats 2000000 in
theorem readDec_ct (s : ByteArray) (w : World) (hs : s.size ≤ 1073741824) (htab : Lib.TabIs Tryd.prog w "internal/strconv.uint64pow10" .u64 Lib.pow10Tab)
    (ts : TypeId) (ps : Value) (hS : w.var? Tryd.prog "strconv.ErrSyntax" = some #[.iface ts ps]) (tr : TypeId) (pr : Value) (hR : w.var? Tryd.prog "strconv.ErrRange" = some #[.iface tr pr]) :
    Calls Tryd.prog 14 #[.string s] w fun e w' => e = .returned (.tuple #[.int .i64 (raV s), .bool (raB s)]) ∧ Below w.heap.size w w' := by
  have HTB := Lib.hid htab
  clear htab
  rcases ha : Lib.atoiAll s.data.toList with n | _ | _
  rotate_left
  ·
    have HN := Lib.hid (ra_none (raN_of_not (s := s) (by intro n; rw [ha]; intro h; cases h)))
    have HC := Lib.hid (Tryd.strconv_Atoi_syntax_var s (by omega) ha ts ps w hS)
    clear hS hR ha
    go_enter Tryd.func14, Tryd.ntmps14
    go_wp2_with fail
    refine HC.out.mono ?_
    rintro e w2 ⟨N, rfl, _, _, hb2⟩
    go_wp2_with fail
    go_ret2
    exact ⟨by rw [HN.out.1, HN.out.2]; rfl, hb2⟩
  ·
    have HN := Lib.hid (ra_none (raN_of_not (s := s) (by intro n; rw [ha]; intro h; cases h)))
    have HC := Lib.hid (Tryd.strconv_Atoi_range_var s (by omega) ha tr pr w hR)
    clear hS hR ha
    go_enter Tryd.func14, Tryd.ntmps14
    go_wp2_with fail
    refine HC.out.mono ?_
    rintro e w2 ⟨N, rfl, _, _, hb2⟩
    go_wp2_with fail
    go_ret2
    exact ⟨by rw [HN.out.1, HN.out.2]; rfl, hb2⟩
  ·
    obtain ⟨n0, n1⟩ := Lib.atoiAll_bounds ha
    have hR0 := raN_of_ok ha
    have HC := Lib.hid (Tryd.strconv_Atoi_ok s (by omega) n ha w)
    have HD := Lib.hid (fun W h => decAny_ct n n0 n1 W h)
    clear hS hR ha
    by_cases hd : decZ n = s
    · rw [if_pos hd] at hR0
      have HN := Lib.hid (ra_some hR0)
      have hbq : ((decZ n).toList == s.toList) = true := by rw [hd]; simp
      clear hd hR0
      go_enter Tryd.func14, Tryd.ntmps14
      go_wp2_with fail
      refine HC.out.mono ?_
      rintro e w2 ⟨rfl, hw⟩
      have hb2 : Below w.heap.size w w2 := by
        rcases hw with rfl | ⟨t, rfl⟩
        · exact Below.refl _ _
        · exact Lib.bytesWorld_below _ _ _
      clear hw
      go_wp2_with fail
      refine (HD.out _ (TabIs.below HTB.out hb2)).mono ?_
      rintro e w3 ⟨rfl, hb3⟩
      go_wp2_with fail
      go_ret2
      exact ⟨by rw [HN.out.1, HN.out.2]; rfl, bthen hb2 hb3⟩
    · rw [if_neg hd] at hR0
      have HN := Lib.hid (ra_none hR0)
      have hbq : ((decZ n).toList == s.toList) = false := by rw [beq_eq_false_iff_ne]; intro h; exact hd (bytes_ext h)
      clear hd hR0
      go_enter Tryd.func14, Tryd.ntmps14
      go_wp2_with fail
      refine HC.out.mono ?_
      rintro e w2 ⟨rfl, hw⟩
      have hb2 : Below w.heap.size w w2 := by
        rcases hw with rfl | ⟨t, rfl⟩
        · exact Below.refl _ _
        · exact Lib.bytesWorld_below _ _ _
      clear hw
      go_wp2_with fail
      refine (HD.out _ (TabIs.below HTB.out hb2)).mono ?_
      rintro e w3 ⟨rfl, hb3⟩
      go_wp2_with fail
      go_ret2
      exact ⟨by rw [HN.out.1, HN.out.2]; rfl, bthen hb2 hb3⟩
set_option maxHeartbeats 2000000 in
theorem implParseInt_ct (s : ByteArray) (w : World) (hs : s.size ≤ 1073741824) (htab : Lib.TabIs Tryd.prog w "internal/strconv.uint64pow10" .u64 Lib.pow10Tab)
    (ts : TypeId) (ps : Value) (hS : w.var? Tryd.prog "strconv.ErrSyntax" = some #[.iface ts ps]) (tr : TypeId) (pr : Value) (hR : w.var? Tryd.prog "strconv.ErrRange" = some #[.iface tr pr]) :
    Calls Tryd.prog 8 #[.string s] w fun e w' => e = .returned (.tuple #[.int .i64 (rdV s), .bool (rdB s)]) ∧ Below w.heap.size w w' := by
  have hc := readDec_ct s w hs htab ts ps hS tr pr hR
  clear htab hS hR
  cases hr : raN s with
  | none =>
    rw [(ra_none hr).1, (ra_none hr).2] at hc
    have HC := Lib.hid hc
    have HN := Lib.hid (rd_none (rd_of_ra_none hr))
    clear hc hr
    go_enter Tryd.func8, Tryd.ntmps8
    go_wp2_with fail
    refine HC.out.mono ?_
    rintro e w2 ⟨rfl, hb2⟩
    go_wp2_with fail
    go_ret2
    exact ⟨by rw [HN.out.1, HN.out.2]; rfl, hb2⟩
  | some n =>
    rw [(ra_some hr).1, (ra_some hr).2] at hc
    have HC := Lib.hid hc
    obtain ⟨n0, n1⟩ := Lib.atoiAll_bounds (raN_spec hr).1
    by_cases hn : -999999 ≤ n ∧ n ≤ 999999
    · have HN := Lib.hid (rd_some (rd_of_ra_in hr hn.1 hn.2))
      clear hc hr
      go_enter Tryd.func8, Tryd.ntmps8
      go_wp2_with fail
      refine HC.out.mono ?_
      rintro e w2 ⟨rfl, hb2⟩
      go_wp2_with fail
      refine (within_ct _ _ _ true (by constructor <;> intro _ <;> first | exact hn | rfl) _).mono ?_
      rintro e w3 ⟨rfl, rfl⟩
      go_wp2_with fail
      go_ret2
      exact ⟨by rw [HN.out.1, HN.out.2]; rfl, hb2⟩
    · have HN := Lib.hid (rd_none (rd_of_ra_out hr hn))
      clear hc hr
      go_enter Tryd.func8, Tryd.ntmps8
      go_wp2_with fail
      refine HC.out.mono ?_
      rintro e w2 ⟨rfl, hb2⟩
      go_wp2_with fail
      refine (within_ct _ _ _ false (by constructor <;> intro h; cases h; exact (hn h).elim) _).mono ?_
      rintro e w3 ⟨rfl, rfl⟩
      go_wp2_with fail
      go_ret2
      exact ⟨by rw [HN.out.1, HN.out.2]; rfl, hb2⟩
set_option maxHeartbeats 1000000 in
theorem specParseInt_ct (s : ByteArray) (w : World) (hs : s.size ≤ 1073741824) :
    Calls Tryd.prog 7 #[.string s] w fun e w' => e = .returned (.tuple #[.int .i64 (rdV s), .bool (rdB s)]) ∧ Below w.heap.size w w' := by
  have HC := Lib.hid (l1Read_ct s w hs)
  go_enter Tryd.func7, Tryd.ntmps7
  go_wp2_with fail
  refine HC.out.mono ?_
  rintro e w2 ⟨rfl, hb2⟩
  go_wp2_with fail
  go_ret2
  exact ⟨rfl, hb2⟩
set_option maxHeartbeats 2000000 in
theorem lawParseInt (s : ByteArray) (w : World) (htab : Lib.TabIs Tryd.prog w "internal/strconv.uint64pow10" .u64 Lib.pow10Tab)
    (ts : TypeId) (ps : Value) (hS : w.var? Tryd.prog "strconv.ErrSyntax" = some #[.iface ts ps]) (tr : TypeId) (pr : Value) (hR : w.var? Tryd.prog "strconv.ErrRange" = some #[.iface tr pr])
    (hmax : s.size ≤ 9223372036854775807) :
    Calls Tryd.prog 4 #[.string s] w fun e w' => e = .returned (.bool true) ∧ Below w.heap.size w w' := by
  by_cases hz : s.size ≤ 1048576
  case neg =>
    clear htab hS hR
    go_enter Tryd.func4, Tryd.ntmps4
    go_wp2_with fail
    go_ret
    exact ⟨rfl, Below.refl _ _⟩
  obtain ⟨r, ok, hss, hi⟩ : ∃ (r : Int) (ok : Bool), (∀ W, Calls Tryd.prog 7 #[.string s] W fun e w' => e = .returned (.tuple #[.int .i64 r, .bool ok]) ∧ Below W.heap.size W w') ∧
      (∀ W, Below w.heap.size w W → Calls Tryd.prog 8 #[.string s] W fun e w' => e = .returned (.tuple #[.int .i64 r, .bool ok]) ∧ Below W.heap.size W w') :=
    ⟨rdV s, rdB s, fun W => specParseInt_ct s W (by omega), fun W hb => implParseInt_ct s W (by omega) (TabIs.below htab hb) ts ps (var_below hS hb) tr pr (var_below hR hb)⟩
  have HS := Lib.hid hss
  have HI := Lib.hid hi
  clear hss hi htab hS hR
  go_enter Tryd.func4, Tryd.ntmps4
  go_wp2_with fail
  refine (HS.out _).mono ?_
  rintro e w1 ⟨rfl, b1⟩
  go_wp2_with fail
  refine (HI.out _ b1).mono ?_
  rintro e w2 ⟨rfl, b2⟩
  go_wp2_with fail
  go_ret
  exact ⟨rfl, bthen b1 b2⟩
end Go.Proofs.YtjbiphaeinbgbaaDoor
