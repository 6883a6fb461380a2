/- Merges. -/
import Derived.Test.YtlkadcmicjencaaMerge
namespace Go.Proofs.Ytlkadcmicjencaa
open Go Go.RowKit Go.BigFrame

def mrows (k : Nat) : List (List Value) := intRows (List.replicate k (-1))
theorem mrows_len (k : Nat) : (mrows k).length = k := by simp [mrows, intRows]
theorem mrows_snoc (k : Nat) : mrows (k + 1) = mrows k ++ [[.int .i64 (-1)]] := by unfold mrows; rw [List.replicate_succ']; simp [intRows]
def merB (n : Int) : Bool := decide (0 ≤ n ∧ n ≤ 4)
def merBig (n : Nat) : Big := ⟨1, [], List.replicate n (-1), 0, [], []⟩
def merP (n : Int) : Big := if merB n = true then merBig n.toNat else noBig
theorem mer_own {w : World} {B : Nat} {v : Value} {n : Nat} (hn : n ≤ 4) (h : RowOwn B w v 1 (mrows n)) : BigOwn B w (.agg #[.int .i64 1, .slice none 0 0, v, .int .i64 0, .slice none 0 0, .slice none 0 0]) (merBig n) (blks v) :=
  ⟨_, _, _, _, [], rfl, nds_none _ _, ⟨h, by simp [merBig]; omega, by intro x hx; simp only [merBig] at hx; rw [List.eq_of_mem_replicate hx]; unfold I64; omega⟩, strs_none _ _, wrs_none _ _, by unfold I64; simp only [merBig]; omega, by unfold I64; simp only [merBig]; omega, by simp [blks]⟩

set_option maxRecDepth 100000 in
set_option maxHeartbeats 2000000 in
theorem specMergeOf_ct (n : Int) (w : World) : Calls Try.prog 14 #[.int .i64 n] w (GivesBig (merP n) (merB n) w) := by
  by_cases ho : 0 ≤ n ∧ n ≤ 4
  · have HB : Hid (merB n = true) := decide_eq_true ho
    have HP : Hid (merP n = merBig n.toNat) := by unfold merP; rw [HB.out]; rfl
    rw [HP.out, HB.out]
    clear HP HB
    obtain ⟨n, rfl⟩ := Int.eq_ofNat_of_zero_le ho.1
    simp only [Int.toNat_natCast] at ho ⊢
    go_enter Try.func14, Try.ntmps14
    go_wp2_with (go_at_call 21; refine (l1In_ct _ _ _ true (by simp; omega) _).mono ?_; rintro e w2 ⟨rfl, rfl⟩)
    obtain ⟨W0, hW0⟩ : ∃ W, W = (w.alloc (.cells #[.int .i64 0, .slice none 0 0, .slice none 0 0, .int .i64 0, .slice none 0 0, .slice none 0 0] 27)).alloc (.cells #[.int .i64 1, .slice none 0 0, .slice none 0 0, .int .i64 0, .slice none 0 0, .slice none 0 0] 27) := ⟨_, rfl⟩
    rw [← hW0]
    have BA : Box W0 w.heap.size #[.int .i64 0, .slice none 0 0, .slice none 0 0, .int .i64 0, .slice none 0 0, .slice none 0 0] 27 := by rw [hW0]; exact (Box.new _ _ _).alloc _
    have BC : Box W0 (w.heap.size + 1) #[.int .i64 1, .slice none 0 0, .slice none 0 0, .int .i64 0, .slice none 0 0, .slice none 0 0] 27 := by rw [hW0]; exact Box.new' _ _ _ (by simp)
    have hb : Below w.heap.size w W0 := by rw [hW0]; exact bthen (balloc _ _) (balloc _ _)
    have hs : w.heap.size + 2 ≤ W0.heap.size := by rw [hW0]; simp
    clear hW0
    go_loopw [5] (fun i W => ∃ k : Nat, k ≤ n ∧ i = .int .i64 k ∧ Below w.heap.size w W ∧ w.heap.size + 2 ≤ W.heap.size ∧ Box W w.heap.size #[.int .i64 0, .slice none 0 0, .slice none 0 0, .int .i64 0, .slice none 0 0, .slice none 0 0] 27 ∧ ∃ vs, Box W (w.heap.size + 1) #[.int .i64 1, .slice none 0 0, vs, .int .i64 0, .slice none 0 0, .slice none 0 0] 27 ∧ Acc W (w.heap.size + 2) 3 1 vs (mrows k)) (fun i _ => n - (intOf i).toNat)
    case atStart => exact ⟨0, Nat.zero_le _, rfl, hb, hs, BA, _, BC, Acc.nil _ _ _ _⟩
    case round =>
      clear BA BC hb hs W0
      obtain ⟨k, hk, rfl, hb, hs, BA, vs, BC, acc⟩ := hrel
      obtain ⟨av, cv, rfl⟩ := acc.shape
      rw [mrows_len] at *
      by_cases hkl : k < n
      · have HT : Hid (mrows (k + 1) = mrows k ++ [[.int .i64 (-1)]]) := mrows_snoc k
        have HL : Hid ((mrows k).length = k) := mrows_len k
        have q := BC.cell
        have f := BC.free
        go_wp2_with (at_builtin; refine app1 _ rfl (.tmp 17) (.tmp 18) 23 rfl (w.heap.size + 2) 3 1 8 (.int .i64 0) Try.underlying23 inf_int rfl (by decide) (by decide) _ (mrows k) rfl acc [.int .i64 (-1)] _ rfl (by simp [Value.oneCell']) rfl (by rw [HL.out]; omega) hs ?_)
        intro g c2 w2 acc2 hg
        rw [HL.out, ← HT.out] at acc2
        rw [HL.out]
        have hb2 := grown_below hb acc hg (by omega) (by omega)
        have hs2 : w.heap.size + 2 ≤ w2.heap.size := Nat.le_trans hs hg.size
        have BA2 := BA.keep (grown_block acc hg (by omega) BA.lt)
        have BC2 := BC.keep (grown_block acc hg (by omega) BC.lt)
        clear acc hg BA BC q f hb hs
        have q := BC2.cell
        have f := BC2.free
        go_wp2_with fail
        go_roundw
        case rel => exact ⟨k + 1, by omega, by go_num, hb2.setCell (by simp) _, by simpa [size_setCell] using hs2, BA2.other _ (by simp), _, BC2.set 2 _, acc2.keep (fun j hj _ => heap_setCell_other _ _ _ _ (by simp; omega))⟩
        case measure => simp [intOf]; omega
      · have e : n = k := by omega
        subst e
        have q := BC.cell
        have q0 := BA.cell
        have f0 := BA.free
        go_wp2_with fail
        refine bodyPost_ret (v := .tuple #[.agg #[.int .i64 1, .slice none 0 0, .slice av n cv, .int .i64 0, .slice none 0 0, .slice none 0 0], .bool true]) (by simp [results, Try.results14, go_sem, q0]) rfl ⟨_, _, rfl, mer_own (by omega) ((acc.own.keep ?_).mono (Nat.le_add_right _ _)), ?_, ?_⟩
        · intro g hg; have := (acc.own.lt g hg); repeat rw [heap_setCell_other _ _ _ _ (by simp <;> omega)]
        · cases av <;> cases n <;> simp [blks]
        · iterate 6 refine Below.setCell ?_ (by simp) _
          exact hb
  · have HB : Hid (merB n = false) := decide_eq_false ho
    have HP : Hid (merP n = noBig) := by unfold merP; rw [HB.out]; rfl
    rw [HP.out, HB.out]
    clear HP HB
    go_enter Try.func14, Try.ntmps14
    go_wp2_with (go_at_call 21; refine (l1In_ct _ _ _ false (by simp; omega) _).mono ?_; rintro e w2 ⟨rfl, rfl⟩)
    exact bodyPost_ret (v := .tuple #[.agg #[.int .i64 0, .slice none 0 0, .slice none 0 0, .int .i64 0, .slice none 0 0, .slice none 0 0], .bool false]) (by simp [results, Try.results14, go_sem]) rfl ⟨_, _, rfl, noBig_own _ _, by simp, bthen (balloc _ _) (balloc _ _)⟩

set_option maxRecDepth 100000 in
set_option maxHeartbeats 2000000 in
theorem implMergeOf_ct (n : Int) (w : World) : Calls Try.prog 15 #[.int .i64 n] w (GivesBig (merP n) (merB n) w) := by
  by_cases ho : 0 ≤ n ∧ n ≤ 4
  · have HB : Hid (merB n = true) := decide_eq_true ho
    have HP : Hid (merP n = merBig n.toNat) := by unfold merP; rw [HB.out]; rfl
    rw [HP.out, HB.out]
    clear HP HB
    obtain ⟨n, rfl⟩ := Int.eq_ofNat_of_zero_le ho.1
    simp only [Int.toNat_natCast] at ho ⊢
    go_enter Try.func15, Try.ntmps15
    go_wp2_with (go_at_call 22; refine (within_ct _ _ _ true (by simp; omega) _).mono ?_; rintro e w2 ⟨rfl, rfl⟩)
    obtain ⟨W0, hW0⟩ : ∃ W, W = (w.alloc (.cells #[.int .i64 0, .slice none 0 0, .slice none 0 0, .int .i64 0, .slice none 0 0, .slice none 0 0] 27)).alloc (.cells #[.int .i64 (-1)] 3) := ⟨_, rfl⟩
    rw [← hW0]
    have BA : Box W0 w.heap.size #[.int .i64 0, .slice none 0 0, .slice none 0 0, .int .i64 0, .slice none 0 0, .slice none 0 0] 27 := by rw [hW0]; exact (Box.new _ _ _).alloc _
    have BC : Box W0 (w.heap.size + 1) #[.int .i64 (-1)] 3 := by rw [hW0]; exact Box.new' _ _ _ (by simp)
    have hb : Below w.heap.size w W0 := by rw [hW0]; exact bthen (balloc _ _) (balloc _ _)
    have hlt : w.heap.size < W0.heap.size := BA.lt
    clear hW0
    refine (repeat_ct n (by omega) (w.heap.size + 1) W0 (BC.cell 0)).mono ?_
    rintro e w3 ⟨u, rfl, own, b3⟩
    obtain ⟨au, cu, rfl⟩ : ∃ a c, u = .slice a n c := by have := own.shape; simpa [intRows] using this
    have BA := BA.below b3
    have hb := bthen hb b3
    have hln := own.lt
    have q := BA.cell
    have f := BA.free
    clear b3 BC
    go_wp2_with fail
    refine bodyPost_ret (v := .tuple #[.agg #[.int .i64 1, .slice none 0 0, .slice au n cu, .int .i64 0, .slice none 0 0, .slice none 0 0], .bool true]) (by simp [results, Try.results15, go_sem, q]) rfl ⟨_, _, rfl, mer_own (by omega) ((own.keep ?_).mono (by omega)), ?_, ?_⟩
    · intro g hg; have := hln g hg; repeat rw [heap_setCell_other _ _ _ _ (by simp <;> omega)]
    · cases au <;> cases n <;> simp [blks]
    · iterate 6 refine Below.setCell ?_ (by simp) _
      exact hb
  · have HB : Hid (merB n = false) := decide_eq_false ho
    have HP : Hid (merP n = noBig) := by unfold merP; rw [HB.out]; rfl
    rw [HP.out, HB.out]
    clear HP HB
    go_enter Try.func15, Try.ntmps15
    go_wp2_with (go_at_call 22; refine (within_ct _ _ _ false (by simp; omega) _).mono ?_; rintro e w2 ⟨rfl, rfl⟩)
    exact bodyPost_ret (v := .tuple #[.agg #[.int .i64 0, .slice none 0 0, .slice none 0 0, .int .i64 0, .slice none 0 0, .slice none 0 0], .bool false]) (by simp [results, Try.results15, go_sem]) rfl ⟨_, _, rfl, noBig_own _ _, by simp, balloc _ _⟩
end Go.Proofs.Ytlkadcmicjencaa
