/- Splitting at a byte: the walks. -/
import Derived.Test.YthgelhglfbgagaaGreatDoorSplP
import Derived.Test.YthgelhglfbgagaaGreatDoorG1
import Derived.Test.YthgelhglfbgagaaGreatDoorG2
import Derived.IntWalk
namespace Go.Proofs.YthgelhglfbgagaaGreatDoor
open Go Go.RowKit Go.BigFrame

set_option maxRecDepth 100000 in
set_option maxHeartbeats 1000000 in
theorem l1Split_ct (s : ByteArray) (b : UInt8) (w : World) (hsz : s.size ≤ 1100000) : Calls Tryz.prog 70 #[.string s, .int .u8 (b.toNat : Int)] w fun e w' => ∃ g c, e = .returned (.slice (some ⟨g, 0, none⟩) (splitP s b).length c) ∧ Acc w' w.heap.size 9 1 (.slice (some ⟨g, 0, none⟩) (splitP s b).length c) (strRows (splitP s b)) ∧ Below w.heap.size w w' := by
  go_enter Tryz.func70, Tryz.ntmps70
  go_wp2_with fail
  obtain ⟨W0, hW0⟩ : ∃ W, W = w.alloc (.cells #[] 9) := ⟨_, rfl⟩
  rw [← hW0]
  have acc : Acc W0 w.heap.size 9 1 (.slice (some ⟨w.heap.size, 0, none⟩) 0 0) (strRows (splitSt s b 0).1) := by rw [hW0]; exact Acc.lit0 _ _ _ _ (Nat.le_refl _)
  have hb : Below w.heap.size w W0 := by rw [hW0]; exact balloc _ _
  have hs : w.heap.size ≤ W0.heap.size := hb.size
  clear hW0
  go_loopw [5, 6, 7] (fun o f i W => ∃ k : Nat, k ≤ s.size ∧ i = .int .i64 k ∧ f = .int .i64 (splitSt s b k).2 ∧ Below w.heap.size w W ∧ w.heap.size ≤ W.heap.size ∧ Acc W w.heap.size 9 1 o (strRows (splitSt s b k).1)) (fun _ _ i _ => s.size - (intOf i).toNat)
  case atStart => exact ⟨0, Nat.zero_le _, rfl, rfl, hb, hs, acc⟩
  case round =>
    clear hb hs acc W0
    obtain ⟨k, hk, rfl, rfl, hb, hs, acc⟩ := hrel
    obtain ⟨av, cv, rfl⟩ := acc.shape
    have hlen := splitSt_len s b k
    have hfr := splitSt_le s b k
    obtain ⟨L, hL⟩ : ∃ L, L = (splitSt s b k).1.length := ⟨_, rfl⟩
    obtain ⟨F, hF⟩ : ∃ F, F = (splitSt s b k).2 := ⟨_, rfl⟩
    have HL : Hid ((strRows (splitSt s b k).1).length = L) := by show _ = _; rw [hL]; simp [strRows]
    rw [HL.out] at acc ⊢
    rw [← hL] at hlen
    rw [← hF] at hfr ⊢
    by_cases hlt : k < s.size
    · by_cases he : s[k] = b
      · have he' : (s[k].toNat : Int) = (b.toNat : Int) := by rw [he]
        have HT : Hid (splitSt s b (k + 1) = ((splitSt s b k).1 ++ [s.extract F k], k + 1)) := by show _ = _; rw [splitSt_eq hlt he, hF]
        clear hL hF he
        go_wp2_with (at_builtin; refine app1 _ rfl (.tmp 20) (.tmp 25) 26 rfl w.heap.size 9 1 16 (.string ⟨#[]⟩) Tryz.underlying26 inf_str rfl (by decide) (by decide) _ (strRows (splitSt s b k).1) (by rfl) acc [.string (s.extract F k)] _ rfl (by simp [Value.oneCell']) (by rfl) (by rw [HL.out]; omega) hs ?_)
        intro g c2 w2 acc2 hg
        rw [HL.out] at acc2 ⊢
        have hb2 := grown_below hb acc hg (Nat.le_refl _) hs
        have hs2 : w.heap.size ≤ w2.heap.size := Nat.le_trans hs hg.size
        clear acc hg hb hs
        go_wp2_with fail
        go_roundw
        case rel => exact ⟨k + 1, by omega, by go_num, by rw [HT.out]; go_num, hb2, hs2, by rw [HT.out]; simpa [strRows] using acc2⟩
        case measure => simp [intOf]; omega
      · have he' : ¬ (s[k].toNat : Int) = (b.toNat : Int) := fun h => he (UInt8.toNat_inj.1 (by exact_mod_cast h))
        have HT : Hid (splitSt s b (k + 1) = splitSt s b k) := splitSt_ne hlt he
        have HF : Hid (F = (splitSt s b k).2) := hF
        clear hL hF he
        go_wp2_with fail
        go_roundw
        case rel => exact ⟨k + 1, by omega, by go_num, by rw [HT.out, HF.out], hb, hs, by rw [HT.out]; exact acc⟩
        case measure => simp [intOf]; omega
    · have e : s.size = k := by omega
      have HT : Hid (splitP s b = (splitSt s b k).1 ++ [s.extract F k]) := by show _ = _; rw [hF, ← e]; rfl
      have HK : Hid ((splitP s b).length = L + 1) := by show _ = _; rw [HT.out, List.length_append, hL]; rfl
      clear hL hF
      go_wp2_with (at_builtin; refine app1 _ rfl (.tmp 29) (.tmp 33) 26 rfl w.heap.size 9 1 16 (.string ⟨#[]⟩) Tryz.underlying26 inf_str rfl (by decide) (by decide) _ (strRows (splitSt s b k).1) (by rfl) acc [.string (s.extract F k)] _ rfl (by simp [Value.oneCell']) (by rfl) (by rw [HL.out]; omega) hs ?_)
      intro g c2 w2 acc2 hg
      rw [HL.out] at acc2 ⊢
      have hb2 := grown_below hb acc hg (Nat.le_refl _) hs
      clear acc hg hb hs
      go_wp2_with fail
      go_ret
      exact ⟨g, c2, by rw [HK.out]; rfl, by rw [HK.out, HT.out]; simpa [strRows] using acc2, hb2⟩

set_option maxRecDepth 100000 in
set_option maxHeartbeats 1000000 in
theorem splitAt_ct (s : ByteArray) (b : UInt8) (w : World) (hsz : s.size ≤ 1100000) : Calls Tryz.prog 33 #[.string s, .int .u8 (b.toNat : Int)] w fun e w' => ∃ g c, e = .returned (.slice (some ⟨g, 0, none⟩) (splitP s b).length c) ∧ Acc w' w.heap.size 9 1 (.slice (some ⟨g, 0, none⟩) (splitP s b).length c) (strRows (splitP s b)) ∧ Below w.heap.size w w' := by
  go_enter Tryz.func33, Tryz.ntmps33
  go_wp2_with fail
  obtain ⟨W0, hW0⟩ : ∃ W, W = w.alloc (.cells #[] 9) := ⟨_, rfl⟩
  rw [← hW0]
  have acc : Acc W0 w.heap.size 9 1 (.slice (some ⟨w.heap.size, 0, none⟩) 0 0) (strRows (splitSt s b 0).1) := by rw [hW0]; exact Acc.lit0 _ _ _ _ (Nat.le_refl _)
  have hb : Below w.heap.size w W0 := by rw [hW0]; exact balloc _ _
  have hs : w.heap.size ≤ W0.heap.size := hb.size
  clear hW0
  go_loopw [5, 6, 11] (fun o f i W => ∃ k : Nat, k ≤ s.size ∧ i = .int .i64 k ∧ f = .int .i64 (splitSt s b k).2 ∧ Below w.heap.size w W ∧ w.heap.size ≤ W.heap.size ∧ Acc W w.heap.size 9 1 o (strRows (splitSt s b k).1)) (fun _ _ i _ => s.size - (intOf i).toNat)
  case atStart => exact ⟨0, Nat.zero_le _, rfl, rfl, hb, hs, acc⟩
  case round =>
    clear hb hs acc W0
    obtain ⟨k, hk, rfl, rfl, hb, hs, acc⟩ := hrel
    obtain ⟨av, cv, rfl⟩ := acc.shape
    have hlen := splitSt_len s b k
    have hfr := splitSt_le s b k
    obtain ⟨L, hL⟩ : ∃ L, L = (splitSt s b k).1.length := ⟨_, rfl⟩
    obtain ⟨F, hF⟩ : ∃ F, F = (splitSt s b k).2 := ⟨_, rfl⟩
    have HL : Hid ((strRows (splitSt s b k).1).length = L) := by show _ = _; rw [hL]; simp [strRows]
    rw [HL.out] at acc ⊢
    rw [← hL] at hlen
    rw [← hF] at hfr ⊢
    by_cases hlt : k < s.size
    · by_cases he : s[k] = b
      · have he' : (s[k].toNat : Int) = (b.toNat : Int) := by rw [he]
        have HT : Hid (splitSt s b (k + 1) = ((splitSt s b k).1 ++ [s.extract F k], k + 1)) := by show _ = _; rw [splitSt_eq hlt he, hF]
        clear hL hF he
        go_wp2_with (at_builtin; refine app1 _ rfl (.tmp 19) (.tmp 24) 26 rfl w.heap.size 9 1 16 (.string ⟨#[]⟩) Tryz.underlying26 inf_str rfl (by decide) (by decide) _ (strRows (splitSt s b k).1) (by rfl) acc [.string (s.extract F k)] _ rfl (by simp [Value.oneCell']) (by rfl) (by rw [HL.out]; omega) hs ?_)
        intro g c2 w2 acc2 hg
        rw [HL.out] at acc2 ⊢
        have hb2 := grown_below hb acc hg (Nat.le_refl _) hs
        have hs2 : w.heap.size ≤ w2.heap.size := Nat.le_trans hs hg.size
        clear acc hg hb hs
        go_wp2_with fail
        go_roundw
        case rel => exact ⟨k + 1, by omega, by go_num, by rw [HT.out]; go_num, hb2, hs2, by rw [HT.out]; simpa [strRows] using acc2⟩
        case measure => simp [intOf]; omega
      · have he' : ¬ (s[k].toNat : Int) = (b.toNat : Int) := fun h => he (UInt8.toNat_inj.1 (by exact_mod_cast h))
        have HT : Hid (splitSt s b (k + 1) = splitSt s b k) := splitSt_ne hlt he
        have HF : Hid (F = (splitSt s b k).2) := hF
        clear hL hF he
        go_wp2_with fail
        go_roundw
        case rel => exact ⟨k + 1, by omega, by go_num, by rw [HT.out, HF.out], hb, hs, by rw [HT.out]; exact acc⟩
        case measure => simp [intOf]; omega
    · have e : s.size = k := by omega
      have HT : Hid (splitP s b = (splitSt s b k).1 ++ [s.extract F k]) := by show _ = _; rw [hF, ← e]; rfl
      have HK : Hid ((splitP s b).length = L + 1) := by show _ = _; rw [HT.out, List.length_append, hL]; rfl
      clear hL hF
      go_wp2_with (at_builtin; refine app1 _ rfl (.tmp 29) (.tmp 33) 26 rfl w.heap.size 9 1 16 (.string ⟨#[]⟩) Tryz.underlying26 inf_str rfl (by decide) (by decide) _ (strRows (splitSt s b k).1) (by rfl) acc [.string (s.extract F k)] _ rfl (by simp [Value.oneCell']) (by rfl) (by rw [HL.out]; omega) hs ?_)
      intro g c2 w2 acc2 hg
      rw [HL.out] at acc2 ⊢
      have hb2 := grown_below hb acc hg (Nat.le_refl _) hs
      clear acc hg hb hs
      go_wp2_with fail
      go_ret
      exact ⟨g, c2, by rw [HK.out]; rfl, by rw [HK.out, HT.out]; simpa [strRows] using acc2, hb2⟩

end Go.Proofs.YthgelhglfbgagaaGreatDoor
