/- Splitting a string at a byte. -/
import Derived.Test.YtlkadcmicjencaaDoorApp
import Derived.Test.YtlkadcmicjencaaDoorTypes
namespace Go.Proofs.YtlkadcmicjencaaDoor
open Go Go.RowKit Go.BigFrame

def splitSt (s : ByteArray) (b : UInt8) : Nat → List ByteArray × Nat
  | 0 => ([], 0)
  | k + 1 => if s.data.toList[k]? = some b then ((splitSt s b k).1 ++ [s.extract (splitSt s b k).2 k], k + 1) else splitSt s b k
def splitP (s : ByteArray) (b : UInt8) : List ByteArray := (splitSt s b s.size).1 ++ [s.extract (splitSt s b s.size).2 s.size]
theorem get_byte {s : ByteArray} {k : Nat} (h : k < s.size) : s.data.toList[k]? = some s[k] := by
  rw [Array.getElem?_toList, Array.getElem?_eq_getElem h]; rfl
theorem splitSt_eq {s : ByteArray} {b : UInt8} {k : Nat} (h : k < s.size) (he : s[k] = b) : splitSt s b (k + 1) = ((splitSt s b k).1 ++ [s.extract (splitSt s b k).2 k], k + 1) := by
  simp only [splitSt]; rw [if_pos (by rw [get_byte h, he])]
theorem splitSt_ne {s : ByteArray} {b : UInt8} {k : Nat} (h : k < s.size) (he : ¬ s[k] = b) : splitSt s b (k + 1) = splitSt s b k := by
  simp only [splitSt]; rw [if_neg (by rw [get_byte h]; simpa using he)]
theorem splitSt_le (s : ByteArray) (b : UInt8) : ∀ k, (splitSt s b k).2 ≤ k
  | 0 => Nat.le_refl _
  | k + 1 => by simp only [splitSt]; split; exact Nat.le_refl _; exact Nat.le_succ_of_le (splitSt_le s b k)
theorem splitSt_len (s : ByteArray) (b : UInt8) : ∀ k, (splitSt s b k).1.length ≤ k
  | 0 => Nat.le_refl _
  | k + 1 => by have := splitSt_len s b k; simp only [splitSt]; split <;> simp <;> omega
theorem splitSt_size (s : ByteArray) (b : UInt8) : ∀ k, ∀ x ∈ (splitSt s b k).1, x.size ≤ s.size
  | 0 => fun x h => by cases h
  | k + 1 => by
    intro x hx
    simp only [splitSt] at hx
    split at hx
    · rcases List.mem_append.1 hx with h | h
      · exact splitSt_size s b k x h
      · rw [List.mem_singleton.1 h]; simp [ByteArray.size_extract]; omega
    · exact splitSt_size s b k x hx
theorem splitP_length (s : ByteArray) (b : UInt8) : (splitP s b).length ≤ s.size + 1 := by
  have := splitSt_len s b s.size
  simp [splitP]; omega
theorem splitP_size (s : ByteArray) (b : UInt8) : ∀ x ∈ splitP s b, x.size ≤ s.size := by
  intro x hx
  rcases List.mem_append.1 hx with h | h
  · exact splitSt_size s b _ x h
  · rw [List.mem_singleton.1 h]; simp [ByteArray.size_extract]

set_option maxRecDepth 100000 in
set_option maxHeartbeats 1000000 in
theorem l1Split_ct (s : ByteArray) (b : UInt8) (w : World) (hsz : s.size ≤ 4000) : Calls Tryd.prog 52 #[.string s, .int .u8 (b.toNat : Int)] w fun e w' => ∃ v, e = .returned v ∧ StrsOwn w.heap.size w' v (splitP s b) ∧ Below w.heap.size w w' := by
  go_enter Tryd.func52, Tryd.ntmps52
  go_wp2_with fail
  obtain ⟨W0, hW0⟩ : ∃ W, W = w.alloc (.cells #[] 9) := ⟨_, rfl⟩
  rw [← hW0]
  have acc : Acc W0 w.heap.size 9 1 (.slice (some ⟨w.heap.size, 0, none⟩) 0 0) (strRows (splitSt s b 0).1) := by rw [hW0]; exact Acc.lit0 _ _ _ _ (Nat.le_refl _)
  have hb : Below w.heap.size w W0 := by rw [hW0]; exact balloc _ _
  have hs : w.heap.size ≤ W0.heap.size := hb.size
  clear hW0
  go_loopw [5, 6, 7] (fun o f i W => ∃ k : Nat, k ≤ s.size ∧ i = .int .i64 k ∧ f = .int .i64 (splitSt s b k).2 ∧ Below w.heap.size w W ∧ w.heap.size ≤ W.heap.size ∧ Acc W w.heap.size 9 1 o (strRows (splitSt s b k).1)) (fun _ _ i _ => s.size - (intOf i).toNat)
  case atStart => exact ⟨0, Nat.zero_le _, rfl, rfl, hb, hs, acc⟩
  case round =>
    clear hb hs acc W0
    obtain ⟨k, hk, rfl, rfl, hb, hs, acc⟩ := hrel
    obtain ⟨av, cv, rfl⟩ := acc.shape
    have hlen := splitSt_len s b k
    have hfr := splitSt_le s b k
    obtain ⟨L, hL⟩ : ∃ L, L = (splitSt s b k).1.length := ⟨_, rfl⟩
    obtain ⟨F, hF⟩ : ∃ F, F = (splitSt s b k).2 := ⟨_, rfl⟩
    have HL : Hid ((strRows (splitSt s b k).1).length = L) := by show _ = _; rw [hL]; simp [strRows]
    rw [HL.out] at acc ⊢
    rw [← hL] at hlen
    rw [← hF] at hfr ⊢
    by_cases hlt : k < s.size
    · by_cases he : s[k] = b
      · have he' : (s[k].toNat : Int) = (b.toNat : Int) := by rw [he]
        have HT : Hid (splitSt s b (k + 1) = ((splitSt s b k).1 ++ [s.extract F k], k + 1)) := by show _ = _; rw [splitSt_eq hlt he, hF]
        clear hL hF he
        go_wp2_with (at_builtin; refine app1 _ rfl (.tmp 20) (.tmp 25) 34 rfl w.heap.size 9 1 16 (.string ⟨#[]⟩) Tryd.underlying34 inf_str rfl (by decide) (by decide) _ (strRows (splitSt s b k).1) rfl acc [.string (s.extract F k)] _ rfl (by simp [Value.oneCell']) rfl (by rw [HL.out]; omega) hs ?_)
        intro g c2 w2 acc2 hg
        rw [HL.out] at acc2 ⊢
        have hb2 := grown_below hb acc hg (Nat.le_refl _) hs
        have hs2 : w.heap.size ≤ w2.heap.size := Nat.le_trans hs hg.size
        clear acc hg hb hs
        go_wp2_with fail
        go_roundw
        case rel => exact ⟨k + 1, by omega, by go_num, by rw [HT.out]; go_num, hb2, hs2, by rw [HT.out]; simpa [strRows] using acc2⟩
        case measure => simp [intOf]; omega
      · have he' : ¬ (s[k].toNat : Int) = (b.toNat : Int) := fun h => he (UInt8.toNat_inj.1 (by exact_mod_cast h))
        have HT : Hid (splitSt s b (k + 1) = splitSt s b k) := splitSt_ne hlt he
        have HF : Hid (F = (splitSt s b k).2) := hF
        clear hL hF he
        go_wp2_with fail
        go_roundw
        case rel => exact ⟨k + 1, by omega, by go_num, by rw [HT.out, HF.out], hb, hs, by rw [HT.out]; exact acc⟩
        case measure => simp [intOf]; omega
    · have e : s.size = k := by omega
      have HT : Hid (splitP s b = (splitSt s b k).1 ++ [s.extract F k]) := by show _ = _; rw [hF, ← e]; rfl
      have hn := splitP_length s b
      clear hL hF
      go_wp2_with (at_builtin; refine app1 _ rfl (.tmp 29) (.tmp 33) 34 rfl w.heap.size 9 1 16 (.string ⟨#[]⟩) Tryd.underlying34 inf_str rfl (by decide) (by decide) _ (strRows (splitSt s b k).1) rfl acc [.string (s.extract F k)] _ rfl (by simp [Value.oneCell']) rfl (by rw [HL.out]; omega) hs ?_)
      intro g c2 w2 acc2 hg
      rw [HL.out] at acc2 ⊢
      have hb2 := grown_below hb acc hg (Nat.le_refl _) hs
      clear acc hg hb hs
      go_wp2_with fail
      go_ret
      exact ⟨_, rfl, ⟨by rw [HT.out]; simpa [strRows] using acc2.own, by omega, fun x hx => by have := splitP_size s b x hx; omega⟩, hb2⟩


end Go.Proofs.YtlkadcmicjencaaDoor
