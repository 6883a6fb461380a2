/- The laws' marks: each writes its own numbers into what it is handed, and nowhere else; and the asking for them. -/
import Derived.Test.YthljfglibnlmkaaTypes
import Derived.Test.YthljfglibnlmkaaMarkP
namespace Go.Proofs.Ythljfglibnlmkaa
open Go Go.RowKit Go.BigFrame

set_option maxRecDepth 100000 in
set_option maxHeartbeats 1000000 in
theorem markText_ct (k : Int) (w : World) (hk : k ≤ 536870912) :
    Calls Try.prog 25 #[.int .i64 k] w fun e w' => e = .returned (.string (mt k)) ∧ Below w.heap.size w w' := by
  by_cases h0 : k ≤ 0
  · have HE : Hid (mt k = ⟨#[109, 48]⟩) := if_pos h0
    go_enter Try.func25, Try.ntmps25
    go_wp2
    go_ret
    exact ⟨by rw [HE.out]; rfl, Below.refl _ _⟩
  · obtain ⟨n, rfl⟩ : ∃ n : Nat, k = n := ⟨k.toNat, by omega⟩
    have HE : Hid (mt (n : Int) = ⟨(109 :: digsF n n).toArray⟩) := by show _ = _; unfold mt; rw [if_neg h0]; rfl
    obtain ⟨D, hD⟩ : ∃ D, D = digsF n n := ⟨_, rfl⟩
    have HD : Hid (D = digsF n n) := hD
    clear hD
    go_enter Try.func25, Try.ntmps25
    go_wp2
    go_loopw [0, 3] (fun q s wr => ∃ m : Nat, ∃ o : List UInt8, m ≤ n ∧ o.length + m ≤ n ∧ q = .int .i64 m ∧ s = .string ⟨o.toArray⟩ ∧ Hid (∃ f, m ≤ f ∧ digsF f m ++ o = D) ∧ Below w.heap.size w wr) (fun q _ _ => (intOf q).toNat)
    case atStart => exact ⟨n, [], by omega, by simp, rfl, rfl, ⟨n, by omega, by rw [HD.out]; simp⟩, Below.refl _ _⟩
    case round =>
      obtain ⟨m, o, hm, ho, rfl, rfl, HF, hb⟩ := hrel
      by_cases hm0 : 0 < m
      · have hcv := run_convert_bytes_arg (P := Try.prog) (wr.alloc (.cells #[.int .u8 (48 + (m : Int) % 10)] 5)) 42 5 Try.underlying42 Try.underlying5 wr.heap.size 0 1 1 [48 + (m : Int) % 10] rfl (by intro i hi; obtain rfl : i = 0 := (by omega); simp) 9 Try.underlying9
        have hss : (strOfNums [48 + (m : Int) % 10]).size = 1 := strOfNums_size _
        have HS : Hid (strOfNums [48 + (m : Int) % 10] ++ ⟨o.toArray⟩ = ⟨(UInt8.ofNat (48 + m % 10) :: o).toArray⟩) := by
          show _ = _
          unfold strOfNums
          rw [ByteArray.mk_append_mk, show (48 + (m : Int) % 10) = ((48 + m % 10 : Nat) : Int) by omega]
          rfl
        go_wp2
        go_roundw
        case rel => exact ⟨m / 10, UInt8.ofNat (48 + m % 10) :: o, by omega, by simp; omega, by go_num, by rw [HS.out], (by
          obtain ⟨f, hf, he⟩ := HF.out
          cases f with
          | zero => omega
          | succ f =>
            refine ⟨f, by omega, ?_⟩
            rw [← he]
            simp only [digsF]
            rw [if_neg (by omega)]
            simp), hb.alloc hb.size _⟩
        case measure => simp [intOf]; omega
      · have hz : m = 0 := by omega
        have HO : Hid (o = D) := by
          obtain ⟨f, hf, he⟩ := HF.out
          subst hz
          show _ = _
          rw [← he]
          cases f <;> simp [digsF]
        clear HF hz
        go_wp2
        go_ret
        refine ⟨?_, hb⟩
        rw [HE.out, ← HD.out, ← HO.out]
        exact congrArg (fun s => Ending.returned (.string s)) (ByteArray.mk_append_mk [109] o)


set_option maxRecDepth 100000 in
set_option maxHeartbeats 1000000 in
theorem markStringS_ct (v : Value) (l : List ByteArray) (k : Int) (B : Nat) (w : World) (h : StrsOwn B w v l) (hk0 : 0 ≤ k) (hk1 : k + (l.length : Int) ≤ 536870912) :
    Calls Try.prog 15 #[v, .int .i64 k] w fun e w' => e = .returned (.int .i64 (k + (l.length : Int))) ∧ StrsOwn B w' v (markS k l) ∧ Only (blks v) w w' := by
  obtain ⟨a, c, rfl⟩ : ∃ a c, v = .slice a l.length c := by have := h.1.shape; simpa [intRows, strRows] using this
  have hl := h.2.1
  have hR : RowOwn B w (.slice a l.length c) 1 (l.map (fun s : ByteArray => [Value.string s])) := h.1
  clear h
  go_enter Try.func15, Try.ntmps15
  go_wp2
  go_loopw [1, 5] (fun q i wr => ∃ m : Nat, m ≤ l.length ∧ i = .int .i64 m ∧ q = .int .i64 (k + (m : Int)) ∧ RowOwn B wr (.slice a l.length c) 1 ((markS k (l.take m) ++ l.drop m).map (fun s : ByteArray => [Value.string s])) ∧ Only (blks (.slice a l.length c)) w wr) (fun _ i _ => l.length - (intOf i).toNat)
  case atStart => exact ⟨0, Nat.zero_le _, rfl, by go_num, by simpa [markS] using hR, Only.refl _ _⟩
  case round =>
    obtain ⟨m, hm, rfl, rfl, hown, hon⟩ := hrel
    by_cases hml : m < l.length
    · obtain ⟨x, hx⟩ := getElem?_of_lt hml
      obtain ⟨g, rfl, hbl⟩ := hown.head (by omega)
      have HM : Hid ((markS k (l.take m)).length = m) := by show _ = _; rw [markS_len]; simp; omega
      have HD : Hid (l.drop m = x :: l.drop (m + 1)) := drop_cons hx
      rw [HD.out] at hown
      have HI : Hid (((markS k (l.take m) ++ x :: l.drop (m + 1)).map (fun s : ByteArray => [Value.string s]))[m]? = some (((fun s : ByteArray => [Value.string s])) x)) := by
        show _ = _
        rw [List.getElem?_map, List.getElem?_append_right (by rw [HM.out]; omega), HM.out]
        simp
      have HT : Hid (markS k (l.take (m + 1)) = markS k (l.take m) ++ [mt (k + (m : Int))]) := by
        show _ = _
        rw [take_snoc_l hx, markS_snoc, List.length_take, Nat.min_eq_left (by omega)]
      clear hx hR
      go_wp2_with fail
      refine (markText_ct (k + (m : Int)) _ (by omega)).mono ?_
      rintro e w2 ⟨rfl, hb2⟩
      have hown := hown.keep (keep_below hb2 (fun g hg => (hown.lt g hg).2))
      have hon := hon.then_below hb2
      have hc0 : w2.cell? ⟨g, m, none⟩ = some (.string x) := by have := hown.cellAt HI.out (j := 0) rfl; simpa using this
      have hf0 : w2.frozen? ⟨g, m, none⟩ = false := hown.free (by omega) _
      go_wp2
      go_roundw
      case rel =>
        refine ⟨m + 1, by omega, by go_num, by go_num, ?_, ?_⟩
        · have s0 := hown.store HI.out (j := 0) (by omega) (.string (mt (k + (m : Int))))
          have ex : (((fun s : ByteArray => [Value.string s])) x).set 0 (.string (mt (k + (m : Int)))) = ((fun s : ByteArray => [Value.string s])) (mt (k + (m : Int))) := rfl
          rw [ex] at s0
          rw [HT.out]
          simpa [List.map_set, mark_step, HM.out] using s0
        · refine Only.setCell hon (by rw [hbl]; simp) _
      case measure => simp [intOf]; omega
    · have hml' : m = l.length := by omega
      have HF : Hid (markS k (l.take m) ++ l.drop m = markS k l) := by
        show _ = _
        rw [hml']
        simp
      rw [HF.out] at hown
      have HQ : Hid ((k + (m : Int)) = k + (l.length : Int)) := by show _ = _; omega
      clear hR hml'
      go_wp2
      go_ret
      exact ⟨ret_int HQ.out, ⟨hown, by rw [markS_len]; exact hl, markS_mem hk1⟩, hon⟩



/-- The nodes of a row with their links' values, marked. -/
def markL : Int → List (Nd × Value) → List (Nd × Value)
  | _, [] => []
  | k, n :: l => (⟨k, k + 1, markI (k + 2) n.1.links⟩, n.2) :: markL (k + 2 + n.1.links.length) l
theorem markL_fst : ∀ (k : Int) (l : List (Nd × Value)), (markL k l).map Prod.fst = markN k (l.map Prod.fst)
  | _, [] => rfl
  | k, n :: l => by simp [markL, markN, markL_fst _ l]
theorem markL_snd : ∀ (k : Int) (l : List (Nd × Value)), (markL k l).map Prod.snd = l.map Prod.snd
  | _, [] => rfl
  | k, n :: l => by simp [markL, markL_snd _ l]
theorem markL_len (k : Int) (l : List (Nd × Value)) : (markL k l).length = l.length := by
  have := congrArg List.length (markL_snd k l)
  simpa using this
theorem markL_flat (k : Int) (l : List (Nd × Value)) : (markL k l).flatMap (fun n => blks n.2) = l.flatMap (fun n => blks n.2) := by
  have h : ∀ m : List (Nd × Value), m.flatMap (fun n => blks n.2) = (m.map Prod.snd).flatMap blks := by intro m; simp [List.flatMap_map]
  rw [h, h, markL_snd]
theorem markL_snoc : ∀ (k : Int) (l : List (Nd × Value)) (x : Nd × Value), markL k (l ++ [x]) = markL k l ++ [(⟨k + cntN (l.map Prod.fst), k + cntN (l.map Prod.fst) + 1, markI (k + cntN (l.map Prod.fst) + 2) x.1.links⟩, x.2)]
  | k, [], x => by simp [markL, cntN, sumOf]
  | k, y :: l, x => by
    simp only [List.cons_append, markL, markL_snoc (k + 2 + y.1.links.length) l x, List.map_cons, cntN_cons]
    rw [show k + 2 + (y.1.links.length : Int) + (cntN (l.map Prod.fst) : Int) = k + ((2 + y.1.links.length + cntN (l.map Prod.fst) : Nat) : Int) by omega]


end Go.Proofs.Ythljfglibnlmkaa
