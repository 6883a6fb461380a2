/- The laws' marks: each writes its own numbers into what it is handed, and nowhere else; and the asking for them. -/
import Derived.Test.YthgelhglfbgagaaGreatDoorG2
import Derived.Test.YthgelhglfbgagaaGreatDoorG1
namespace Go.Proofs.YthgelhglfbgagaaGreatDoor
open Go Go.RowKit Go.BigFrame

set_option maxRecDepth 100000 in
set_option maxHeartbeats 1000000 in
theorem markText_ct (k : Int) (w : World) (hk : k ≤ 536870912) :
    Calls Tryz.prog 43 #[.int .i64 k] w fun e w' => e = .returned (.string (mt k)) ∧ Below w.heap.size w w' := by
  by_cases h0 : k ≤ 0
  · have HE : Hid (mt k = ⟨#[109, 48]⟩) := if_pos h0
    go_enter Tryz.func43, Tryz.ntmps43
    go_wp2
    go_ret
    exact ⟨by rw [HE.out]; rfl, Below.refl _ _⟩
  · obtain ⟨n, rfl⟩ : ∃ n : Nat, k = n := ⟨k.toNat, by omega⟩
    have HE : Hid (mt (n : Int) = ⟨(109 :: digsF n n).toArray⟩) := by show _ = _; unfold mt; rw [if_neg h0]; rfl
    obtain ⟨D, hD⟩ : ∃ D, D = digsF n n := ⟨_, rfl⟩
    have HD : Hid (D = digsF n n) := hD
    clear hD
    go_enter Tryz.func43, Tryz.ntmps43
    go_wp2
    go_loopw [0, 3] (fun q s wr => ∃ m : Nat, ∃ o : List UInt8, m ≤ n ∧ o.length + m ≤ n ∧ q = .int .i64 m ∧ s = .string ⟨o.toArray⟩ ∧ Hid (∃ f, m ≤ f ∧ digsF f m ++ o = D) ∧ Below w.heap.size w wr) (fun q _ _ => (intOf q).toNat)
    case atStart => exact ⟨n, [], by omega, by simp, rfl, rfl, ⟨n, by omega, by rw [HD.out]; simp⟩, Below.refl _ _⟩
    case round =>
      obtain ⟨m, o, hm, ho, rfl, rfl, HF, hb⟩ := hrel
      by_cases hm0 : 0 < m
      · have hcv := run_convert_bytes_arg (P := Tryz.prog) (wr.alloc (.cells #[.int .u8 (48 + (m : Int) % 10)] 5)) 124 5 Tryz.underlying124 Tryz.underlying5 wr.heap.size 0 1 1 [48 + (m : Int) % 10] rfl (by intro i hi; obtain rfl : i = 0 := (by omega); simp) 9 Tryz.underlying9
        have hss : (strOfNums [48 + (m : Int) % 10]).size = 1 := strOfNums_size _
        have HS : Hid (strOfNums [48 + (m : Int) % 10] ++ ⟨o.toArray⟩ = ⟨(UInt8.ofNat (48 + m % 10) :: o).toArray⟩) := by
          show _ = _
          unfold strOfNums
          rw [ByteArray.mk_append_mk, show (48 + (m : Int) % 10) = ((48 + m % 10 : Nat) : Int) by omega]
          rfl
        go_wp2
        go_roundw
        case rel => exact ⟨m / 10, UInt8.ofNat (48 + m % 10) :: o, by omega, by simp; omega, by go_num, by rw [HS.out], (by
          obtain ⟨f, hf, he⟩ := HF.out
          cases f with
          | zero => omega
          | succ f =>
            refine ⟨f, by omega, ?_⟩
            rw [← he]
            simp only [digsF]
            rw [if_neg (by omega)]
            simp), hb.alloc hb.size _⟩
        case measure => simp [intOf]; omega
      · have hz : m = 0 := by omega
        have HO : Hid (o = D) := by
          obtain ⟨f, hf, he⟩ := HF.out
          subst hz
          show _ = _
          rw [← he]
          cases f <;> simp [digsF]
        clear HF hz
        go_wp2
        go_ret
        refine ⟨?_, hb⟩
        rw [HE.out, ← HD.out, ← HO.out]
        exact congrArg (fun s => Ending.returned (.string s)) (ByteArray.mk_append_mk [109] o)

set_option maxRecDepth 100000 in
set_option maxHeartbeats 1000000 in
theorem markIntS_ct (v : Value) (l : List Int) (k : Int) (B : Nat) (w : World) (h : IntsOwn B w v l) (hk0 : 0 ≤ k) (hk1 : k + (l.length : Int) ≤ 536870912) :
    Calls Tryz.prog 45 #[v, .int .i64 k] w fun e w' => e = .returned (.int .i64 (k + (l.length : Int))) ∧ IntsOwn B w' v (markI k l) ∧ Only (blks v) w w' := by
  obtain ⟨a, c, rfl⟩ : ∃ a c, v = .slice a l.length c := by have := h.1.shape; simpa [intRows, strRows] using this
  have hl := h.2.1
  have hR : RowOwn B w (.slice a l.length c) 1 (l.map (fun x : Int => [Value.int .i64 x])) := h.1
  clear h
  go_enter Tryz.func45, Tryz.ntmps45
  go_wp2
  go_loopw [1, 5] (fun q i wr => ∃ m : Nat, m ≤ l.length ∧ i = .int .i64 m ∧ q = .int .i64 (k + (m : Int)) ∧ RowOwn B wr (.slice a l.length c) 1 ((markI k (l.take m) ++ l.drop m).map (fun x : Int => [Value.int .i64 x])) ∧ Only (blks (.slice a l.length c)) w wr) (fun _ i _ => l.length - (intOf i).toNat)
  case atStart => exact ⟨0, Nat.zero_le _, rfl, by go_num, by simpa [markI] using hR, Only.refl _ _⟩
  case round =>
    obtain ⟨m, hm, rfl, rfl, hown, hon⟩ := hrel
    by_cases hml : m < l.length
    · obtain ⟨x, hx⟩ := getElem?_of_lt hml
      obtain ⟨g, rfl, hbl⟩ := hown.head (by omega)
      have HM : Hid ((markI k (l.take m)).length = m) := by show _ = _; rw [markI_len]; simp; omega
      have HD : Hid (l.drop m = x :: l.drop (m + 1)) := drop_cons hx
      rw [HD.out] at hown
      have HI : Hid (((markI k (l.take m) ++ x :: l.drop (m + 1)).map (fun x : Int => [Value.int .i64 x]))[m]? = some (((fun x : Int => [Value.int .i64 x])) x)) := by
        show _ = _
        rw [List.getElem?_map, List.getElem?_append_right (by rw [HM.out]; omega), HM.out]
        simp
      have HT : Hid (markI k (l.take (m + 1)) = markI k (l.take m) ++ [k + (m : Int)]) := by
        show _ = _
        rw [take_snoc_l hx, markI_snoc, List.length_take, Nat.min_eq_left (by omega)]
      clear hx hR
      have hc0 : wr.cell? ⟨g, m, none⟩ = some (.int .i64 x) := by have := hown.cellAt HI.out (j := 0) rfl; simpa using this
      have hf0 : wr.frozen? ⟨g, m, none⟩ = false := hown.free (by omega) _
      go_wp2
      go_roundw
      case rel =>
        refine ⟨m + 1, by omega, by go_num, by go_num, ?_, ?_⟩
        · have s0 := hown.store HI.out (j := 0) (by omega) (.int .i64 (k + (m : Int)))
          have ex : (((fun x : Int => [Value.int .i64 x])) x).set 0 (.int .i64 (k + (m : Int))) = ((fun x : Int => [Value.int .i64 x])) (k + (m : Int)) := rfl
          rw [ex] at s0
          rw [HT.out]
          simpa [List.map_set, mark_step, HM.out] using s0
        · refine Only.setCell hon (by rw [hbl]; simp) _
      case measure => simp [intOf]; omega
    · have hml' : m = l.length := by omega
      have HF : Hid (markI k (l.take m) ++ l.drop m = markI k l) := by
        show _ = _
        rw [hml']
        simp
      rw [HF.out] at hown
      have HQ : Hid ((k + (m : Int)) = k + (l.length : Int)) := by show _ = _; omega
      clear hR hml'
      go_wp2
      go_ret
      exact ⟨ret_int HQ.out, ⟨hown, by rw [markI_len]; exact hl, markI_mem hk0 hk1⟩, hon⟩

set_option maxRecDepth 100000 in
set_option maxHeartbeats 1000000 in
theorem markStringS_ct (v : Value) (l : List ByteArray) (k : Int) (B : Nat) (w : World) (h : StrsOwn B w v l) (hk0 : 0 ≤ k) (hk1 : k + (l.length : Int) ≤ 536870912) :
    Calls Tryz.prog 46 #[v, .int .i64 k] w fun e w' => e = .returned (.int .i64 (k + (l.length : Int))) ∧ StrsOwn B w' v (markS k l) ∧ Only (blks v) w w' := by
  obtain ⟨a, c, rfl⟩ : ∃ a c, v = .slice a l.length c := by have := h.1.shape; simpa [intRows, strRows] using this
  have hl := h.2.1
  have hR : RowOwn B w (.slice a l.length c) 1 (l.map (fun s : ByteArray => [Value.string s])) := h.1
  clear h
  go_enter Tryz.func46, Tryz.ntmps46
  go_wp2
  go_loopw [1, 5] (fun q i wr => ∃ m : Nat, m ≤ l.length ∧ i = .int .i64 m ∧ q = .int .i64 (k + (m : Int)) ∧ RowOwn B wr (.slice a l.length c) 1 ((markS k (l.take m) ++ l.drop m).map (fun s : ByteArray => [Value.string s])) ∧ Only (blks (.slice a l.length c)) w wr) (fun _ i _ => l.length - (intOf i).toNat)
  case atStart => exact ⟨0, Nat.zero_le _, rfl, by go_num, by simpa [markS] using hR, Only.refl _ _⟩
  case round =>
    obtain ⟨m, hm, rfl, rfl, hown, hon⟩ := hrel
    by_cases hml : m < l.length
    · obtain ⟨x, hx⟩ := getElem?_of_lt hml
      obtain ⟨g, rfl, hbl⟩ := hown.head (by omega)
      have HM : Hid ((markS k (l.take m)).length = m) := by show _ = _; rw [markS_len]; simp; omega
      have HD : Hid (l.drop m = x :: l.drop (m + 1)) := drop_cons hx
      rw [HD.out] at hown
      have HI : Hid (((markS k (l.take m) ++ x :: l.drop (m + 1)).map (fun s : ByteArray => [Value.string s]))[m]? = some (((fun s : ByteArray => [Value.string s])) x)) := by
        show _ = _
        rw [List.getElem?_map, List.getElem?_append_right (by rw [HM.out]; omega), HM.out]
        simp
      have HT : Hid (markS k (l.take (m + 1)) = markS k (l.take m) ++ [mt (k + (m : Int))]) := by
        show _ = _
        rw [take_snoc_l hx, markS_snoc, List.length_take, Nat.min_eq_left (by omega)]
      clear hx hR
      go_wp2_with fail
      refine (markText_ct (k + (m : Int)) _ (by omega)).mono ?_
      rintro e w2 ⟨rfl, hb2⟩
      have hown := hown.keep (keep_below hb2 (fun g hg => (hown.lt g hg).2))
      have hon := hon.then_below hb2
      have hc0 : w2.cell? ⟨g, m, none⟩ = some (.string x) := by have := hown.cellAt HI.out (j := 0) rfl; simpa using this
      have hf0 : w2.frozen? ⟨g, m, none⟩ = false := hown.free (by omega) _
      go_wp2
      go_roundw
      case rel =>
        refine ⟨m + 1, by omega, by go_num, by go_num, ?_, ?_⟩
        · have s0 := hown.store HI.out (j := 0) (by omega) (.string (mt (k + (m : Int))))
          have ex : (((fun s : ByteArray => [Value.string s])) x).set 0 (.string (mt (k + (m : Int)))) = ((fun s : ByteArray => [Value.string s])) (mt (k + (m : Int))) := rfl
          rw [ex] at s0
          rw [HT.out]
          simpa [List.map_set, mark_step, HM.out] using s0
        · refine Only.setCell hon (by rw [hbl]; simp) _
      case measure => simp [intOf]; omega
    · have hml' : m = l.length := by omega
      have HF : Hid (markS k (l.take m) ++ l.drop m = markS k l) := by
        show _ = _
        rw [hml']
        simp
      rw [HF.out] at hown
      have HQ : Hid ((k + (m : Int)) = k + (l.length : Int)) := by show _ = _; omega
      clear hR hml'
      go_wp2
      go_ret
      exact ⟨ret_int HQ.out, ⟨hown, by rw [markS_len]; exact hl, markS_mem hk1⟩, hon⟩

set_option maxRecDepth 100000 in
set_option maxHeartbeats 1000000 in
theorem markWireS_ct (v : Value) (l : List Wr) (k : Int) (B : Nat) (w : World) (h : WrsOwn B w v l) (hk0 : 0 ≤ k) (hk1 : k + 2 * (l.length : Int) ≤ 536870912) :
    Calls Tryz.prog 47 #[v, .int .i64 k] w fun e w' => e = .returned (.int .i64 (k + 2 * (l.length : Int))) ∧ WrsOwn B w' v (markW k l) ∧ Only (blks v) w w' := by
  obtain ⟨a, c, rfl⟩ : ∃ a c, v = .slice a l.length c := by have := h.1.shape; simpa [intRows, strRows] using this
  have hl := h.2.1
  have hR : RowOwn B w (.slice a l.length c) 2 (l.map Wr.cells) := h.1
  clear h
  go_enter Tryz.func47, Tryz.ntmps47
  go_wp2
  go_loopw [1, 5] (fun q i wr => ∃ m : Nat, m ≤ l.length ∧ i = .int .i64 m ∧ q = .int .i64 (k + 2 * (m : Int)) ∧ RowOwn B wr (.slice a l.length c) 2 ((markW k (l.take m) ++ l.drop m).map Wr.cells) ∧ Only (blks (.slice a l.length c)) w wr) (fun _ i _ => l.length - (intOf i).toNat)
  case atStart => exact ⟨0, Nat.zero_le _, rfl, by go_num, by simpa [markW] using hR, Only.refl _ _⟩
  case round =>
    obtain ⟨m, hm, rfl, rfl, hown, hon⟩ := hrel
    by_cases hml : m < l.length
    · obtain ⟨x, hx⟩ := getElem?_of_lt hml
      obtain ⟨g, rfl, hbl⟩ := hown.head (by omega)
      have HM : Hid ((markW k (l.take m)).length = m) := by show _ = _; rw [markW_len]; simp; omega
      have HD : Hid (l.drop m = x :: l.drop (m + 1)) := drop_cons hx
      rw [HD.out] at hown
      have HI : Hid (((markW k (l.take m) ++ x :: l.drop (m + 1)).map Wr.cells)[m]? = some ((Wr.cells) x)) := by
        show _ = _
        rw [List.getElem?_map, List.getElem?_append_right (by rw [HM.out]; omega), HM.out]
        simp
      have HT : Hid (markW k (l.take (m + 1)) = markW k (l.take m) ++ [⟨mt (k + 2 * (m : Int)), k + 2 * (m : Int) + 1⟩]) := by
        show _ = _
        rw [take_snoc_l hx, markW_snoc, List.length_take, Nat.min_eq_left (by omega)]
      clear hx hR
      go_wp2_with fail
      refine (markText_ct (k + 2 * (m : Int)) _ (by omega)).mono ?_
      rintro e w2 ⟨rfl, hb2⟩
      have hown := hown.keep (keep_below hb2 (fun g hg => (hown.lt g hg).2))
      have hon := hon.then_below hb2
      have hc0 : w2.cell? ⟨g, m * 2, none⟩ = some (.string x.name) := by have := hown.cellAt HI.out (j := 0) rfl; simpa using this
      have hf0 : w2.frozen? ⟨g, m * 2, none⟩ = false := hown.free (by omega) _
      have hc1 : w2.cell? ⟨g, m * 2 + 1, none⟩ = some (.int .i64 x.link) := by have := hown.cellAt HI.out (j := 1) rfl; simpa using this
      have hf1 : w2.frozen? ⟨g, m * 2 + 1, none⟩ = false := hown.free (by omega) _
      go_wp2
      go_roundw
      case rel =>
        refine ⟨m + 1, by omega, by go_num, by go_num, ?_, ?_⟩
        · have s0 := hown.store HI.out (j := 0) (by omega) (.string (mt (k + 2 * (m : Int))))
          have s1 := s0.store (List.getElem?_set_self (by have := (List.getElem?_eq_some_iff.1 HI.out).1; simpa using this)) (j := 1) (by omega) (.int .i64 (k + 2 * (m : Int) + 1))
          have ex : (((Wr.cells) x).set 0 (.string (mt (k + 2 * (m : Int))))).set 1 (.int .i64 (k + 2 * (m : Int) + 1)) = (Wr.cells) (⟨mt (k + 2 * (m : Int)), k + 2 * (m : Int) + 1⟩) := rfl
          rw [ex] at s1
          rw [HT.out]
          simpa [List.map_set, mark_step, HM.out] using s1
        · refine Only.setCell (Only.setCell hon (by rw [hbl]; simp) _) (by rw [hbl]; simp) _
      case measure => simp [intOf]; omega
    · have hml' : m = l.length := by omega
      have HF : Hid (markW k (l.take m) ++ l.drop m = markW k l) := by
        show _ = _
        rw [hml']
        simp
      rw [HF.out] at hown
      have HQ : Hid ((k + 2 * (m : Int)) = k + 2 * (l.length : Int)) := by show _ = _; omega
      clear hR hml'
      go_wp2
      go_ret
      exact ⟨ret_int HQ.out, ⟨hown, by rw [markW_len]; exact hl, markW_mem hk0 hk1⟩, hon⟩

set_option maxRecDepth 100000 in
set_option maxHeartbeats 1000000 in
theorem markControlS_ct (v : Value) (l : List Ctl) (k : Int) (B : Nat) (w : World) (h : CtlsOwn B w v l) (hk0 : 0 ≤ k) (hk1 : k + 3 * (l.length : Int) ≤ 536870912) :
    Calls Tryz.prog 11 #[v, .int .i64 k] w fun e w' => e = .returned (.int .i64 (k + 3 * (l.length : Int))) ∧ CtlsOwn B w' v (markC k l) ∧ Only (blks v) w w' := by
  obtain ⟨a, c, rfl⟩ : ∃ a c, v = .slice a l.length c := by have := h.1.shape; simpa [intRows, strRows] using this
  have hl := h.2.1
  have hR : RowOwn B w (.slice a l.length c) 3 (l.map Ctl.cells) := h.1
  clear h
  go_enter Tryz.func11, Tryz.ntmps11
  go_wp2
  go_loopw [1, 5] (fun q i wr => ∃ m : Nat, m ≤ l.length ∧ i = .int .i64 m ∧ q = .int .i64 (k + 3 * (m : Int)) ∧ RowOwn B wr (.slice a l.length c) 3 ((markC k (l.take m) ++ l.drop m).map Ctl.cells) ∧ Only (blks (.slice a l.length c)) w wr) (fun _ i _ => l.length - (intOf i).toNat)
  case atStart => exact ⟨0, Nat.zero_le _, rfl, by go_num, by simpa [markC] using hR, Only.refl _ _⟩
  case round =>
    obtain ⟨m, hm, rfl, rfl, hown, hon⟩ := hrel
    by_cases hml : m < l.length
    · obtain ⟨x, hx⟩ := getElem?_of_lt hml
      obtain ⟨g, rfl, hbl⟩ := hown.head (by omega)
      have HM : Hid ((markC k (l.take m)).length = m) := by show _ = _; rw [markC_len]; simp; omega
      have HD : Hid (l.drop m = x :: l.drop (m + 1)) := drop_cons hx
      rw [HD.out] at hown
      have HI : Hid (((markC k (l.take m) ++ x :: l.drop (m + 1)).map Ctl.cells)[m]? = some ((Ctl.cells) x)) := by
        show _ = _
        rw [List.getElem?_map, List.getElem?_append_right (by rw [HM.out]; omega), HM.out]
        simp
      have HT : Hid (markC k (l.take (m + 1)) = markC k (l.take m) ++ [⟨mt (k + 3 * (m : Int)), k + 3 * (m : Int) + 1, k + 3 * (m : Int) + 2⟩]) := by
        show _ = _
        rw [take_snoc_l hx, markC_snoc, List.length_take, Nat.min_eq_left (by omega)]
      clear hx hR
      go_wp2_with fail
      refine (markText_ct (k + 3 * (m : Int)) _ (by omega)).mono ?_
      rintro e w2 ⟨rfl, hb2⟩
      have hown := hown.keep (keep_below hb2 (fun g hg => (hown.lt g hg).2))
      have hon := hon.then_below hb2
      have hc0 : w2.cell? ⟨g, m * 3, none⟩ = some (.string x.name) := by have := hown.cellAt HI.out (j := 0) rfl; simpa using this
      have hf0 : w2.frozen? ⟨g, m * 3, none⟩ = false := hown.free (by omega) _
      have hc1 : w2.cell? ⟨g, m * 3 + 1, none⟩ = some (.int .i64 x.ports) := by have := hown.cellAt HI.out (j := 1) rfl; simpa using this
      have hf1 : w2.frozen? ⟨g, m * 3 + 1, none⟩ = false := hown.free (by omega) _
      have hc2 : w2.cell? ⟨g, m * 3 + 2, none⟩ = some (.int .i64 x.kind) := by have := hown.cellAt HI.out (j := 2) rfl; simpa using this
      have hf2 : w2.frozen? ⟨g, m * 3 + 2, none⟩ = false := hown.free (by omega) _
      go_wp2
      go_roundw
      case rel =>
        refine ⟨m + 1, by omega, by go_num, by go_num, ?_, ?_⟩
        · have s0 := hown.store HI.out (j := 0) (by omega) (.string (mt (k + 3 * (m : Int))))
          have s1 := s0.store (List.getElem?_set_self (by have := (List.getElem?_eq_some_iff.1 HI.out).1; simpa using this)) (j := 1) (by omega) (.int .i64 (k + 3 * (m : Int) + 1))
          have s2 := s1.store (List.getElem?_set_self (by have := (List.getElem?_eq_some_iff.1 HI.out).1; simpa using this)) (j := 2) (by omega) (.int .i64 (k + 3 * (m : Int) + 2))
          have ex : ((((Ctl.cells) x).set 0 (.string (mt (k + 3 * (m : Int))))).set 1 (.int .i64 (k + 3 * (m : Int) + 1))).set 2 (.int .i64 (k + 3 * (m : Int) + 2)) = (Ctl.cells) (⟨mt (k + 3 * (m : Int)), k + 3 * (m : Int) + 1, k + 3 * (m : Int) + 2⟩) := rfl
          rw [ex] at s2
          rw [HT.out]
          (try rw [show k + 3 * (m : Int) + 1 + 1 = k + 3 * (m : Int) + 2 by omega])
          simpa [List.map_set, mark_step, HM.out] using s2
        · refine Only.setCell ( Only.setCell (Only.setCell hon (by rw [hbl]; simp) _) (by rw [hbl]; simp) _) (by rw [hbl]; simp) _
      case measure => simp [intOf]; omega
    · have hml' : m = l.length := by omega
      have HF : Hid (markC k (l.take m) ++ l.drop m = markC k l) := by
        show _ = _
        rw [hml']
        simp
      rw [HF.out] at hown
      have HQ : Hid ((k + 3 * (m : Int)) = k + 3 * (l.length : Int)) := by show _ = _; omega
      clear hR hml'
      go_wp2
      go_ret
      exact ⟨ret_int HQ.out, ⟨hown, by rw [markC_len]; exact hl, markC_mem hk0 hk1⟩, hon⟩

/-- The nodes of a row with their links' values, marked. -/
def markL : Int → List (Nd × Value) → List (Nd × Value)
  | _, [] => []
  | k, n :: l => (⟨k, k + 1, markI (k + 2) n.1.links⟩, n.2) :: markL (k + 2 + n.1.links.length) l
theorem markL_fst : ∀ (k : Int) (l : List (Nd × Value)), (markL k l).map Prod.fst = markN k (l.map Prod.fst)
  | _, [] => rfl
  | k, n :: l => by simp [markL, markN, markL_fst _ l]
theorem markL_snd : ∀ (k : Int) (l : List (Nd × Value)), (markL k l).map Prod.snd = l.map Prod.snd
  | _, [] => rfl
  | k, n :: l => by simp [markL, markL_snd _ l]
theorem markL_len (k : Int) (l : List (Nd × Value)) : (markL k l).length = l.length := by
  have := congrArg List.length (markL_snd k l)
  simpa using this
theorem markL_flat (k : Int) (l : List (Nd × Value)) : (markL k l).flatMap (fun n => blks n.2) = l.flatMap (fun n => blks n.2) := by
  have h : ∀ m : List (Nd × Value), m.flatMap (fun n => blks n.2) = (m.map Prod.snd).flatMap blks := by intro m; simp [List.flatMap_map]
  rw [h, h, markL_snd]
theorem markL_snoc : ∀ (k : Int) (l : List (Nd × Value)) (x : Nd × Value), markL k (l ++ [x]) = markL k l ++ [(⟨k + cntN (l.map Prod.fst), k + cntN (l.map Prod.fst) + 1, markI (k + cntN (l.map Prod.fst) + 2) x.1.links⟩, x.2)]
  | k, [], x => by simp [markL, cntN, sumOf]
  | k, y :: l, x => by
    simp only [List.cons_append, markL, markL_snoc (k + 2 + y.1.links.length) l x, List.map_cons, cntN_cons]
    rw [show k + 2 + (y.1.links.length : Int) + (cntN (l.map Prod.fst) : Int) = k + ((2 + y.1.links.length + cntN (l.map Prod.fst) : Nat) : Int) by omega]

set_option maxRecDepth 100000 in
set_option maxHeartbeats 2000000 in
theorem markNodeS_ct (v : Value) (l : List Nd) (bs : List Nat) (k : Int) (B : Nat) (w : World) (h : NdsOwn B w v l bs) (hnd : bs.Nodup) (hk0 : 0 ≤ k) (hk1 : k + cntN l ≤ 536870912) :
    Calls Tryz.prog 44 #[v, .int .i64 k] w fun e w' => e = .returned (.int .i64 (k + cntN l)) ∧ NdsOwn B w' v (markN k l) bs ∧ Only bs w w' := by
  obtain ⟨lv, rfl, hR, hl, hO, _, rfl⟩ := h
  obtain ⟨a, c, rfl⟩ : ∃ a c, v = .slice a lv.length c := by have := hR.shape; simpa using this
  rw [List.length_map] at hl
  have HND : Hid (blks (.slice a lv.length c) ++ lv.flatMap (fun n => blks n.2)).Nodup := hnd
  have HO : Hid (∀ n ∈ lv, IntsOwn B w n.2 n.1.links) := hO
  clear hnd hO
  go_enter Tryz.func44, Tryz.ntmps44
  go_wp2
  go_loopw [1, 5] (fun q i wr => ∃ m : Nat, m ≤ lv.length ∧ i = .int .i64 m ∧ q = .int .i64 (k + cntN ((lv.take m).map Prod.fst)) ∧ RowOwn B wr (.slice a lv.length c) 3 ((markL k (lv.take m) ++ lv.drop m).map Nd.cells) ∧
      Hid (∀ n ∈ markL k (lv.take m) ++ lv.drop m, IntsOwn B wr n.2 n.1.links) ∧ Only (blks (.slice a lv.length c) ++ lv.flatMap (fun n => blks n.2)) w wr) (fun _ i _ => lv.length - (intOf i).toNat)
  case atStart => exact ⟨0, Nat.zero_le _, rfl, by simp [cntN, sumOf], by simpa [markL] using hR, by simpa [markL] using HO, Only.refl _ _⟩
  case round =>
    obtain ⟨m, hm, rfl, rfl, hown, HOW, hon⟩ := hrel
    by_cases hml : m < lv.length
    · obtain ⟨⟨x, u⟩, hx⟩ := getElem?_of_lt hml
      obtain ⟨ua, uc, hue⟩ := (HO.out (x, u) (List.mem_of_getElem? hx)).shape
      dsimp only at hue
      rw [hue] at hx
      clear hue u
      obtain ⟨g, rfl, hbl⟩ := hown.head (by omega)
      have HM : Hid ((markL k (lv.take m)).length = m) := by show _ = _; rw [markL_len]; simp; omega
      have HD : Hid (lv.drop m = (x, (.slice ua x.links.length uc)) :: lv.drop (m + 1)) := drop_cons hx
      have HLV : Hid (lv = lv.take m ++ (x, (.slice ua x.links.length uc)) :: lv.drop (m + 1)) := by show _ = _; rw [← HD.out, List.take_append_drop]
      rw [HD.out] at hown HOW
      have HI : Hid (((markL k (lv.take m) ++ (x, (.slice ua x.links.length uc)) :: lv.drop (m + 1)).map Nd.cells)[m]? = some (Nd.cells (x, (.slice ua x.links.length uc)))) := by
        show _ = _
        rw [List.getElem?_map, List.getElem?_append_right (by rw [HM.out]; omega), HM.out]
        simp
      have hq0 : cntN ((lv.take m).map Prod.fst) + (2 + x.links.length) ≤ cntN (lv.map Prod.fst) := by
        have h1 := cntN_take_le (lv.map Prod.fst) (m + 1)
        rw [cntN_take (x := x) (by simp [hx])] at h1
        simpa [List.map_take] using h1
      have HT : Hid (markL k (lv.take (m + 1)) = markL k (lv.take m) ++ [(⟨k + cntN ((lv.take m).map Prod.fst), k + cntN ((lv.take m).map Prod.fst) + 1, markI (k + cntN ((lv.take m).map Prod.fst) + 2) x.links⟩, (.slice ua x.links.length uc))]) := by
        show _ = _
        rw [take_snoc_l hx, markL_snoc]
      have HC : Hid (k + cntN ((lv.take (m + 1)).map Prod.fst) = k + cntN ((lv.take m).map Prod.fst) + 2 + x.links.length) := by
        show _ = _
        have := cntN_take (l := lv.map Prod.fst) (k := m) (x := x) (by simp [hx])
        rw [← List.map_take, ← List.map_take] at this
        omega
      obtain ⟨K, hK⟩ : ∃ K : Int, K = k + cntN ((lv.take m).map Prod.fst) := ⟨_, rfl⟩
      have hK0 : 0 ≤ K := by omega
      have hK1 : K + 2 + x.links.length ≤ 536870912 := by omega
      rw [← hK] at HT HC ⊢
      clear hK hq0
      -- the blocks are apart
      have HA : Hid (g ∉ blks (.slice ua x.links.length uc) ∧ ∀ n ∈ markL k (lv.take m) ++ lv.drop (m + 1), ∀ p ∈ blks n.2, p ∉ blks (.slice ua x.links.length uc) ∧ p ≠ g) := by
        have h1 := HND.out
        rw [hbl] at h1
        rw [List.nodup_append] at h1
        obtain ⟨_, h2, h3⟩ := h1
        have h4 : lv.flatMap (fun n => blks n.2) = (markL k (lv.take m)).flatMap (fun n => blks n.2) ++ (blks (.slice ua x.links.length uc) ++ (lv.drop (m + 1)).flatMap (fun n => blks n.2)) := by
          rw [markL_flat]
          conv => lhs; rw [HLV.out]
          simp
        rw [h4] at h2 h3
        rw [List.nodup_append, List.nodup_append] at h2
        obtain ⟨_, ⟨_, _, h5⟩, h6⟩ := h2
        refine ⟨fun hg => h3 g (by simp) g (by simp [hg]) rfl, fun n hn p hp => ⟨fun hu => ?_, fun hg => h3 g (by simp) p ?_ hg.symm⟩⟩
        · rcases List.mem_append.1 hn with hn | hn
          · exact h6 p (List.mem_flatMap.2 ⟨n, hn, hp⟩) p (by simp [hu]) rfl
          · exact h5 p hu p (List.mem_flatMap.2 ⟨n, hn, hp⟩) rfl
        · rcases List.mem_append.1 hn with hn | hn
          · exact List.mem_append_left _ (List.mem_flatMap.2 ⟨n, hn, hp⟩)
          · exact List.mem_append_right _ (List.mem_append_right _ (List.mem_flatMap.2 ⟨n, hn, hp⟩))
      have hu := HOW.out (x, (.slice ua x.links.length uc)) (by simp)
      have hc0 : wr.cell? ⟨g, m * 3, none⟩ = some (.int .i64 x.ctl) := by have := hown.cellAt HI.out (j := 0) rfl; simpa using this
      have hc1 : wr.cell? ⟨g, m * 3 + 1, none⟩ = some (.int .i64 x.par) := hown.cellAt HI.out (j := 1) rfl
      have hc2 : wr.cell? ⟨g, m * 3 + 2, none⟩ = some (.slice ua x.links.length uc) := hown.cellAt HI.out (j := 2) rfl
      have hf0 : wr.frozen? ⟨g, m * 3, none⟩ = false := hown.free (by omega) _
      have hf1 : wr.frozen? ⟨g, m * 3 + 1, none⟩ = false := hown.free (by omega) _
      have hus := hu
      clear hx hR hu
      go_wp2_with fail
      have hu2 := (hus.keep (keep_setCell (p := ⟨g, m * 3, none⟩) (u := .int .i64 K) HA.out.1)).keep (keep_setCell (p := ⟨g, m * 3 + 1, none⟩) (u := .int .i64 (K + 1)) HA.out.1)
      rw [show K + 1 + 1 = K + 2 by omega]
      refine (markIntS_ct _ x.links (K + 2) B _ hu2 (by omega) (by omega)).mono ?_
      rintro e w3 ⟨rfl, hu3, hon3⟩
      have hk3 : ∀ g', g' ∉ blks (.slice ua x.links.length uc) → g' ≠ g → g' < wr.heap.size → w3.heap[g']? = wr.heap[g']? := by
        intro g' h1 h2 h3
        rw [hon3.block g' (by rw [size_setCell, size_setCell]; exact h3) h1, heap_setCell_other _ _ _ _ h2, heap_setCell_other _ _ _ _ h2]
      have s0 := hown.store HI.out (j := 0) (by omega) (.int .i64 K)
      have s1 := s0.store (List.getElem?_set_self (by have := (List.getElem?_eq_some_iff.1 HI.out).1; simpa using this)) (j := 1) (by omega) (.int .i64 (K + 1))
      have ex : ((Nd.cells (x, .slice ua x.links.length uc)).set 0 (.int .i64 K)).set 1 (.int .i64 (K + 1)) = Nd.cells (⟨K, K + 1, markI (K + 2) x.links⟩, .slice ua x.links.length uc) := rfl
      rw [ex] at s1
      have s2 := s1.keep (w' := w3) (fun g' hg' => by
        rw [hbl, List.mem_singleton] at hg'
        subst hg'
        exact hon3.block _ (by rw [size_setCell, size_setCell]; exact (hown.lt _ (by rw [hbl]; simp)).2) HA.out.1)
      have honn : Only (blks (.slice (some ⟨g, 0, none⟩) lv.length c) ++ lv.flatMap (fun n => blks n.2)) w w3 := by
        refine ((hon.setCell (p := ⟨g, m * 3, none⟩) (by rw [hbl]; simp) _).setCell (p := ⟨g, m * 3 + 1, none⟩) (by rw [hbl]; simp) _).trans (hon3.mono fun p hp => ?_)
        rw [HLV.out]
        simp [hp]
      have hlw : ∀ n ∈ markL k (lv.take m) ++ lv.drop (m + 1), ∀ p ∈ blks n.2, w3.heap[p]? = wr.heap[p]? := by
        intro n hn p hp
        obtain ⟨h1, h2⟩ := HA.out.2 n hn p hp
        exact hk3 p h1 h2 ((HOW.out n (by rcases List.mem_append.1 hn with h | h; exact List.mem_append_left _ h; exact List.mem_append_right _ (List.mem_cons_of_mem _ h))).lt p hp).2
      have HLW : Hid (∀ n ∈ markL k (lv.take m) ++ lv.drop (m + 1), ∀ p ∈ blks n.2, w3.heap[p]? = wr.heap[p]?) := hlw
      clear hlw hk3 hc0 hc1 hc2 hf0 hf1 s0 s1 hon3 hu2 hus hown hon
      go_wp2
      go_roundw
      case rel =>
        refine ⟨m + 1, by omega, by go_num, ?_, ?_, ?_, honn⟩
        · rw [HC.out]
        · rw [HT.out]
          (try rw [show k + 3 * (m : Int) + 1 + 1 = k + 3 * (m : Int) + 2 by omega])
          simpa [List.map_set, mark_step, HM.out] using s2
        · rw [HT.out]
          intro n hn
          simp only [List.append_assoc, List.cons_append, List.nil_append, List.mem_append, List.mem_cons] at hn
          rcases hn with hn | rfl | hn
          · exact (HOW.out n (List.mem_append_left _ hn)).keep (HLW.out n (List.mem_append_left _ hn))
          · exact hu3
          · exact (HOW.out n (List.mem_append_right _ (List.mem_cons_of_mem _ hn))).keep (HLW.out n (List.mem_append_right _ hn))
      case measure => simp [intOf]; omega
    · have hml' : m = lv.length := by omega
      have HF : Hid (markL k (lv.take m) ++ lv.drop m = markL k lv) := by
        show _ = _
        rw [hml']
        simp
      rw [HF.out] at hown HOW
      have HQ : Hid (k + cntN ((lv.take m).map Prod.fst) = k + cntN (lv.map Prod.fst)) := by show _ = _; rw [hml', List.take_length]
      clear hR hml'
      go_wp2
      go_ret
      refine ⟨ret_int HQ.out, ⟨markL k lv, markL_fst k lv, hown, by rw [markN_len, List.length_map]; exact hl, HOW.out, markN_mem hk0 hk1, by rw [markL_flat]⟩, hon⟩

end Go.Proofs.YthgelhglfbgagaaGreatDoor
