/- ParseInt: the walks. -/
import Derived.Test.YtjbiphaeinbgbaaDoorPInt
import Derived.Test.YtjbiphaeinbgbaaDoorExt
namespace Go.Proofs.YtjbiphaeinbgbaaDoor
open Go Go.RowKit Go.BigFrame

theorem bytes_ext {a b : ByteArray} (h : a.toList = b.toList) : a = b := by
  rw [ByteArray.toList_eq, ByteArray.toList_eq] at h
  exact ByteArray.ext (Array.toList_inj.1 h)
theorem get_byte {s : ByteArray} {k : Nat} (h : k < s.size) : s.data.toList[k]? = some s[k] := by
  rw [Array.getElem?_toList, Array.getElem?_eq_getElem h]; rfl
set_option maxRecDepth 100000 in
set_option maxHeartbeats 4000000 in
theorem l1Read_ct (s : ByteArray) (w : World) (hs : s.size ≤ 1073741824) :
    Calls Tryd.prog 13 #[.string s] w fun e w' => e = .returned (.tuple #[.int .i64 (rdV s), .bool (rdB s)]) ∧ Below w.heap.size w w' := by
  by_cases h1 : 1 < s.size
  · by_cases h0 : s[0] = 45
    · have hneg : negP s = true := by unfold negP; rw [get_byte (by omega : 0 < s.size), h0]; simp [h1]
      have he : (s[0].toNat : Int) = 45 := by rw [h0]; rfl
      clear h0
      go_enter Tryd.func13, Tryd.ntmps13
      go_wp2_with fail
      obtain ⟨t, hmag, hts⟩ : ∃ t, magP s = t ∧ t = s.extract 1 s.size := ⟨_, by unfold magP; rw [hneg, if_pos rfl], rfl⟩
      rw [← hts]
      have hsz : t.size + 1 = s.size := by rw [hts, ByteArray.size_extract]; omega
      have hln : s.size - 1 = t.size := by omega
      rw [hln]
      clear hts hln
      have HV : Hid (∀ m : Nat, valP s m = -(m : Int)) := by show ∀ m : Nat, _; intro m; unfold valP; rw [hneg]; simp
      have HD : Hid (magP s = t) := by show _ = _; exact hmag
      by_cases hz : 1 ≤ t.size ∧ t.size ≤ 6
      case neg =>
        have HN := Lib.hid (rd_none (rd_size (by rw [HD.out]; exact hz)))
        refine (l1In_ct _ _ _ false (by constructor <;> intro h; cases h; exact (hz (by omega)).elim) _).mono ?_
        rintro e w2 ⟨rfl, rfl⟩
        go_wp2_with fail
        go_ret2
        exact ⟨by rw [HN.out.1, HN.out.2]; rfl, Below.refl _ _⟩
      refine (l1In_ct _ _ _ true (by constructor <;> intro _ <;> first | omega | rfl) _).mono ?_
      rintro e w2 ⟨rfl, rfl⟩
      clear hmag hneg
      go_wp2_with fail
      go_loop [5, 6] (fun n i => ∃ k m : Nat, k ≤ t.size ∧ i = .int .i64 k ∧ n = .int .i64 m ∧ Lib.decFrom 0 (t.data.toList.take k) = some m) (fun _ i => t.size - (intOf i).toNat)
      case atStart => exact ⟨0, 0, Nat.zero_le _, rfl, rfl, rfl⟩
      case round =>
        obtain ⟨k, m, hk, rfl, rfl, hm⟩ := hrel
        have HM : Hid (Lib.decFrom 0 (t.data.toList.take k) = some m) := hm
        have hmb : m < 1000000 := by
          have h := Lib.decFrom_lt _ _ _ hm
          have hl : (t.data.toList.take k).length ≤ 6 := by rw [List.length_take, size_list]; omega
          have hp : 10 ^ (t.data.toList.take k).length ≤ 10 ^ 6 := Nat.pow_le_pow_right (by decide) hl
          omega
        clear hm
        by_cases hlt : k < t.size
        · by_cases hd : 48 ≤ t[k].toNat ∧ t[k].toNat ≤ 57
          · obtain ⟨d, hdd⟩ : ∃ d : Nat, t[k].toNat = 48 + d := ⟨t[k].toNat - 48, by omega⟩
            have HN : Hid (Lib.decFrom 0 (t.data.toList.take (k + 1)) = some (m * 10 + d)) := by
              show _ = _
              refine Lib.decFrom_take _ _ _ _ _ _ HM.out (get_byte hlt) ?_
              unfold Lib.digitVal
              rw [if_pos hd, hdd]; simp
            have q1 : (48 : Int) ≤ (t[k].toNat : Int) := by omega
            have q2 : (t[k].toNat : Int) ≤ 57 := by omega
            have q3 : (t[k].toNat : Int) - 48 = (d : Int) := by omega
            have q4 : d ≤ 9 := by omega
            clear hd
            go_wp2
            go_round
            case rel => exact ⟨k + 1, m * 10 + d, by omega, by go_num, by go_num, HN.out⟩
            case measure => simp [intOf]; omega
          · have HN := Lib.hid (rd_none (rd_digit (s := s) k t[k] (by rw [HD.out]; exact get_byte hlt) (by unfold Lib.digitVal; rw [if_neg hd])))
            by_cases h48 : t[k].toNat < 48
            · have q1 : (t[k].toNat : Int) < 48 := by omega
              clear hd
              go_wp2
              go_ret2
              exact ⟨by rw [HN.out.1, HN.out.2]; rfl, Below.refl _ _⟩
            · have q1 : ¬ (t[k].toNat : Int) < 48 := by omega
              have q2 : (57 : Int) < (t[k].toNat : Int) := by omega
              clear hd
              go_wp2
              go_ret2
              exact ⟨by rw [HN.out.1, HN.out.2]; rfl, Below.refl _ _⟩
        · have HA : Hid (Lib.decFrom 0 (magP s).data.toList = some m) := by show _ = _; rw [HD.out, ← HM.out, List.take_of_length_le (by rw [size_list]; omega)]
          have hsl : t.size < s.size := by omega
          by_cases hs : decZ (-(m : Int)) = s
          · have HN := Lib.hid (rd_some (rd_same (s := s) (m := m) (by rw [HD.out]; omega) HA.out (by rw [HV.out]; exact hs)))
            rw [HV.out] at HN
            have hbq : ((decZ (-(m : Int))).toList == s.toList) = true := by rw [hs]; simp
            clear hs
            go_wp2_with fail
            refine (l1NumZ_ct (-(m : Int)) (by omega) (by omega) _).mono ?_
            rintro e w3 ⟨rfl, hb3⟩
            go_wp2_with fail
            go_ret2
            exact ⟨by rw [HN.out.1, HN.out.2]; rfl, hb3⟩
          · have HN := Lib.hid (rd_none (rd_other HA.out (by rw [HV.out]; exact hs)))
            have hbq : ((decZ (-(m : Int))).toList == s.toList) = false := by
              rw [beq_eq_false_iff_ne]; intro h; exact hs (bytes_ext h)
            clear hs
            go_wp2_with fail
            refine (l1NumZ_ct (-(m : Int)) (by omega) (by omega) _).mono ?_
            rintro e w3 ⟨rfl, hb3⟩
            go_wp2_with fail
            go_ret2
            exact ⟨by rw [HN.out.1, HN.out.2]; rfl, hb3⟩
    · have hneg : negP s = false := by unfold negP; rw [get_byte (by omega : 0 < s.size)]; simp [h0]
      have he : ¬ (s[0].toNat : Int) = 45 := fun h => h0 (UInt8.toNat_inj.1 (by exact_mod_cast h))
      clear h0
      go_enter Tryd.func13, Tryd.ntmps13
      go_wp2_with fail
      have hmag : magP s = s := by unfold magP; rw [hneg, if_neg (by simp)]
      have HV : Hid (∀ m : Nat, valP s m = (m : Int)) := by show ∀ m : Nat, _; intro m; unfold valP; rw [hneg]; simp
      have HD : Hid (magP s = s) := by show _ = _; exact hmag
      by_cases hz : 1 ≤ s.size ∧ s.size ≤ 6
      case neg =>
        have HN := Lib.hid (rd_none (rd_size (by rw [HD.out]; exact hz)))
        refine (l1In_ct _ _ _ false (by constructor <;> intro h; cases h; exact (hz (by omega)).elim) _).mono ?_
        rintro e w2 ⟨rfl, rfl⟩
        go_wp2_with fail
        go_ret2
        exact ⟨by rw [HN.out.1, HN.out.2]; rfl, Below.refl _ _⟩
      refine (l1In_ct _ _ _ true (by constructor <;> intro _ <;> first | omega | rfl) _).mono ?_
      rintro e w2 ⟨rfl, rfl⟩
      clear hmag hneg
      go_wp2_with fail
      go_loop [5, 6] (fun n i => ∃ k m : Nat, k ≤ s.size ∧ i = .int .i64 k ∧ n = .int .i64 m ∧ Lib.decFrom 0 (s.data.toList.take k) = some m) (fun _ i => s.size - (intOf i).toNat)
      case atStart => exact ⟨0, 0, Nat.zero_le _, rfl, rfl, rfl⟩
      case round =>
        obtain ⟨k, m, hk, rfl, rfl, hm⟩ := hrel
        have HM : Hid (Lib.decFrom 0 (s.data.toList.take k) = some m) := hm
        have hmb : m < 1000000 := by
          have h := Lib.decFrom_lt _ _ _ hm
          have hl : (s.data.toList.take k).length ≤ 6 := by rw [List.length_take, size_list]; omega
          have hp : 10 ^ (s.data.toList.take k).length ≤ 10 ^ 6 := Nat.pow_le_pow_right (by decide) hl
          omega
        clear hm
        by_cases hlt : k < s.size
        · by_cases hd : 48 ≤ s[k].toNat ∧ s[k].toNat ≤ 57
          · obtain ⟨d, hdd⟩ : ∃ d : Nat, s[k].toNat = 48 + d := ⟨s[k].toNat - 48, by omega⟩
            have HN : Hid (Lib.decFrom 0 (s.data.toList.take (k + 1)) = some (m * 10 + d)) := by
              show _ = _
              refine Lib.decFrom_take _ _ _ _ _ _ HM.out (get_byte hlt) ?_
              unfold Lib.digitVal
              rw [if_pos hd, hdd]; simp
            have q1 : (48 : Int) ≤ (s[k].toNat : Int) := by omega
            have q2 : (s[k].toNat : Int) ≤ 57 := by omega
            have q3 : (s[k].toNat : Int) - 48 = (d : Int) := by omega
            have q4 : d ≤ 9 := by omega
            clear hd
            go_wp2
            go_round
            case rel => exact ⟨k + 1, m * 10 + d, by omega, by go_num, by go_num, HN.out⟩
            case measure => simp [intOf]; omega
          · have HN := Lib.hid (rd_none (rd_digit (s := s) k s[k] (by rw [HD.out]; exact get_byte hlt) (by unfold Lib.digitVal; rw [if_neg hd])))
            by_cases h48 : s[k].toNat < 48
            · have q1 : (s[k].toNat : Int) < 48 := by omega
              clear hd
              go_wp2
              go_ret2
              exact ⟨by rw [HN.out.1, HN.out.2]; rfl, Below.refl _ _⟩
            · have q1 : ¬ (s[k].toNat : Int) < 48 := by omega
              have q2 : (57 : Int) < (s[k].toNat : Int) := by omega
              clear hd
              go_wp2
              go_ret2
              exact ⟨by rw [HN.out.1, HN.out.2]; rfl, Below.refl _ _⟩
        · have HA : Hid (Lib.decFrom 0 (magP s).data.toList = some m) := by show _ = _; rw [HD.out, ← HM.out, List.take_of_length_le (by rw [size_list]; omega)]
          by_cases hs : decZ ((m : Int)) = s
          · have HN := Lib.hid (rd_some (rd_same (s := s) (m := m) (by rw [HD.out]; omega) HA.out (by rw [HV.out]; exact hs)))
            rw [HV.out] at HN
            have hbq : ((decZ ((m : Int))).toList == s.toList) = true := by rw [hs]; simp
            clear hs
            go_wp2_with fail
            refine (l1NumZ_ct ((m : Int)) (by omega) (by omega) _).mono ?_
            rintro e w3 ⟨rfl, hb3⟩
            go_wp2_with fail
            go_ret2
            exact ⟨by rw [HN.out.1, HN.out.2]; rfl, hb3⟩
          · have HN := Lib.hid (rd_none (rd_other HA.out (by rw [HV.out]; exact hs)))
            have hbq : ((decZ ((m : Int))).toList == s.toList) = false := by
              rw [beq_eq_false_iff_ne]; intro h; exact hs (bytes_ext h)
            clear hs
            go_wp2_with fail
            refine (l1NumZ_ct ((m : Int)) (by omega) (by omega) _).mono ?_
            rintro e w3 ⟨rfl, hb3⟩
            go_wp2_with fail
            go_ret2
            exact ⟨by rw [HN.out.1, HN.out.2]; rfl, hb3⟩
  · have hneg : negP s = false := by unfold negP; simp [h1]
    go_enter Tryd.func13, Tryd.ntmps13
    go_wp2_with fail
    have hmag : magP s = s := by unfold magP; rw [hneg, if_neg (by simp)]
    have HV : Hid (∀ m : Nat, valP s m = (m : Int)) := by show ∀ m : Nat, _; intro m; unfold valP; rw [hneg]; simp
    have HD : Hid (magP s = s) := by show _ = _; exact hmag
    by_cases hz : 1 ≤ s.size ∧ s.size ≤ 6
    case neg =>
      have HN := Lib.hid (rd_none (rd_size (by rw [HD.out]; exact hz)))
      refine (l1In_ct _ _ _ false (by constructor <;> intro h; cases h; exact (hz (by omega)).elim) _).mono ?_
      rintro e w2 ⟨rfl, rfl⟩
      go_wp2_with fail
      go_ret2
      exact ⟨by rw [HN.out.1, HN.out.2]; rfl, Below.refl _ _⟩
    refine (l1In_ct _ _ _ true (by constructor <;> intro _ <;> first | omega | rfl) _).mono ?_
    rintro e w2 ⟨rfl, rfl⟩
    clear hmag hneg
    go_wp2_with fail
    go_loop [5, 6] (fun n i => ∃ k m : Nat, k ≤ s.size ∧ i = .int .i64 k ∧ n = .int .i64 m ∧ Lib.decFrom 0 (s.data.toList.take k) = some m) (fun _ i => s.size - (intOf i).toNat)
    case atStart => exact ⟨0, 0, Nat.zero_le _, rfl, rfl, rfl⟩
    case round =>
      obtain ⟨k, m, hk, rfl, rfl, hm⟩ := hrel
      have HM : Hid (Lib.decFrom 0 (s.data.toList.take k) = some m) := hm
      have hmb : m < 1000000 := by
        have h := Lib.decFrom_lt _ _ _ hm
        have hl : (s.data.toList.take k).length ≤ 6 := by rw [List.length_take, size_list]; omega
        have hp : 10 ^ (s.data.toList.take k).length ≤ 10 ^ 6 := Nat.pow_le_pow_right (by decide) hl
        omega
      clear hm
      by_cases hlt : k < s.size
      · by_cases hd : 48 ≤ s[k].toNat ∧ s[k].toNat ≤ 57
        · obtain ⟨d, hdd⟩ : ∃ d : Nat, s[k].toNat = 48 + d := ⟨s[k].toNat - 48, by omega⟩
          have HN : Hid (Lib.decFrom 0 (s.data.toList.take (k + 1)) = some (m * 10 + d)) := by
            show _ = _
            refine Lib.decFrom_take _ _ _ _ _ _ HM.out (get_byte hlt) ?_
            unfold Lib.digitVal
            rw [if_pos hd, hdd]; simp
          have q1 : (48 : Int) ≤ (s[k].toNat : Int) := by omega
          have q2 : (s[k].toNat : Int) ≤ 57 := by omega
          have q3 : (s[k].toNat : Int) - 48 = (d : Int) := by omega
          have q4 : d ≤ 9 := by omega
          clear hd
          go_wp2
          go_round
          case rel => exact ⟨k + 1, m * 10 + d, by omega, by go_num, by go_num, HN.out⟩
          case measure => simp [intOf]; omega
        · have HN := Lib.hid (rd_none (rd_digit (s := s) k s[k] (by rw [HD.out]; exact get_byte hlt) (by unfold Lib.digitVal; rw [if_neg hd])))
          by_cases h48 : s[k].toNat < 48
          · have q1 : (s[k].toNat : Int) < 48 := by omega
            clear hd
            go_wp2
            go_ret2
            exact ⟨by rw [HN.out.1, HN.out.2]; rfl, Below.refl _ _⟩
          · have q1 : ¬ (s[k].toNat : Int) < 48 := by omega
            have q2 : (57 : Int) < (s[k].toNat : Int) := by omega
            clear hd
            go_wp2
            go_ret2
            exact ⟨by rw [HN.out.1, HN.out.2]; rfl, Below.refl _ _⟩
      · have HA : Hid (Lib.decFrom 0 (magP s).data.toList = some m) := by show _ = _; rw [HD.out, ← HM.out, List.take_of_length_le (by rw [size_list]; omega)]
        by_cases hs : decZ ((m : Int)) = s
        · have HN := Lib.hid (rd_some (rd_same (s := s) (m := m) (by rw [HD.out]; omega) HA.out (by rw [HV.out]; exact hs)))
          rw [HV.out] at HN
          have hbq : ((decZ ((m : Int))).toList == s.toList) = true := by rw [hs]; simp
          clear hs
          go_wp2_with fail
          refine (l1NumZ_ct ((m : Int)) (by omega) (by omega) _).mono ?_
          rintro e w3 ⟨rfl, hb3⟩
          go_wp2_with fail
          go_ret2
          exact ⟨by rw [HN.out.1, HN.out.2]; rfl, hb3⟩
        · have HN := Lib.hid (rd_none (rd_other HA.out (by rw [HV.out]; exact hs)))
          have hbq : ((decZ ((m : Int))).toList == s.toList) = false := by
            rw [beq_eq_false_iff_ne]; intro h; exact hs (bytes_ext h)
          clear hs
          go_wp2_with fail
          refine (l1NumZ_ct ((m : Int)) (by omega) (by omega) _).mono ?_
          rintro e w3 ⟨rfl, hb3⟩
          go_wp2_with fail
          go_ret2
          exact ⟨by rw [HN.out.1, HN.out.2]; rfl, hb3⟩
end Go.Proofs.YtjbiphaeinbgbaaDoor
