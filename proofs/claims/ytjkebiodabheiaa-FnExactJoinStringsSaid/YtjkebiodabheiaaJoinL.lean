/- Strings joined with a byte between. -/
import Derived.Test.YtjkebiodabheiaaElem1
import Derived.Test.YtjkebiodabheiaaShelf
import Derived.Lib.IndexAny
import Derived.Lib.Join
import Derived.Lib.Hide
import Derived.IntWalk
namespace Go.Proofs.Ytjkebiodabheiaa
open Go Go.RowKit Go.BigFrame

def standsB (s : ByteArray) (c : UInt8) : Bool := s.data.toList.contains c
set_option maxHeartbeats 1000000 in
theorem l1Stands_ct (s : ByteArray) (c : UInt8) (r : Bool) (w : World) (hs : s.size ≤ 1073741824) (hr : standsB s c = r) : Calls Try.prog 9 #[.string s, .int .u8 (c.toNat : Int)] w fun e w' => e = .returned (.bool r) ∧ w' = w := by
  have HR : Hid (s.data.toList.contains c = r) := hr
  clear hr
  go_enter Try.func9, Try.ntmps9
  go_wp2_with fail
  go_loop [5] (fun i => ∃ k : Nat, k ≤ s.size ∧ i = .int .i64 k ∧ Hid ((s.data.toList.take k).contains c = false)) (fun i => s.size - (intOf i).toNat)
  case atStart => exact ⟨0, Nat.zero_le _, rfl, (by show _ = _; simp)⟩
  case round =>
    obtain ⟨k, hk, rfl, HA⟩ := hrel
    by_cases hlt : k < s.size
    · by_cases he : s[k] = c
      · have HF : Hid (r = true) := by
          show _ = _; rw [← HR.out, List.contains_eq_mem, decide_eq_true_iff, ← he, show s[k] = s.data.toList[k]'(by simpa using hlt) from rfl]; exact List.getElem_mem _
        have he' : (s[k].toNat : Int) = (c.toNat : Int) := by rw [he]
        clear he
        go_wp2_with fail
        go_ret
        exact ⟨by rw [HF.out]; rfl, rfl⟩
      · have HT : Hid ((s.data.toList.take (k + 1)).contains c = false) := by
          show _ = _
          rw [take_snoc s k hlt]
          have := HA.out
          simp only [List.contains_eq_mem, decide_eq_false_iff_not, List.mem_append, List.mem_singleton] at this ⊢
          rintro (h | h)
          · exact this h
          · exact he h.symm
        have he' : ¬ (s[k].toNat : Int) = (c.toNat : Int) := fun h => he (UInt8.toNat_inj.1 (by exact_mod_cast h))
        clear he
        go_wp2_with fail
        go_round
        case rel => exact ⟨k + 1, by omega, by go_num, HT⟩
        case measure => simp [intOf]; omega
    · have HF : Hid (r = false) := by
        have := HA.out
        rw [List.take_of_length_le (by simp; omega)] at this
        rw [← HR.out]; exact this
      go_wp2_with fail
      go_ret
      exact ⟨by rw [HF.out]; rfl, rfl⟩

theorem get_byte0 {s : ByteArray} {k : Nat} (h : k < s.size) : s.data.toList[k]? = some s[k] := by
  rw [Array.getElem?_toList, Array.getElem?_eq_getElem h]; rfl
theorem idx_ge (l : List UInt8) (c : UInt8) : -1 ≤ Lib.indexByte l c := by
  induction l with
  | nil => simp [Lib.indexByte]
  | cons b l ih =>
    unfold Lib.indexByte
    split
    · omega
    · split <;> omega
theorem stands_idx (l : List UInt8) (c : UInt8) : decide (0 ≤ Lib.indexByte l c) = l.contains c := by
  induction l with
  | nil => simp [Lib.indexByte]
  | cons b l ih =>
    unfold Lib.indexByte
    by_cases h : b = c
    · subst h; simp
    · have h1 : (b == c) = false := by simpa using h
      have h2 : (c == b) = false := by simpa using fun e => h e.symm
      rw [h1, List.contains_cons, h2, Bool.false_or, ← ih]
      simp only [Bool.false_eq_true, if_false]
      by_cases h3 : Lib.indexByte l c = -1
      · simp [h3]
      · have : (Lib.indexByte l c == -1) = false := by simpa using h3
        rw [this]
        simp only [Bool.false_eq_true, if_false]
        by_cases h4 : 0 ≤ Lib.indexByte l c
        · rw [decide_eq_true h4, decide_eq_true (by omega)]
        · have := idx_ge l c
          omega
/-- The first parts, joined. -/
def jA (l : List ByteArray) (p : ByteArray) : Nat → ByteArray
  | 0 => ⟨#[]⟩
  | k + 1 => match l[k]? with
    | some x => (if 0 < k then jA l p k ++ p else jA l p k) ++ x
    | none => jA l p k
theorem jA_size {l : List ByteArray} {p : ByteArray} (hp : p.size = 1) : ∀ k, k ≤ l.length → (jA l p k).size = sumOf ByteArray.size (l.take k) + (k - 1)
  | 0, _ => by rw [List.take_zero]; rfl
  | k + 1, hk => by
    obtain ⟨x, hx⟩ := getElem?_of_lt (show k < l.length by omega)
    have ih := jA_size (l := l) hp k (by omega)
    unfold jA
    rw [hx, sumOf_take ByteArray.size hx]
    simp only
    split
    · rw [ByteArray.size_append, ByteArray.size_append, ih, hp]; omega
    · rw [ByteArray.size_append, ih]
      have : k = 0 := by omega
      subst this; simp [sumOf]
theorem jA_data {l : List ByteArray} {p : ByteArray} : ∀ k, k ≤ l.length → (jA l p k).data.toList = Lib.join ((l.take k).map (·.data.toList)) p.data.toList
  | 0, _ => by simp [jA, Lib.join_nil]
  | 1, hk => by
    obtain ⟨x, hx⟩ := getElem?_of_lt (show 0 < l.length by omega)
    rw [take_snoc_l hx]
    unfold jA
    rw [hx]
    simp [jA, Lib.join_one]
  | k + 2, hk => by
    obtain ⟨x, hx⟩ := getElem?_of_lt (show k + 1 < l.length by omega)
    obtain ⟨y, hy⟩ := getElem?_of_lt (show 0 < l.length by omega)
    have ih := jA_data (l := l) (p := p) (k + 1) (by omega)
    cases l with
    | nil => simp at hk
    | cons z r =>
      unfold jA
      rw [hx]
      simp only [Nat.zero_lt_succ, if_true]
      simp only [List.getElem?_cons_succ] at hx
      rw [List.take_succ_cons, List.map_cons, Lib.join_cons] at ih ⊢
      rw [List.map_take, Lib.joinTail_take_succ _ _ k x.data.toList (by rw [List.getElem?_map, hx]; rfl)]
      rw [List.map_take] at ih
      simp [ByteArray.data_append, ih, List.append_assoc]
def totJ (l : List ByteArray) : Nat := sumOf ByteArray.size l + (l.length - 1)
def joinB (l : List ByteArray) (p : ByteArray) : Bool := decide (p.size = 1) && (decide (l.length ≠ 0) && (decide (totJ l ≤ 4000) && l.all (fun s => !standsB s ((p.data.toList[0]?).getD 0))))
def joinR (l : List ByteArray) (p : ByteArray) : ByteArray := if joinB l p then jA l p l.length else ⟨#[]⟩
theorem jA_le {l : List ByteArray} {p : ByteArray} (hp : p.size = 1) {k : Nat} (hk : k ≤ l.length) (h : 4000 < (jA l p k).size) : joinB l p = false := by
  rw [jA_size hp k hk] at h
  have := sumOf_take_le ByteArray.size l k
  unfold joinB totJ
  rw [decide_eq_false (p := sumOf ByteArray.size l + (l.length - 1) ≤ 4000) (by omega)]
  simp
theorem stands_no {l : List ByteArray} {p : ByteArray} {x : ByteArray} {k : Nat} (hx : l[k]? = some x) (h : standsB x ((p.data.toList[0]?).getD 0) = true) : joinB l p = false := by
  unfold joinB
  have : l.all (fun s => !standsB s ((p.data.toList[0]?).getD 0)) = false := by rw [List.all_eq_false]; exact ⟨x, List.mem_of_getElem? hx, by rw [h]; simp⟩
  rw [this]; simp

set_option maxHeartbeats 4000000 in
theorem specJoinStrings_ct (v : Value) (l : List ByteArray) (p : ByteArray) (w : World) (h : StrsAt w v l) (htot : totS l ≤ 1048576) (_ : p.size ≤ 1048576) : Calls Try.prog 5 #[v, .string p] w fun e w' => e = .returned (.tuple #[.string (joinR l p), .bool (joinB l p)]) ∧ Below w.heap.size w w' := by
  obtain ⟨a, c, rfl, _, hl, h3⟩ := h.open
  have H3 : Hid _ := h3
  clear h h3
  unfold totS at htot
  by_cases hp : p.size = 1
  case neg =>
    have HB : Hid (joinB l p = false) := by show _ = _; unfold joinB; rw [decide_eq_false hp]; rfl
    have HR : Hid (joinR l p = ⟨#[]⟩) := by show _ = _; unfold joinR; rw [HB.out]; rfl
    have hq : ((p.size : Int) != 1) = true := by simp only [bne_iff_ne, ne_eq]; omega
    rw [HB.out, HR.out]
    go_enter Try.func5, Try.ntmps5
    go_wp2_with fail
    go_ret2
    exact ⟨rfl, Below.refl _ _⟩
  by_cases h0 : l.length = 0
  case pos =>
    have HB : Hid (joinB l p = false) := by show _ = _; unfold joinB; simp [h0]
    have HR : Hid (joinR l p = ⟨#[]⟩) := by show _ = _; unfold joinR; rw [HB.out]; rfl
    rw [HB.out, HR.out, h0]
    go_enter Try.func5, Try.ntmps5
    go_wp2_with fail
    go_ret2
    exact ⟨rfl, Below.refl _ _⟩
  have hp1 : 0 < p.size := by omega
  have hz : (p.data.toList[0]?).getD 0 = p[0] := by rw [get_byte0 hp1]; rfl
  have HZ : Hid ((p.data.toList[0]?).getD 0 = p[0]) := hz
  have HP : Hid (p.size = 1) := hp
  have hq : ((p.size : Int) != 1) = false := by simp only [bne_eq_false_iff_eq]; omega
  have hq2 : ((l.length : Int) == 0) = false := by simp only [beq_eq_false_iff_ne]; omega
  clear hz
  go_enter Try.func5, Try.ntmps5
  go_wp2_with fail
  go_loopw [6, 7] (fun s i W => ∃ k : Nat, k ≤ l.length ∧ i = .int .i64 k ∧ s = .string (jA l p k) ∧ Hid ((jA l p k).size ≤ 4000 ∧ (l.take k).all (fun s => !standsB s p[0]) = true) ∧ Below w.heap.size w W) (fun _ i _ => l.length - (intOf i).toNat)
  case atStart => exact ⟨0, Nat.zero_le _, rfl, rfl, ⟨by rw [jA_size HP.out 0 (Nat.zero_le _)]; simp [sumOf], rfl⟩, Below.refl _ _⟩
  case round =>
    obtain ⟨k, hk, rfl, rfl, HK, hb⟩ := hrel
    by_cases hkl : k < l.length
    · obtain ⟨x, hx⟩ := getElem?_of_lt hkl
      obtain ⟨hxs, b1, o1, rfl, hc0⟩ := H3.out k x hx
      have g1 := (hb.cell (World.block_lt_of_cell? w _ hc0)).trans hc0
      have gc := fun z => gr_cell (w := wr) g1 z
      have hsz := HK.out.1
      have hxl := le_sumOf ByteArray.size (List.mem_of_getElem? hx)
      have HX : Hid (l[k]? = some x) := hx
      clear hc0 hx
      cases hst : standsB x p[0] with
      | true =>
        have HB : Hid (joinB l p = false) := stands_no HX.out (by rw [HZ.out]; exact hst)
        have HR : Hid (joinR l p = ⟨#[]⟩) := by show _ = _; unfold joinR; rw [HB.out]; rfl
        go_wp2_with fail
        refine wp_region_gr (by kernel_rfl) (by kernel_rfl) ?_
        repeat (go_big_quiet_step ((go_at_call 9; exact Calls.gr_same (l1Stands_ct x p[0] true _ hxs hst))))
        refine wpQuiet_nil ?_
        intro w2 hb2
        go_wp2_with fail
        go_ret2
        exact ⟨by rw [HB.out, HR.out]; rfl, bthen hb hb2⟩
      | false =>
        have HT : Hid ((l.take (k + 1)).all (fun s => !standsB s p[0]) = true) := by show _ = _; rw [take_snoc_l HX.out, List.all_append, HK.out.2]; simp [hst]
        have hnx : jA l p (k + 1) = (if 0 < k then jA l p k ++ p else jA l p k) ++ x := by conv => lhs; unfold jA; rw [HX.out]
        have HNX : Hid (jA l p (k + 1) = (if 0 < k then jA l p k ++ p else jA l p k) ++ x) := hnx
        have hsn : (jA l p (k + 1)).size = (if 0 < k then (jA l p k).size + 1 else (jA l p k).size) + x.size := by rw [hnx]; split <;> simp [HP.out]
        clear hnx
        by_cases hk0 : 0 < k
        · have HV : Hid (jA l p (k + 1) = jA l p k ++ p ++ x) := by show _ = _; rw [HNX.out, if_pos hk0]
          rw [if_pos hk0] at hsn
          have hkp : ((k : Int) > 0) := by omega
          by_cases hbig : 4000 < (jA l p k).size + 1 + x.size
          · have HB : Hid (joinB l p = false) := jA_le HP.out (k := k + 1) (by omega) (by rw [hsn]; omega)
            have HR : Hid (joinR l p = ⟨#[]⟩) := by show _ = _; unfold joinR; rw [HB.out]; rfl
            clear hsn
            go_wp2_with fail
            refine wp_region_gr (by kernel_rfl) (by kernel_rfl) ?_
            repeat (go_big_quiet_step ((go_at_call 9; exact Calls.gr_same (l1Stands_ct x p[0] false _ hxs hst))))
            refine wpQuiet_nil ?_
            intro w2 hb2
            have g1 := (hb2.cell (World.block_lt_of_cell? _ _ g1)).trans g1
            clear gc
            go_wp2_with fail
            go_ret2
            exact ⟨by rw [HB.out, HR.out]; rfl, bthen hb hb2⟩
          · have HS : Hid ((jA l p (k + 1)).size ≤ 4000) := by show _ ≤ _; rw [hsn]; omega
            clear hsn
            go_wp2_with fail
            refine wp_region_gr (by kernel_rfl) (by kernel_rfl) ?_
            repeat (go_big_quiet_step ((go_at_call 9; exact Calls.gr_same (l1Stands_ct x p[0] false _ hxs hst))))
            refine wpQuiet_nil ?_
            intro w2 hb2
            have g1 := (hb2.cell (World.block_lt_of_cell? _ _ g1)).trans g1
            clear gc
            go_wp2_with fail
            go_roundw
            case rel => exact ⟨k + 1, by omega, by go_num, by rw [HV.out], ⟨HS.out, HT.out⟩, bthen hb hb2⟩
            case measure => simp [intOf]; omega
        · have HV : Hid (jA l p (k + 1) = jA l p k ++ x) := by show _ = _; rw [HNX.out, if_neg hk0]
          rw [if_neg hk0] at hsn
          have hkp : ¬ ((k : Int) > 0) := by omega
          by_cases hbig : 4000 < (jA l p k).size + x.size
          · have HB : Hid (joinB l p = false) := jA_le HP.out (k := k + 1) (by omega) (by rw [hsn]; omega)
            have HR : Hid (joinR l p = ⟨#[]⟩) := by show _ = _; unfold joinR; rw [HB.out]; rfl
            clear hsn
            go_wp2_with fail
            refine wp_region_gr (by kernel_rfl) (by kernel_rfl) ?_
            repeat (go_big_quiet_step ((go_at_call 9; exact Calls.gr_same (l1Stands_ct x p[0] false _ hxs hst))))
            refine wpQuiet_nil ?_
            intro w2 hb2
            have g1 := (hb2.cell (World.block_lt_of_cell? _ _ g1)).trans g1
            clear gc
            go_wp2_with fail
            go_ret2
            exact ⟨by rw [HB.out, HR.out]; rfl, bthen hb hb2⟩
          · have HS : Hid ((jA l p (k + 1)).size ≤ 4000) := by show _ ≤ _; rw [hsn]; omega
            clear hsn
            go_wp2_with fail
            refine wp_region_gr (by kernel_rfl) (by kernel_rfl) ?_
            repeat (go_big_quiet_step ((go_at_call 9; exact Calls.gr_same (l1Stands_ct x p[0] false _ hxs hst))))
            refine wpQuiet_nil ?_
            intro w2 hb2
            have g1 := (hb2.cell (World.block_lt_of_cell? _ _ g1)).trans g1
            clear gc
            go_wp2_with fail
            go_roundw
            case rel => exact ⟨k + 1, by omega, by go_num, by rw [HV.out], ⟨HS.out, HT.out⟩, bthen hb hb2⟩
            case measure => simp [intOf]; omega
    · have e : k = l.length := by omega
      subst e
      have HB : Hid (joinB l p = true) := by
        have h1 := HK.out.1
        rw [jA_size HP.out _ (Nat.le_refl _), List.take_length] at h1
        have h2 := HK.out.2
        rw [List.take_length] at h2
        show _ = _
        unfold joinB totJ
        rw [HZ.out, decide_eq_true HP.out, decide_eq_true h0, decide_eq_true h1, h2]; rfl
      have HR : Hid (joinR l p = jA l p l.length) := by show _ = _; unfold joinR; rw [HB.out]; rfl
      go_wp2_with fail
      go_ret2
      exact ⟨by rw [HB.out, HR.out]; rfl, hb⟩
theorem totJ_big {l : List ByteArray} {p : ByteArray} {k : Nat} (h : 4000 < l.length - 1 + sumOf ByteArray.size (l.take k)) : joinB l p = false := by
  have := sumOf_take_le ByteArray.size l k
  unfold joinB totJ
  rw [decide_eq_false (p := sumOf ByteArray.size l + (l.length - 1) ≤ 4000) (by omega)]
  simp
set_option maxHeartbeats 4000000 in
theorem implJoinStrings_ct (v : Value) (l : List ByteArray) (p : ByteArray) (w : World) (h : StrsAt w v l) (htot : totS l ≤ 1048576) (_ : p.size ≤ 1048576) : Calls Try.prog 7 #[v, .string p] w fun e w' => e = .returned (.tuple #[.string (joinR l p), .bool (joinB l p)]) ∧ Below w.heap.size w w' := by
  obtain ⟨a, c, rfl, hlc, hl, h3⟩ := h.open
  have H3 : Hid _ := h3
  clear h h3
  unfold totS at htot
  by_cases h0 : l.length = 0
  case pos =>
    have HB : Hid (joinB l p = false) := by show _ = _; unfold joinB; simp [h0]
    have HR : Hid (joinR l p = ⟨#[]⟩) := by show _ = _; unfold joinR; rw [HB.out]; rfl
    rw [HB.out, HR.out, h0]
    go_enter Try.func7, Try.ntmps7
    go_wp2_with fail
    go_ret2
    exact ⟨rfl, Below.refl _ _⟩
  have hq2 : ((l.length : Int) == 0) = false := by simp only [beq_eq_false_iff_ne]; omega
  by_cases hp : p.size = 1
  case neg =>
    have HB : Hid (joinB l p = false) := by show _ = _; unfold joinB; rw [decide_eq_false hp]; rfl
    have HR : Hid (joinR l p = ⟨#[]⟩) := by show _ = _; unfold joinR; rw [HB.out]; rfl
    have hq : ((p.size : Int) != 1) = true := by simp only [bne_iff_ne, ne_eq]; omega
    rw [HB.out, HR.out]
    go_enter Try.func7, Try.ntmps7
    go_wp2_with fail
    go_ret2
    exact ⟨rfl, Below.refl _ _⟩
  have hp1 : 0 < p.size := by omega
  have hz : (p.data.toList[0]?).getD 0 = p[0] := by rw [get_byte0 hp1]; rfl
  have HZ : Hid ((p.data.toList[0]?).getD 0 = p[0]) := hz
  have HP : Hid (p.size = 1) := hp
  have hq : ((p.size : Int) != 1) = false := by simp only [bne_eq_false_iff_eq]; omega
  have hl1 : (l.length : Int) ≤ 1048576 := by omega
  have hl0 : 0 < l.length := by omega
  clear hz
  go_enter Try.func7, Try.ntmps7
  go_wp2_with fail
  go_loop [6, 8, 22] (fun zz _ i => ∃ (k : Nat) (z : Int), zz = .int .i64 z ∧ k ≤ l.length ∧ i = .int .i64 k ∧ Hid (z = (l.length : Int) - 1 + sumOf ByteArray.size (l.take k)) ∧ Hid (0 < k → z ≤ 4000) ∧ Hid ((l.take k).all (fun s => !standsB s p[0]) = true)) (fun _ _ i => l.length - (intOf i).toNat)
  case atStart => exact ⟨0, _, rfl, Nat.zero_le _, rfl, by show _ = _; simp [sumOf], fun h => absurd h (Nat.lt_irrefl _), (by show _ = _; rfl)⟩
  case round =>
    obtain ⟨k, z, rfl, hk, rfl, HZZ, H4, HA⟩ := hrel
    have hzb : 0 ≤ z ∧ z ≤ 2097152 := by
      have h1 := HZZ.out
      have h2 := sumOf_take_le ByteArray.size l k
      omega
    by_cases hkl : k < l.length
    · obtain ⟨x, hx⟩ := getElem?_of_lt hkl
      obtain ⟨hxs, b1, o1, rfl, hc0⟩ := H3.out k x hx
      have hxl := le_sumOf ByteArray.size (List.mem_of_getElem? hx)
      have HX : Hid (l[k]? = some x) := hx
      have HN : Hid (z + x.size = (l.length : Int) - 1 + sumOf ByteArray.size (l.take (k + 1))) := by show _ = _; rw [sumOf_take ByteArray.size hx, HZZ.out]; omega
      have hxx : (x.size : Int) ≤ 1048576 := by omega
      clear hx hxl HZZ H4
      by_cases hbig : z + x.size > 4000
      · have HB : Hid (joinB l p = false) := totJ_big (k := k + 1) (by have := HN.out; omega)
        have HR : Hid (joinR l p = ⟨#[]⟩) := by show _ = _; unfold joinR; rw [HB.out]; rfl
        go_wp2_with fail
        go_ret2
        exact ⟨by rw [HB.out, HR.out]; rfl, Below.refl _ _⟩
      · have hconv : ((p[0].toNat : Int)).toNat.toUInt8 = p[0] := by simp
        obtain ⟨ix, hix⟩ : ∃ ix, ix = Lib.indexByte x.data.toList p[0] := ⟨_, rfl⟩
        have hcall : ∀ W : World, Calls Try.prog 10 #[.string x, .int .u8 (p[0].toNat : Int)] W fun e w' => e = .returned (.int .i64 ix) ∧ w' = W := fun W => by
          have := Try.strings_IndexByte x (p[0].toNat : Int) W
          rw [hconv] at this
          rw [hix]; exact this
        have HC := Lib.hid hcall
        have hst2 := stands_idx x.data.toList p[0]
        rw [← hix] at hst2
        have hig := idx_ge x.data.toList p[0]
        rw [← hix] at hig
        clear hcall hix hconv
        cases hst : standsB x p[0] with
        | true =>
          have hpos : ix ≥ 0 := by have : decide (0 ≤ ix) = true := hst2.trans hst; simpa using this
          have HB : Hid (joinB l p = false) := stands_no HX.out (by rw [HZ.out]; exact hst)
          have HR : Hid (joinR l p = ⟨#[]⟩) := by show _ = _; unfold joinR; rw [HB.out]; rfl
          clear hst2 hst
          go_wp2_with (go_at_call 10; refine (HC.out _).mono ?_; rintro e w2 ⟨rfl, rfl⟩)
          go_ret2
          exact ⟨by rw [HB.out, HR.out]; rfl, Below.refl _ _⟩
        | false =>
          have hneg : ¬ ix ≥ 0 := by have : decide (0 ≤ ix) = false := hst2.trans hst; simpa using this
          have HT : Hid ((l.take (k + 1)).all (fun s => !standsB s p[0]) = true) := by show _ = _; rw [take_snoc_l HX.out, List.all_append, HA.out]; simp [hst]
          have H4' : Hid (0 < k + 1 → z + x.size ≤ 4000) := fun _ => by omega
          clear hst2 hst
          go_wp2_with (go_at_call 10; refine (HC.out _).mono ?_; rintro e w2 ⟨rfl, rfl⟩)
          go_round
          case rel => exact ⟨k + 1, z + x.size, rfl, by omega, by go_num, HN, H4', HT⟩
          case measure => simp [intOf]; omega
    · have e : k = l.length := by omega
      subst e
      have hz4 : z ≤ 4000 := H4.out hl0
      have hsum := HZZ.out
      rw [List.take_length] at hsum
      have hall := HA.out
      rw [List.take_length] at hall
      have HB : Hid (joinB l p = true) := by
        show _ = _
        unfold joinB totJ
        rw [HZ.out, decide_eq_true HP.out, decide_eq_true h0, decide_eq_true (by omega), hall]; rfl
      have HR : Hid (joinR l p = jA l p l.length) := by show _ = _; unfold joinR; rw [HB.out]; rfl
      have hjs := jA_size (l := l) HP.out l.length (Nat.le_refl _)
      rw [List.take_length] at hjs
      have hjd := jA_data (l := l) (p := p) l.length (Nat.le_refl _)
      rw [List.take_length] at hjd
      obtain ⟨x, hx⟩ := getElem?_of_lt hl0
      obtain ⟨_, b1, o1, rfl, hc0⟩ := H3.out 0 x hx
      have hbl := World.block_lt_of_cell? w _ hc0
      have hcall : Calls Try.prog 11 #[.slice (some ⟨b1, o1, none⟩) l.length c, .string p] w fun e w' => e = .returned (.string (jA l p l.length)) ∧ Below w.heap.size w w' := by
        refine (Try.strings_Join b1 o1 c l p w (fun j y hy => ?_) hbl (by omega) hlc ?_).mono ?_
        · obtain ⟨_, b', o', e', hc⟩ := H3.out j y hy
          obtain ⟨rfl, rfl⟩ : b1 = b' ∧ o1 = o' := by simpa using e'
          exact hc
        · rw [← hjd]
          have : (jA l p l.length).data.toList.length = (jA l p l.length).size := by rw [Array.length_toList]; rfl
          rw [this, hjs]; omega
        · rintro e w' ⟨rfl, hb⟩
          refine ⟨?_, hb⟩
          rw [← hjd]
      have HC := Lib.hid hcall
      clear hcall hjs hjd hx hc0 hsum hall
      go_wp2_with fail
      refine HC.out.mono ?_
      rintro e w2 ⟨rfl, hb⟩
      go_wp2_with fail
      go_ret2
      exact ⟨by rw [HB.out, HR.out]; rfl, hb⟩
end Go.Proofs.Ytjkebiodabheiaa
