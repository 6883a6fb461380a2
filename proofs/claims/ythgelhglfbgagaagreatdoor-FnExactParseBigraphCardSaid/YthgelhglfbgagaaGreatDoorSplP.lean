/- Splitting and cutting at a byte: plain words. No program in sight. -/
import Derived.Test.YthgelhglfbgagaaGreatDoorG1
import Derived.Lib.SplitLaws
import Derived.Lib.Join
namespace Go.Proofs.YthgelhglfbgagaaGreatDoor
open Go Go.RowKit

def splitSt (s : ByteArray) (b : UInt8) : Nat → List ByteArray × Nat
  | 0 => ([], 0)
  | k + 1 => if s.data.toList[k]? = some b then ((splitSt s b k).1 ++ [s.extract (splitSt s b k).2 k], k + 1) else splitSt s b k
def splitP (s : ByteArray) (b : UInt8) : List ByteArray := (splitSt s b s.size).1 ++ [s.extract (splitSt s b s.size).2 s.size]
theorem byteAt {s : ByteArray} {k : Nat} (h : k < s.size) : s.data.toList[k]? = some s[k] := by
  rw [Array.getElem?_toList, Array.getElem?_eq_getElem h]; rfl
theorem splitSt_eq {s : ByteArray} {b : UInt8} {k : Nat} (h : k < s.size) (he : s[k] = b) : splitSt s b (k + 1) = ((splitSt s b k).1 ++ [s.extract (splitSt s b k).2 k], k + 1) := by
  simp only [splitSt]; rw [if_pos (by rw [byteAt h, he])]
theorem splitSt_ne {s : ByteArray} {b : UInt8} {k : Nat} (h : k < s.size) (he : ¬ s[k] = b) : splitSt s b (k + 1) = splitSt s b k := by
  simp only [splitSt]; rw [if_neg (by rw [byteAt h]; simpa using he)]
theorem splitSt_le (s : ByteArray) (b : UInt8) : ∀ k, (splitSt s b k).2 ≤ k
  | 0 => Nat.le_refl _
  | k + 1 => by simp only [splitSt]; split; exact Nat.le_refl _; exact Nat.le_succ_of_le (splitSt_le s b k)
theorem splitSt_len (s : ByteArray) (b : UInt8) : ∀ k, (splitSt s b k).1.length ≤ k
  | 0 => Nat.le_refl _
  | k + 1 => by have := splitSt_len s b k; simp only [splitSt]; split <;> simp <;> omega
theorem splitSt_size (s : ByteArray) (b : UInt8) : ∀ k, ∀ x ∈ (splitSt s b k).1, x.size ≤ s.size
  | 0 => fun x h => by cases h
  | k + 1 => by
    intro x hx
    simp only [splitSt] at hx
    split at hx
    · rcases List.mem_append.1 hx with h | h
      · exact splitSt_size s b k x h
      · rw [List.mem_singleton.1 h]; simp [ByteArray.size_extract]; omega
    · exact splitSt_size s b k x hx
theorem splitP_length (s : ByteArray) (b : UInt8) : (splitP s b).length ≤ s.size + 1 := by
  have := splitSt_len s b s.size
  simp [splitP]; omega
theorem splitP_pos (s : ByteArray) (b : UInt8) : 1 ≤ (splitP s b).length := by simp [splitP]
theorem splitP_size (s : ByteArray) (b : UInt8) : ∀ x ∈ splitP s b, x.size ≤ s.size := by
  intro x hx
  rcases List.mem_append.1 hx with h | h
  · exact splitSt_size s b _ x h
  · rw [List.mem_singleton.1 h]; simp [ByteArray.size_extract]

/-! The same over lists. -/
def splL (c : UInt8) : List UInt8 → List (List UInt8)
  | [] => [[]]
  | b :: l => if b = c then [] :: splL c l else match splL c l with
    | [] => [[b]]
    | x :: r => (b :: x) :: r
theorem splL_ne (c : UInt8) : ∀ l, splL c l ≠ []
  | [] => by simp [splL]
  | b :: l => by
    unfold splL
    split
    · simp
    · split <;> simp
theorem splL_none {c : UInt8} : ∀ {l : List UInt8}, c ∉ l → splL c l = [l]
  | [], _ => rfl
  | b :: l, h => by
    have hb : ¬ b = c := fun e => h (by simp [e])
    have hl : c ∉ l := fun e => h (by simp [e])
    unfold splL
    rw [if_neg hb, splL_none hl]
theorem splL_app {c : UInt8} (r : List UInt8) : ∀ {x : List UInt8}, c ∉ x → splL c (x ++ c :: r) = x :: splL c r
  | [], _ => by
    show splL c (c :: r) = _
    rw [splL, if_pos rfl]
  | b :: x, h => by
    have hb : ¬ b = c := fun e => h (by simp [e])
    have hl : c ∉ x := fun e => h (by simp [e])
    show splL c (b :: (x ++ c :: r)) = _
    rw [splL, if_neg hb, splL_app r hl]
theorem splL_words {c : UInt8} : ∀ (ws : List (List UInt8)) (x : List UInt8), c ∉ x → (∀ w ∈ ws, c ∉ w) → splL c (x ++ ws.flatMap (c :: ·)) = x :: ws
  | [], x, hx, _ => by rw [List.flatMap_nil, List.append_nil, splL_none hx]
  | w :: ws, x, hx, hw => by
    rw [List.flatMap_cons]
    show splL c (x ++ (c :: (w ++ ws.flatMap (c :: ·)))) = _
    rw [splL_app _ hx, splL_words ws w (hw w (by simp)) (fun y hy => hw y (by simp [hy]))]
/-- One byte more. -/
theorem splL_snoc {c : UInt8} (y : UInt8) : ∀ (l : List UInt8) (p : List (List UInt8)) (z : List UInt8), splL c l = p ++ [z] → splL c (l ++ [y]) = if y = c then p ++ [z, []] else p ++ [z ++ [y]]
  | [], p, z, h => by
    unfold splL at h
    have hp : p = [] ∧ z = [] := by
      cases p with
      | nil => simp at h; exact ⟨rfl, h⟩
      | cons q p => simp at h
    obtain ⟨rfl, rfl⟩ := hp
    show splL c [y] = _
    unfold splL
    split
    · simp [splL]
    · simp [splL]
  | b :: l, p, z, h => by
    obtain ⟨p', z', hl⟩ : ∃ p' z', splL c l = p' ++ [z'] := ⟨(splL c l).dropLast, (splL c l).getLast (splL_ne c l), (List.dropLast_concat_getLast (splL_ne c l)).symm⟩
    have ih := splL_snoc y l p' z' hl
    rw [List.cons_append]
    by_cases hb : b = c
    · rw [splL, if_pos hb, hl] at h
      rw [splL, if_pos hb, ih]
      have : p = [] :: p' ∧ z = z' := by
        have h' : ([] :: p') ++ [z'] = p ++ [z] := h
        have := List.append_inj' h' rfl
        exact ⟨this.1.symm, by simpa using this.2.symm⟩
      obtain ⟨rfl, rfl⟩ := this
      split <;> simp
    · rw [splL, if_neg hb, hl] at h
      rw [splL, if_neg hb, ih]
      cases p' with
      | nil =>
        have h' : ([] : List (List UInt8)) ++ [b :: z'] = p ++ [z] := h
        have := List.append_inj' h' rfl
        obtain ⟨rfl, e2⟩ := this
        obtain rfl : b :: z' = z := by simpa using e2
        by_cases hy : y = c
        · rw [if_pos hy, if_pos hy]; rfl
        · rw [if_neg hy, if_neg hy]; rfl
      | cons q p' =>
        have h' : ((b :: q) :: p') ++ [z'] = p ++ [z] := h
        have := List.append_inj' h' rfl
        obtain ⟨rfl, e2⟩ := this
        obtain rfl : z' = z := by simpa using e2
        by_cases hy : y = c
        · rw [if_pos hy, if_pos hy]; rfl
        · rw [if_neg hy, if_neg hy]; rfl
theorem ext_list (s : ByteArray) (a k : Nat) : (s.extract a k).data.toList = (s.data.toList.take k).drop a := by
  rw [ByteArray.data_extract, Array.toList_extract, List.extract_eq_take_drop, List.drop_take]
theorem splitSt_list (s : ByteArray) (b : UInt8) : ∀ k, k ≤ s.size → splL b (s.data.toList.take k) = (splitSt s b k).1.map (·.data.toList) ++ [(s.data.toList.take k).drop (splitSt s b k).2]
  | 0, _ => by simp [splitSt, splL]
  | k + 1, h => by
    have hk : k < s.size := h
    have ih := splitSt_list s b k (by omega)
    have hle := splitSt_le s b k
    rw [take_snoc_l (byteAt hk), splL_snoc _ _ _ _ ih]
    have hlen : (s.data.toList.take k).length = k := by simp; have : s.data.size = s.size := rfl; omega
    by_cases he : s[k] = b
    · rw [if_pos he, splitSt_eq hk he]
      simp only [List.map_append, List.map_cons, List.map_nil, ext_list]
      rw [List.drop_of_length_le (l := List.take k s.data.toList ++ [s[k]]) (by rw [List.length_append, hlen]; simp)]
      simp
    · rw [if_neg he, splitSt_ne hk he, List.drop_append_of_le_length (by omega)]
theorem splitP_list (s : ByteArray) (b : UInt8) : (splitP s b).map (·.data.toList) = splL b s.data.toList := by
  have h := splitSt_list s b s.size (Nat.le_refl _)
  have e : s.data.toList.take s.size = s.data.toList := List.take_of_length_le (by simp)
  rw [e] at h
  rw [h]
  unfold splitP
  rw [List.map_append, List.map_singleton, ext_list, e]

theorem bytes_inj {a b : List ByteArray} (h : a.map (·.data.toList) = b.map (·.data.toList)) : a = b := by
  refine List.map_inj_right (f := fun s : ByteArray => s.data.toList) (fun x y e => ?_) |>.1 h
  exact ByteArray.ext (Array.toList_inj.1 e)
/-- Words behind a first one, each with the byte before it. -/
theorem splitP_words {c : UInt8} {s : ByteArray} {x : ByteArray} {ws : List ByteArray} (hs : s.data.toList = x.data.toList ++ (ws.map (·.data.toList)).flatMap (c :: ·)) (hx : c ∉ x.data.toList) (hw : ∀ w ∈ ws, c ∉ w.data.toList) : splitP s c = x :: ws := by
  apply bytes_inj
  rw [splitP_list, hs, splL_words _ _ hx]
  · rfl
  · intro w hm
    obtain ⟨y, hy, rfl⟩ := List.mem_map.1 hm
    exact hw y hy

/-! Cut at the first such byte. -/
def cutI (s : ByteArray) (c : UInt8) : Nat := if 0 ≤ Lib.indexByte s.data.toList c then (Lib.indexByte s.data.toList c).toNat else s.size
def cutA (s : ByteArray) (c : UInt8) : ByteArray := s.extract 0 (cutI s c)
def cutZ (s : ByteArray) (c : UInt8) : ByteArray := s.extract (cutI s c + 1) s.size
theorem cutI_at {s : ByteArray} {c : UInt8} {i : Nat} (h1 : s.data.toList[i]? = some c) (h2 : ∀ j, j < i → s.data.toList[j]? ≠ some c) : cutI s c = i := by
  have hge := Lib.indexByte_ge s.data.toList c
  unfold cutI
  by_cases h : 0 ≤ Lib.indexByte s.data.toList c
  · rw [if_pos h]
    obtain ⟨o, ho⟩ : ∃ o : Nat, Lib.indexByte s.data.toList c = o := ⟨_, (Int.toNat_of_nonneg h).symm⟩
    obtain ⟨k1, k2⟩ := Lib.indexByte_some ho
    rw [ho, Int.toNat_natCast]
    rcases Nat.lt_trichotomy o i with hl | hl | hl
    · exact absurd k1 (h2 o hl)
    · exact hl
    · exact absurd h1 (k2 i hl)
  · exfalso
    exact Lib.indexByte_none (by omega) i h1
theorem cutI_no {s : ByteArray} {c : UInt8} (h : ∀ j : Nat, s.data.toList[j]? ≠ some c) : cutI s c = s.size := by
  have hge := Lib.indexByte_ge s.data.toList c
  unfold cutI
  by_cases h0 : 0 ≤ Lib.indexByte s.data.toList c
  · obtain ⟨o, ho⟩ : ∃ o : Nat, Lib.indexByte s.data.toList c = o := ⟨_, (Int.toNat_of_nonneg h0).symm⟩
    exact absurd (Lib.indexByte_some ho).1 (h o)
  · rw [if_neg h0]
theorem cutI_le (s : ByteArray) (c : UInt8) : cutI s c ≤ s.size := by
  unfold cutI
  split
  · rename_i h
    obtain ⟨o, ho⟩ : ∃ o : Nat, Lib.indexByte s.data.toList c = o := ⟨_, (Int.toNat_of_nonneg h).symm⟩
    have hl := (List.getElem?_eq_some_iff.1 (Lib.indexByte_some ho).1).1
    rw [ho, Int.toNat_natCast]; simp at hl; exact Nat.le_of_lt hl
  · exact Nat.le_refl _
theorem cutZ_no {s : ByteArray} {c : UInt8} (h : cutI s c = s.size) : cutZ s c = ⟨#[]⟩ := by
  unfold cutZ
  rw [h]
  apply ByteArray.ext
  apply Array.toList_inj.1
  rw [ext_list, List.drop_of_length_le (by simp)]
theorem cutA_no {s : ByteArray} {c : UInt8} (h : cutI s c = s.size) : cutA s c = s := by
  unfold cutA
  rw [h]
  apply ByteArray.ext
  apply Array.toList_inj.1
  rw [ext_list, List.drop_zero, List.take_of_length_le (by simp)]
theorem cut_of {c : UInt8} {s x r : ByteArray} (hs : s.data.toList = x.data.toList ++ c :: r.data.toList) (hx : c ∉ x.data.toList) : cutA s c = x ∧ cutZ s c = r := by
  have hi : cutI s c = x.data.toList.length := by
    refine cutI_at ?_ fun j hj => ?_
    · rw [hs, List.getElem?_append_right (Nat.le_refl _), Nat.sub_self]; rfl
    · rw [hs, List.getElem?_append_left hj]
      intro e
      exact hx (List.mem_of_getElem? e)
  have hz : s.data.toList.take s.size = s.data.toList := List.take_of_length_le (by simp)
  constructor
  · unfold cutA
    apply ByteArray.ext
    apply Array.toList_inj.1
    rw [ext_list, hi, hs, List.drop_zero, List.take_left]
  · unfold cutZ
    apply ByteArray.ext
    apply Array.toList_inj.1
    rw [ext_list, hz, hi, hs, List.drop_append]
    simp

/-! Split at a text of two bytes, the first of which no piece has. -/
theorem index_app {c d : UInt8} {x r : List UInt8} (hx : c ∉ x) : Lib.index (x ++ c :: d :: r) [c, d] = x.length := by
  refine Lib.index_first (by simp) ?_ fun j hj => ?_
  · unfold Lib.occAt
    rw [List.drop_left]
    simp [List.isPrefixOf]
  · cases ho : Lib.occAt (x ++ c :: d :: r) [c, d] j with
    | false => rfl
    | true =>
      exfalso
      have := Lib.occAt_head rfl ho
      rw [List.getElem?_append_left hj] at this
      exact hx (List.mem_of_getElem? this)
theorem index_no {c d : UInt8} {x : List UInt8} (hx : c ∉ x) : Lib.index x [c, d] = -1 := by
  refine Lib.index_none fun j _ => ?_
  cases ho : Lib.occAt x [c, d] j with
  | false => rfl
  | true => exact absurd (List.mem_of_getElem? (Lib.occAt_head rfl ho)) hx
theorem count_words {c d : UInt8} : ∀ (ws : List (List UInt8)) (x : List UInt8), c ∉ x → (∀ w ∈ ws, c ∉ w) → Lib.count (x ++ ws.flatMap (fun w => c :: d :: w)) [c, d] = ws.length
  | [], x, hx, _ => by rw [List.flatMap_nil, List.append_nil]; exact Lib.count_miss (index_no hx)
  | w :: ws, x, hx, hw => by
    rw [List.flatMap_cons]
    show Lib.count (x ++ (c :: d :: (w ++ ws.flatMap (fun w => c :: d :: w)))) [c, d] = _
    rw [Lib.count_hit (by simp) (index_app hx)]
    have e : List.drop (x.length + [c, d].length) (x ++ (c :: d :: (w ++ ws.flatMap (fun w => c :: d :: w)))) = w ++ ws.flatMap (fun w => c :: d :: w) := by
      rw [List.drop_append]; simp
    rw [e, count_words ws w (hw w (by simp)) (fun y hy => hw y (by simp [hy])), List.length_cons, Nat.add_comm]
theorem splitK_words {c d : UInt8} : ∀ (ws : List (List UInt8)) (x : List UInt8), c ∉ x → (∀ w ∈ ws, c ∉ w) → Lib.splitK [c, d] 0 ws.length (x ++ ws.flatMap (fun w => c :: d :: w)) = x :: ws
  | [], x, _, _ => by rw [List.flatMap_nil, List.append_nil]; rfl
  | w :: ws, x, hx, hw => by
    rw [List.flatMap_cons, List.length_cons]
    show Lib.splitK [c, d] 0 (ws.length + 1) (x ++ (c :: d :: (w ++ ws.flatMap (fun w => c :: d :: w)))) = _
    have hi := index_app (c := c) (d := d) (r := w ++ ws.flatMap (fun w => c :: d :: w)) hx
    rw [Lib.splitK, hi, if_neg (by rw [beq_iff_eq]; omega)]
    have e : List.drop (((x.length : Nat) : Int).toNat + [c, d].length) (x ++ (c :: d :: (w ++ ws.flatMap (fun w => c :: d :: w)))) = w ++ ws.flatMap (fun w => c :: d :: w) := by
      rw [Int.toNat_natCast, List.drop_append]; simp
    rw [e, splitK_words ws w (hw w (by simp)) (fun y hy => hw y (by simp [hy]))]
    congr 1
    rw [Int.toNat_natCast, Nat.add_zero, List.take_left]
def splitB2 (s sep : ByteArray) : List ByteArray := Lib.splitB sep 0 (Lib.countB s sep) s
theorem splitB2_words {c d : UInt8} {s x : ByteArray} {ws : List ByteArray} (hs : s.data.toList = x.data.toList ++ (ws.map (·.data.toList)).flatMap (fun w => c :: d :: w)) (hx : c ∉ x.data.toList) (hw : ∀ w ∈ ws, c ∉ w.data.toList) : splitB2 s ⟨#[c, d]⟩ = x :: ws := by
  apply bytes_inj
  unfold splitB2
  have hw' : ∀ w ∈ ws.map (·.data.toList), c ∉ w := fun w hm => by
    obtain ⟨y, hy, rfl⟩ := List.mem_map.1 hm
    exact hw y hy
  rw [Lib.splitB_data]
  show Lib.splitK [c, d] 0 (Lib.count s.data.toList [c, d]) s.data.toList = _
  rw [hs, count_words _ _ hx hw', splitK_words _ _ hx hw']
  rfl
/-- Parts behind the first one without the byte that begins them. -/
def dropH (s : ByteArray) : ByteArray := s.extract 1 s.size
theorem dropH_list (s : ByteArray) : (dropH s).data.toList = s.data.toList.drop 1 := by
  unfold dropH
  rw [ext_list, List.take_of_length_le (by simp)]
def partsS (s : ByteArray) : List ByteArray := match splitP s 59 with
  | [] => []
  | x :: r => x :: r.map dropH
theorem partsS_words {s x : ByteArray} {ws : List ByteArray} (hs : s.data.toList = x.data.toList ++ (ws.map (·.data.toList)).flatMap (fun w => 59 :: 32 :: w)) (hx : 59 ∉ x.data.toList) (hw : ∀ w ∈ ws, 59 ∉ w.data.toList) : partsS s = x :: ws := by
  have h : splitP s 59 = x :: ws.map (fun w => (⟨#[32]⟩ : ByteArray) ++ w) := by
    refine splitP_words ?_ hx ?_
    · rw [hs, List.map_map, List.flatMap_map, List.flatMap_map]
      congr 1
    · intro w hm
      obtain ⟨y, hy, rfl⟩ := List.mem_map.1 hm
      have := hw y hy
      simp only [ByteArray.data_append, Array.toList_append, List.mem_append, not_or]
      exact ⟨by decide, this⟩
  unfold partsS
  rw [h]
  show x :: (ws.map _).map dropH = _
  rw [List.map_map]
  congr 1
  conv => rhs; rw [← List.map_id ws]
  apply List.map_congr_left
  intro w _
  apply ByteArray.ext
  apply Array.toList_inj.1
  show (dropH (⟨#[32]⟩ ++ w)).data.toList = _
  rw [dropH_list]
  simp [ByteArray.data_append]
end Go.Proofs.YthgelhglfbgagaaGreatDoor
