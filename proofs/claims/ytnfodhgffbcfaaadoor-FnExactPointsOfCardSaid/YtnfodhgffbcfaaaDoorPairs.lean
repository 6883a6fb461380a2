/- Lists of pairs of numbers, as a function hands them back; the laws' words for them. -/
import Derived.Test.YtnfodhgffbcfaaaDoorPoints2
import Derived.Test.YtnfodhgffbcfaaaDoorLaw1
import Derived.Test.YtnfodhgffbcfaaaDoorMark
import Derived.Test.YtnfodhgffbcfaaaDoorHeld
namespace Go.Proofs.YtnfodhgffbcfaaaDoor
open Go Go.RowKit Go.BigFrame

def prRows (l : List (Int × Int)) : List (List Value) := l.map fun p => [.int .i64 p.1, .int .i64 p.2]
def PrsAt (w : World) (v : Value) (l : List (Int × Int)) : Prop := RowAt 1000 w v 2 (prRows l)
def PrsOwn (B : Nat) (w : World) (v : Value) (l : List (Int × Int)) : Prop := RowOwn B w v 2 (prRows l) ∧ l.length ≤ 1000
section
variable {B : Nat} {w w' : World} {v : Value} {l : List (Int × Int)}
theorem PrsOwn.at (h : PrsOwn B w v l) : PrsAt w v l := h.1.row (by simpa [prRows] using h.2)
theorem PrsOwn.keep (h : PrsOwn B w v l) (hk : ∀ g ∈ blks v, w'.heap[g]? = w.heap[g]?) : PrsOwn B w' v l := ⟨h.1.keep hk, h.2⟩
theorem PrsOwn.lt (h : PrsOwn B w v l) : ∀ g ∈ blks v, B ≤ g ∧ g < w.heap.size := h.1.lt
theorem PrsOwn.shape (h : PrsOwn B w v l) : ∃ a c, v = .slice a l.length c := by simpa [prRows] using h.1.shape
theorem PrsAt.below (h : PrsAt w v l) (hb : Below w.heap.size w w') : PrsAt w' v l := RowAt.below h hb
theorem PrsAt.open (h : PrsAt w v l) : ∃ a c, v = .slice a l.length c ∧ l.length ≤ c ∧ l.length ≤ 1000 ∧ ∀ i x, l[i]? = some x → ∃ b o, a = some ⟨b, o, none⟩ ∧
      w.cell? ⟨b, o + i * 2, none⟩ = some (.int .i64 x.1) ∧ w.cell? ⟨b, o + i * 2 + 1, none⟩ = some (.int .i64 x.2) := by
  obtain ⟨a, c, h1, h2, h3, _, h5⟩ := h
  simp only [prRows, List.length_map] at h1 h2 h3
  refine ⟨a, c, h1, h2, h3, fun i x hx => ?_⟩
  obtain ⟨b, o, e, hc⟩ := h5 i [.int .i64 x.1, .int .i64 x.2] (by simp [prRows, hx])
  exact ⟨b, o, e, by simpa using hc 0 _ rfl, hc 1 _ rfl⟩
end
def ofNats (l : List (Nat × Nat)) : List (Int × Int) := l.map fun p => ((p.1 : Int), (p.2 : Int))
theorem PairsOwn.prs {B : Nat} {w : World} {v : Value} {l : List (Nat × Nat)} (h : PairsOwn B w v l) : PrsOwn B w v (ofNats l) := by
  refine ⟨?_, by simpa [ofNats] using h.2⟩
  have e : prRows (ofNats l) = pairRows l := by simp [prRows, ofNats, pairRows]
  rw [e]; exact h.1
def markP2 : Int → List (Int × Int) → List (Int × Int)
  | _, [] => []
  | k, _ :: l => (k, k + 1) :: markP2 (k + 2) l
theorem markP2_snoc : ∀ (k : Int) (l : List (Int × Int)) (x : Int × Int), markP2 k (l ++ [x]) = markP2 k l ++ [(k + 2 * l.length, k + 2 * l.length + 1)]
  | k, [], x => by simp [markP2]
  | k, y :: l, x => by simp only [List.cons_append, markP2, markP2_snoc (k + 2) l x, List.length_cons]; rw [show k + 2 + 2 * (l.length : Int) = k + 2 * ((l.length + 1 : Nat) : Int) by omega]
theorem markP2_len : ∀ (k : Int) (l : List (Int × Int)), (markP2 k l).length = l.length
  | _, [] => rfl
  | k, _ :: l => by simp [markP2, markP2_len (k + 2) l]
theorem markP2_get {k : Int} {l : List (Int × Int)} {i : Nat} (h : i < l.length) : (markP2 k l)[i]? = some (k + 2 * i, k + 2 * i + 1) := by
  induction l generalizing k i with
  | nil => simp at h
  | cons x l ih =>
    cases i with
    | zero => simp [markP2]
    | succ i => simp only [markP2, List.getElem?_cons_succ]; rw [ih (by simpa using h), show k + 2 + 2 * (i : Int) = k + 2 * ((i + 1 : Nat) : Int) by omega]
def halfP (K : Int) (i : Nat) (x : Int × Int) : Int × Int := (if 0 < i then K else x.1, if 1 < i then K + 1 else x.2)
theorem prHalf {A D : List (Int × Int)} {m : Nat} {y : Int × Int} (hA : A.length = m) : (prRows (A ++ y :: D))[m]? = some [.int .i64 y.1, .int .i64 y.2] := by
  unfold prRows
  rw [List.getElem?_map, List.getElem?_append_right (by omega), hA]
  simp
theorem prSet {A D : List (Int × Int)} {m : Nat} {y z : Int × Int} (hA : A.length = m) : (prRows (A ++ y :: D)).set m [.int .i64 z.1, .int .i64 z.2] = prRows (A ++ z :: D) := by
  subst hA; simp [prRows]

set_option maxHeartbeats 2000000 in
theorem eqIntA2_ct (p q : Int) (w : World) : Calls Tryd.prog 94 #[.agg #[.int .i64 p, .int .i64 q], .agg #[.int .i64 p, .int .i64 q]] w fun e w' => e = .returned (.bool true) ∧ Below w.heap.size w w' := by
  have hb := bthen (balloc w (.cells #[.int .i64 p, .int .i64 q] 100)) (balloc (w.alloc (.cells #[.int .i64 p, .int .i64 q] 100)) (.cells #[.int .i64 p, .int .i64 q] 100))
  go_enter Tryd.func94, Tryd.ntmps94
  go_wp2_with fail
  obtain ⟨W0, hW0⟩ : ∃ W, W = (w.alloc (.cells #[.int .i64 p, .int .i64 q] 100)).alloc (.cells #[.int .i64 p, .int .i64 q] 100) := ⟨_, rfl⟩
  have B1 : Box W0 w.heap.size #[.int .i64 p, .int .i64 q] 100 := by rw [hW0]; exact (Box.new _ _ _).alloc _
  have B2 : Box W0 (w.heap.size + 1) #[.int .i64 p, .int .i64 q] 100 := by rw [hW0]; exact Box.new' _ _ _ (by simp)
  rw [← hW0] at hb ⊢
  clear hW0
  go_loopw [5] (fun i W => ∃ k : Nat, k ≤ 2 ∧ i = .int .i64 k ∧ Below w.heap.size w W ∧ Box W w.heap.size #[.int .i64 p, .int .i64 q] 100 ∧ Box W (w.heap.size + 1) #[.int .i64 p, .int .i64 q] 100) (fun i _ => 2 - (intOf i).toNat)
  case atStart => exact ⟨0, by omega, rfl, hb, B1, B2⟩
  case round =>
    clear hb B1 B2
    obtain ⟨k, hk, rfl, hb, B1, B2⟩ := hrel
    obtain rfl | rfl | rfl : k = 0 ∨ k = 1 ∨ k = 2 := by omega
    · have g1 := gr_cell (w := wr) (B1.cell 0)
      have g2 := gr_cell (w := wr) (B2.cell 0)
      go_wp2_with fail
      refine wp_region_gr (by kernel_rfl) (by kernel_rfl) ?_
      repeat (go_big_quiet_step (fail))
      refine wpQuiet_nil ?_
      intro w2 hb2
      go_wp2_with fail
      go_roundw
      case rel => exact ⟨1, by omega, rfl, bthen hb hb2, B1.below hb2, B2.below hb2⟩
      case measure => simp [intOf]
    · have g1 := gr_cell (w := wr) (B1.cell 1)
      have g2 := gr_cell (w := wr) (B2.cell 1)
      go_wp2_with fail
      refine wp_region_gr (by kernel_rfl) (by kernel_rfl) ?_
      repeat (go_big_quiet_step (fail))
      refine wpQuiet_nil ?_
      intro w2 hb2
      go_wp2_with fail
      go_roundw
      case rel => exact ⟨2, by omega, rfl, bthen hb hb2, B1.below hb2, B2.below hb2⟩
      case measure => simp [intOf]
    · go_wp2_with fail
      go_ret
      exact ⟨rfl, hb⟩
set_option maxHeartbeats 1000000 in
theorem eqIntA2S_ct (v1 v2 : Value) (l : List (Int × Int)) (w : World) (h : PrsAt w v1 l) (h' : PrsAt w v2 l) :
    Calls Tryd.prog 40 #[v1, v2] w fun e w' => e = .returned (.bool true) ∧ Below w.heap.size w w' := by
  obtain ⟨a1, c1, rfl, _, hl, h1⟩ := h.open
  obtain ⟨a2, c2, rfl, _, _, h2⟩ := h'.open
  clear h h'
  go_enter Tryd.func40, Tryd.ntmps40
  go_wp2
  go_loopw [5] (fun i wr => ∃ k : Nat, k ≤ l.length ∧ i = .int .i64 k ∧ Below w.heap.size w wr) (fun i _ => l.length - (intOf i).toNat)
  case atStart => exact ⟨0, Nat.zero_le _, rfl, Below.refl _ _⟩
  case round =>
    obtain ⟨k, hk, rfl, hb⟩ := hrel
    by_cases hkl : k < l.length
    · obtain ⟨x, hx⟩ := getElem?_of_lt hkl
      obtain ⟨b1, o1, rfl, hc0, hc1⟩ := h1 k x hx
      obtain ⟨b2, o2, rfl, hd0, hd1⟩ := h2 k x hx
      have gc0 := fun y => gr_cell (w := wr) ((hb.cell (World.block_lt_of_cell? w _ hc0)).trans hc0) y
      have gc1 := fun y => gr_cell (w := wr) ((hb.cell (World.block_lt_of_cell? w _ hc1)).trans hc1) y
      have gd0 := fun y => gr_cell (w := wr) ((hb.cell (World.block_lt_of_cell? w _ hd0)).trans hd0) y
      have gd1 := fun y => gr_cell (w := wr) ((hb.cell (World.block_lt_of_cell? w _ hd1)).trans hd1) y
      clear hc0 hc1 hd0 hd1
      clear h1 h2 hx
      go_wp2
      refine wp_region_gr (by kernel_rfl) (by kernel_rfl) ?_
      repeat (go_big_quiet_step ((go_at_call 94; exact Calls.gr_of (eqIntA2_ct _ _ _))))
      refine wpQuiet_nil ?_
      intro w2 hb2
      go_wp2
      go_roundw
      case rel => exact ⟨k + 1, by omega, by go_num, bthen hb hb2⟩
      case measure => simp [intOf]; omega
    · clear h1 h2
      go_wp2
      go_ret
      exact ⟨rfl, hb⟩
set_option maxRecDepth 100000 in
set_option maxHeartbeats 2000000 in
theorem markIntA2S_ct (v : Value) (l : List (Int × Int)) (k : Int) (B : Nat) (w : World) (h : PrsOwn B w v l) (hk0 : 0 ≤ k) (hk1 : k + 2 * (l.length : Int) ≤ 536870912) :
    Calls Tryd.prog 42 #[v, .int .i64 k] w fun e w' => e = .returned (.int .i64 (k + 2 * (l.length : Int))) ∧ PrsOwn B w' v (markP2 k l) ∧ Only (blks v) w w' := by
  obtain ⟨a, c, rfl⟩ := h.shape
  have hl := h.2
  have hR := h.1
  clear h
  go_enter Tryd.func42, Tryd.ntmps42
  go_wp2
  go_loopw [1, 5] (fun q i wr => ∃ m : Nat, m ≤ l.length ∧ i = .int .i64 m ∧ q = .int .i64 (k + 2 * (m : Int)) ∧ RowOwn B wr (.slice a l.length c) 2 (prRows (markP2 k (l.take m) ++ l.drop m)) ∧ Only (blks (.slice a l.length c)) w wr) (fun _ i _ => l.length - (intOf i).toNat)
  case atStart => exact ⟨0, Nat.zero_le _, rfl, by go_num, by simpa [markP2] using hR, Only.refl _ _⟩
  case round =>
    obtain ⟨m, hm, rfl, rfl, hown, hon⟩ := hrel
    by_cases hml : m < l.length
    · obtain ⟨x, hx⟩ := getElem?_of_lt hml
      obtain ⟨g, rfl, hbl⟩ := hown.head (by omega)
      have HM : Hid ((markP2 k (l.take m)).length = m) := by show _ = _; rw [markP2_len]; simp; omega
      have HD : Hid (l.drop m = x :: l.drop (m + 1)) := drop_cons hx
      rw [HD.out] at hown
      have HT : Hid (markP2 k (l.take (m + 1)) = markP2 k (l.take m) ++ [(k + 2 * (m : Int), k + 2 * (m : Int) + 1)]) := by
        show _ = _
        rw [take_snoc_l hx, markP2_snoc, List.length_take, Nat.min_eq_left (by omega)]
      clear hx hR
      go_wp2
      go_loopw [1, 6] (fun q j wr => ∃ i : Nat, i ≤ 2 ∧ j = .int .i64 i ∧ q = .int .i64 (k + 2 * (m : Int) + i) ∧ RowOwn B wr (.slice (some ⟨g, 0, none⟩) l.length c) 2 (prRows (markP2 k (l.take m) ++ halfP (k + 2 * (m : Int)) i x :: l.drop (m + 1))) ∧ Only (blks (.slice (some ⟨g, 0, none⟩) l.length c)) w wr) (fun _ j _ => 2 - (intOf j).toNat)
      case atStart => exact ⟨0, by omega, rfl, by go_num, by simpa [halfP] using hown, hon⟩
      case round =>
        clear hown hon
        obtain ⟨i, hi, rfl, rfl, hown, hon⟩ := hrel
        obtain rfl | rfl | rfl : i = 0 ∨ i = 1 ∨ i = 2 := by omega
        · have hc0 : wr.cell? ⟨g, m * 2, none⟩ = some (.int .i64 x.1) := by have := hown.cellAt (prHalf HM.out) (j := 0) rfl; simpa [halfP] using this
          have hf0 : wr.frozen? ⟨g, m * 2, none⟩ = false := hown.free (by omega) _
          go_wp2
          go_roundw
          case rel =>
            refine ⟨1, by omega, rfl, by go_num, ?_, Only.setCell hon (by rw [hbl]; simp) _⟩
            have s0 := hown.store (prHalf HM.out) (j := 0) (by omega) (.int .i64 (k + 2 * (m : Int)))
            have e := prSet (y := halfP (k + 2 * (m : Int)) 0 x) (z := halfP (k + 2 * (m : Int)) 1 x) (D := l.drop (m + 1)) HM.out
            rw [← e]
            simpa [halfP] using s0
          case measure => simp [intOf]
        · have hc0 : wr.cell? ⟨g, m * 2 + 1, none⟩ = some (.int .i64 x.2) := by have := hown.cellAt (prHalf HM.out) (j := 1) rfl; simpa [halfP] using this
          have hf0 : wr.frozen? ⟨g, m * 2 + 1, none⟩ = false := hown.free (by omega) _
          go_wp2
          go_roundw
          case rel =>
            refine ⟨2, by omega, rfl, by go_num, ?_, Only.setCell hon (by rw [hbl]; simp) _⟩
            have s0 := hown.store (prHalf HM.out) (j := 1) (by omega) (.int .i64 (k + 2 * (m : Int) + 1))
            have e := prSet (y := halfP (k + 2 * (m : Int)) 1 x) (z := halfP (k + 2 * (m : Int)) 2 x) (D := l.drop (m + 1)) HM.out
            rw [← e]
            simpa [halfP] using s0
          case measure => simp [intOf]
        · go_wp2
          go_roundw
          case rel =>
            refine ⟨m + 1, by omega, by go_num, by go_num, ?_, hon⟩
            rw [HT.out]
            simpa [halfP] using hown
          case measure => simp [intOf]; omega
    · have hml' : m = l.length := by omega
      have HF : Hid (markP2 k (l.take m) ++ l.drop m = markP2 k l) := by
        show _ = _
        rw [hml']
        simp
      rw [HF.out] at hown
      have HQ : Hid ((k + 2 * (m : Int)) = k + 2 * (l.length : Int)) := by show _ = _; omega
      go_wp2
      go_ret
      exact ⟨ret_int HQ.out, ⟨hown, by rw [markP2_len]; exact hl⟩, hon⟩
set_option maxRecDepth 100000 in
set_option maxHeartbeats 2000000 in
theorem heldIntA2S_ct (v : Value) (l : List (Int × Int)) (k : Int) (w : World) (h : PrsAt w v (markP2 k l)) (hk0 : 0 ≤ k) (hk1 : k + 2 * (l.length : Int) ≤ 536870912) :
    Calls Tryd.prog 44 #[v, .int .i64 k] w fun e w' => e = .returned (.int .i64 (k + 2 * (l.length : Int))) ∧ Below w.heap.size w w' := by
  obtain ⟨a, c, rfl, _, _, h3⟩ := h.open
  rw [markP2_len]
  clear h
  go_enter Tryd.func44, Tryd.ntmps44
  go_wp2
  go_loopw [1, 5] (fun q i wr => ∃ m : Nat, m ≤ l.length ∧ i = .int .i64 m ∧ q = .int .i64 (k + 2 * (m : Int)) ∧ Below w.heap.size w wr) (fun _ i _ => l.length - (intOf i).toNat)
  case atStart => exact ⟨0, Nat.zero_le _, rfl, by go_num, Below.refl _ _⟩
  case round =>
    obtain ⟨m, hm, rfl, rfl, hb⟩ := hrel
    by_cases hml : m < l.length
    · obtain ⟨b, o, rfl, hc0, hc1⟩ := h3 m _ (markP2_get hml)
      clear h3
      go_wp2
      go_loopw [1, 6] (fun q j wr => ∃ i : Nat, i ≤ 2 ∧ j = .int .i64 i ∧ q = .int .i64 (k + 2 * (m : Int) + i) ∧ Below w.heap.size w wr) (fun _ j _ => 2 - (intOf j).toNat)
      case atStart => exact ⟨0, by omega, rfl, by go_num, hb⟩
      case round =>
        clear hb
        obtain ⟨i, hi, rfl, rfl, hb⟩ := hrel
        have g0 := (hb.cell (World.block_lt_of_cell? w _ hc0)).trans hc0
        have g1 := (hb.cell (World.block_lt_of_cell? w _ hc1)).trans hc1
        obtain rfl | rfl | rfl : i = 0 ∨ i = 1 ∨ i = 2 := by omega
        · go_wp2
          go_roundw
          case rel => exact ⟨1, by omega, rfl, by go_num, hb⟩
          case measure => simp [intOf]
        · go_wp2
          go_roundw
          case rel => exact ⟨2, by omega, rfl, by go_num, hb⟩
          case measure => simp [intOf]
        · go_wp2
          go_roundw
          case rel => exact ⟨m + 1, by omega, by go_num, by go_num, hb⟩
          case measure => simp [intOf]; omega
    · have HQ : Hid ((k + 2 * (m : Int)) = k + 2 * (l.length : Int)) := by show _ = _; omega
      clear h3
      go_wp2
      go_ret
      exact ⟨ret_int HQ.out, hb⟩
end Go.Proofs.YtnfodhgffbcfaaaDoor
