/- Two bigraphs that fit. -/
import Derived.Test.YthgelhglfbgagaaGreatDoorIsA
import Derived.Test.YthgelhglfbgagaaGreatDoorBig0
import Derived.Test.YthgelhglfbgagaaGreatDoorG4
import Derived.Deep.RegionHeld3
namespace Go.Proofs.YthgelhglfbgagaaGreatDoor
open Go Go.RowKit Go.BigFrame

def sameN : List ByteArray → List ByteArray → Bool
  | [], [] => true
  | x :: l, y :: m => (x.toList == y.toList) && sameN l m
  | _, _ => false
theorem sameN_len {l m : List ByteArray} (h : l.length ≠ m.length) : sameN l m = false := by
  induction l generalizing m with
  | nil => cases m with | nil => exact absurd rfl h | cons y m => rfl
  | cons x l ih => cases m with
    | nil => rfl
    | cons y m => simp only [sameN]; rw [ih (by simpa using h), Bool.and_false]
theorem sameN_not {l m : List ByteArray} {k : Nat} {x y : ByteArray} (hx : l[k]? = some x) (hy : m[k]? = some y) (h : (x.toList == y.toList) = false) : sameN l m = false := by
  induction k generalizing l m with
  | zero =>
    cases l with
    | nil => simp at hx
    | cons a l => cases m with
      | nil => simp at hy
      | cons c m => simp at hx hy; subst hx hy; simp only [sameN, h, Bool.false_and]
  | succ k ih =>
    cases l with
    | nil => simp at hx
    | cons a l => cases m with
      | nil => simp at hy
      | cons c m => simp only [sameN]; rw [ih (by simpa using hx) (by simpa using hy), Bool.and_false]
theorem sameN_yes : ∀ {l m : List ByteArray}, l.length = m.length → (∀ (k : Nat) x y, l[k]? = some x → m[k]? = some y → (x.toList == y.toList) = true) → sameN l m = true
  | [], [], _, _ => rfl
  | [], _ :: _, h, _ => by simp at h
  | _ :: _, [], h, _ => by simp at h
  | x :: l, y :: m, h, ha => by
    simp only [sameN, Bool.and_eq_true]
    exact ⟨ha 0 x y rfl rfl, sameN_yes (by simpa using h) fun k a c h1 h2 => ha (k + 1) a c (by simpa using h1) (by simpa using h2)⟩
def fitsB (a b : Big) : Bool := decide ((a.sites.length : Int) = b.roots) && sameN (innerN a) b.outer


set_option maxHeartbeats 2000000 in
theorem equalStr_ct (v1 v2 : Value) (l m : List ByteArray) (r : Bool) (w : World) (h : StrsAt w v1 l) (h' : StrsAt w v2 m) (hr : sameN l m = r) :
    Calls Tryz.prog 66 #[v1, v2] w fun e w' => e = .returned (.bool r) ∧ Below w.heap.size w w' := by
  have HR : Hid (sameN l m = r) := hr
  clear hr
  obtain ⟨a1, c1, rfl, _, hl, h1⟩ := h.open
  obtain ⟨a2, c2, rfl, _, hm, h2⟩ := h'.open
  clear h h'
  by_cases hlen : l.length = m.length
  case neg =>
    have HF : Hid (r = false) := by rw [← HR.out]; exact sameN_len hlen
    have hne : ((l.length : Int) != m.length) = true := by simp only [bne_iff_ne, ne_eq]; omega
    clear h1 h2 hlen
    go_enter Tryz.func66, Tryz.ntmps66
    go_wp2_with fail
    go_ret
    exact ⟨by rw [HF.out]; rfl, Below.refl _ _⟩
  have hne : ((l.length : Int) != m.length) = false := by simp only [bne_eq_false_iff_eq]; omega
  have HL : Hid (l.length = m.length) := hlen
  have hlm : m.length ≤ l.length := by omega
  have hml : l.length ≤ m.length := by omega
  clear hlen
  go_enter Tryz.func66, Tryz.ntmps66
  go_wp2_with fail
  go_loopw [5, 13] (fun _ i W => ∃ k : Nat, k ≤ l.length ∧ i = .int .i64 k ∧ Below w.heap.size w W ∧ Hid (∀ (j : Nat) x y, j < k → l[j]? = some x → m[j]? = some y → (x.toList == y.toList) = true)) (fun _ i _ => l.length - (intOf i).toNat)
  case atStart => exact ⟨0, Nat.zero_le _, rfl, Below.refl _ _, fun j x y hj => absurd hj (Nat.not_lt_zero _)⟩
  case round =>
    obtain ⟨k, hk, rfl, hb, HA⟩ := hrel
    by_cases hkl : k < l.length
    · obtain ⟨x, hx⟩ := getElem?_of_lt hkl
      obtain ⟨y, hy⟩ := getElem?_of_lt (l := m) (i := k) (by omega)
      obtain ⟨_, b1, o1, rfl, hc0⟩ := h1 k x hx
      obtain ⟨_, b2, o2, rfl, hd0⟩ := h2 k y hy
      have HX : Hid (l[k]? = some x) := hx
      have HY : Hid (m[k]? = some y) := hy
      have hkm : k < m.length := by omega
      have gc0 := fun y => gr_cell (w := wr) ((hb.cell (World.block_lt_of_cell? w _ hc0)).trans hc0) y
      have gd0 := fun y => gr_cell (w := wr) ((hb.cell (World.block_lt_of_cell? w _ hd0)).trans hd0) y
      clear hc0 hd0 h1 h2 hx hy
      cases hxy : (x.toList == y.toList) with
      | false =>
        have HF : Hid (r = false) := by rw [← HR.out]; exact sameN_not HX.out HY.out hxy
        go_wp2_with fail
        refine wp_region_gr (by kernel_rfl) (by kernel_rfl) ?_
        repeat (go_big_quiet_step (fail))
        refine wpQuiet_nil ?_
        intro w2 hb2
        go_wp2_with fail
        go_ret
        exact ⟨by rw [HF.out]; rfl, bthen hb hb2⟩
      | true =>
        have HT : Hid (∀ (j : Nat) x y, j < k + 1 → l[j]? = some x → m[j]? = some y → (x.toList == y.toList) = true) := by
          intro j x' y' hj h1 h2
          by_cases hjk : j = k
          · subst hjk
            have e1 := HX.out.symm.trans h1
            have e2 := HY.out.symm.trans h2
            cases e1; cases e2; exact hxy
          · exact HA.out j x' y' (by omega) h1 h2
        go_wp2_with fail
        refine wp_region_gr (by kernel_rfl) (by kernel_rfl) ?_
        repeat (go_big_quiet_step (fail))
        refine wpQuiet_nil ?_
        intro w2 hb2
        clear hxy
        go_wp2_with fail
        go_roundw
        case rel => exact ⟨k + 1, by omega, by go_num, bthen hb hb2, HT⟩
        case measure => simp [intOf]; omega
    · have HF : Hid (r = true) := by
        rw [← HR.out]
        exact sameN_yes HL.out fun j x y h3 h4 => HA.out j x y (by have := (List.getElem?_eq_some_iff.1 h3).1; omega) h3 h4
      clear h1 h2
      go_wp2_with fail
      go_ret
      exact ⟨by rw [HF.out]; rfl, hb⟩




end Go.Proofs.YthgelhglfbgagaaGreatDoor
