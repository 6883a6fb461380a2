/- Heights. -/
import Derived.Test.YtcpakignoijphaaDoorAbove
namespace Go.Proofs.YtcpakignoijphaaDoor
open Go Go.RowKit Go.BigFrame

def htF (b : Big) : Nat → Int
  | 0 => 0
  | k + 1 => if ((aboveL b k).length : Int) > htF b k then ((aboveL b k).length : Int) else htF b k
def heightI (sig : List Ctl) (b : Big) : Int := if goodB sig b then htF b b.nodes.length else 0
theorem htF_bd {b : Big} (hd : Down b) (h8 : b.nodes.length ≤ 8) : ∀ k, k ≤ b.nodes.length → 0 ≤ htF b k ∧ htF b k ≤ 9
  | 0, _ => by simp [htF]
  | k + 1, h => by
    have := htF_bd hd h8 k (by omega)
    have := aboveL_len hd (i := k) (by omega) h8
    unfold htF
    split <;> omega

set_option maxHeartbeats 400000 in
theorem l1Most_ct (x y : Int) (w : World) : Calls Tryd.prog 79 #[.int .i64 x, .int .i64 y] w fun e w' => e = .returned (.int .i64 (if x > y then x else y)) ∧ w' = w := by
  by_cases h : x > y
  · rw [if_pos h]
    go_enter Tryd.func79, Tryd.ntmps79
    go_wp2
    go_ret
    exact ⟨rfl, rfl⟩
  · rw [if_neg h]
    go_enter Tryd.func79, Tryd.ntmps79
    go_wp2
    go_ret
    exact ⟨rfl, rfl⟩

set_option maxRecDepth 100000 in
set_option maxHeartbeats 4000000 in
theorem specHeightOf_ct (vs v : Value) (sig : List Ctl) (b : Big) (w : World) (h : Ctx w vs v sig b) :
    Calls Tryd.prog 35 #[vs, v] w fun e w' => e = .returned (.tuple #[.int .i64 (heightI sig b), .bool (goodB sig b)]) ∧ Below w.heap.size w w' := by
  obtain ⟨a1, c1, a2, c2, a3, c3, a4, c4, rfl⟩ := h.big.shape
  have hA := balloc w (.cells #[.int .i64 b.roots, .slice a1 b.nodes.length c1, .slice a2 b.sites.length c2, .int .i64 b.edges, .slice a3 b.outer.length c3, .slice a4 b.inner.length c4] 37)
  have hx := h.below hA
  have BA : Box (w.alloc (.cells #[.int .i64 b.roots, .slice a1 b.nodes.length c1, .slice a2 b.sites.length c2, .int .i64 b.edges, .slice a3 b.outer.length c3, .slice a4 b.inner.length c4] 37)) w.heap.size #[.int .i64 b.roots, .slice a1 b.nodes.length c1, .slice a2 b.sites.length c2, .int .i64 b.edges, .slice a3 b.outer.length c3, .slice a4 b.inner.length c4] 37 := Box.new _ _ _
  cases hg : goodB sig b with
  | false =>
    have HN : Hid (heightI sig b = 0) := by show _ = _; unfold heightI; rw [hg]; rfl
    rw [HN.out]
    clear HN
    go_enter Tryd.func35, Tryd.ntmps35
    go_wp2_with fail
    refine (l2Good_ct _ _ sig b false _ hx hg).mono ?_
    rintro e w2 ⟨rfl, hb⟩
    go_wp2_with fail
    go_ret2
    exact ⟨rfl, bthen hA hb⟩
  | true =>
    have hG := good_of hg
    have HN : Hid (heightI sig b = htF b b.nodes.length) := by show _ = _; unfold heightI; rw [hg]; rfl
    rw [HN.out]
    have hdn := hG.down
    have h8 := hG.nodes
    have HD : Hid _ := hdn
    clear HN hdn
    go_enter Tryd.func35, Tryd.ntmps35
    go_wp2_with fail
    refine (l2Good_ct _ _ sig b true _ hx hg).mono ?_
    rintro e w2 ⟨rfl, hb⟩
    have BA := BA.below hb
    have hx := hx.below hb
    have hb := bthen hA hb
    have qA := BA.cell
    clear hA hg hG
    go_wp2_with fail
    clear qA
    go_loopw [6, 7] (fun m i W => ∃ k : Nat, k ≤ b.nodes.length ∧ i = .int .i64 k ∧ m = .int .i64 (htF b k) ∧ Below w2.heap.size w2 W) (fun _ i _ => b.nodes.length - (intOf i).toNat)
    case atStart => exact ⟨0, Nat.zero_le _, rfl, rfl, Below.refl _ _⟩
    case round =>
      obtain ⟨k, hk, rfl, rfl, hb7⟩ := hrel
      have BA := BA.below hb7
      have hx := hx.below hb7
      have hb := bthen hb hb7
      have qA := BA.cell
      have hbd := htF_bd HD.out h8 k hk
      by_cases hlt : k < b.nodes.length
      · have hal := aboveL_len HD.out hlt h8
        have HR : Hid (AboveR b k (aboveL b k)) := aboveL_rel HD.out hlt h8
        have HS : Hid (htF b (k + 1) = if htF b k > ((aboveL b k).length : Int) then htF b k else ((aboveL b k).length : Int)) := by
          show _ = _; conv => lhs; unfold htF
          split <;> split <;> omega
        go_wp2_with fail
        refine (l2Above_ct _ b k _ _ hx.big HD.out hlt HR.out h8).mono ?_
        rintro e w3 ⟨u, rfl, hu, hb2⟩
        obtain ⟨ua, uc, rfl⟩ := hu.shape
        go_wp2_with fail
        refine (l1Most_ct _ _ _).mono ?_
        rintro e w4 ⟨rfl, rfl⟩
        rw [← HS.out]
        go_wp2_with fail
        go_roundw
        case rel => exact ⟨k + 1, by omega, by go_num, rfl, bthen hb7 hb2⟩
        case measure => simp [intOf]; omega
      · have e : k = b.nodes.length := by omega
        subst e
        go_wp2_with fail
        go_ret2
        exact ⟨rfl, hb⟩

set_option maxRecDepth 100000 in
set_option maxHeartbeats 4000000 in
theorem implHeightOf_ct (vs v : Value) (sig : List Ctl) (b : Big) (w : World) (h : Ctx w vs v sig b) :
    Calls Tryd.prog 36 #[vs, v] w fun e w' => e = .returned (.tuple #[.int .i64 (heightI sig b), .bool (goodB sig b)]) ∧ Below w.heap.size w w' := by
  obtain ⟨a1, c1, a2, c2, a3, c3, a4, c4, rfl⟩ := h.big.shape
  have hA := balloc w (.cells #[.int .i64 b.roots, .slice a1 b.nodes.length c1, .slice a2 b.sites.length c2, .int .i64 b.edges, .slice a3 b.outer.length c3, .slice a4 b.inner.length c4] 37)
  have hx := h.below hA
  have BA : Box (w.alloc (.cells #[.int .i64 b.roots, .slice a1 b.nodes.length c1, .slice a2 b.sites.length c2, .int .i64 b.edges, .slice a3 b.outer.length c3, .slice a4 b.inner.length c4] 37)) w.heap.size #[.int .i64 b.roots, .slice a1 b.nodes.length c1, .slice a2 b.sites.length c2, .int .i64 b.edges, .slice a3 b.outer.length c3, .slice a4 b.inner.length c4] 37 := Box.new _ _ _
  cases hg : goodB sig b with
  | false =>
    have HN : Hid (heightI sig b = 0) := by show _ = _; unfold heightI; rw [hg]; rfl
    rw [HN.out]
    clear HN
    go_enter Tryd.func36, Tryd.ntmps36
    go_wp2_with fail
    refine (implIsBigraph_ct _ _ sig b false _ hx hg).mono ?_
    rintro e w2 ⟨rfl, hb⟩
    go_wp2_with fail
    go_ret2
    exact ⟨rfl, bthen hA hb⟩
  | true =>
    have hG := good_of hg
    have HN : Hid (heightI sig b = htF b b.nodes.length) := by show _ = _; unfold heightI; rw [hg]; rfl
    rw [HN.out]
    have hdn := hG.down
    have h8 := hG.nodes
    have HD : Hid _ := hdn
    clear HN hdn
    go_enter Tryd.func36, Tryd.ntmps36
    go_wp2_with fail
    refine (implIsBigraph_ct _ _ sig b true _ hx hg).mono ?_
    rintro e w2 ⟨rfl, hb⟩
    have BA := BA.below hb
    have hx := hx.below hb
    have hb := bthen hA hb
    have qA := BA.cell
    clear hA hg hG
    go_wp2_with fail
    clear qA
    go_loopw [6, 7, 15] (fun m _ i W => ∃ k : Nat, k ≤ b.nodes.length ∧ i = .int .i64 k ∧ m = .int .i64 (htF b k) ∧ Below w2.heap.size w2 W) (fun _ _ i _ => b.nodes.length - (intOf i).toNat)
    case atStart => exact ⟨0, Nat.zero_le _, rfl, rfl, Below.refl _ _⟩
    case round =>
      obtain ⟨k, hk, rfl, rfl, hb7⟩ := hrel
      have BA := BA.below hb7
      have hx := hx.below hb7
      have hb := bthen hb hb7
      have qA := BA.cell
      have hbd := htF_bd HD.out h8 k hk
      by_cases hlt : k < b.nodes.length
      · have hal := aboveL_len HD.out hlt h8
        have HR : Hid (AboveR b k (aboveL b k)) := aboveL_rel HD.out hlt h8
        by_cases hgt : ((aboveL b k).length : Int) > htF b k
        all_goals (
          have HS := (show Hid (htF b (k + 1) = if ((aboveL b k).length : Int) > htF b k then ((aboveL b k).length : Int) else htF b k) from rfl)
          first | rw [if_pos hgt] at HS | rw [if_neg hgt] at HS
          go_wp2_with fail
          refine (ancestorsOf_ct _ b k _ _ hx.big HD.out hlt HR.out h8).mono ?_
          rintro e w3 ⟨u, rfl, hu, hb2⟩
          obtain ⟨ua, uc, rfl⟩ := hu.shape
          go_wp2_with fail
          go_roundw
          case rel => exact ⟨k + 1, by omega, by go_num, vint_eq (by rw [HS.out]; omega), bthen hb7 hb2⟩
          case measure => simp [intOf]; omega)
      · have e : k = b.nodes.length := by omega
        subst e
        go_wp2_with fail
        go_ret2
        exact ⟨rfl, hb⟩
end Go.Proofs.YtcpakignoijphaaDoor
