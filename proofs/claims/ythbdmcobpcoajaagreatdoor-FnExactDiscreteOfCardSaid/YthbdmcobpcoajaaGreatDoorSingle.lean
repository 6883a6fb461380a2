/- Outer names with one point, idle links. -/
import Derived.Test.YthbdmcobpcoajaaGreatDoorPoints2
import Derived.IntWalk
namespace Go.Proofs.YthbdmcobpcoajaaGreatDoor
open Go Go.RowKit Go.BigFrame

def oneB (b : Big) (l : Int) : Bool := decide ((portsL b l).length + (endsL b l).length = 1)
def hasOneB (b : Big) : Bool := (List.range b.outer.length).all fun i => oneB b (b.edges + (i : Int))
def singleB (b : Big) : Bool := hasOneB b && decide (b.edges = 0)
def idleB (b : Big) (l : Int) : Bool := decide ((portsL b l).length = 0) && decide ((endsL b l).length = 0)
def leanB (b : Big) : Bool := (List.range b.edges.toNat).all fun i => !idleB b (i : Int)
theorem portsL_len {sig : List Ctl} {b : Big} (h : Good sig b) (l : Int) : (portsL b l).length ≤ 24 := by
  have := portsN_len h.links3 l b.nodes.length
  have := h.nodes
  unfold portsL; omega
theorem endsL_len {sig : List Ctl} {b : Big} (h : Good sig b) (l : Int) : (endsL b l).length ≤ 16 := by
  have := endsN_len b l b.inner.length
  have := names_len h.inner
  simp only [List.length_map] at this
  unfold endsL; omega
theorem Good.inner16 {sig : List Ctl} {b : Big} (h : Good sig b) : b.inner.length ≤ 16 := by have := names_len h.inner; simpa using this
theorem Good.outer16 {sig : List Ctl} {b : Big} (h : Good sig b) : b.outer.length ≤ 16 := names_len h.outer

set_option maxRecDepth 100000 in
set_option maxHeartbeats 4000000 in
theorem l3Single_ct (v : Value) (sig : List Ctl) (b : Big) (r : Bool) (w : World) (h : BigAt w v b) (hG : Good sig b) (hr : singleB b = r) : Calls Tryz.prog 135 #[v] w fun e w' => e = .returned (.bool r) ∧ Below w.heap.size w w' := by
  have HR : Hid ((hasOneB b && decide (b.edges = 0)) = r) := hr
  have h16 := hG.inner16
  have ho := hG.outer16
  have hed := hG.edges
  have HG : Hid (Good sig b) := hG
  clear hr hG
  obtain ⟨a1, c1, a2, c2, a3, c3, a4, c4, rfl⟩ := h.shape
  have hA := balloc w (.cells #[.int .i64 b.roots, .slice a1 b.nodes.length c1, .slice a2 b.sites.length c2, .int .i64 b.edges, .slice a3 b.outer.length c3, .slice a4 b.inner.length c4] 34)
  have hx := h.below hA
  have BA : Box (w.alloc (.cells #[.int .i64 b.roots, .slice a1 b.nodes.length c1, .slice a2 b.sites.length c2, .int .i64 b.edges, .slice a3 b.outer.length c3, .slice a4 b.inner.length c4] 34)) w.heap.size #[.int .i64 b.roots, .slice a1 b.nodes.length c1, .slice a2 b.sites.length c2, .int .i64 b.edges, .slice a3 b.outer.length c3, .slice a4 b.inner.length c4] 34 := Box.new _ _ _
  go_enter Tryz.func135, Tryz.ntmps135
  go_wp2_with fail
  obtain ⟨W1, hW1⟩ : ∃ W, W = w.alloc (.cells #[.int .i64 b.roots, .slice a1 b.nodes.length c1, .slice a2 b.sites.length c2, .int .i64 b.edges, .slice a3 b.outer.length c3, .slice a4 b.inner.length c4] 34) := ⟨_, rfl⟩
  rw [← hW1] at hA hx BA ⊢
  clear hW1
  go_loopw [3] (fun i W => ∃ k : Nat, k ≤ b.outer.length ∧ i = .int .i64 (b.edges + (k : Int)) ∧ Below W1.heap.size W1 W ∧ Hid (((List.range k).all fun i => oneB b (b.edges + (i : Int))) = true)) (fun i _ => (b.edges + b.outer.length - intOf i).toNat)
  case atStart => exact ⟨0, Nat.zero_le _, by simp, Below.refl _ _, rfl⟩
  case round =>
    obtain ⟨k, hk, rfl, hb7, HA⟩ := hrel
    have BA := BA.below hb7
    have hx := hx.below hb7
    have hb := bthen hA hb7
    by_cases hlt : k < b.outer.length
    · obtain ⟨L, hL⟩ : ∃ L : Int, L = b.edges + (k : Int) := ⟨_, rfl⟩
      have hLI : I64 L := by unfold I64; omega
      have hLI' := hLI
      unfold I64 at hLI'
      have hp := portsL_len HG.out L
      have he := endsL_len HG.out L
      have hLk : L < b.edges + (b.outer.length : Int) := by omega
      have HLk : Hid (L = b.edges + (k : Int)) := hL
      rw [← hL]
      clear hL
      have qA := BA.cell
      go_wp2_with fail
      clear qA
      have hb7 := bdrew hb7
      have hb := bdrew hb
      have BA := BA.drew
      have hwr : IntKind.i64.wrap (((portsL b L).length : Int) + ((endsL b L).length : Int)) = ((portsL b L).length : Int) + ((endsL b L).length : Int) := Go.IntWalk.i64_in _ (by omega)
      go_region_held3 (fun w' => w'.cell? ⟨w.heap.size, 0, none⟩ = some (.int .i64 b.roots) ∧ w'.cell? ⟨w.heap.size, 1, none⟩ = some (.slice a1 b.nodes.length c1) ∧ w'.cell? ⟨w.heap.size, 2, none⟩ = some (.slice a2 b.sites.length c2) ∧ w'.cell? ⟨w.heap.size, 3, none⟩ = some (.int .i64 b.edges) ∧ w'.cell? ⟨w.heap.size, 4, none⟩ = some (.slice a3 b.outer.length c3) ∧ w'.cell? ⟨w.heap.size, 5, none⟩ = some (.slice a4 b.inner.length c4)) (first | exact ⟨BA.cell 0, BA.cell 1, BA.cell 2, BA.cell 3, BA.cell 4, BA.cell 5⟩) (first | (go_at_call 193; refine (l2Ports_ct _ sig b L _ (hx.below (bdrew (Below.refl _ _))) HG.out hLI).mono ?_; rintro e w3 ⟨u, rfl, hu, bb⟩; obtain ⟨ua, uc, rfl⟩ := hu.shape; have hx := (hx.below (bdrew (Below.refl _ _))).below bb; have BA := BA.below bb; have hb := bthen hb bb; have hb7 := bthen hb7 bb; clear hu bb) | (go_at_call 137; refine (l2Ends_ct _ b L _ hx h16 hLI).mono ?_; rintro e w4 ⟨u, rfl, hu, bb⟩; obtain ⟨va, vc, rfl⟩ := hu.shape; have hx := hx.below bb; have BA := BA.below bb; have hb := bthen hb bb; have hb7 := bthen hb7 bb; clear hu bb))
      cases h1 : oneB b L with
      | false =>
        have HF : Hid (r = false) := by rw [← HR.out, hasOneB, all_range_not hlt (by rw [← HLk.out]; exact h1)]; rfl
        have hne : ¬ (((portsL b L).length : Int) + (endsL b L).length = 1) := by unfold oneB at h1; simp only [decide_eq_false_iff_not] at h1; omega
        have hne' : (((portsL b L).length : Int) + (endsL b L).length != 1) = true := by simpa using hne
        clear h1 hne
        go_wp2_with fail
        go_ret
        exact ⟨by rw [HF.out]; rfl, hb⟩
      | true =>
        have HT : Hid (((List.range (k + 1)).all fun i => oneB b (b.edges + (i : Int))) = true) := all_range_snoc HA.out (by rw [← HLk.out]; exact h1)
        have hne : (((portsL b L).length : Int) + (endsL b L).length = 1) := by unfold oneB at h1; simp only [decide_eq_true_eq] at h1; omega
        have hne' : (((portsL b L).length : Int) + (endsL b L).length != 1) = false := by simpa using hne
        clear h1 hne
        go_wp2_with fail
        go_roundw
        case rel => exact ⟨k + 1, by omega, vint_eq (by rw [HLk.out]; push_cast; omega), hb7, HT⟩
        case measure => simp [intOf]; have := HLk.out; omega
    · have HN : Hid (decide (b.edges = 0) = r) := by
        have e : b.outer.length = k := by omega
        have := HA.out
        rw [← e] at this
        show _ = _; rw [← HR.out]; unfold hasOneB; rw [this, Bool.true_and]
      have qA := BA.cell
      have hkl : ¬ b.edges + (k : Int) < b.edges + (b.outer.length : Int) := by omega
      go_wp2_with fail
      go_ret
      exact ⟨ret_bool (by rw [← HN.out, Bool.eq_iff_iff]; simp only [beq_iff_eq, decide_eq_true_eq]; try omega), hb⟩
set_option maxRecDepth 100000 in
set_option maxHeartbeats 4000000 in
theorem hasOnePoint_ct (v : Value) (sig : List Ctl) (b : Big) (r : Bool) (w : World) (h : BigAt w v b) (hG : Good sig b) (hr : hasOneB b = r) : Calls Tryz.prog 143 #[v] w fun e w' => e = .returned (.bool r) ∧ Below w.heap.size w w' := by
  have HR : Hid (hasOneB b = r) := hr
  have ho := hG.outer16
  have hed := hG.edges
  have HG : Hid (Good sig b) := hG
  clear hr hG
  obtain ⟨a1, c1, a2, c2, a3, c3, a4, c4, rfl⟩ := h.shape
  have hA := balloc w (.cells #[.int .i64 b.roots, .slice a1 b.nodes.length c1, .slice a2 b.sites.length c2, .int .i64 b.edges, .slice a3 b.outer.length c3, .slice a4 b.inner.length c4] 34)
  have hx := h.below hA
  have BA : Box (w.alloc (.cells #[.int .i64 b.roots, .slice a1 b.nodes.length c1, .slice a2 b.sites.length c2, .int .i64 b.edges, .slice a3 b.outer.length c3, .slice a4 b.inner.length c4] 34)) w.heap.size #[.int .i64 b.roots, .slice a1 b.nodes.length c1, .slice a2 b.sites.length c2, .int .i64 b.edges, .slice a3 b.outer.length c3, .slice a4 b.inner.length c4] 34 := Box.new _ _ _
  go_enter Tryz.func143, Tryz.ntmps143
  go_wp2_with fail
  obtain ⟨W1, hW1⟩ : ∃ W, W = w.alloc (.cells #[.int .i64 b.roots, .slice a1 b.nodes.length c1, .slice a2 b.sites.length c2, .int .i64 b.edges, .slice a3 b.outer.length c3, .slice a4 b.inner.length c4] 34) := ⟨_, rfl⟩
  rw [← hW1] at hA hx BA ⊢
  clear hW1
  go_loopw [3, 9] (fun _ i W => ∃ k : Nat, k ≤ b.outer.length ∧ i = .int .i64 (k : Int) ∧ Below W1.heap.size W1 W ∧ Hid (((List.range k).all fun i => oneB b (b.edges + (i : Int))) = true)) (fun _ i _ => b.outer.length - (intOf i).toNat)
  case atStart => exact ⟨0, Nat.zero_le _, by simp, Below.refl _ _, rfl⟩
  case round =>
    obtain ⟨k, hk, rfl, hb7, HA⟩ := hrel
    have BA := BA.below hb7
    have hx := hx.below hb7
    have hb := bthen hA hb7
    have qA := BA.cell
    by_cases hlt : k < b.outer.length
    · obtain ⟨L, hL⟩ : ∃ L : Int, L = b.edges + (k : Int) := ⟨_, rfl⟩
      have hLI : I64 L := by unfold I64; omega
      have hp := portsL_len HG.out L
      have he := endsL_len HG.out L
      have HLk : Hid (L = b.edges + (k : Int)) := hL
      clear hL
      go_wp2_with fail
      rw [← HLk.out]
      refine (pointsOf_ct _ sig b L _ hx HG.out hLI).mono ?_
      rintro e w3 ⟨u1, u2, rfl, hu1, hu2, _, bb⟩
      obtain ⟨ua, uc, rfl⟩ := hu1.shape
      obtain ⟨va, vc, rfl⟩ := hu2.shape
      clear hu1 hu2
      cases h1 : oneB b L with
      | false =>
        have HF : Hid (r = false) := by rw [← HR.out, hasOneB, all_range_not hlt (by rw [← HLk.out]; exact h1)]; rfl
        have hne : ¬ (((portsL b L).length : Int) + (endsL b L).length = 1) := by unfold oneB at h1; simp only [decide_eq_false_iff_not] at h1; omega
        have hne' : (((portsL b L).length : Int) + (endsL b L).length != 1) = true := by simpa using hne
        clear h1 hne
        go_wp2_with fail
        go_ret
        exact ⟨by rw [HF.out]; rfl, bthen hb bb⟩
      | true =>
        have HT : Hid (((List.range (k + 1)).all fun i => oneB b (b.edges + (i : Int))) = true) := all_range_snoc HA.out (by rw [← HLk.out]; exact h1)
        have hne : (((portsL b L).length : Int) + (endsL b L).length = 1) := by unfold oneB at h1; simp only [decide_eq_true_eq] at h1; omega
        have hne' : (((portsL b L).length : Int) + (endsL b L).length != 1) = false := by simpa using hne
        clear h1 hne
        go_wp2_with fail
        go_roundw
        case rel => exact ⟨k + 1, by omega, by go_num, bthen hb7 bb, HT⟩
        case measure => simp [intOf]; omega
    · have HN : Hid (true = r) := by
        have e : b.outer.length = k := by omega
        have := HA.out
        rw [← e] at this
        show _ = _; rw [← HR.out]; unfold hasOneB; rw [this]
      go_wp2_with fail
      go_ret
      exact ⟨ret_bool HN.out, hb⟩
set_option maxRecDepth 100000 in
set_option maxHeartbeats 4000000 in
theorem l2Idle_ct (v : Value) (sig : List Ctl) (b : Big) (L : Int) (r : Bool) (w : World) (h : BigAt w v b) (hG : Good sig b) (hL : I64 L) (hr : idleB b L = r) : Calls Tryz.prog 146 #[v, .int .i64 L] w fun e w' => e = .returned (.bool r) ∧ Below w.heap.size w w' := by
  have HR : Hid (idleB b L = r) := hr
  have h16 := hG.inner16
  have HG : Hid (Good sig b) := hG
  clear hr hG
  obtain ⟨a1, c1, a2, c2, a3, c3, a4, c4, rfl⟩ := h.shape
  have hA := balloc w (.cells #[.int .i64 b.roots, .slice a1 b.nodes.length c1, .slice a2 b.sites.length c2, .int .i64 b.edges, .slice a3 b.outer.length c3, .slice a4 b.inner.length c4] 34)
  have hx := h.below hA
  have BA : Box (w.alloc (.cells #[.int .i64 b.roots, .slice a1 b.nodes.length c1, .slice a2 b.sites.length c2, .int .i64 b.edges, .slice a3 b.outer.length c3, .slice a4 b.inner.length c4] 34)) w.heap.size #[.int .i64 b.roots, .slice a1 b.nodes.length c1, .slice a2 b.sites.length c2, .int .i64 b.edges, .slice a3 b.outer.length c3, .slice a4 b.inner.length c4] 34 := Box.new _ _ _
  have hp := portsL_len HG.out L
  have he := endsL_len HG.out L
  by_cases h1 : (portsL b L).length = 0
  · have HN : Hid (decide ((endsL b L).length = 0) = r) := by show _ = _; rw [← HR.out]; unfold idleB; rw [decide_eq_true h1, Bool.true_and]
    have h1' : ((portsL b L).length == 0) = true := by simpa using h1
    have H1 : Hid ((portsL b L).length = 0) := h1
    clear h1
    go_enter Tryz.func146, Tryz.ntmps146
    go_wp2_with fail
    refine (l2Ports_ct _ sig b L _ hx HG.out hL).mono ?_
    rintro e w3 ⟨u1, rfl, hu1, bb⟩
    obtain ⟨ua, uc, rfl⟩ := hu1.shape
    rw [H1.out]
    have qA := (BA.below bb).cell
    have hx := hx.below bb
    have hb := bthen hA bb
    clear hu1 bb
    go_wp2_with fail
    refine (l2Ends_ct _ b L _ hx h16 hL).mono ?_
    rintro e w4 ⟨u2, rfl, hu2, bb⟩
    obtain ⟨va, vc, rfl⟩ := hu2.shape
    have hb := bthen hb bb
    clear hu2 bb
    go_wp2_with fail
    go_ret
    exact ⟨ret_bool (by rw [← HN.out, Bool.eq_iff_iff]; simp only [beq_iff_eq, decide_eq_true_eq]; try omega), hb⟩
  · have HF : Hid (r = false) := by show _ = _; rw [← HR.out]; unfold idleB; rw [decide_eq_false h1]; rfl
    have h1' : (((portsL b L).length : Int) == 0) = false := by simp only [beq_eq_false_iff_ne, ne_eq]; omega
    have h2' : ¬ ((portsL b L).length : Int) = 0 := by omega
    clear h1
    go_enter Tryz.func146, Tryz.ntmps146
    go_wp2_with fail
    refine (l2Ports_ct _ sig b L _ hx HG.out hL).mono ?_
    rintro e w3 ⟨u1, rfl, hu1, bb⟩
    obtain ⟨ua, uc, rfl⟩ := hu1.shape
    clear hu1
    go_wp2_with fail
    go_ret
    exact ⟨by rw [HF.out]; rfl, bthen hA bb⟩
set_option maxRecDepth 100000 in
set_option maxHeartbeats 4000000 in
theorem isIdle_ct (v : Value) (sig : List Ctl) (b : Big) (L : Int) (r : Bool) (w : World) (h : BigAt w v b) (hG : Good sig b) (hL : I64 L) (hr : idleB b L = r) : Calls Tryz.prog 158 #[v, .int .i64 L] w fun e w' => e = .returned (.bool r) ∧ Below w.heap.size w w' := by
  have HR : Hid (idleB b L = r) := hr
  have HG : Hid (Good sig b) := hG
  clear hr hG
  obtain ⟨a1, c1, a2, c2, a3, c3, a4, c4, rfl⟩ := h.shape
  have hA := balloc w (.cells #[.int .i64 b.roots, .slice a1 b.nodes.length c1, .slice a2 b.sites.length c2, .int .i64 b.edges, .slice a3 b.outer.length c3, .slice a4 b.inner.length c4] 34)
  have hx := h.below hA
  have BA : Box (w.alloc (.cells #[.int .i64 b.roots, .slice a1 b.nodes.length c1, .slice a2 b.sites.length c2, .int .i64 b.edges, .slice a3 b.outer.length c3, .slice a4 b.inner.length c4] 34)) w.heap.size #[.int .i64 b.roots, .slice a1 b.nodes.length c1, .slice a2 b.sites.length c2, .int .i64 b.edges, .slice a3 b.outer.length c3, .slice a4 b.inner.length c4] 34 := Box.new _ _ _
  have hp := portsL_len HG.out L
  have he := endsL_len HG.out L
  go_enter Tryz.func158, Tryz.ntmps158
  go_wp2_with fail
  refine (pointsOf_ct _ sig b L _ hx HG.out hL).mono ?_
  rintro e w3 ⟨u1, u2, rfl, hu1, hu2, _, bb⟩
  obtain ⟨ua, uc, rfl⟩ := hu1.shape
  obtain ⟨va, vc, rfl⟩ := hu2.shape
  have hb := bthen hA bb
  clear hu1 hu2 bb
  go_wp2_with fail
  go_ret
  exact ⟨ret_bool (by rw [← HR.out]; unfold idleB; rw [Bool.eq_iff_iff]; simp only [beq_iff_eq, decide_eq_true_eq, Bool.and_eq_true]; try omega), hb⟩



def renmB (b : Big) : Bool := openB b && singleB b
set_option maxHeartbeats 2000000 in
theorem l3Renames_ct (v : Value) (sig : List Ctl) (b : Big) (r : Bool) (w : World) (h : BigAt w v b) (hG : Good sig b) (hr : renmB b = r) : Calls Tryz.prog 52 #[v] w fun e w' => e = .returned (.bool r) ∧ Below w.heap.size w w' := by
  have HR : Hid (renmB b = r) := hr
  have HG : Hid (Good sig b) := hG
  clear hr hG
  obtain ⟨a1, c1, a2, c2, a3, c3, a4, c4, rfl⟩ := h.shape
  have hA := balloc w (.cells #[.int .i64 b.roots, .slice a1 b.nodes.length c1, .slice a2 b.sites.length c2, .int .i64 b.edges, .slice a3 b.outer.length c3, .slice a4 b.inner.length c4] 34)
  have hx := h.below hA
  have BA : Box (w.alloc (.cells #[.int .i64 b.roots, .slice a1 b.nodes.length c1, .slice a2 b.sites.length c2, .int .i64 b.edges, .slice a3 b.outer.length c3, .slice a4 b.inner.length c4] 34)) w.heap.size #[.int .i64 b.roots, .slice a1 b.nodes.length c1, .slice a2 b.sites.length c2, .int .i64 b.edges, .slice a3 b.outer.length c3, .slice a4 b.inner.length c4] 34 := Box.new _ _ _
  cases hg : openB b with
  | false =>
    have HN : Hid (r = false) := by show _ = _; rw [← HR.out]; unfold renmB; rw [hg]; rfl
    go_enter Tryz.func52, Tryz.ntmps52
    go_wp2_with fail
    refine (l3Open_ct _ b false _ hx hg).mono ?_
    rintro e w2 ⟨rfl, hb⟩
    go_wp2_with fail
    go_ret
    exact ⟨by rw [HN.out]; rfl, bthen hA hb⟩
  | true =>
    have HN : Hid (singleB b = r) := by show _ = _; rw [← HR.out]; unfold renmB; rw [hg, Bool.true_and]
    go_enter Tryz.func52, Tryz.ntmps52
    go_wp2_with fail
    refine (l3Open_ct _ b true _ hx hg).mono ?_
    rintro e w2 ⟨rfl, hb⟩
    have qA := (BA.below hb).cell
    clear hg
    go_wp2_with fail
    refine (l3Single_ct _ sig b (singleB b) _ (hx.below hb) HG.out rfl).mono ?_
    rintro e w3 ⟨rfl, hb3⟩
    go_wp2_with fail
    go_ret
    exact ⟨ret_bool HN.out, bthen (bthen hA hb) hb3⟩


def goodOB (sig : List Ctl) (b : Big) : Bool := goodB sig b && openB b
theorem implIsSub_gt (vs v : Value) (sig : List Ctl) (b : Big) (r : Bool) (w : World) (h : Ctx w vs v sig b) (hr : goodOB sig b = r) :
    Calls Tryz.prog 142 #[vs, v] w fun e w' => e = .returned (.bool r) ∧ Below w.heap.size w w' := implIsSubstitution_ct vs v sig b r w h (by rw [← hr]; unfold goodOB goodWB openB decE; rw [Bool.and_assoc])
theorem ren_eq (sig : List Ctl) (b : Big) : (goodOB sig b && hasOneB b) = (goodB sig b && renmB b) := by
  unfold goodOB renmB singleB openB
  cases goodB sig b <;> cases wiringB b <;> cases hasOneB b <;> cases decide (b.edges = 0) <;> rfl
set_option maxHeartbeats 2000000 in
theorem implIsRenaming_ct (vs v : Value) (sig : List Ctl) (b : Big) (r : Bool) (w : World) (h : Ctx w vs v sig b) (hr : (goodOB sig b && hasOneB b) = r) :
    Calls Tryz.prog 61 #[vs, v] w fun e w' => e = .returned (.bool r) ∧ Below w.heap.size w w' := by
  have HR : Hid ((goodOB sig b && hasOneB b) = r) := hr
  clear hr
  have l1 := h.big.lens
  obtain ⟨a1, c1, a2, c2, a3, c3, a4, c4, rfl⟩ := h.big.shape
  have hA := balloc w (.cells #[.int .i64 b.roots, .slice a1 b.nodes.length c1, .slice a2 b.sites.length c2, .int .i64 b.edges, .slice a3 b.outer.length c3, .slice a4 b.inner.length c4] 34)
  have hx := h.below hA
  have BA : Box (w.alloc (.cells #[.int .i64 b.roots, .slice a1 b.nodes.length c1, .slice a2 b.sites.length c2, .int .i64 b.edges, .slice a3 b.outer.length c3, .slice a4 b.inner.length c4] 34)) w.heap.size #[.int .i64 b.roots, .slice a1 b.nodes.length c1, .slice a2 b.sites.length c2, .int .i64 b.edges, .slice a3 b.outer.length c3, .slice a4 b.inner.length c4] 34 := Box.new _ _ _
  cases hg : goodOB sig b with
  | false =>
    have HN : Hid (r = false) := by show _ = _; rw [← HR.out]; rw [hg]; rfl
    clear HR
    go_enter Tryz.func61, Tryz.ntmps61
    go_wp2_with fail
    refine (implIsSub_gt _ _ sig b false _ hx hg).mono ?_
    rintro e w2 ⟨rfl, hb⟩
    go_wp2_with fail
    go_ret
    exact ⟨by rw [HN.out]; rfl, bthen hA hb⟩
  | true =>
    have HN : Hid (hasOneB b = r) := by show _ = _; rw [← HR.out]; rw [hg, Bool.true_and]
    clear HR
    have HG : Hid (Good sig b) := good_of (by unfold goodOB at hg; exact (Bool.and_eq_true _ _ ▸ hg).1)
    go_enter Tryz.func61, Tryz.ntmps61
    go_wp2_with fail
    refine (implIsSub_gt _ _ sig b true _ hx hg).mono ?_
    rintro e w2 ⟨rfl, hb⟩
    have BA := BA.below hb
    have hx := hx.below hb
    have hb := bthen hA hb
    have qA := BA.cell
    clear hA hg
    go_wp2_with fail
    refine (hasOnePoint_ct _ sig b (hasOneB b) _ hx.big HG.out rfl).mono ?_
    rintro e w3 ⟨rfl, hb3⟩
    go_wp2_with fail
    go_ret
    exact ⟨ret_bool HN.out, bthen hb hb3⟩


end Go.Proofs.YthbdmcobpcoajaaGreatDoor
