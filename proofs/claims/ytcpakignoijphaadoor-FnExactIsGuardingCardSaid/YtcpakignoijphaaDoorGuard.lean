/- Guarding bigraphs. -/
import Derived.Test.YtcpakignoijphaaDoorIsA
import Derived.Test.YtcpakignoijphaaDoorBig0
namespace Go.Proofs.YtcpakignoijphaaDoor
open Go Go.RowKit Go.BigFrame

def deepB (b : Big) : Bool := b.sites.all (fun p => !decide (p < 0))
def edgyB (b : Big) : Bool := b.inner.all (fun x => !decide (x.link ≥ b.edges))
def guardB (b : Big) : Bool := deepB b && edgyB b
theorem app1' (a : Value) : (#[a] ++ #[] : Array Value) = #[a] := rfl

set_option maxRecDepth 100000 in
set_option maxHeartbeats 4000000 in
theorem l3Guards_ct (v : Value) (b : Big) (r : Bool) (w : World) (h : BigAt w v b) (hr : guardB b = r) : Calls Tryd.prog 72 #[v] w fun e w' => e = .returned (.bool r) ∧ Below w.heap.size w w' := by
  have HR : Hid ((deepB b && edgyB b) = r) := hr
  clear hr
  obtain ⟨a1, c1, a2, c2, a3, c3, a4, c4, rfl, _, hsit, _, hinn, _, _⟩ := h.parts
  obtain ⟨_, _, e, _, sl, s3⟩ := hsit.open
  obtain ⟨rfl, rfl⟩ := (by simpa using e : a2 = _ ∧ c2 = _)
  obtain ⟨_, _, e, _, il, i3⟩ := hinn.open
  obtain ⟨rfl, rfl⟩ := (by simpa using e : a4 = _ ∧ c4 = _)
  clear e hsit hinn h
  have S3 : Hid _ := s3
  have I3 : Hid _ := i3
  clear s3 i3
  go_enter Tryd.func72, Tryd.ntmps72
  go_wp2_with fail
  obtain ⟨W1, hW1⟩ : ∃ W, W = w.alloc (.cells #[.int .i64 b.roots, .slice a1 b.nodes.length c1, .slice a2 b.sites.length c2, .int .i64 b.edges, .slice a3 b.outer.length c3, .slice a4 b.inner.length c4] 37) := ⟨_, rfl⟩
  rw [← hW1]
  have BA : Box W1 w.heap.size #[.int .i64 b.roots, .slice a1 b.nodes.length c1, .slice a2 b.sites.length c2, .int .i64 b.edges, .slice a3 b.outer.length c3, .slice a4 b.inner.length c4] 37 := by rw [hW1]; exact Box.new _ _ _
  have hb : Below w.heap.size w W1 := by rw [hW1]; exact balloc _ _
  clear hW1
  go_loopw [3] (fun i W => ∃ k : Nat, k ≤ b.sites.length ∧ i = .int .i64 k ∧ Below W1.heap.size W1 W ∧ Hid ((b.sites.take k).all (fun p => !decide (p < 0)) = true)) (fun i _ => b.sites.length - (intOf i).toNat)
  case atStart => exact ⟨0, Nat.zero_le _, rfl, Below.refl _ _, (by show _ = _; simp)⟩
  case round =>
    obtain ⟨k, hk, rfl, hb7, HA⟩ := hrel
    have BA := BA.below hb7
    have hb := bthen hb hb7
    have qA := BA.cell
    by_cases hlt : k < b.sites.length
    · obtain ⟨p, hp⟩ := getElem?_of_lt hlt
      obtain ⟨hp6, b3, o3, rfl, e0⟩ := S3.out k p hp
      have e0 := (hb.cell (World.block_lt_of_cell? w _ e0)).trans e0
      have HX : Hid (b.sites[k]? = some p) := hp
      clear hp
      by_cases hp0 : p < 0
      · have HF : Hid (r = false) := by rw [← HR.out, deepB, all_not HX.out (by simp [hp0])]; rfl
        go_wp2_with fail
        go_ret
        exact ⟨by rw [HF.out]; rfl, hb⟩
      · have HT : Hid ((b.sites.take (k + 1)).all (fun p => !decide (p < 0)) = true) := (show (b.sites.take (k + 1)).all (fun p => !decide (p < 0)) = true from all_take_snoc (x := p) HA.out HX.out (by simp [hp0]))
        go_wp2_with fail
        go_roundw
        case rel => exact ⟨k + 1, by omega, by go_num, hb7, HT⟩
        case measure => simp [intOf]; omega
    · have HN : Hid (edgyB b = r) := by show _ = _; rw [← HR.out, deepB, all_full (by omega) HA.out, Bool.true_and]
      clear hb7
      obtain ⟨wc, rfl⟩ : ∃ W, W = wr := ⟨_, rfl⟩
      go_wp2_with fail
      go_loopw [4] (fun i W => ∃ k : Nat, k ≤ b.inner.length ∧ i = .int .i64 k ∧ Below wc.heap.size wc W ∧ Hid ((b.inner.take k).all (fun x => !decide (x.link ≥ b.edges)) = true)) (fun i _ => b.inner.length - (intOf i).toNat)
      case atStart => exact ⟨0, Nat.zero_le _, rfl, Below.refl _ _, (by show _ = _; simp)⟩
      case round =>
        obtain ⟨k, hk, rfl, hb7, HA⟩ := hrel
        have BA := BA.below hb7
        have hb := bthen hb hb7
        have qA := BA.cell
        by_cases hlt : k < b.inner.length
        · obtain ⟨p, hp⟩ := getElem?_of_lt hlt
          obtain ⟨_, hp6, b3, o3, rfl, _, e0⟩ := I3.out k p hp
          have e0 := (hb.cell (World.block_lt_of_cell? w _ e0)).trans e0
          have HX : Hid (b.inner[k]? = some p) := hp
          clear hp
          by_cases hp0 : p.link ≥ b.edges
          · have HF : Hid (r = false) := by rw [← HN.out, edgyB]; exact all_not (x := p) HX.out (by simp [hp0])
            go_wp2_with fail
            refine wp_region_gr (by kernel_rfl) (by kernel_rfl) ?_
            have gA := fun y => (BA.gr y).cell
            have gE := fun y => gr_cell (w := wr) e0 y
            clear qA e0
            repeat (go_big_quiet_step (fail))
            refine wpQuiet_nil ?_
            intro w8 hb2
            go_wp2_with fail
            go_ret
            exact ⟨by rw [HF.out]; rfl, bthen hb hb2⟩
          · have HT : Hid ((b.inner.take (k + 1)).all (fun x => !decide (x.link ≥ b.edges)) = true) := (show (b.inner.take (k + 1)).all (fun x => !decide (x.link ≥ b.edges)) = true from all_take_snoc (x := p) HA.out HX.out (by simp [hp0]))
            go_wp2_with fail
            refine wp_region_gr (by kernel_rfl) (by kernel_rfl) ?_
            have gA := fun y => (BA.gr y).cell
            have gE := fun y => gr_cell (w := wr) e0 y
            clear qA e0
            repeat (go_big_quiet_step (fail))
            refine wpQuiet_nil ?_
            intro w8 hb2
            go_wp2_with fail
            go_roundw
            case rel => exact ⟨k + 1, by omega, by go_num, bthen hb7 hb2, HT⟩
            case measure => simp [intOf]; omega
        · have HF : Hid (r = true) := by rw [← HN.out, edgyB]; exact all_full (by omega) HA.out
          go_wp2_with fail
          go_ret
          exact ⟨by rw [HF.out]; rfl, hb⟩

set_option maxHeartbeats 2000000 in
theorem specIsGuarding_ct (vs v : Value) (sig : List Ctl) (b : Big) (r : Bool) (w : World) (h : Ctx w vs v sig b) (hr : (goodB sig b && guardB b) = r) :
    Calls Tryd.prog 31 #[vs, v] w fun e w' => e = .returned (.bool r) ∧ Below w.heap.size w w' := by
  have HR : Hid ((goodB sig b && guardB b) = r) := hr
  clear hr
  have l1 := h.big.lens
  obtain ⟨a1, c1, a2, c2, a3, c3, a4, c4, rfl⟩ := h.big.shape
  have hA := balloc w (.cells #[.int .i64 b.roots, .slice a1 b.nodes.length c1, .slice a2 b.sites.length c2, .int .i64 b.edges, .slice a3 b.outer.length c3, .slice a4 b.inner.length c4] 37)
  have hx := h.below hA
  have BA : Box (w.alloc (.cells #[.int .i64 b.roots, .slice a1 b.nodes.length c1, .slice a2 b.sites.length c2, .int .i64 b.edges, .slice a3 b.outer.length c3, .slice a4 b.inner.length c4] 37)) w.heap.size #[.int .i64 b.roots, .slice a1 b.nodes.length c1, .slice a2 b.sites.length c2, .int .i64 b.edges, .slice a3 b.outer.length c3, .slice a4 b.inner.length c4] 37 := Box.new _ _ _
  cases hg : goodB sig b with
  | false =>
    have HN : Hid (r = false) := by show _ = _; rw [← HR.out]; rw [hg]; rfl
    clear HR
    go_enter Tryd.func31, Tryd.ntmps31
    go_wp2_with fail
    refine (l2Good_ct _ _ sig b false _ hx hg).mono ?_
    rintro e w2 ⟨rfl, hb⟩
    go_wp2_with fail
    go_ret
    exact ⟨by rw [HN.out]; rfl, bthen hA hb⟩
  | true =>
    have HN : Hid (guardB b = r) := by show _ = _; rw [← HR.out]; rw [hg, Bool.true_and]
    clear HR
    go_enter Tryd.func31, Tryd.ntmps31
    go_wp2_with fail
    refine (l2Good_ct _ _ sig b true _ hx hg).mono ?_
    rintro e w2 ⟨rfl, hb⟩
    have BA := BA.below hb
    have hx := hx.below hb
    have hb := bthen hA hb
    have qA := BA.cell
    clear hA hg
    go_wp2_with fail
    refine (l3Guards_ct _ b (guardB b) _ hx.big rfl).mono ?_
    rintro e w3 ⟨rfl, hb3⟩
    go_wp2_with fail
    go_ret
    exact ⟨ret_bool HN.out, bthen hb hb3⟩

set_option maxHeartbeats 1000000 in
theorem gcl1_ct (p : Int) (w : World) : Calls Tryd.prog 74 #[.int .i64 p] w fun e w' => e = .returned (.bool (decide (p < 0))) ∧ Below w.heap.size w w' := by
  go_enter Tryd.func74, Tryd.ntmps74
  go_wp2_with fail
  go_ret
  exact ⟨rfl, Below.refl _ _⟩
set_option maxHeartbeats 2000000 in
theorem gcl2_ct (g : Nat) (b : Big) (x : Wr) (w : World) {u1 u2 u3 u4 : Value} (hB : Box w g #[.int .i64 b.roots, u1, u2, .int .i64 b.edges, u3, u4] 37) :
    Calls Tryd.prog 76 #[.agg #[.string x.name, .int .i64 x.link], .pointer (some ⟨g, 0, none⟩)] w fun e w' => e = .returned (.bool (decide (x.link ≥ b.edges))) ∧ Below w.heap.size w w' := by
  have hA := balloc w (.cells #[.string x.name, .int .i64 x.link] 75)
  have q := (hB.below hA).cell
  have hne : g < w.heap.size := hB.lt
  go_enter Tryd.func76, Tryd.ntmps76
  go_wp2_with fail
  go_ret
  exact ⟨rfl, hA⟩

set_option maxHeartbeats 2000000 in
theorem implIsGuarding_ct (vs v : Value) (sig : List Ctl) (b : Big) (r : Bool) (w : World) (h : Ctx w vs v sig b) (hr : (goodB sig b && guardB b) = r) :
    Calls Tryd.prog 32 #[vs, v] w fun e w' => e = .returned (.bool r) ∧ Below w.heap.size w w' := by
  have HR : Hid ((goodB sig b && guardB b) = r) := hr
  clear hr
  have l1 := h.big.lens
  obtain ⟨a1, c1, a2, c2, a3, c3, a4, c4, rfl⟩ := h.big.shape
  have hA := balloc w (.cells #[.int .i64 b.roots, .slice a1 b.nodes.length c1, .slice a2 b.sites.length c2, .int .i64 b.edges, .slice a3 b.outer.length c3, .slice a4 b.inner.length c4] 37)
  have hx := h.below hA
  have BA : Box (w.alloc (.cells #[.int .i64 b.roots, .slice a1 b.nodes.length c1, .slice a2 b.sites.length c2, .int .i64 b.edges, .slice a3 b.outer.length c3, .slice a4 b.inner.length c4] 37)) w.heap.size #[.int .i64 b.roots, .slice a1 b.nodes.length c1, .slice a2 b.sites.length c2, .int .i64 b.edges, .slice a3 b.outer.length c3, .slice a4 b.inner.length c4] 37 := Box.new _ _ _
  cases hg : goodB sig b with
  | false =>
    have HN : Hid (r = false) := by show _ = _; rw [← HR.out]; rw [hg]; rfl
    clear HR
    go_enter Tryd.func32, Tryd.ntmps32
    go_wp2_with fail
    refine (implIsBigraph_ct _ _ sig b false _ hx hg).mono ?_
    rintro e w2 ⟨rfl, hb⟩
    go_wp2_with fail
    go_ret
    exact ⟨by rw [HN.out]; rfl, bthen hA hb⟩
  | true =>
    have HN : Hid (guardB b = r) := by show _ = _; rw [← HR.out]; rw [hg, Bool.true_and]
    clear HR
    go_enter Tryd.func32, Tryd.ntmps32
    go_wp2_with fail
    refine (implIsBigraph_ct _ _ sig b true _ hx hg).mono ?_
    rintro e w2 ⟨rfl, hb⟩
    have BA := BA.below hb
    have hx := hx.below hb
    have hb := bthen hA hb
    have qA := BA.cell
    clear hA hg
    obtain ⟨_, hsit, _, hinn, _, _⟩ := hx.big.fields
    have E1 : Hid (∀ args w, (callFunc 74 args).run Tryd.prog w = .ok (.enter 74 args) w) := enters_of Tryd.func74 (by kernel_rfl) rfl
    have E2 : Hid (∀ args w, (callFunc 76 args).run Tryd.prog w = .ok (.enter 76 args) w) := enters_of Tryd.func76 (by kernel_rfl) rfl
    obtain ⟨m, hm⟩ : ∃ m, m = deepB b := ⟨_, rfl⟩
    obtain ⟨q, hq⟩ : ∃ q, q = edgyB b := ⟨_, rfl⟩
    have HS : Hid (b.sites.any (fun p => decide (p < 0)) = !m) := by show _ = _; rw [hm, deepB, ← any_not]; simp
    have HQ : Hid (b.inner.any (fun x => decide (x.link ≥ b.edges)) = !q) := by show _ = _; rw [hq, edgyB, ← any_not]; simp
    have HN : Hid ((m && q) = r) := by show _ = _; rw [hm, hq]; exact HN.out
    clear hm hq
    go_wp2_with fail
    refine (contInt_ct 74 #[] E1.out (fun p => decide (p < 0)) _ b.sites (!m) _ hsit (fun x _ W hW => by rw [app1']; exact gcl1_ct x W) HS.out).mono ?_
    rintro e w3 ⟨rfl, hb2⟩
    have BA := BA.below hb2
    have hb := bthen hb hb2
    have qA := BA.cell
    have hinn := hinn.below hb2
    clear hb2
    cases m with
    | false =>
      have HF : Hid (r = false) := by rw [← HN.out]; rfl
      go_wp2_with fail
      go_ret
      exact ⟨by rw [HF.out]; rfl, hb⟩
    | true =>
      have HF : Hid (q = r) := HN.out
      go_wp2_with fail
      refine (contWr_ct 76 _ E2.out (fun x => decide (x.link ≥ b.edges)) _ b.inner (!q) _ hinn (fun x _ W hW => by rw [app2]; exact gcl2_ct _ b x W (BA.below hW)) HQ.out).mono ?_
      rintro e w9 ⟨rfl, hb2⟩
      have hb := bthen hb hb2
      go_wp2_with fail
      go_ret
      exact ⟨ret_bool (by rw [← HF.out]; (try simp)), hb⟩
end Go.Proofs.YtcpakignoijphaaDoor
