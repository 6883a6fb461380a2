/- Whether a bigraph is an identity. -/
import Derived.Test.YtjkebiodabheiaaDoorIdent
import Derived.Test.YtjkebiodabheiaaDoorFits
import Derived.Laws.StructEq
import Derived.Test.YtjkebiodabheiaaDoorIsA
import Derived.Test.YtjkebiodabheiaaDoorLaw1
import Derived.Test.YtjkebiodabheiaaDoorShelf
namespace Go.Proofs.YtjkebiodabheiaaDoor
open Go Go.RowKit Go.BigFrame

def wrB (x y : Wr) : Bool := (x.name.toList == y.name.toList) && decide (x.link = y.link)
def wrsEq (l m : List Wr) (k : Nat) : Bool := (List.range k).all fun i => match l[i]?, m[i]? with | some x, some y => wrB x y | _, _ => false
theorem wrsEq_snoc {l m : List Wr} {k : Nat} {x y : Wr} (h : wrsEq l m k = true) (hx : l[k]? = some x) (hy : m[k]? = some y) (hq : wrB x y = true) : wrsEq l m (k + 1) = true := by
  unfold wrsEq at *
  rw [List.range_succ, List.all_append, h]
  simp [hx, hy, hq]
theorem wrsEq_no {l m : List Wr} {k n : Nat} {x y : Wr} (hk : k < n) (hx : l[k]? = some x) (hy : m[k]? = some y) (hq : wrB x y = false) : wrsEq l m n = false := by
  unfold wrsEq
  rw [List.all_eq_false]
  exact ⟨k, List.mem_range.2 hk, by simp [hx, hy, hq]⟩
/-- Each inner name goes to the outer name of the same place. -/
def identB (b : Big) : Bool := decide (b.edges = 0) && (decide (b.sites = sitesL b.roots.toNat) && (decide (b.inner.length = b.outer.length) && (wrsEq b.inner (wires b.outer) b.inner.length && decide (b.nodes.length = 0))))

set_option maxHeartbeats 2000000 in
theorem l1Same_ct (v1 v2 : Value) (l m : List Int) (r : Bool) (hr : decide (l = m) = r) (w : World) (h : IntsAt w v1 l) (h' : IntsAt w v2 m) :
    Calls Tryd.prog 96 #[v1, v2] w fun e w' => e = .returned (.bool r) ∧ Below w.heap.size w w' := by
  have HR : Hid (decide (l = m) = r) := hr
  clear hr
  obtain ⟨a1, c1, rfl, _, hl, h1⟩ := h.open
  obtain ⟨a2, c2, rfl, _, hl2, h2⟩ := h'.open
  clear h h'
  by_cases hlen : l.length = m.length
  · go_enter Tryd.func96, Tryd.ntmps96
    go_wp2
    go_loopw [5] (fun i wr => ∃ k : Nat, k ≤ l.length ∧ i = .int .i64 k ∧ Hid (l.take k = m.take k) ∧ Below w.heap.size w wr) (fun i _ => l.length - (intOf i).toNat)
    case atStart => exact ⟨0, Nat.zero_le _, rfl, (by show _ = _; simp), Below.refl _ _⟩
    case round =>
      obtain ⟨k, hk, rfl, HK, hb⟩ := hrel
      by_cases hkl : k < l.length
      · obtain ⟨x, hx⟩ := getElem?_of_lt hkl
        obtain ⟨y, hy⟩ := getElem?_of_lt (show k < m.length by omega)
        obtain ⟨_, b1, o1, rfl, hc0⟩ := h1 k x hx
        obtain ⟨_, b2, o2, rfl, hd0⟩ := h2 k y hy
        have gc0 := fun z => gr_cell (w := wr) ((hb.cell (World.block_lt_of_cell? w _ hc0)).trans hc0) z
        have gd0 := fun z => gr_cell (w := wr) ((hb.cell (World.block_lt_of_cell? w _ hd0)).trans hd0) z
        have HX : Hid (l[k]? = some x) := hx
        have HY : Hid (m[k]? = some y) := hy
        clear hc0 hd0
        clear h1 h2 hx hy
        by_cases hxy : x = y
        · have HT : Hid (l.take (k + 1) = m.take (k + 1)) := by show _ = _; rw [take_snoc_l HX.out, take_snoc_l HY.out, HK.out, hxy]
          have hq : (x == y) = true := by simpa using hxy
          clear HX HY HK hxy
          go_wp2
          refine wp_region_gr (by kernel_rfl) (by kernel_rfl) ?_
          repeat (go_big_quiet_step (fail))
          refine wpQuiet_nil ?_
          intro w2 hb2
          go_wp2
          go_roundw
          case rel => exact ⟨k + 1, by omega, by go_num, HT, bthen hb hb2⟩
          case measure => simp [intOf]; omega
        · have HN : Hid (r = false) := by
            show _ = _; rw [← HR.out]
            refine decide_eq_false (fun e => hxy ?_)
            subst e
            exact Option.some.inj (HX.out.symm.trans HY.out)
          have hq : (x == y) = false := by simpa using hxy
          clear HX HY HK HR hxy
          go_wp2
          refine wp_region_gr (by kernel_rfl) (by kernel_rfl) ?_
          repeat (go_big_quiet_step (fail))
          refine wpQuiet_nil ?_
          intro w2 hb2
          go_wp2
          go_ret
          exact ⟨by rw [HN.out]; rfl, bthen hb hb2⟩
      · have HN : Hid (r = true) := by
          show _ = _; rw [← HR.out]
          refine decide_eq_true ?_
          have := HK.out
          rwa [List.take_of_length_le (by omega), List.take_of_length_le (by omega)] at this
        clear h1 h2 HR HK
        go_wp2
        go_ret
        exact ⟨by rw [HN.out]; rfl, hb⟩
  · have HN : Hid (r = false) := by
      show _ = _; rw [← HR.out]
      exact decide_eq_false (fun e => hlen (by rw [e]))
    clear HR h1 h2
    go_enter Tryd.func96, Tryd.ntmps96
    go_wp2
    go_ret
    exact ⟨by rw [HN.out]; rfl, Below.refl _ _⟩

section
theorem eqWr (x y : Wr) (w : World) : (Op.equalIn 10000 85 (.agg #[.string x.name, .int .i64 x.link]) (.agg #[.string y.name, .int .i64 y.link])).run Tryd.prog w = .ok (wrB x y) w := by
  have u9 := Tryd.underlying9
  have a9 := Tryd.isAgg9
  have z9 := Tryd.sizeOf9
  have u3 := Tryd.underlying3
  have a3 := Tryd.isAgg3
  have z3 := Tryd.sizeOf3
  have hS : Tryd.prog.underlying 85 = some (.struct (Tryd.prog.fieldsOf 85)) := by kernel_rfl
  have hp : Tryd.prog.stoodInHeld 85 = false := by kernel_rfl
  rw [show (10000 : Nat) = 9999 + 1 from rfl, run_equalIn_agg w 9999 85 _ _ hS hp]
  simp only [Program.fieldsOf, Tryd.underlying85]
  go_simp
  unfold wrB
  cases h1 : (x.name.toList == y.name.toList) <;> by_cases h2 : x.link = y.link <;> simp_all
theorem neqWr (x y : Wr) (w : World) : (binOp .neq 85 (.agg #[.string x.name, .int .i64 x.link]) (.agg #[.string y.name, .int .i64 y.link])).run Tryd.prog w = .ok (.bool (!wrB x y)) w := by
  rw [run_neq_struct, eqWr]; rfl
end

set_option maxRecDepth 100000 in
set_option maxHeartbeats 8000000 in
theorem l2Same_ct (v v' : Value) (b : Big) (r : Bool) (w : World) (h : BigAt w v b) (h' : BigAt w v' (idBig b.roots.toNat b.outer)) (hro : 0 ≤ b.roots ∧ b.roots ≤ 4) (hed : 0 ≤ b.edges ∧ b.edges ≤ 8) (hr : identB b = r) :
    Calls Tryd.prog 51 #[v, v'] w fun e w' => e = .returned (.bool r) ∧ Below w.heap.size w w' := by
  have HR : Hid (identB b = r) := hr
  clear hr
  have l1 := h.lens
  obtain ⟨n, hn⟩ : ∃ n : Nat, b.roots = n := ⟨b.roots.toNat, by omega⟩
  rw [hn, Int.toNat_natCast] at h'
  have HI : Hid (identB b = (decide (b.edges = 0) && (decide (b.sites = sitesL n) && (decide (b.inner.length = b.outer.length) && (wrsEq b.inner (wires b.outer) b.inner.length && decide (b.nodes.length = 0)))))) := by show _ = _; unfold identB; rw [hn, Int.toNat_natCast]
  obtain ⟨a1, c1, a2, c2, a3, c3, a4, c4, rfl, _, hsit, hout, hin, _, _⟩ := h.parts
  obtain ⟨d1, e1, d2, e2, d3, e3, d4, e4, rfl, _, hsit', hout', hin', _, _⟩ := h'.parts
  have h := 0
  have h' := 0
  have ew : (idBig n b.outer).inner.length = b.outer.length := by simp [idBig, wires_length]
  have es : (idBig n b.outer).sites.length = n := by simp [idBig, sitesL_length]
  have eo : (idBig n b.outer).outer.length = b.outer.length := rfl
  have en : (idBig n b.outer).nodes.length = 0 := rfl
  rw [ew] at hin'
  rw [es] at hsit'
  rw [eo] at hout'
  rw [ew, es, eo, en]
  have hsit' : IntsAt w (.slice d2 n e2) (sitesL n) := hsit'
  have hout' : StrsAt w (.slice d3 b.outer.length e3) b.outer := hout'
  have hin' : WrsAt w (.slice d4 b.outer.length e4) (wires b.outer) := hin'
  have er : (idBig n b.outer).roots = (n : Int) := rfl
  have ee : (idBig n b.outer).edges = 0 := rfl
  rw [er, ee, hn]
  clear ew es eo en er ee
  have hA := bthen (balloc w (.cells #[.int .i64 n, .slice a1 b.nodes.length c1, .slice a2 b.sites.length c2, .int .i64 b.edges, .slice a3 b.outer.length c3, .slice a4 b.inner.length c4] 43)) (balloc (w.alloc (.cells #[.int .i64 n, .slice a1 b.nodes.length c1, .slice a2 b.sites.length c2, .int .i64 b.edges, .slice a3 b.outer.length c3, .slice a4 b.inner.length c4] 43)) (.cells #[.int .i64 n, .slice d1 0 e1, .slice d2 n e2, .int .i64 0, .slice d3 b.outer.length e3, .slice d4 b.outer.length e4] 43))
  clear hn
  by_cases t0 : b.edges = 0
  case neg =>
    have HN : Hid (r = false) := by show _ = _; rw [← HR.out, HI.out]; simp [t0]
    have hq1 : (b.edges == 0) = false := by simpa using t0
    clear HI HR hsit hout hin hsit' hout' hin'
    go_enter Tryd.func51, Tryd.ntmps51
    go_wp2_with fail
    go_ret
    exact ⟨by rw [HN.out]; rfl, hA⟩
  by_cases t1 : b.nodes.length = 0
  case neg =>
    have HN : Hid (r = false) := by show _ = _; rw [← HR.out, HI.out]; simp [t1]
    have hq1 : ((b.nodes.length : Int) == 0) = false := by simp only [beq_eq_false_iff_ne]; omega
    clear HI HR hsit hout hin hsit' hout' hin'
    go_enter Tryd.func51, Tryd.ntmps51
    rw [t0] at hA ⊢
    go_wp2_with fail
    go_ret
    exact ⟨by rw [HN.out]; rfl, hA⟩
  by_cases t2 : b.inner.length = b.outer.length
  case neg =>
    have HN : Hid (r = false) := by show _ = _; rw [← HR.out, HI.out]; simp [t2]
    have hq1 : ((b.inner.length : Int) == (b.outer.length : Int)) = false := by simp only [beq_eq_false_iff_ne]; omega
    clear HI HR hsit hout hin hsit' hout' hin'
    go_enter Tryd.func51, Tryd.ntmps51
    rw [t0, t1] at hA ⊢
    go_wp2_with fail
    go_ret
    exact ⟨by rw [HN.out]; rfl, hA⟩
  rw [t0, t1, t2] at hA ⊢
  rw [t2] at hin
  have HI2 : Hid (identB b = (decide (b.sites = sitesL n) && wrsEq b.inner (wires b.outer) b.outer.length)) := by show _ = _; rw [HI.out]; simp [t0, t1, t2]
  clear HI
  have hs1 := hsit.below hA
  have hs2 := hsit'.below hA
  have BA0 : Box ((w.alloc (.cells #[.int .i64 n, .slice a1 0 c1, .slice a2 b.sites.length c2, .int .i64 0, .slice a3 b.outer.length c3, .slice a4 b.outer.length c4] 43)).alloc (.cells #[.int .i64 n, .slice d1 0 e1, .slice d2 n e2, .int .i64 0, .slice d3 b.outer.length e3, .slice d4 b.outer.length e4] 43)) w.heap.size #[.int .i64 n, .slice a1 0 c1, .slice a2 b.sites.length c2, .int .i64 0, .slice a3 b.outer.length c3, .slice a4 b.outer.length c4] 43 := (Box.new _ _ _).alloc _
  have BB0 : Box ((w.alloc (.cells #[.int .i64 n, .slice a1 0 c1, .slice a2 b.sites.length c2, .int .i64 0, .slice a3 b.outer.length c3, .slice a4 b.outer.length c4] 43)).alloc (.cells #[.int .i64 n, .slice d1 0 e1, .slice d2 n e2, .int .i64 0, .slice d3 b.outer.length e3, .slice d4 b.outer.length e4] 43)) (w.heap.size + 1) #[.int .i64 n, .slice d1 0 e1, .slice d2 n e2, .int .i64 0, .slice d3 b.outer.length e3, .slice d4 b.outer.length e4] 43 := Box.new' _ _ _ (by simp)
  by_cases t3 : b.sites = sitesL n
  case neg =>
    have HN : Hid (r = false) := by show _ = _; rw [← HR.out, HI2.out, decide_eq_false t3]; rfl
    clear HI2 HR hsit hout hin hsit' hout' hin'
    go_enter Tryd.func51, Tryd.ntmps51
    go_wp2_with (go_at_call 96; refine (l1Same_ct _ _ _ _ false (decide_eq_false t3) _ hs1 hs2).mono ?_; rintro e w2 ⟨rfl, hb2⟩)
    go_ret
    exact ⟨by rw [HN.out]; rfl, bthen hA hb2⟩
  have HI3 : Hid (wrsEq b.inner (wires b.outer) b.outer.length = r) := by show _ = _; rw [← HR.out, HI2.out, decide_eq_true t3, Bool.true_and]
  have A3 := Lib.hid (decide_eq_true t3)
  have A2 := Lib.hid t2
  clear HI2 HR
  obtain ⟨_, _, x1, _, lo1, ho1⟩ := hout.open
  obtain ⟨rfl, rfl⟩ := (by simpa using x1 : a3 = _ ∧ c3 = _)
  obtain ⟨_, _, x2, _, _, ho2⟩ := hout'.open
  obtain ⟨rfl, rfl⟩ := (by simpa using x2 : d3 = _ ∧ e3 = _)
  obtain ⟨_, _, x3, _, _, hi1⟩ := hin.open
  obtain ⟨rfl, rfl⟩ := (by simpa [t2] using x3 : a4 = _ ∧ c4 = _)
  obtain ⟨_, _, x4, _, _, hi2⟩ := hin'.open
  obtain ⟨rfl, rfl⟩ := (by simpa [wires_length] using x4 : d4 = _ ∧ e4 = _)
  have HO1 : Hid _ := ho1
  have HO2 : Hid _ := ho2
  have HI1 : Hid _ := hi1
  have HI2 : Hid _ := hi2
  clear x1 x2 x3 x4 ho1 ho2 hi1 hi2 hsit hout hin hsit' hout' hin' t0 t1 t2 t3
  go_enter Tryd.func51, Tryd.ntmps51
  go_wp2_with (go_at_call 96; refine (l1Same_ct _ _ _ _ true A3.out _ hs1 hs2).mono ?_; rintro e w2 ⟨rfl, hb2⟩; have BA := BA0.below hb2; have BB := BB0.below hb2; have hb := bthen hA hb2)
  clear hs1 hs2 hA hb2 BA0 BB0
  go_loopw [5] (fun i W => i = .int .i64 0 ∧ Below w.heap.size w W ∧ Box W w.heap.size #[.int .i64 n, .slice a1 0 c1, .slice a2 b.sites.length c2, .int .i64 0, .slice a3 b.outer.length c3, .slice a4 b.outer.length c4] 43 ∧ Box W (w.heap.size + 1) #[.int .i64 n, .slice d1 0 e1, .slice d2 n e2, .int .i64 0, .slice d3 b.outer.length e3, .slice d4 b.outer.length e4] 43) (fun _ _ => 0)
  case atStart => exact ⟨rfl, hb, BA, BB⟩
  case round =>
    clear hb BA BB
    obtain ⟨rfl, hb, BA, BB⟩ := hrel
    have q := BA.cell
    go_wp2_with fail
    clear q
    go_loopw [6] (fun i W => ∃ k : Nat, k ≤ b.outer.length ∧ i = .int .i64 k ∧ Below w.heap.size w W ∧ Box W w.heap.size #[.int .i64 n, .slice a1 0 c1, .slice a2 b.sites.length c2, .int .i64 0, .slice a3 b.outer.length c3, .slice a4 b.outer.length c4] 43 ∧ Box W (w.heap.size + 1) #[.int .i64 n, .slice d1 0 e1, .slice d2 n e2, .int .i64 0, .slice d3 b.outer.length e3, .slice d4 b.outer.length e4] 43) (fun i _ => b.outer.length - (intOf i).toNat)
    case atStart => exact ⟨0, Nat.zero_le _, rfl, hb, BA, BB⟩
    case round =>
      clear hb BA BB
      obtain ⟨k, hk, rfl, hb, BA, BB⟩ := hrel
      by_cases hkl : k < b.outer.length
      · obtain ⟨x, hx⟩ := getElem?_of_lt hkl
        obtain ⟨_, b1, o1, rfl, hc0⟩ := HO1.out k x hx
        obtain ⟨_, b2, o2, rfl, hd0⟩ := HO2.out k x hx
        have gc0 := fun z => gr_cell (w := wr) ((hb.cell (World.block_lt_of_cell? w _ hc0)).trans hc0) z
        have gd0 := fun z => gr_cell (w := wr) ((hb.cell (World.block_lt_of_cell? w _ hd0)).trans hd0) z
        have gA := fun y => gr_cell (w := wr) (BA.cell 4) y
        have gB := fun y => gr_cell (w := wr) (BB.cell 4) y
        have q := BA.cell
        clear hc0 hd0 hx
        go_wp2_with fail
        refine wp_region_gr (by kernel_rfl) (by kernel_rfl) ?_
        repeat (go_big_quiet_step (fail))
        refine wpQuiet_nil ?_
        intro w2 hb2
        have BA := BA.below hb2
        have BB := BB.below hb2
        have hb := bthen hb hb2
        clear gc0 gd0 gA gB q hb2
        go_wp2_with fail
        go_roundw
        case rel => exact ⟨k + 1, by omega, by go_num, hb, BA, BB⟩
        case measure => simp [intOf]; omega
      · have q := BA.cell
        go_wp2_with fail
        clear q
        go_loopw [7] (fun i W => ∃ k : Nat, k ≤ b.outer.length ∧ i = .int .i64 k ∧ Hid (wrsEq b.inner (wires b.outer) k = true) ∧ Below w.heap.size w W ∧ Box W w.heap.size #[.int .i64 n, .slice a1 0 c1, .slice a2 b.sites.length c2, .int .i64 0, .slice a3 b.outer.length c3, .slice a4 b.outer.length c4] 43 ∧ Box W (w.heap.size + 1) #[.int .i64 n, .slice d1 0 e1, .slice d2 n e2, .int .i64 0, .slice d3 b.outer.length e3, .slice d4 b.outer.length e4] 43) (fun i _ => b.outer.length - (intOf i).toNat)
        case atStart => exact ⟨0, Nat.zero_le _, rfl, (by show _ = _; rfl), hb, BA, BB⟩
        case round =>
          clear hb BA BB hkl
          obtain ⟨j, hj, rfl, HK, hb, BA, BB⟩ := hrel
          by_cases hjl : j < b.outer.length
          · obtain ⟨x, hx⟩ := getElem?_of_lt (show j < b.inner.length by rw [A2.out]; exact hjl)
            obtain ⟨s, hs⟩ := getElem?_of_lt hjl
            obtain ⟨y, hy⟩ : ∃ y, (wires b.outer)[j]? = some y := ⟨_, wires_get hs⟩
            obtain ⟨_, _, b1, o1, rfl, hc0, hc1⟩ := HI1.out j x hx
            obtain ⟨_, _, b2, o2, rfl, hd0, hd1⟩ := HI2.out j y hy
            have gc0 := fun z => gr_cell (w := wr) ((hb.cell (World.block_lt_of_cell? w _ hc0)).trans hc0) z
            have gd0 := fun z => gr_cell (w := wr) ((hb.cell (World.block_lt_of_cell? w _ hd0)).trans hd0) z
            have gc1 := fun z => gr_cell (w := wr) ((hb.cell (World.block_lt_of_cell? w _ hc1)).trans hc1) z
            have gd1 := fun z => gr_cell (w := wr) ((hb.cell (World.block_lt_of_cell? w _ hd1)).trans hd1) z
            have gA := fun y => gr_cell (w := wr) (BA.cell 5) y
            have gB := fun y => gr_cell (w := wr) (BB.cell 5) y
            have q := BA.cell
            have qn := neqWr x y
            have qg : ∀ (oa ob : Operand) (w : World), (eqGuard .neq 85 oa ob (.agg #[.string x.name, .int .i64 x.link]) (.agg #[.string y.name, .int .i64 y.link])).run Tryd.prog w = .ok () w := fun oa ob w => run_eqGuard_agg w _ _ _ _ _ _ (by kernel_rfl)
            have HS : Hid (wrB x y = true → wrsEq b.inner (wires b.outer) (j + 1) = true) := fun e => wrsEq_snoc HK.out hx hy e
            have HZ : Hid (wrB x y = false → r = false) := fun e => by rw [← HI3.out]; exact wrsEq_no hjl hx hy e
            clear hc0 hd0 hc1 hd1 hx hs hy HK
            cases hw : wrB x y with
            | true =>
              have HS := Lib.hid (HS.out hw)
              rw [hw] at qn
              clear HZ
              go_wp2_with fail
              refine wp_region_gr (by kernel_rfl) (by kernel_rfl) ?_
              repeat (go_big_quiet_step (fail))
              refine wpQuiet_nil ?_
              intro w2 hb2
              have BA := BA.below hb2
              have BB := BB.below hb2
              have hb := bthen hb hb2
              clear gc0 gd0 gc1 gd1 gA gB q hb2 qn qg
              go_wp2_with fail
              go_roundw
              case rel => exact ⟨j + 1, by omega, by go_num, HS, hb, BA, BB⟩
              case measure => simp [intOf]; omega
            | false =>
              have HZ := Lib.hid (HZ.out hw)
              rw [hw] at qn
              clear HS
              go_wp2_with fail
              refine wp_region_gr (by kernel_rfl) (by kernel_rfl) ?_
              repeat (go_big_quiet_step (fail))
              refine wpQuiet_nil ?_
              intro w2 hb2
              have hb := bthen hb hb2
              clear gc0 gd0 gc1 gd1 gA gB q hb2 qn qg
              go_wp2_with fail
              go_ret
              exact ⟨by rw [HZ.out]; rfl, hb⟩
          · have HN : Hid (r = true) := by show _ = _; rw [← HI3.out, show b.outer.length = j by omega]; exact HK.out
            have q := BA.cell
            clear HK HI3
            go_wp2_with fail
            go_ret
            exact ⟨by rw [HN.out]; rfl, hb⟩
end Go.Proofs.YtjkebiodabheiaaDoor
