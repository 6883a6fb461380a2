/- Nodes under a root: atoms and ions. -/
import Derived.Test.YtanndcclkmcfbaaDoorAllN
import Derived.Test.YtanndcclkmcfbaaDoorSig
import Derived.Test.YtanndcclkmcfbaaDoorSortS
import Derived.Test.YtanndcclkmcfbaaDoorAtN
import Derived.Lib.Hide
import Derived.Test.YtanndcclkmcfbaaDoorRg2
import Derived.Test.YtanndcclkmcfbaaDoorLaw1
namespace Go.Proofs.YtanndcclkmcfbaaDoor
open Go Go.RowKit Go.BigFrame

def linksL (m : List ByteArray) : List Int := m.map fun t => Lib.idxOfS (sortU m) t
theorem linksL_len (m : List ByteArray) : (linksL m).length = m.length := by simp [linksL]
theorem linksL_get {m : List ByteArray} {k : Nat} {x : ByteArray} (h : m[k]? = some x) : (linksL m)[k]? = some (Lib.idxOfS (sortU m) x) := by simp [linksL, h]
def lkRows (m : List ByteArray) (k : Nat) : List (List Value) := intRows ((linksL m).take k)
theorem lkRows_len {m : List ByteArray} {k : Nat} (h : k ≤ m.length) : (lkRows m k).length = k := by simp [lkRows, intRows, linksL_len]; omega
theorem lkRows_snoc {m : List ByteArray} {k : Nat} {x : ByteArray} (h : m[k]? = some x) : lkRows m (k + 1) = lkRows m k ++ [[.int .i64 (Lib.idxOfS (sortU m) x)]] := by
  unfold lkRows; rw [take_snoc_l (linksL_get h)]; simp [intRows]
theorem lkRows_full (m : List ByteArray) : lkRows m m.length = intRows (linksL m) := by unfold lkRows; rw [List.take_of_length_le (by rw [linksL_len]; exact Nat.le_refl _)]
theorem linksL_i64 {m : List ByteArray} (h : m.length ≤ 1000) : ∀ x ∈ linksL m, I64 x := by
  intro x hx
  unfold linksL at hx
  obtain ⟨t, _, rfl⟩ := List.mem_map.1 hx
  have := idx_bd (sortU m) t
  have := sortU_len m
  unfold I64; omega
def atomBig (c : Int) (m : List ByteArray) : Big := ⟨1, [⟨c, -1, linksL m⟩], [], 0, sortU m, []⟩
def ionBig (c : Int) (m : List ByteArray) : Big := ⟨1, [⟨c, -1, linksL m⟩], [0], 0, sortU m, []⟩
def ctlAt (sig : List Ctl) (c : Int) : Ctl := (sig[c.toNat]?).getD ⟨⟨#[]⟩, 0, 0⟩
def atomB (sig : List Ctl) (c : Int) (m : List ByteArray) : Bool := sigB sig && (decide (0 ≤ c ∧ c ≤ (sig.length : Int) - 1) && (decide ((m.length : Int) = (ctlAt sig c).ports) && m.all nameB))
def ionB (sig : List Ctl) (c : Int) (m : List ByteArray) : Bool := atomB sig c m && !decide ((ctlAt sig c).kind = 2)
def atomP (sig : List Ctl) (c : Int) (m : List ByteArray) : Big := if atomB sig c m then atomBig c m else noBig
def ionP (sig : List Ctl) (c : Int) (m : List ByteArray) : Big := if ionB sig c m then ionBig c m else noBig
theorem sig_small {sig : List Ctl} (h : sigB sig = true) : sig.length ≤ 6 ∧ ∀ (k : Nat) x, sig[k]? = some x → 0 ≤ x.ports ∧ x.ports ≤ 3 := by
  exact ⟨(sig_len h).2, fun k x hx => by have := sig_ctl h hx; unfold ctlB at this; simp only [Bool.and_eq_true, decide_eq_true_eq] at this; exact this.2.1⟩
theorem atomB_c {sig : List Ctl} {c : Int} {m : List ByteArray} (h : atomB sig c m = true) : m.length ≤ 3 ∧ 0 ≤ c ∧ c < 6 ∧ (sig.length : Int) > c := by
  unfold atomB at h
  simp only [Bool.and_eq_true, decide_eq_true_eq] at h
  obtain ⟨h1, h2, h3, _⟩ := h
  obtain ⟨h6, hx⟩ := sig_small h1
  obtain ⟨x, hx1⟩ := getElem?_of_lt (show c.toNat < sig.length by omega)
  have := hx _ _ hx1
  have e : ctlAt sig c = x := by unfold ctlAt; rw [hx1]; rfl
  rw [e] at h3
  omega
theorem atomP_len (sig : List Ctl) (c : Int) (m : List ByteArray) : (cntB (atomP sig c m) : Int) ≤ 100000000 := by
  unfold atomP
  split
  · rename_i h
    have h1 := sortU_len m
    have h2 := atomB_c h
    unfold cntB cntN atomBig
    simp only [sumOf_cons, sumOf_nil, List.length_nil, List.length_cons, linksL_len]
    omega
  · unfold cntB cntN noBig
    simp [sumOf_nil]
theorem ionP_len (sig : List Ctl) (c : Int) (m : List ByteArray) : (cntB (ionP sig c m) : Int) ≤ 100000000 := by
  unfold ionP
  split
  · rename_i h
    have h1 := sortU_len m
    have h2 := atomB_c (sig := sig) (c := c) (m := m) (by unfold ionB at h; simp only [Bool.and_eq_true] at h; exact h.1)
    unfold cntB cntN ionBig
    simp only [sumOf_cons, sumOf_nil, List.length_nil, List.length_cons, linksL_len]
    omega
  · unfold cntB cntN noBig
    simp [sumOf_nil]
theorem row_of_box {B g : Nat} {w : World} {row : List Value} {t : TypeId} (h : Box w g row.toArray t) (hB : B ≤ g) : RowOwn B w (.slice (some ⟨g, 0, none⟩) 1 1) row.length [row] :=
  ⟨fun r hr => by rw [List.mem_singleton.1 hr], .inr ⟨g, 1, row.toArray, t, rfl, hB, h, Nat.le_refl _, by simp⟩⟩
/-- The bigraph of one node, put together. -/
theorem atom_own {B w ua uc av cv g c} {W : World} {m : List ByteArray} {t : TypeId} (hB : B ≤ w) (hg : w ≤ g) (hc : 0 ≤ c ∧ c < 6) (hm : m.length ≤ 1000)
    (ho : StrsOwn B W (.slice ua (sortU m).length uc) (sortU m)) (ho2 : ∀ p ∈ blks (.slice ua (sortU m).length uc), p < w) (hl : RowOwn w W (.slice av m.length cv) 1 (intRows (linksL m))) (hl2 : ∀ p ∈ blks (.slice av m.length cv), p < g)
    (hb : Box W g #[.int .i64 c, .int .i64 (-1), .slice av m.length cv] t) : ∃ bs, BigOwn B W (.agg #[.int .i64 1, .slice (some ⟨g, 0, none⟩) 1 1, .slice none 0 0, .int .i64 0, .slice ua (sortU m).length uc, .slice none 0 0]) (atomBig c m) bs ∧ bs.Nodup ∧ ∀ p ∈ bs, p ∈ blks (.slice ua (sortU m).length uc) ∨ w ≤ p := by
  have hli : IntsOwn B W (.slice av m.length cv) (linksL m) := ⟨hl.mono hB, by rw [linksL_len]; omega, linksL_i64 hm⟩
  have hrow : RowOwn B W (.slice (some ⟨g, 0, none⟩) 1 1) 3 ([((⟨c, -1, linksL m⟩ : Nd), Value.slice av m.length cv)].map Nd.cells) := row_of_box (row := [.int .i64 c, .int .i64 (-1), .slice av m.length cv]) hb (by omega)
  refine ⟨_, ⟨_, _, _, _, _, rfl, ⟨[(⟨c, -1, linksL m⟩, .slice av m.length cv)], rfl, hrow, by simp [atomBig], fun n hn => by rw [List.mem_singleton.1 hn]; exact hli, fun n hn => by rw [List.mem_singleton.1 hn]; unfold I64; dsimp only; omega, rfl⟩, ints_none _ _, ho, wrs_none _ _, by unfold I64; simp [atomBig], by unfold I64; simp [atomBig], rfl⟩, ?_, ?_⟩
  · have e0 : blks (.slice none 0 0) = [] := rfl
    have e1 : blks (.slice (some ⟨g, 0, none⟩) 1 1) = [g] := rfl
    rw [e0, e1, List.nil_append, List.append_nil]
    simp only [List.flatMap_cons, List.flatMap_nil, List.append_nil]
    rw [List.nodup_append, List.nodup_append]
    refine ⟨⟨by simp, blks_nodup _ _ _, fun p hp q hq => ?_⟩, blks_nodup _ _ _, fun p hp q hq => ?_⟩
    · have := List.mem_singleton.1 hp; have := hl2 q hq; omega
    · have h1 := ho2 q hq
      rcases List.mem_append.1 hp with hp | hp
      · have := List.mem_singleton.1 hp; omega
      · have := (hl.lt p hp).1; omega
  · intro p hp
    have e0 : blks (.slice none 0 0) = [] := rfl
    have e1 : blks (.slice (some ⟨g, 0, none⟩) 1 1) = [g] := rfl
    rw [e0, e1, List.nil_append, List.append_nil] at hp
    simp only [List.flatMap_cons, List.flatMap_nil, List.append_nil] at hp
    rcases List.mem_append.1 hp with hp | hp
    · rcases List.mem_append.1 hp with hp | hp
      · have := List.mem_singleton.1 hp; exact .inr (by omega)
      · exact .inr (hl.lt p hp).1
    · exact .inl hp

set_option maxRecDepth 100000 in
set_option maxHeartbeats 4000000 in
theorem l3Ion_ct (vs v : Value) (sig : List Ctl) (c : Int) (m : List ByteArray) (r : Bool) (w : World) (h1 : CtlsAt w vs sig) (h2 : StrsAt w v m) (hr : atomB sig c m = r) : Calls Tryd.prog 21 #[vs, .int .i64 c, v] w fun e w' => e = .returned (.bool r) ∧ Below w.heap.size w w' := by
  have HR : Hid (atomB sig c m = r) := hr
  obtain ⟨a, cc, rfl, _, hl30, h3⟩ := h1.open
  obtain ⟨a', cc', rfl, _, hm30, _⟩ := h2.open
  have H1 : Hid (CtlsAt w (.slice a sig.length cc) sig) := h1
  have H2 : Hid (StrsAt w (.slice a' m.length cc') m) := h2
  have H3 : Hid _ := h3
  clear hr h1 h2 h3
  cases hsg : sigB sig with
  | false =>
    have HN : Hid (r = false) := by show _ = _; rw [← HR.out]; unfold atomB; rw [hsg]; rfl
    go_enter Tryd.func21, Tryd.ntmps21
    go_wp2_with (go_at_call 37; refine (l2Sig_ct _ sig false _ H1.out hsg).mono ?_; rintro e w2 ⟨rfl, hb⟩)
    go_ret
    exact ⟨by rw [HN.out]; rfl, hb⟩
  | true =>
    by_cases hc : 0 ≤ c ∧ c ≤ (sig.length : Int) - 1
    case neg =>
      have HN : Hid (r = false) := by show _ = _; rw [← HR.out]; unfold atomB; rw [hsg, decide_eq_false hc]; rfl
      go_enter Tryd.func21, Tryd.ntmps21
      go_wp2_with (first | (go_at_call 37; refine (l2Sig_ct _ sig true _ H1.out hsg).mono ?_; rintro e w2 ⟨rfl, hb⟩) | (go_at_call 38; refine (l1In_ct _ _ _ false (by simp; omega) _).mono ?_; rintro e w3 ⟨rfl, rfl⟩))
      go_ret
      exact ⟨by rw [HN.out]; rfl, hb⟩
    obtain ⟨k, rfl⟩ : ∃ k : Nat, c = k := ⟨c.toNat, by omega⟩
    obtain ⟨x, hx⟩ := getElem?_of_lt (show k < sig.length by omega)
    have hk : k < sig.length := by omega
    obtain ⟨_, hpI, _, b1, o1, rfl, _, hc1, _⟩ := H3.out k x hx
    have hct : ctlAt sig k = x := by unfold ctlAt; rw [Int.toNat_natCast, hx]; rfl
    have HE : Hid (atomB sig k m = (decide ((m.length : Int) = x.ports) && m.all nameB)) := by show _ = _; unfold atomB; rw [hsg, decide_eq_true hc, hct]; rfl
    clear hct hx
    by_cases hp : (m.length : Int) = x.ports
    case neg =>
      have HN : Hid (r = false) := by show _ = _; rw [← HR.out, HE.out, decide_eq_false hp]; rfl
      have hq : ((m.length : Int) == x.ports) = false := by simpa using hp
      go_enter Tryd.func21, Tryd.ntmps21
      go_wp2_with (first | (go_at_call 37; refine (l2Sig_ct _ sig true _ H1.out hsg).mono ?_; rintro e w2 ⟨rfl, hb⟩; have g1 := (hb.cell (World.block_lt_of_cell? w _ hc1)).trans hc1) | (go_at_call 38; refine (l1In_ct _ _ _ true (by simp; omega) _).mono ?_; rintro e w3 ⟨rfl, rfl⟩))
      go_ret
      exact ⟨by rw [HN.out]; rfl, hb⟩
    have hq : ((m.length : Int) == x.ports) = true := by simpa using hp
    have HP := Lib.hid hp
    clear hp
    cases ha : m.all nameB with
    | false =>
      have HN : Hid (r = false) := by show _ = _; rw [← HR.out, HE.out, decide_eq_true HP.out, ha]; rfl
      go_enter Tryd.func21, Tryd.ntmps21
      go_wp2_with (first | (go_at_call 37; refine (l2Sig_ct _ sig true _ H1.out hsg).mono ?_; rintro e w2 ⟨rfl, hb⟩; have g1 := (hb.cell (World.block_lt_of_cell? w _ hc1)).trans hc1) | (go_at_call 38; refine (l1In_ct _ _ _ true (by simp; omega) _).mono ?_; rintro e w3 ⟨rfl, rfl⟩) | (go_at_call 39; refine (l3AllNames_ct _ m false ha _ (H2.out.below hb)).mono ?_; rintro e w4 ⟨rfl, rfl⟩))
      go_ret
      exact ⟨by rw [HN.out]; rfl, hb⟩
    | true =>
      have HN : Hid (r = true) := by show _ = _; rw [← HR.out, HE.out, decide_eq_true HP.out, ha]; rfl
      go_enter Tryd.func21, Tryd.ntmps21
      go_wp2_with (first | (go_at_call 37; refine (l2Sig_ct _ sig true _ H1.out hsg).mono ?_; rintro e w2 ⟨rfl, hb⟩; have g1 := (hb.cell (World.block_lt_of_cell? w _ hc1)).trans hc1) | (go_at_call 38; refine (l1In_ct _ _ _ true (by simp; omega) _).mono ?_; rintro e w3 ⟨rfl, rfl⟩) | (go_at_call 39; refine (l3AllNames_ct _ m true ha _ (H2.out.below hb)).mono ?_; rintro e w4 ⟨rfl, rfl⟩))
      go_ret
      exact ⟨by rw [HN.out]; rfl, hb⟩
theorem ion_own {B g : Nat} {W : World} {c : Int} {m : List ByteArray} {a1 a2 a3 a4 : Option Addr} {c1 c2 c3 c4 : Nat} {bs : List Nat} {t : TypeId} (p : BigOwn B W (.agg #[.int .i64 (atomBig c m).roots, .slice a1 (atomBig c m).nodes.length c1, .slice a2 (atomBig c m).sites.length c2, .int .i64 (atomBig c m).edges, .slice a3 (atomBig c m).outer.length c3, .slice a4 (atomBig c m).inner.length c4]) (atomBig c m) bs) (hnd : bs.Nodup) (hlt : ∀ q ∈ bs, q < g) (hB : B ≤ g) (hb : Box W g #[.int .i64 0] t) :
    ∃ bs', BigOwn B W (.agg #[.int .i64 (atomBig c m).roots, .slice a1 (atomBig c m).nodes.length c1, .slice (some ⟨g, 0, none⟩) 1 1, .int .i64 (atomBig c m).edges, .slice a3 (atomBig c m).outer.length c3, .slice a4 (atomBig c m).inner.length c4]) (ionBig c m) bs' ∧ bs'.Nodup ∧ ∀ q ∈ bs', q ∈ bs ∨ q = g := by
  obtain ⟨vn, vs, vo, vi, bn, e, h1, h2, h3, h4, h5, h6, rfl⟩ := p
  simp only [Value.agg.injEq, Array.mk.injEq, List.cons.injEq, and_true, true_and] at e
  obtain ⟨rfl, rfl, rfl, rfl⟩ := e
  have e2 : blks (.slice a2 (atomBig c m).sites.length c2) = [] := by show blks (.slice a2 0 c2) = []; cases a2 <;> rfl
  have e1 : blks (.slice (some ⟨g, 0, none⟩) 1 1) = [g] := rfl
  rw [e2, List.nil_append] at hnd hlt ⊢
  have hrow : IntsOwn B W (.slice (some ⟨g, 0, none⟩) 1 1) [0] := ⟨row_of_box (row := [.int .i64 0]) hb hB, by simp, fun x hx => by rw [List.mem_singleton.1 hx]; unfold I64; omega⟩
  refine ⟨_, ⟨_, _, _, _, bn, rfl, h1, hrow, h3, h4, h5, h6, rfl⟩, ?_, ?_⟩
  · rw [e1]
    rw [List.nodup_append] at hnd ⊢
    refine ⟨hnd.1, List.nodup_cons.2 ⟨fun hg => ?_, hnd.2.1⟩, fun p hp q hq => ?_⟩
    · have := hlt g (List.mem_append_right _ hg); omega
    · rcases List.mem_cons.1 hq with rfl | hq
      · have := hlt p (List.mem_append_left _ hp); omega
      · exact hnd.2.2 p hp q hq
  · intro q hq
    rw [e1] at hq
    rcases List.mem_append.1 hq with hq | hq
    · exact .inl (List.mem_append_left _ hq)
    · rcases List.mem_cons.1 hq with rfl | hq
      · exact .inr rfl
      · exact .inl (List.mem_append_right _ hq)

set_option maxRecDepth 100000 in
set_option maxHeartbeats 4000000 in
theorem l3Atom_ct (c : Int) (v : Value) (m : List ByteArray) (w : World) (h : StrsAt w v m) (h16 : m.length ≤ 16) (hc6 : 0 ≤ c ∧ c < 6) : Calls Tryd.prog 22 #[.int .i64 c, v] w fun e w' => ∃ u bs, e = .returned u ∧ BigOwn w.heap.size w' u (atomBig c m) bs ∧ bs.Nodup ∧ Below w.heap.size w w' := by
  have HSM : Hid (∀ s ∈ m, s.size ≤ 1073741824) := h.2
  obtain ⟨a', c', rfl, hlc', hl30', h3'⟩ := h.open
  have H3' : Hid _ := h3'
  have HB' : Hid (StrsAt w (.slice a' m.length c') m) := h
  clear h3' h
  go_enter Tryd.func22, Tryd.ntmps22
  go_wp2_with fail
  obtain ⟨W0, hW0⟩ : ∃ W, W = w.alloc (.cells #[.int .i64 0, .slice none 0 0, .slice none 0 0, .int .i64 0, .slice none 0 0, .slice none 0 0] 30) := ⟨_, rfl⟩
  rw [← hW0]
  have BA : Box W0 w.heap.size #[.int .i64 0, .slice none 0 0, .slice none 0 0, .int .i64 0, .slice none 0 0, .slice none 0 0] 30 := by rw [hW0]; exact Box.new _ _ _
  have hb : Below w.heap.size w W0 := by rw [hW0]; exact balloc _ _
  clear hW0
  refine (l2Sorted_ct _ m _ (HB'.out.below hb) h16).mono ?_
  rintro e w3 ⟨u, rfl, hu, bb⟩
  obtain ⟨ua, uc, rfl⟩ : ∃ a c, u = .slice a (sortU m).length c := by have := hu.shape; simpa [strRows] using this
  have hso : StrsOwn (w.heap.size + 1) w3 (.slice ua (sortU m).length uc) (sortU m) := ⟨hu.mono BA.lt, by have := sortU_len m; omega, fun s hs => HSM.out s ((sortU_mem m s).1 hs)⟩
  have BA := BA.below bb
  have hb := bthen hb bb
  clear bb hu
  have H4 : Hid (∀ p ∈ blks (.slice ua (sortU m).length uc), p < w3.heap.size) := fun p hp => (hso.lt p hp).2
  have hA3 : w.heap.size + 1 ≤ w3.heap.size := BA.lt
  go_wp2_with fail
  obtain ⟨W1, hW1⟩ : ∃ W, W = w3.alloc (.cells #[] 3) := ⟨_, rfl⟩
  rw [← hW1]
  have b : Below w3.heap.size w3 W1 := by rw [hW1]; exact balloc _ _
  have acc : Acc W1 w3.heap.size 3 1 (.slice (some ⟨w3.heap.size, 0, none⟩) 0 0) (lkRows m 0) := by rw [hW1]; exact Acc.lit0 _ _ _ _ (Nat.le_refl _)
  have BA := BA.below b
  have hb := bthen hb b
  have hso := hso.keep (keep_below b (fun p hp => (hso.lt p hp).2))
  have hs : w3.heap.size ≤ W1.heap.size := b.size
  obtain ⟨n0, hn0⟩ : ∃ n, n = w3.heap.size := ⟨_, rfl⟩
  rw [← hn0] at acc hs hA3 H4 ⊢
  clear b hW1 hn0
  go_loopw [6, 7] (fun o i W => ∃ k : Nat, k ≤ m.length ∧ i = .int .i64 k ∧ Below w.heap.size w W ∧ n0 ≤ W.heap.size ∧ Box W w.heap.size #[.int .i64 0, .slice none 0 0, .slice none 0 0, .int .i64 0, .slice none 0 0, .slice none 0 0] 30 ∧ StrsOwn (w.heap.size + 1) W (.slice ua (sortU m).length uc) (sortU m) ∧ Acc W n0 3 1 o (lkRows m k)) (fun _ i _ => m.length - (intOf i).toNat)
  case atStart => exact ⟨0, Nat.zero_le _, rfl, hb, hs, BA, hso, acc⟩
  case round =>
    clear BA hb hs hso acc W1
    obtain ⟨k, hk, rfl, hb, hs, BA, hso, acc⟩ := hrel
    obtain ⟨av, cv, rfl⟩ := acc.shape
    have HL : Hid ((lkRows m k).length = k) := lkRows_len hk
    rw [HL.out] at acc ⊢
    by_cases hkl : k < m.length
    · obtain ⟨x, hx⟩ := getElem?_of_lt hkl
      have HT : Hid (lkRows m (k + 1) = lkRows m k ++ [[.int .i64 (Lib.idxOfS (sortU m) x)]]) := lkRows_snoc hx
      obtain ⟨_, b1, o1, rfl, hc0⟩ := H3'.out k x hx
      have g1 := (hb.cell (World.block_lt_of_cell? w _ hc0)).trans hc0
      have hst := hso.at
      clear hx hc0
      go_wp2_with fail
      refine (l2At_ct _ (sortU m) x _ hst).mono ?_
      rintro e w4 ⟨rfl, rfl⟩
      clear g1 hst
      go_wp2_with (at_builtin; refine app1g _ _ rfl (.tmp 17) (.tmp 24) 27 rfl n0 3 1 8 (.int .i64 0) Tryd.underlying27 inf_int rfl (by decide) (by decide) _ (lkRows m k) (by rfl) acc [.int .i64 (Lib.idxOfS (sortU m) x)] _ rfl (by simp [Value.oneCell']) (by rfl) (by first | rfl | simp) (by rw [HL.out]; omega) hs ?_)
      intro g cc w2 acc2 hg
      rw [HL.out, ← HT.out] at acc2
      rw [HL.out]
      have hb2 := grown_below hb acc hg (by omega) (by omega)
      have hs2 := Nat.le_trans hs hg.size
      have BA2 := BA.keep (grown_block acc hg (by omega) BA.lt)
      have hso2 := hso.keep (fun p hp => grown_block acc hg (H4.out p hp) (hso.lt p hp).2)
      clear acc hg BA hb hs hso
      go_wp2_with fail
      go_roundw
      case rel => exact ⟨k + 1, by omega, by go_num, hb2, hs2, BA2, hso2, acc2⟩
      case measure => simp [intOf]; omega
    · have e : k = m.length := by omega
      subst e
      rw [lkRows_full] at acc
      have ball := balloc wr (.cells #[.int .i64 c, .int .i64 (-1), .slice av m.length cv] 62)
      obtain ⟨bs, hO, hnd, _⟩ := atom_own (B := w.heap.size + 1) (w := n0) (g := wr.heap.size) (W := wr.alloc (.cells #[.int .i64 c, .int .i64 (-1), .slice av m.length cv] 62)) hA3 hs hc6 (by omega) (hso.keep (keep_below ball (fun p hp => (hso.lt p hp).2))) H4.out (acc.below ball).own (fun p hp => (acc.own.lt p hp).2) (Box.new _ _ _)
      have hln := hO.lt
      have BA1 := BA.below ball
      have hb1 := bthen hb ball
      have q0 := BA1.cell
      have f0 := BA1.free
      clear acc hso BA hb hs ball
      go_wp2_with fail
      refine bodyPost_ret (v := .agg #[.int .i64 1, .slice (some ⟨wr.heap.size, 0, none⟩) 1 1, .slice none 0 0, .int .i64 0, .slice ua (sortU m).length uc, .slice none 0 0]) (by simp [results, Tryd.results22, go_sem, q0]) rfl ⟨_, bs, rfl, (hO.keep ?_).mono (by omega), hnd, ?_⟩
      · intro g hg; have := hln g hg; repeat rw [heap_setCell_other _ _ _ _ (by simp <;> omega)]
      · iterate 6 refine Below.setCell ?_ (by simp) _
        exact hb1

set_option maxRecDepth 100000 in
set_option maxHeartbeats 4000000 in
theorem specAtomOf_ct (vs v : Value) (sig : List Ctl) (c : Int) (m : List ByteArray) (w : World) (h1 : CtlsAt w vs sig) (h : StrsAt w v m) : Calls Tryd.prog 7 #[vs, .int .i64 c, v] w (GivesBig (atomP sig c m) (atomB sig c m) w) := by
  obtain ⟨a, cc, rfl, _, hl30, h3⟩ := h1.open
  have H1 : Hid (CtlsAt w (.slice a sig.length cc) sig) := h1
  have H3 : Hid _ := h3
  clear h1 h3
  have HSM : Hid (∀ s ∈ m, s.size ≤ 1073741824) := h.2
  obtain ⟨a', c', rfl, hlc', hl30', h3'⟩ := h.open
  have H3' : Hid _ := h3'
  have HB' : Hid (StrsAt w (.slice a' m.length c') m) := h
  clear h3' h
  cases hg : atomB sig c m with
  | false =>
    have HP : Hid (atomP sig c m = noBig) := by show _ = _; unfold atomP; rw [hg]; rfl
    rw [HP.out]
    go_enter Tryd.func7, Tryd.ntmps7
    go_wp2_with fail
    obtain ⟨W0, hW0⟩ : ∃ W, W = w.alloc (.cells #[.int .i64 0, .slice none 0 0, .slice none 0 0, .int .i64 0, .slice none 0 0, .slice none 0 0] 30) := ⟨_, rfl⟩
    rw [← hW0]
    have BA : Box W0 w.heap.size #[.int .i64 0, .slice none 0 0, .slice none 0 0, .int .i64 0, .slice none 0 0, .slice none 0 0] 30 := by rw [hW0]; exact Box.new _ _ _
    have hb : Below w.heap.size w W0 := by rw [hW0]; exact balloc _ _
    clear hW0
    refine (l3Ion_ct _ _ sig c m false _ (H1.out.below hb) (HB'.out.below hb) hg).mono ?_
    rintro e w2 ⟨rfl, bb⟩
    have BA := BA.below bb
    have hb := bthen hb bb
    clear bb
    have q := BA.cell
    have f := BA.free
    go_wp2_with fail
    refine bodyPost_ret (v := .tuple #[.agg #[.int .i64 0, .slice none 0 0, .slice none 0 0, .int .i64 0, .slice none 0 0, .slice none 0 0], .bool false]) (by simp [results, Tryd.results7, go_sem, q]) rfl ⟨_, _, rfl, noBig_own _ _, by simp, ?_⟩
    iterate 6 refine Below.setCell ?_ (by simp) _
    exact hb
  | true =>
    have HP : Hid (atomP sig c m = atomBig c m) := by show _ = _; unfold atomP; rw [hg]; rfl
    rw [HP.out]
    have hab := atomB_c hg
    have h16 : m.length ≤ 16 := by omega
    have hc6 : 0 ≤ c ∧ c < 6 := by omega
    go_enter Tryd.func7, Tryd.ntmps7
    go_wp2_with fail
    obtain ⟨W0, hW0⟩ : ∃ W, W = w.alloc (.cells #[.int .i64 0, .slice none 0 0, .slice none 0 0, .int .i64 0, .slice none 0 0, .slice none 0 0] 30) := ⟨_, rfl⟩
    rw [← hW0]
    have BA : Box W0 w.heap.size #[.int .i64 0, .slice none 0 0, .slice none 0 0, .int .i64 0, .slice none 0 0, .slice none 0 0] 30 := by rw [hW0]; exact Box.new _ _ _
    have hb : Below w.heap.size w W0 := by rw [hW0]; exact balloc _ _
    clear hW0
    refine (l3Ion_ct _ _ sig c m true _ (H1.out.below hb) (HB'.out.below hb) hg).mono ?_
    rintro e w2 ⟨rfl, bb⟩
    have BA := BA.below bb
    have hb := bthen hb bb
    clear bb
    go_wp2_with fail
    refine (l3Atom_ct c _ m _ (HB'.out.below hb) h16 hc6).mono ?_
    rintro e w4 ⟨u, bs, rfl, p, nd, b3⟩
    obtain ⟨a1, c1, a2, c2, a3, c3, a4, c4, rfl⟩ := p.at.shape
    have hln := p.lt
    have hlt := BA.lt
    have BA := BA.below b3
    have hb := bthen hb b3
    have q := BA.cell
    have f := BA.free
    clear b3
    go_wp2_with fail
    refine bodyPost_ret (v := .tuple #[.agg #[.int .i64 (atomBig c m).roots, .slice a1 (atomBig c m).nodes.length c1, .slice a2 (atomBig c m).sites.length c2, .int .i64 (atomBig c m).edges, .slice a3 (atomBig c m).outer.length c3, .slice a4 (atomBig c m).inner.length c4], .bool true]) (by simp [results, Tryd.results7, go_sem, q]) rfl ⟨_, bs, rfl, (p.keep ?_).mono (by omega), nd, ?_⟩
    · intro g hg; have := hln g hg; repeat rw [heap_setCell_other _ _ _ _ (by simp <;> omega)]
    · iterate 6 refine Below.setCell ?_ (by simp) _
      exact hb

set_option maxRecDepth 100000 in
set_option maxHeartbeats 4000000 in
theorem specIonOf_ct (vs v : Value) (sig : List Ctl) (c : Int) (m : List ByteArray) (w : World) (h1 : CtlsAt w vs sig) (h : StrsAt w v m) : Calls Tryd.prog 18 #[vs, .int .i64 c, v] w (GivesBig (ionP sig c m) (ionB sig c m) w) := by
  obtain ⟨a, cc, rfl, _, hl30, h3⟩ := h1.open
  have H1 : Hid (CtlsAt w (.slice a sig.length cc) sig) := h1
  have H3 : Hid _ := h3
  clear h1 h3
  have HSM : Hid (∀ s ∈ m, s.size ≤ 1073741824) := h.2
  obtain ⟨a', c', rfl, hlc', hl30', h3'⟩ := h.open
  have H3' : Hid _ := h3'
  have HB' : Hid (StrsAt w (.slice a' m.length c') m) := h
  clear h3' h
  cases hg : atomB sig c m with
  | false =>
    have HB : Hid (ionB sig c m = false) := by show _ = _; unfold ionB; rw [hg]; rfl
    have HP : Hid (ionP sig c m = noBig) := by show _ = _; unfold ionP; rw [HB.out]; rfl
    rw [HP.out, HB.out]
    go_enter Tryd.func18, Tryd.ntmps18
    go_wp2_with fail
    obtain ⟨W0, hW0⟩ : ∃ W, W = w.alloc (.cells #[.int .i64 0, .slice none 0 0, .slice none 0 0, .int .i64 0, .slice none 0 0, .slice none 0 0] 30) := ⟨_, rfl⟩
    rw [← hW0]
    have BA : Box W0 w.heap.size #[.int .i64 0, .slice none 0 0, .slice none 0 0, .int .i64 0, .slice none 0 0, .slice none 0 0] 30 := by rw [hW0]; exact Box.new _ _ _
    have hb : Below w.heap.size w W0 := by rw [hW0]; exact balloc _ _
    clear hW0
    refine (l3Ion_ct _ _ sig c m false _ (H1.out.below hb) (HB'.out.below hb) hg).mono ?_
    rintro e w2 ⟨rfl, bb⟩
    have BA := BA.below bb
    have hb := bthen hb bb
    clear bb
    have q := BA.cell
    have f := BA.free
    go_wp2_with fail
    refine bodyPost_ret (v := .tuple #[.agg #[.int .i64 0, .slice none 0 0, .slice none 0 0, .int .i64 0, .slice none 0 0, .slice none 0 0], .bool false]) (by simp [results, Tryd.results18, go_sem, q]) rfl ⟨_, _, rfl, noBig_own _ _, by simp, ?_⟩
    iterate 6 refine Below.setCell ?_ (by simp) _
    exact hb
  | true =>
    have hab := atomB_c hg
    have h16 : m.length ≤ 16 := by omega
    have hc6 : 0 ≤ c ∧ c < 6 := by omega
    have hcl := hab.2.2.2
    obtain ⟨k, rfl⟩ : ∃ k : Nat, c = k := ⟨c.toNat, by omega⟩
    obtain ⟨x, hx⟩ := getElem?_of_lt (show k < sig.length by omega)
    have hk : k < sig.length := by omega
    obtain ⟨_, _, hkI, b1, o1, rfl, _, _, hc2⟩ := H3.out k x hx
    have hct : ctlAt sig k = x := by unfold ctlAt; rw [Int.toNat_natCast, hx]; rfl
    have HE : Hid (ionB sig k m = !decide (x.kind = 2)) := by show _ = _; unfold ionB; rw [hg, hct]; rfl
    clear hct hx
    by_cases hk2 : x.kind = 2
    · have HB : Hid (ionB sig k m = false) := by show _ = _; rw [HE.out, decide_eq_true hk2]; rfl
      have HP : Hid (ionP sig k m = noBig) := by show _ = _; unfold ionP; rw [HB.out]; rfl
      have hq : (x.kind == 2) = true := by simpa using hk2
      rw [HP.out, HB.out]
      clear hk2
      go_enter Tryd.func18, Tryd.ntmps18
      go_wp2_with fail
      obtain ⟨W0, hW0⟩ : ∃ W, W = w.alloc (.cells #[.int .i64 0, .slice none 0 0, .slice none 0 0, .int .i64 0, .slice none 0 0, .slice none 0 0] 30) := ⟨_, rfl⟩
      rw [← hW0]
      have BA : Box W0 w.heap.size #[.int .i64 0, .slice none 0 0, .slice none 0 0, .int .i64 0, .slice none 0 0, .slice none 0 0] 30 := by rw [hW0]; exact Box.new _ _ _
      have hb : Below w.heap.size w W0 := by rw [hW0]; exact balloc _ _
      clear hW0
      refine (l3Ion_ct _ _ sig k m true _ (H1.out.below hb) (HB'.out.below hb) hg).mono ?_
      rintro e w2 ⟨rfl, bb⟩
      have BA := BA.below bb
      have hb := bthen hb bb
      clear bb
      have g2 := (hb.cell (World.block_lt_of_cell? w _ hc2)).trans hc2
      have q := BA.cell
      have f := BA.free
      go_wp2_with fail
      refine bodyPost_ret (v := .tuple #[.agg #[.int .i64 0, .slice none 0 0, .slice none 0 0, .int .i64 0, .slice none 0 0, .slice none 0 0], .bool false]) (by simp [results, Tryd.results18, go_sem, q]) rfl ⟨_, _, rfl, noBig_own _ _, by simp, ?_⟩
      iterate 6 refine Below.setCell ?_ (by simp) _
      exact hb
    · have HB : Hid (ionB sig k m = true) := by show _ = _; rw [HE.out, decide_eq_false hk2]; rfl
      have HP : Hid (ionP sig k m = ionBig k m) := by show _ = _; unfold ionP; rw [HB.out]; rfl
      have hq : (x.kind == 2) = false := by simpa using hk2
      rw [HP.out, HB.out]
      clear hk2
      go_enter Tryd.func18, Tryd.ntmps18
      go_wp2_with fail
      obtain ⟨W0, hW0⟩ : ∃ W, W = w.alloc (.cells #[.int .i64 0, .slice none 0 0, .slice none 0 0, .int .i64 0, .slice none 0 0, .slice none 0 0] 30) := ⟨_, rfl⟩
      rw [← hW0]
      have BA : Box W0 w.heap.size #[.int .i64 0, .slice none 0 0, .slice none 0 0, .int .i64 0, .slice none 0 0, .slice none 0 0] 30 := by rw [hW0]; exact Box.new _ _ _
      have hb : Below w.heap.size w W0 := by rw [hW0]; exact balloc _ _
      clear hW0
      refine (l3Ion_ct _ _ sig k m true _ (H1.out.below hb) (HB'.out.below hb) hg).mono ?_
      rintro e w2 ⟨rfl, bb⟩
      have BA := BA.below bb
      have hb := bthen hb bb
      clear bb
      have g2 := (hb.cell (World.block_lt_of_cell? w _ hc2)).trans hc2
      go_wp2_with fail
      clear g2
      refine (l3Atom_ct k _ m _ (HB'.out.below hb) h16 hc6).mono ?_
      rintro e w4 ⟨u, bs, rfl, p, nd, b3⟩
      obtain ⟨a1, c1, a2, c2, a3, c3, a4, c4, rfl⟩ := p.at.shape
      have hln := p.lt
      have hlt := BA.lt
      have BA := BA.below b3
      have hb := bthen hb b3
      have hz3 := b3.size
      have ball := balloc w4 (.cells #[.int .i64 (atomBig (k : Int) m).roots, .slice a1 (atomBig (k : Int) m).nodes.length c1, .slice (some ⟨(w4.heap.size + 1), 0, none⟩) 1 1, .int .i64 (atomBig (k : Int) m).edges, .slice a3 (atomBig (k : Int) m).outer.length c3, .slice a4 (atomBig (k : Int) m).inner.length c4] 30)
      have b5 := bthen ball (balloc (w4.alloc (.cells #[.int .i64 (atomBig (k : Int) m).roots, .slice a1 (atomBig (k : Int) m).nodes.length c1, .slice (some ⟨(w4.heap.size + 1), 0, none⟩) 1 1, .int .i64 (atomBig (k : Int) m).edges, .slice a3 (atomBig (k : Int) m).outer.length c3, .slice a4 (atomBig (k : Int) m).inner.length c4] 30)) (.cells #[.int .i64 0] 3))
      have BA1 := BA.below b5
      obtain ⟨bs', hO, hnd, hmem⟩ := ion_own (g := w4.heap.size + 1) (p.keep (keep_below b5 (fun q hq => (hln q hq).2))) nd (fun q hq => by have := (hln q hq).2; omega) (by omega) (Box.new' (w4.alloc (.cells #[.int .i64 (atomBig (k : Int) m).roots, .slice a1 (atomBig (k : Int) m).nodes.length c1, .slice (some ⟨(w4.heap.size + 1), 0, none⟩) 1 1, .int .i64 (atomBig (k : Int) m).edges, .slice a3 (atomBig (k : Int) m).outer.length c3, .slice a4 (atomBig (k : Int) m).inner.length c4] 30)) #[.int .i64 0] 3 (by simp))
      have hpl : ∀ q ∈ bs', w.heap.size < q := fun q hq => by
        rcases hmem q hq with h | h
        · have := hln q h; omega
        · subst h; omega
      have q4 := BA.cell
      have f4 := BA.free
      have qA := BA1.cell
      have qAf := BA1.free
      have hb1 := bthen hb b5
      clear hmem p ball
      go_wp2_with fail
      refine bodyPost_ret (v := .tuple #[.agg #[.int .i64 (atomBig (k : Int) m).roots, .slice a1 (atomBig (k : Int) m).nodes.length c1, .slice (some ⟨(w4.heap.size + 1), 0, none⟩) 1 1, .int .i64 (atomBig (k : Int) m).edges, .slice a3 (atomBig (k : Int) m).outer.length c3, .slice a4 (atomBig (k : Int) m).inner.length c4], .bool true]) (by simp [results, Tryd.results18, go_sem, qA]) rfl ⟨_, bs', rfl, (hO.keep ?_).mono (by omega), hnd, ?_⟩
      · intro g hg; have := hpl g hg; repeat rw [heap_setCell_other _ _ _ _ (by simp <;> omega)]
      · iterate 6 refine Below.setCell ?_ (by simp) _
        exact hb1

set_option maxRecDepth 100000 in
set_option maxHeartbeats 8000000 in
theorem single_ct (vs v : Value) (sig : List Ctl) (c : Int) (m : List ByteArray) (w : World) (h1 : CtlsAt w vs sig) (h : StrsAt w v m) : Calls Tryd.prog 24 #[vs, .int .i64 c, v] w (GivesBig (atomP sig c m) (atomB sig c m) w) := by
  obtain ⟨a, cc, rfl, _, hl30, h3⟩ := h1.open
  have H1 : Hid (CtlsAt w (.slice a sig.length cc) sig) := h1
  have H3 : Hid _ := h3
  clear h1 h3
  have HSM : Hid (∀ s ∈ m, s.size ≤ 1073741824) := h.2
  obtain ⟨a', c', rfl, hlc', hl30', h3'⟩ := h.open
  have H3' : Hid _ := h3'
  have HB' : Hid (StrsAt w (.slice a' m.length c') m) := h
  clear h3' h
  cases hsg : sigB sig with
  | false =>
    have HB : Hid (atomB sig c m = false) := by show _ = _; unfold atomB; rw [hsg]; rfl
    have HP : Hid (atomP sig c m = noBig) := by show _ = _; unfold atomP; rw [HB.out]; rfl
    rw [HP.out, HB.out]
    go_enter Tryd.func24, Tryd.ntmps24
    go_wp2_with fail
    obtain ⟨W0, hW0⟩ : ∃ W, W = w.alloc (.cells #[.int .i64 0, .slice none 0 0, .slice none 0 0, .int .i64 0, .slice none 0 0, .slice none 0 0] 30) := ⟨_, rfl⟩
    rw [← hW0]
    have BA : Box W0 w.heap.size #[.int .i64 0, .slice none 0 0, .slice none 0 0, .int .i64 0, .slice none 0 0, .slice none 0 0] 30 := by rw [hW0]; exact Box.new _ _ _
    have hb : Below w.heap.size w W0 := by rw [hW0]; exact balloc _ _
    clear hW0
    refine (implIsSignature_ct _ sig false _ (H1.out.below hb) hsg).mono ?_
    rintro e w2 ⟨rfl, bb⟩
    have BA := BA.below bb
    have hb := bthen hb bb
    clear bb
    have q := BA.cell
    have f := BA.free
    go_wp2_with fail
    refine bodyPost_ret (v := .tuple #[.agg #[.int .i64 0, .slice none 0 0, .slice none 0 0, .int .i64 0, .slice none 0 0, .slice none 0 0], .bool false]) (by simp [results, Tryd.results24, go_sem, q]) rfl ⟨_, _, rfl, noBig_own _ _, by simp, ?_⟩
    iterate 6 refine Below.setCell ?_ (by simp) _
    exact hb
  | true =>
    by_cases hc : 0 ≤ c ∧ c ≤ (sig.length : Int) - 1
    case neg =>
      have HB : Hid (atomB sig c m = false) := by show _ = _; unfold atomB; rw [hsg, decide_eq_false hc]; rfl
      have HP : Hid (atomP sig c m = noBig) := by show _ = _; unfold atomP; rw [HB.out]; rfl
      rw [HP.out, HB.out]
      go_enter Tryd.func24, Tryd.ntmps24
      go_wp2_with fail
      obtain ⟨W0, hW0⟩ : ∃ W, W = w.alloc (.cells #[.int .i64 0, .slice none 0 0, .slice none 0 0, .int .i64 0, .slice none 0 0, .slice none 0 0] 30) := ⟨_, rfl⟩
      rw [← hW0]
      have BA : Box W0 w.heap.size #[.int .i64 0, .slice none 0 0, .slice none 0 0, .int .i64 0, .slice none 0 0, .slice none 0 0] 30 := by rw [hW0]; exact Box.new _ _ _
      have hb : Below w.heap.size w W0 := by rw [hW0]; exact balloc _ _
      clear hW0
      refine (implIsSignature_ct _ sig true _ (H1.out.below hb) hsg).mono ?_
      rintro e w2 ⟨rfl, bb⟩
      have BA := BA.below bb
      have hb := bthen hb bb
      clear bb
      go_wp2_with fail
      refine (within_ct _ _ _ false (by simp; omega) _).mono ?_
      rintro e w3 ⟨rfl, rfl⟩
      have q := BA.cell
      have f := BA.free
      go_wp2_with fail
      refine bodyPost_ret (v := .tuple #[.agg #[.int .i64 0, .slice none 0 0, .slice none 0 0, .int .i64 0, .slice none 0 0, .slice none 0 0], .bool false]) (by simp [results, Tryd.results24, go_sem, q]) rfl ⟨_, _, rfl, noBig_own _ _, by simp, ?_⟩
      iterate 6 refine Below.setCell ?_ (by simp) _
      exact hb
    have hs6 := (sig_small hsg).1
    have hsm := (sig_small hsg).2
    obtain ⟨k, rfl⟩ : ∃ k : Nat, c = k := ⟨c.toNat, by omega⟩
    obtain ⟨x, hx⟩ := getElem?_of_lt (show k < sig.length by omega)
    have hk : k < sig.length := by omega
    have hc6 : 0 ≤ (k : Int) ∧ (k : Int) < 6 := by omega
    have hpb := hsm k x hx
    obtain ⟨_, hpI, _, b1, o1, rfl, _, hc1, _⟩ := H3.out k x hx
    have hct : ctlAt sig k = x := by unfold ctlAt; rw [Int.toNat_natCast, hx]; rfl
    have HE : Hid (atomB sig k m = (decide ((m.length : Int) = x.ports) && m.all nameB)) := by show _ = _; unfold atomB; rw [hsg, decide_eq_true hc, hct]; rfl
    clear hct hx hsm
    by_cases hp : (m.length : Int) = x.ports
    case neg =>
      have HB : Hid (atomB sig k m = false) := by show _ = _; rw [HE.out, decide_eq_false hp]; rfl
      have HP : Hid (atomP sig k m = noBig) := by show _ = _; unfold atomP; rw [HB.out]; rfl
      rw [HP.out, HB.out]
      have hq : ((m.length : Int) != x.ports) = true := by simpa using hp
      go_enter Tryd.func24, Tryd.ntmps24
      go_wp2_with fail
      obtain ⟨W0, hW0⟩ : ∃ W, W = w.alloc (.cells #[.int .i64 0, .slice none 0 0, .slice none 0 0, .int .i64 0, .slice none 0 0, .slice none 0 0] 30) := ⟨_, rfl⟩
      rw [← hW0]
      have BA : Box W0 w.heap.size #[.int .i64 0, .slice none 0 0, .slice none 0 0, .int .i64 0, .slice none 0 0, .slice none 0 0] 30 := by rw [hW0]; exact Box.new _ _ _
      have hb : Below w.heap.size w W0 := by rw [hW0]; exact balloc _ _
      clear hW0
      refine (implIsSignature_ct _ sig true _ (H1.out.below hb) hsg).mono ?_
      rintro e w2 ⟨rfl, bb⟩
      have BA := BA.below bb
      have hb := bthen hb bb
      clear bb
      have g1 := (hb.cell (World.block_lt_of_cell? w _ hc1)).trans hc1
      go_wp2_with fail
      refine (within_ct _ _ _ true (by simp; omega) _).mono ?_
      rintro e w3 ⟨rfl, rfl⟩
      have q := BA.cell
      have f := BA.free
      go_wp2_with fail
      refine bodyPost_ret (v := .tuple #[.agg #[.int .i64 0, .slice none 0 0, .slice none 0 0, .int .i64 0, .slice none 0 0, .slice none 0 0], .bool false]) (by simp [results, Tryd.results24, go_sem, q]) rfl ⟨_, _, rfl, noBig_own _ _, by simp, ?_⟩
      iterate 6 refine Below.setCell ?_ (by simp) _
      exact hb
    have hq : ((m.length : Int) != x.ports) = false := by simpa using hp
    have h16 : m.length ≤ 16 := by omega
    have HPP := Lib.hid hp
    clear hp
    cases ha : m.all nameB with
    | false =>
      have HB : Hid (atomB sig k m = false) := by show _ = _; rw [HE.out, decide_eq_true HPP.out, ha]; rfl
      have HP : Hid (atomP sig k m = noBig) := by show _ = _; unfold atomP; rw [HB.out]; rfl
      rw [HP.out, HB.out]
      go_enter Tryd.func24, Tryd.ntmps24
      go_wp2_with fail
      obtain ⟨W0, hW0⟩ : ∃ W, W = w.alloc (.cells #[.int .i64 0, .slice none 0 0, .slice none 0 0, .int .i64 0, .slice none 0 0, .slice none 0 0] 30) := ⟨_, rfl⟩
      rw [← hW0]
      have BA : Box W0 w.heap.size #[.int .i64 0, .slice none 0 0, .slice none 0 0, .int .i64 0, .slice none 0 0, .slice none 0 0] 30 := by rw [hW0]; exact Box.new _ _ _
      have hb : Below w.heap.size w W0 := by rw [hW0]; exact balloc _ _
      clear hW0
      refine (implIsSignature_ct _ sig true _ (H1.out.below hb) hsg).mono ?_
      rintro e w2 ⟨rfl, bb⟩
      have BA := BA.below bb
      have hb := bthen hb bb
      clear bb
      have g1 := (hb.cell (World.block_lt_of_cell? w _ hc1)).trans hc1
      go_wp2_with fail
      refine (within_ct _ _ _ true (by simp; omega) _).mono ?_
      rintro e w3 ⟨rfl, rfl⟩
      go_wp2_with fail
      refine (contStr_ct 45 #[] (by intros; rfl) (fun x => !nameB x) _ m true _ (HB'.out.below hb) (fun x hx W hW => singCl_ct x (HSM.out x hx) W) (by rw [any_not, ha]; rfl)).mono ?_
      rintro e w4 ⟨rfl, bb⟩
      have BA := BA.below bb
      have hb := bthen hb bb
      clear bb
      clear g1
      have q := BA.cell
      have f := BA.free
      go_wp2_with fail
      refine bodyPost_ret (v := .tuple #[.agg #[.int .i64 0, .slice none 0 0, .slice none 0 0, .int .i64 0, .slice none 0 0, .slice none 0 0], .bool false]) (by simp [results, Tryd.results24, go_sem, q]) rfl ⟨_, _, rfl, noBig_own _ _, by simp, ?_⟩
      iterate 6 refine Below.setCell ?_ (by simp) _
      exact hb
    | true =>
      have HB : Hid (atomB sig k m = true) := by show _ = _; rw [HE.out, decide_eq_true HPP.out, ha]; rfl
      have HP : Hid (atomP sig k m = atomBig k m) := by show _ = _; unfold atomP; rw [HB.out]; rfl
      rw [HP.out, HB.out]
      go_enter Tryd.func24, Tryd.ntmps24
      go_wp2_with fail
      obtain ⟨W0, hW0⟩ : ∃ W, W = w.alloc (.cells #[.int .i64 0, .slice none 0 0, .slice none 0 0, .int .i64 0, .slice none 0 0, .slice none 0 0] 30) := ⟨_, rfl⟩
      rw [← hW0]
      have BA : Box W0 w.heap.size #[.int .i64 0, .slice none 0 0, .slice none 0 0, .int .i64 0, .slice none 0 0, .slice none 0 0] 30 := by rw [hW0]; exact Box.new _ _ _
      have hb : Below w.heap.size w W0 := by rw [hW0]; exact balloc _ _
      clear hW0
      refine (implIsSignature_ct _ sig true _ (H1.out.below hb) hsg).mono ?_
      rintro e w2 ⟨rfl, bb⟩
      have BA := BA.below bb
      have hb := bthen hb bb
      clear bb
      have g1 := (hb.cell (World.block_lt_of_cell? w _ hc1)).trans hc1
      go_wp2_with fail
      refine (within_ct _ _ _ true (by simp; omega) _).mono ?_
      rintro e w3 ⟨rfl, rfl⟩
      go_wp2_with fail
      refine (contStr_ct 45 #[] (by intros; rfl) (fun x => !nameB x) _ m false _ (HB'.out.below hb) (fun x hx W hW => singCl_ct x (HSM.out x hx) W) (by rw [any_not, ha]; rfl)).mono ?_
      rintro e w4 ⟨rfl, bb⟩
      have BA := BA.below bb
      have hb := bthen hb bb
      clear bb
      clear g1 hq ha hsg
      go_wp2_with fail
      refine (sortedNames_ct _ m _ (HB'.out.below hb) h16).mono ?_
      rintro e w3 ⟨u, rfl, hu, bb⟩
      obtain ⟨ua, uc, rfl⟩ : ∃ a c, u = .slice a (sortU m).length c := by have := hu.shape; simpa [strRows] using this
      have hso : StrsOwn (w.heap.size + 1) w3 (.slice ua (sortU m).length uc) (sortU m) := ⟨hu.mono BA.lt, by have := sortU_len m; omega, fun s hs => HSM.out s ((sortU_mem m s).1 hs)⟩
      have BA := BA.below bb
      have hb := bthen hb bb
      clear bb hu
      have H4 : Hid (∀ p ∈ blks (.slice ua (sortU m).length uc), p < w3.heap.size) := fun p hp => (hso.lt p hp).2
      have hA3 : w.heap.size + 1 ≤ w3.heap.size := BA.lt
      go_wp2_with fail
      obtain ⟨W1, hW1⟩ : ∃ W, W = (w3.alloc (.cells #[.int .i64 1, .slice none 0 0, .slice none 0 0, .int .i64 0, .slice ua (sortU m).length uc, .slice none 0 0] 30)).alloc (.cells #[.int .i64 k, .int .i64 (-1), .slice none 0 0] 62) := ⟨_, rfl⟩
      rw [← hW1]
      have BC : Box W1 w3.heap.size #[.int .i64 1, .slice none 0 0, .slice none 0 0, .int .i64 0, .slice ua (sortU m).length uc, .slice none 0 0] 30 := by rw [hW1]; exact (Box.new _ _ _).alloc _
      have BN : Box W1 (w3.heap.size + 1) #[.int .i64 k, .int .i64 (-1), .slice none 0 0] 62 := by rw [hW1]; exact Box.new' _ _ _ (by simp)
      have b : Below w3.heap.size w3 W1 := by rw [hW1]; exact bthen (balloc _ _) (balloc _ _)
      have BA := BA.below b
      have hb := bthen hb b
      have hso := hso.keep (keep_below b (fun p hp => (hso.lt p hp).2))
      have hs : w3.heap.size + 2 ≤ W1.heap.size := by rw [hW1]; simp
      obtain ⟨n0, hn0⟩ : ∃ n, n = w3.heap.size := ⟨_, rfl⟩
      rw [← hn0] at BC BN hs hA3 H4 ⊢
      clear b hW1 hn0
      go_loopw [45] (fun i W => ∃ j : Nat, j ≤ m.length ∧ i = .int .i64 j ∧ Below w.heap.size w W ∧ n0 + 2 ≤ W.heap.size ∧ Box W w.heap.size #[.int .i64 0, .slice none 0 0, .slice none 0 0, .int .i64 0, .slice none 0 0, .slice none 0 0] 30 ∧ Box W n0 #[.int .i64 1, .slice none 0 0, .slice none 0 0, .int .i64 0, .slice ua (sortU m).length uc, .slice none 0 0] 30 ∧ StrsOwn (w.heap.size + 1) W (.slice ua (sortU m).length uc) (sortU m) ∧ ∃ vs, Box W (n0 + 1) #[.int .i64 k, .int .i64 (-1), vs] 62 ∧ Acc W (n0 + 2) 3 1 vs (lkRows m j)) (fun i _ => m.length - (intOf i).toNat)
      case atStart => exact ⟨0, Nat.zero_le _, rfl, hb, hs, BA, BC, hso, _, BN, Acc.nil _ _ _ _⟩
      case round =>
        clear BA BC BN hb hs hso W1
        obtain ⟨j, hj, rfl, hb, hs, BA, BC, hso, vs, BN, acc⟩ := hrel
        obtain ⟨av, cv, rfl⟩ := acc.shape
        have HL : Hid ((lkRows m j).length = j) := lkRows_len hj
        rw [HL.out] at BN acc
        by_cases hjl : j < m.length
        · obtain ⟨yy, hy⟩ := getElem?_of_lt hjl
          have HT : Hid (lkRows m (j + 1) = lkRows m j ++ [[.int .i64 (Lib.idxOfS (sortU m) yy)]]) := lkRows_snoc hy
          obtain ⟨_, b2, o2, rfl, hd0⟩ := H3'.out j yy hy
          have g2 := (hb.cell (World.block_lt_of_cell? w _ hd0)).trans hd0
          have hst := hso.at
          clear hy hd0
          go_wp2_with fail
          have gC := fun z => gr_cell (w := wr) (BC.cell 4) z
          have gN := fun z => gr_cell (w := wr) (BN.cell 2) z
          clear g2
          refine rg_region [0, 1, 2, 3, 4, 5, 6] [7, 8, 9] (lo := (.cons _ (.cons _ (.cons _ .nil)))) (by rfl) (tAt 5 (eVal (.int .i64 (Lib.idxOfS (sortU m) yy))) (tAt 6 (eLit1 [.int .i64 (Lib.idxOfS (sortU m) yy)] 3) tNil)) (by kernel_rfl) (by rfl) (by kernel_rfl) ?_
          refine rg_quiet anti_end [0, 1, 2, 3, 4] [5, 6] (lo := (.cons _ (.cons _ (.cons _ (.cons _ (.cons _ .nil)))))) (by rfl) (by kernel_rfl) ?_
          repeat (go_big_quiet_step (fail))
          refine wpQuiet_nil ?_
          refine rg_call 5 rfl rfl 48 #[.slice ua (sortU m).length uc, .string yy] ?_ ?_ ?_
          · intro w; simp [go_sem]
          · rintro w' ⟨y, rfl⟩ hd
            refine (sIndex_ct _ (sortU m) yy _ (hst.below (gr_below _ _))).mono ?_
            rintro e w3 ⟨rfl, rfl⟩
            exact ⟨_, rfl, Below.refl _ _, rfl⟩
          intro v hv
          obtain rfl : v = .int .i64 (Lib.idxOfS (sortU m) yy) := hv
          simp only [Act.put, List.setIfInBounds_toArray, List.set_cons_zero, List.set_cons_succ]
          refine rg_made 6 rfl rfl ?_ ?_
          · rintro w' ⟨y, rfl⟩ hd
            exact ⟨_, _, by simp [go_sem]; try exact ⟨rfl, rfl⟩, balloc _ _, _, rfl, Box.new _ _ _, Nat.le_refl _, by simp⟩
          intro v hv
          obtain ⟨gl, rfl⟩ : ∃ g, v = .slice (some ⟨g, 0, none⟩) 1 1 := hv
          simp only [Act.put, List.setIfInBounds_toArray, List.set_cons_zero, List.set_cons_succ]
          intro w4 U hb3 hF
          obtain ⟨_, _, _, _, _, hF⟩ := hF
          obtain ⟨gl', e0, BL, _⟩ : ∃ g, Value.slice (some ⟨gl, 0, none⟩) 1 1 = .slice (some ⟨g, 0, none⟩) 1 1 ∧ Box w4 g #[.int .i64 (Lib.idxOfS (sortU m) yy)] 3 ∧ _ := hF
          obtain rfl : gl = gl' := by simpa using e0
          clear e0 gC gN hst
          have BA := BA.below hb3
          have BC := BC.below hb3
          have BN := BN.below hb3
          have acc := acc.below hb3
          have hso := hso.keep (keep_below hb3 (fun p hp => (hso.lt p hp).2))
          have hb := bthen hb hb3
          have hs := Nat.le_trans hs hb3.size
          go_wp2_with (at_builtin; refine appR _ rfl (.tmp 50) (.tmp 55) 27 rfl (n0 + 2) 3 1 8 1 (.int .i64 0) Tryd.underlying27 inf_int rfl (by decide) (by decide) _ (lkRows m j) (by rfl) acc _ [[.int .i64 (Lib.idxOfS (sortU m) yy)]] (by rfl) (rowAt_one (row := [.int .i64 (Lib.idxOfS (sortU m) yy)]) BL (by decide)) (by simp [Value.oneCell']) (by rw [HL.out]; simp; omega) hs ?_)
          intro v2 w5 acc2 hg _
          rw [← HT.out] at acc2
          obtain ⟨av2, cv2, rfl⟩ := acc2.shape
          rw [lkRows_len (by omega)] at acc2 ⊢
          have hb2 := grown_below hb acc hg (by omega) (by omega)
          have hs2 := Nat.le_trans hs hg.size
          have BA2 := BA.keep (grown_block acc hg (by omega) BA.lt)
          have BC2 := BC.keep (grown_block acc hg (by omega) BC.lt)
          have BN2 := BN.keep (grown_block acc hg (by omega) BN.lt)
          have hso2 := hso.keep (fun p hp => grown_block acc hg (by have := H4.out p hp; omega) (hso.lt p hp).2)
          clear acc hg BA BC BN hb hs BL hb3 hso
          have q := BN2.cell
          have f := BN2.free
          go_wp2_with fail
          go_roundw
          case rel => exact ⟨j + 1, by omega, by go_num, hb2.setCell (by simp <;> omega) _, by simpa [size_setCell] using hs2, BA2.other _ (by simp <;> omega), BC2.other _ (by simp <;> omega), hso2.keep (keep_setCell (fun h => by have := H4.out _ h; simp at this <;> omega)), _, BN2.set 2 _, acc2.keep (fun q hq _ => heap_setCell_other _ _ _ _ (by simp <;> omega))⟩
          case measure => simp [intOf]; omega
        · have e : j = m.length := by omega
          subst e
          rw [lkRows_full] at acc
          have ball := balloc wr (.cells #[.int .i64 k, .int .i64 (-1), .slice av m.length cv] 62)
          obtain ⟨bs, hO, hnd, hmem⟩ := atom_own (B := w.heap.size + 1) (w := n0 + 2) (g := wr.heap.size) (W := wr.alloc (.cells #[.int .i64 k, .int .i64 (-1), .slice av m.length cv] 62)) (by omega) hs hc6 (by omega) (hso.keep (keep_below ball (fun p hp => (hso.lt p hp).2))) (fun p hp => by have := H4.out p hp; omega) (acc.below ball).own (fun p hp => (acc.own.lt p hp).2) (Box.new _ _ _)
          have hln : ∀ q ∈ bs, w.heap.size < q ∧ q ≠ n0 := fun q hq => by
            have h1 := hO.lt q hq
            rcases hmem q hq with h | h
            · have := H4.out q h; omega
            · omega
          have BA1 := BA.below ball
          have BC1 := BC.below ball
          have BN1 := BN.below ball
          have q1 := BN.cell
          have q2 := BC1.cell
          have f2 := BC1.free
          have BA2 := BA1.other (p := ⟨n0, 1, none⟩) (.slice (some ⟨wr.heap.size, 0, none⟩) 1 1) (by show w.heap.size ≠ n0; omega)
          have BC2 := BC1.set 1 (.slice (some ⟨wr.heap.size, 0, none⟩) 1 1)
          have q3 := BA2.cell
          have f3 := BA2.free
          have q4 := BC2.cell
          have hb1 := bthen hb ball
          clear acc hso BA BC BN hb hmem ball
          go_wp2_with fail
          refine bodyPost_ret (v := .tuple #[.agg #[.int .i64 1, .slice (some ⟨wr.heap.size, 0, none⟩) 1 1, .slice none 0 0, .int .i64 0, .slice ua (sortU m).length uc, .slice none 0 0], .bool true]) (by simp [results, Tryd.results24, go_sem, q3]) rfl ⟨_, bs, rfl, (hO.keep ?_).mono (by omega), hnd, ?_⟩
          · intro g hg; have := hln g hg; repeat rw [heap_setCell_other _ _ _ _ (by simp <;> omega)]
          · iterate 6 refine Below.setCell ?_ (by simp) _
            refine Below.setCell ?_ (by simp <;> omega) _
            exact hb1

set_option maxRecDepth 100000 in
set_option maxHeartbeats 4000000 in
theorem implAtomOf_ct (vs v : Value) (sig : List Ctl) (c : Int) (m : List ByteArray) (w : World) (h1 : CtlsAt w vs sig) (h : StrsAt w v m) : Calls Tryd.prog 10 #[vs, .int .i64 c, v] w (GivesBig (atomP sig c m) (atomB sig c m) w) := by
  obtain ⟨a, cc, rfl, _, hl30, h3⟩ := h1.open
  have H1 : Hid (CtlsAt w (.slice a sig.length cc) sig) := h1
  have H3 : Hid _ := h3
  clear h1 h3
  have HSM : Hid (∀ s ∈ m, s.size ≤ 1073741824) := h.2
  obtain ⟨a', c', rfl, hlc', hl30', h3'⟩ := h.open
  have H3' : Hid _ := h3'
  have HB' : Hid (StrsAt w (.slice a' m.length c') m) := h
  clear h3' h
  go_enter Tryd.func10, Tryd.ntmps10
  go_wp2_with fail
  obtain ⟨W0, hW0⟩ : ∃ W, W = w.alloc (.cells #[.int .i64 0, .slice none 0 0, .slice none 0 0, .int .i64 0, .slice none 0 0, .slice none 0 0] 30) := ⟨_, rfl⟩
  rw [← hW0]
  have BA : Box W0 w.heap.size #[.int .i64 0, .slice none 0 0, .slice none 0 0, .int .i64 0, .slice none 0 0, .slice none 0 0] 30 := by rw [hW0]; exact Box.new _ _ _
  have hb : Below w.heap.size w W0 := by rw [hW0]; exact balloc _ _
  clear hW0
  refine (single_ct _ _ sig c m _ (H1.out.below hb) (HB'.out.below hb)).mono ?_
  rintro e w4 ⟨u, bs, rfl, p, nd, b3⟩
  obtain ⟨a1, c1, a2, c2, a3, c3, a4, c4, rfl⟩ := p.at.shape
  have hln := p.lt
  have hlt := BA.lt
  have BA := BA.below b3
  have hb := bthen hb b3
  have q := BA.cell
  have f := BA.free
  clear b3
  go_wp2_with fail
  refine bodyPost_ret (v := .tuple #[.agg #[.int .i64 (atomP sig c m).roots, .slice a1 (atomP sig c m).nodes.length c1, .slice a2 (atomP sig c m).sites.length c2, .int .i64 (atomP sig c m).edges, .slice a3 (atomP sig c m).outer.length c3, .slice a4 (atomP sig c m).inner.length c4], .bool (atomB sig c m)]) (by simp [results, Tryd.results10, go_sem, q]) rfl ⟨_, bs, rfl, (p.keep ?_).mono (by omega), nd, ?_⟩
  · intro g hg; have := hln g hg; repeat rw [heap_setCell_other _ _ _ _ (by simp <;> omega)]
  · iterate 6 refine Below.setCell ?_ (by simp) _
    exact hb

set_option maxRecDepth 100000 in
set_option maxHeartbeats 4000000 in
theorem implIonOf_ct (vs v : Value) (sig : List Ctl) (c : Int) (m : List ByteArray) (w : World) (h1 : CtlsAt w vs sig) (h : StrsAt w v m) : Calls Tryd.prog 19 #[vs, .int .i64 c, v] w (GivesBig (ionP sig c m) (ionB sig c m) w) := by
  obtain ⟨a, cc, rfl, _, hl30, h3⟩ := h1.open
  have H1 : Hid (CtlsAt w (.slice a sig.length cc) sig) := h1
  have H3 : Hid _ := h3
  clear h1 h3
  have HSM : Hid (∀ s ∈ m, s.size ≤ 1073741824) := h.2
  obtain ⟨a', c', rfl, hlc', hl30', h3'⟩ := h.open
  have H3' : Hid _ := h3'
  have HB' : Hid (StrsAt w (.slice a' m.length c') m) := h
  clear h3' h
  cases hg : atomB sig c m with
  | false =>
    have HB : Hid (ionB sig c m = false) := by show _ = _; unfold ionB; rw [hg]; rfl
    have HP : Hid (ionP sig c m = noBig) := by show _ = _; unfold ionP; rw [HB.out]; rfl
    have HPA : Hid (atomP sig c m = noBig) := by show _ = _; unfold atomP; rw [hg]; rfl
    rw [HP.out, HB.out]
    go_enter Tryd.func19, Tryd.ntmps19
    go_wp2_with fail
    obtain ⟨W0, hW0⟩ : ∃ W, W = w.alloc (.cells #[.int .i64 0, .slice none 0 0, .slice none 0 0, .int .i64 0, .slice none 0 0, .slice none 0 0] 30) := ⟨_, rfl⟩
    rw [← hW0]
    have BA : Box W0 w.heap.size #[.int .i64 0, .slice none 0 0, .slice none 0 0, .int .i64 0, .slice none 0 0, .slice none 0 0] 30 := by rw [hW0]; exact Box.new _ _ _
    have hb : Below w.heap.size w W0 := by rw [hW0]; exact balloc _ _
    clear hW0
    refine (single_ct _ _ sig c m _ (H1.out.below hb) (HB'.out.below hb)).mono ?_
    rintro e w4 ⟨u, bs, rfl, p, nd, b3⟩
    rw [HPA.out] at p
    rw [hg]
    obtain ⟨a1, c1, a2, c2, a3, c3, a4, c4, rfl⟩ := p.at.shape
    have hln := p.lt
    have hlt := BA.lt
    have BA := BA.below b3
    have hb := bthen hb b3
    have ball := balloc w4 (.cells #[.int .i64 (noBig).roots, .slice a1 (noBig).nodes.length c1, .slice a2 (noBig).sites.length c2, .int .i64 (noBig).edges, .slice a3 (noBig).outer.length c3, .slice a4 (noBig).inner.length c4] 30)
    have BA1 := BA.below ball
    have hb := bthen hb ball
    have q4 := BA.cell
    have f4 := BA.free
    have q := BA1.cell
    have f := BA1.free
    go_wp2_with fail
    refine bodyPost_ret (v := .tuple #[.agg #[.int .i64 0, .slice none 0 0, .slice none 0 0, .int .i64 0, .slice none 0 0, .slice none 0 0], .bool false]) (by simp [results, Tryd.results19, go_sem, q]) rfl ⟨_, _, rfl, noBig_own _ _, by simp, ?_⟩
    iterate 6 refine Below.setCell ?_ (by simp) _
    exact hb
  | true =>
    have hab := atomB_c hg
    have HPA : Hid (atomP sig c m = atomBig c m) := by show _ = _; unfold atomP; rw [hg]; rfl
    have hcl := hab.2.2.2
    obtain ⟨k, rfl⟩ : ∃ k : Nat, c = k := ⟨c.toNat, by omega⟩
    obtain ⟨x, hx⟩ := getElem?_of_lt (show k < sig.length by omega)
    have hk : k < sig.length := by omega
    obtain ⟨_, _, hkI, b1, o1, rfl, _, _, hc2⟩ := H3.out k x hx
    have hct : ctlAt sig k = x := by unfold ctlAt; rw [Int.toNat_natCast, hx]; rfl
    have HE : Hid (ionB sig k m = !decide (x.kind = 2)) := by show _ = _; unfold ionB; rw [hg, hct]; rfl
    clear hct hx
    by_cases hk2 : x.kind = 2
    · have HB : Hid (ionB sig k m = false) := by show _ = _; rw [HE.out, decide_eq_true hk2]; rfl
      have HP : Hid (ionP sig k m = noBig) := by show _ = _; unfold ionP; rw [HB.out]; rfl
      have hq : (x.kind == 2) = true := by simpa using hk2
      rw [HP.out, HB.out]
      clear hk2
      go_enter Tryd.func19, Tryd.ntmps19
      go_wp2_with fail
      obtain ⟨W0, hW0⟩ : ∃ W, W = w.alloc (.cells #[.int .i64 0, .slice none 0 0, .slice none 0 0, .int .i64 0, .slice none 0 0, .slice none 0 0] 30) := ⟨_, rfl⟩
      rw [← hW0]
      have BA : Box W0 w.heap.size #[.int .i64 0, .slice none 0 0, .slice none 0 0, .int .i64 0, .slice none 0 0, .slice none 0 0] 30 := by rw [hW0]; exact Box.new _ _ _
      have hb : Below w.heap.size w W0 := by rw [hW0]; exact balloc _ _
      clear hW0
      refine (single_ct _ _ sig k m _ (H1.out.below hb) (HB'.out.below hb)).mono ?_
      rintro e w4 ⟨u, bs, rfl, p, nd, b3⟩
      rw [HPA.out] at p
      rw [hg]
      obtain ⟨a1, c1, a2, c2, a3, c3, a4, c4, rfl⟩ := p.at.shape
      have hln := p.lt
      have hlt := BA.lt
      have BA := BA.below b3
      have hb := bthen hb b3
      have g2 := (hb.cell (World.block_lt_of_cell? w _ hc2)).trans hc2
      have ball := balloc w4 (.cells #[.int .i64 (atomBig (k : Int) m).roots, .slice a1 (atomBig (k : Int) m).nodes.length c1, .slice a2 (atomBig (k : Int) m).sites.length c2, .int .i64 (atomBig (k : Int) m).edges, .slice a3 (atomBig (k : Int) m).outer.length c3, .slice a4 (atomBig (k : Int) m).inner.length c4] 30)
      have g3 := (ball.cell (World.block_lt_of_cell? w4 _ g2)).trans g2
      have BA1 := BA.below ball
      have hb := bthen hb ball
      have q4 := BA.cell
      have f4 := BA.free
      have q := BA1.cell
      have f := BA1.free
      go_wp2_with fail
      refine bodyPost_ret (v := .tuple #[.agg #[.int .i64 0, .slice none 0 0, .slice none 0 0, .int .i64 0, .slice none 0 0, .slice none 0 0], .bool false]) (by simp [results, Tryd.results19, go_sem, q]) rfl ⟨_, _, rfl, noBig_own _ _, by simp, ?_⟩
      iterate 6 refine Below.setCell ?_ (by simp) _
      exact hb
    · have HB : Hid (ionB sig k m = true) := by show _ = _; rw [HE.out, decide_eq_false hk2]; rfl
      have HP : Hid (ionP sig k m = ionBig k m) := by show _ = _; unfold ionP; rw [HB.out]; rfl
      have hq : (x.kind == 2) = false := by simpa using hk2
      rw [HP.out, HB.out]
      clear hk2
      go_enter Tryd.func19, Tryd.ntmps19
      go_wp2_with fail
      obtain ⟨W0, hW0⟩ : ∃ W, W = w.alloc (.cells #[.int .i64 0, .slice none 0 0, .slice none 0 0, .int .i64 0, .slice none 0 0, .slice none 0 0] 30) := ⟨_, rfl⟩
      rw [← hW0]
      have BA : Box W0 w.heap.size #[.int .i64 0, .slice none 0 0, .slice none 0 0, .int .i64 0, .slice none 0 0, .slice none 0 0] 30 := by rw [hW0]; exact Box.new _ _ _
      have hb : Below w.heap.size w W0 := by rw [hW0]; exact balloc _ _
      clear hW0
      refine (single_ct _ _ sig k m _ (H1.out.below hb) (HB'.out.below hb)).mono ?_
      rintro e w4 ⟨u, bs, rfl, p, nd, b3⟩
      rw [HPA.out] at p
      rw [hg]
      obtain ⟨a1, c1, a2, c2, a3, c3, a4, c4, rfl⟩ := p.at.shape
      have hln := p.lt
      have hlt := BA.lt
      have BA := BA.below b3
      have hb := bthen hb b3
      have g2 := (hb.cell (World.block_lt_of_cell? w _ hc2)).trans hc2
      have ball0 := balloc w4 (.cells #[.int .i64 (atomBig (k : Int) m).roots, .slice a1 (atomBig (k : Int) m).nodes.length c1, .slice a2 (atomBig (k : Int) m).sites.length c2, .int .i64 (atomBig (k : Int) m).edges, .slice a3 (atomBig (k : Int) m).outer.length c3, .slice a4 (atomBig (k : Int) m).inner.length c4] 30)
      have g3 := (ball0.cell (World.block_lt_of_cell? w4 _ g2)).trans g2
      clear ball0
      have hz3 := b3.size
      have ball := balloc w4 (.cells #[.int .i64 (atomBig (k : Int) m).roots, .slice a1 (atomBig (k : Int) m).nodes.length c1, .slice (some ⟨(w4.heap.size + 1), 0, none⟩) 1 1, .int .i64 (atomBig (k : Int) m).edges, .slice a3 (atomBig (k : Int) m).outer.length c3, .slice a4 (atomBig (k : Int) m).inner.length c4] 30)
      have b5 := bthen ball (balloc (w4.alloc (.cells #[.int .i64 (atomBig (k : Int) m).roots, .slice a1 (atomBig (k : Int) m).nodes.length c1, .slice (some ⟨(w4.heap.size + 1), 0, none⟩) 1 1, .int .i64 (atomBig (k : Int) m).edges, .slice a3 (atomBig (k : Int) m).outer.length c3, .slice a4 (atomBig (k : Int) m).inner.length c4] 30)) (.cells #[.int .i64 0] 3))
      have BA1 := BA.below b5
      obtain ⟨bs', hO, hnd, hmem⟩ := ion_own (g := w4.heap.size + 1) (p.keep (keep_below b5 (fun q hq => (hln q hq).2))) nd (fun q hq => by have := (hln q hq).2; omega) (by omega) (Box.new' (w4.alloc (.cells #[.int .i64 (atomBig (k : Int) m).roots, .slice a1 (atomBig (k : Int) m).nodes.length c1, .slice (some ⟨(w4.heap.size + 1), 0, none⟩) 1 1, .int .i64 (atomBig (k : Int) m).edges, .slice a3 (atomBig (k : Int) m).outer.length c3, .slice a4 (atomBig (k : Int) m).inner.length c4] 30)) #[.int .i64 0] 3 (by simp))
      have hpl : ∀ q ∈ bs', w.heap.size < q := fun q hq => by
        rcases hmem q hq with h | h
        · have := hln q h; omega
        · subst h; omega
      have q4 := BA.cell
      have f4 := BA.free
      have qA := BA1.cell
      have qAf := BA1.free
      have hb1 := bthen hb b5
      clear hmem p ball
      go_wp2_with fail
      refine bodyPost_ret (v := .tuple #[.agg #[.int .i64 (atomBig (k : Int) m).roots, .slice a1 (atomBig (k : Int) m).nodes.length c1, .slice (some ⟨(w4.heap.size + 1), 0, none⟩) 1 1, .int .i64 (atomBig (k : Int) m).edges, .slice a3 (atomBig (k : Int) m).outer.length c3, .slice a4 (atomBig (k : Int) m).inner.length c4], .bool true]) (by simp [results, Tryd.results19, go_sem, qA]) rfl ⟨_, bs', rfl, (hO.keep ?_).mono (by omega), hnd, ?_⟩
      · intro g hg; have := hpl g hg; repeat rw [heap_setCell_other _ _ _ _ (by simp <;> omega)]
      · iterate 6 refine Below.setCell ?_ (by simp) _
        exact hb1
end Go.Proofs.YtanndcclkmcfbaaDoor
