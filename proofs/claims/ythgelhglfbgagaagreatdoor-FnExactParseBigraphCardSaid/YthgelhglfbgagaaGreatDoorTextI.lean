/- The text of a bigraph: the program's. -/
import Derived.Test.YthgelhglfbgagaaGreatDoorTextS
import Derived.Test.YthgelhglfbgagaaGreatDoorGoodI
import Derived.Test.YthgelhglfbgagaaGreatDoorG2
namespace Go.Proofs.YthgelhglfbgagaaGreatDoor
open Go Go.RowKit Go.BigFrame
theorem joinT_ge (sep : ByteArray) : ∀ (l : List ByteArray) (x : ByteArray), x ∈ l → x.size ≤ (joinT l sep).size
  | [], x, h => by cases h
  | [y], x, h => by rw [List.mem_singleton.1 h, joinT_one]; exact Nat.le_refl _
  | y :: z :: r, x, h => by
    have e : (joinT (y :: z :: r) sep).size = y.size + sep.size + (joinT (z :: r) sep).size := by
      have e2 : Lib.join ((y :: z :: r).map (·.data.toList)) sep.data.toList = y.data.toList ++ (sep.data.toList ++ Lib.join ((z :: r).map (·.data.toList)) sep.data.toList) := by
        rw [List.map_cons, Lib.join_cons, List.map_cons, Lib.join_cons]
        simp [Lib.joinTail, List.append_assoc]
      unfold joinT
      rw [e2]
      simp only [ByteArray.size, List.size_toArray, List.length_append, Array.length_toList]
      omega
    rw [e]
    rcases List.mem_cons.1 h with rfl | h
    · omega
    · have := joinT_ge sep (z :: r) x h
      omega
theorem outer_joined (sig : List Ctl) (b : Big) (hG : Good sig b) : (joinT (tOuter :: b.outer) tSp).size ≤ 1000 := by
  have hm : midT sig b = (((((nodesT sig b b.nodes.length ++ tSites) ++ wordsN b.sites b.sites.length) ++ tSc) ++ decZ b.edges) ++ tSc) ++ tOuter := by
    have e1 : tScOuter = tSc ++ tOuter := rfl
    unfold midT; rw [e1]; simp only [ByteArray.append_assoc]
  have ho := outer_parts sig b _ hm b.outer.length (Nat.le_refl _)
  rw [List.take_length] at ho
  have h1 := outT_size hG b.outer.length (Nat.le_refl _)
  have h2 := hG.bds.outer
  rw [ho, ByteArray.size_append] at h1
  have e : tOuter :: b.outer = [tOuter] ++ b.outer := rfl
  rw [e]
  omega
def p2T (sig : List Ctl) (b : Big) : List ByteArray := partsT sig b b.nodes.length ++ [numT tSites b.sites b.sites.length, decZ b.edges, joinT (tOuter :: b.outer) tSp]
theorem allT_eq (sig : List Ctl) (b : Big) : allT sig b = p2T sig b ++ [innT b b.inner.length] := rfl
theorem allT_size {sig : List Ctl} {b : Big} (hG : Good sig b) : ∀ x ∈ allT sig b, x.size ≤ 1073741824 := fun x hx => by
  have h1 := joinT_ge tSc _ x hx
  rw [text_parts] at h1
  have h2 := textL_size hG
  omega
theorem partsT_len (sig : List Ctl) (b : Big) {k : Nat} (h : k ≤ b.nodes.length) : (partsT sig b k).length = k + 1 := by
  unfold partsT; simp; omega
theorem p2T_len (sig : List Ctl) (b : Big) : (p2T sig b).length = b.nodes.length + 4 := by
  unfold p2T; rw [List.length_append, partsT_len sig b (Nat.le_refl _)]; simp
theorem Acc.of_box1 {w : World} {base e g : Nat} {u : Value} (B : Box w g #[u] e) (hb : base ≤ g) : Acc w base e 1 (.slice (some ⟨g, 0, none⟩) 1 1) [[u]] :=
  ⟨⟨by simp, .inr ⟨g, 1, #[u], rfl, hb, B, Nat.le_refl _, by unfold maxLen; omega, by simp, by simp⟩⟩, fun r hr => by rw [List.mem_singleton.1 hr]; rfl⟩
theorem rowAt_cells {w : World} {g : Nat} {us : List Value} {e' : TypeId} {c : Nat} (h : w.heap[g]? = some (.cells us.toArray e' (0, 0))) (hc : us.length ≤ c) : RowAt us.length w (.slice (some ⟨g, 0, none⟩) us.length c) 1 (us.map fun u => [u]) := by
  refine ⟨some ⟨g, 0, none⟩, c, by simp, by simpa using hc, by simp, ?_, fun i r hi => ⟨g, 0, rfl, fun j u hj => ?_⟩⟩
  · intro r hr; simp only [List.mem_map] at hr; obtain ⟨u, _, rfl⟩ := hr; rfl
  · rw [List.getElem?_map] at hi
    cases hu : us[i]? with
    | none => rw [hu] at hi; cases hi
    | some u' =>
      rw [hu] at hi
      obtain rfl : [u'] = r := by simpa using hi
      obtain ⟨rfl, rfl⟩ : j = 0 ∧ u' = u := by
        cases j with
        | zero => simpa using hj
        | succ j => simp at hj
      rw [Nat.mul_one, Nat.zero_add, Nat.add_zero, cell_of_row w g i _ e' (0, 0) h]
      simpa using hu
/-- A slice of built elements, a cell each. -/
def eLitU (us : List Value) (t : TypeId) : Ent where
  sh := fun v => ∃ g, v = .slice (some ⟨g, 0, none⟩) us.length us.length
  ex := ⟨_, 0, rfl⟩
  fct := fun v W U => ∃ g, v = .slice (some ⟨g, 0, none⟩) us.length us.length ∧ Box W g us.toArray t ∧ U g
  hs := fun _ _ _ ⟨g, h, _⟩ => ⟨g, h⟩
  st := fun _ _ _ _ hb ⟨g, h, k, u⟩ => ⟨g, h, k.below hb, u⟩
section
variable {P : Program} {a : Act}
/-- 'append([]string{s}, x...)' as an operation. -/
theorem rg_app1s {o : Oper} (s x : Operand) (t : TypeId) (ho : o.op = .call { callee := .builtin .append, args := #[s, x], argTypes := #[t, t] })
    (e : TypeId) (z : Value) (ht : P.underlying t = some (.slice e)) (hinf : (P.info? e).map (fun i => (i.zero, i.size, i.bytes)) = some (some z, 1, 16)) (hzs : z.cells.size = 1)
    (g : Nat) (y : ByteArray) (xv : Value) (l : List ByteArray) (hs : a.eval s = .slice (some ⟨g, 0, none⟩) 1 1) (hx : a.eval x = xv) (hy : y.size ≤ 1073741824) (hlen : l.length ≤ 1000000) (w : World) (B : Box w g #[.string y] e) (hr : StrsAt w xv l) :
    ∃ u w1, (execOp a.eval o).run P w = .ok (.value u) w1 ∧ Below w.heap.size w w1 ∧ StrsAt w1 u (y :: l) := by
  obtain ⟨i, hi, hz0, hz1, hz2⟩ := info_parts hinf
  have hrow := hr.1
  have hsz := hr.2
  have hy2 : ∀ s ∈ y :: l, s.size ≤ 1073741824 := fun s hs => by
    rcases List.mem_cons.1 hs with rfl | h
    · exact hy
    · exact hsz s h
  obtain ⟨ax, cx, rfl, _, _, hr1, _⟩ := id hrow
  rw [show (l.map fun s => [Value.string s]).length = l.length by simp] at *
  suffices h : ∃ v' w', (Builtin.append_ #[t, t] o.type #[.slice (some ⟨g, 0, none⟩) 1 1, .slice ax l.length cx]).run P w = .ok v' w' ∧ Below w.heap.size w w' ∧ StrsAt w' v' (y :: l) by
    obtain ⟨v', w', hrun, hb, h1⟩ := h
    refine ⟨v', w', ?_, hb, h1⟩
    simp [execOp, ho, resolve, invoke, builtin, hs, hx, hrun, Result.andThen]
  by_cases hc : l = []
  · subst hc
    have h1 : StrsAt w (.slice (some ⟨g, 0, none⟩) 1 1) [y] := ⟨(rowAt_one (row := [.string y]) B (Nat.le_refl _)).le (show 1 ≤ 1073741824 by decide), hy2⟩
    refine ⟨_, w, run_append_nothing w t t o.type e i ht hi (some ⟨g, 0, none⟩) 1 1 (Nat.le_refl _) _ ?_, Below.refl _ _, h1⟩
    cases ax with
    | none => exact Src.ofNil w ht cx
    | some b => exact Src.ofSlice w ht b 0 cx [] (by simp) (fun j u hj => by simp at hj) (fun u hu => by cases hu)
  · have hpos : 0 < l.length := List.length_pos_iff.2 hc
    cases ax with
    | none => have := hrow.nil_of_none; simp at this; exact absurd this hc
    | some b =>
      obtain ⟨v', w', hrun, hown, hg⟩ := run_append_arg_grows (P := P) w t o.type e i z 1 16 ht hi hz0 hz1 hz2 hzs (by decide) ⟨g, 0, none⟩ 1 1 [.string y] (by simp)
        (fun j u hj => by
          obtain ⟨rfl, rfl⟩ : j = 0 ∧ Value.string y = u := by
            cases j with
            | zero => simpa using hj
            | succ j => simp at hj
          rw [addr_add, Nat.zero_add, B.cell 0]; rfl) b l.length cx (strRows l).flatten ((flatLen2 (strRows l) hr1).trans (by simp [strRows])) hrow.news (by omega) (by unfold maxLen; omega) (by omega)
      refine ⟨v', w', hrun, (Below.refl _ _).grown hg (Nat.le_refl _) (fun k hk => by cases hk), ?_⟩
      have ho := RowOwn.of_owns (cs := strRows (y :: l)) (n := 1 + l.length) (by simpa [strRows] using hown) (by simp [strRows]; omega) (by simp [strRows])
      exact ⟨ho.row (by rw [len_strRows]; simp; omega), hy2⟩
end
theorem joinT_ct (v : Value) (l : List ByteArray) (sep : ByteArray) (w : World) (h : StrsAt w v l) (h0 : l ≠ []) (hz : (joinT l sep).size ≤ 1000000) : Calls Tryz.prog 99 #[v, .string sep] w fun e w' => e = .returned (.string (joinT l sep)) ∧ Below w.heap.size w w' := by
  obtain ⟨a, c, rfl, hlc, hl, h3⟩ := h.open
  obtain ⟨x, hx⟩ := getElem?_of_lt (List.length_pos_iff.2 h0)
  obtain ⟨_, b1, o1, rfl, hc0⟩ := h3 0 x hx
  refine (Tryz.strings_Join b1 o1 c l sep w (fun j y hy => ?_) (World.block_lt_of_cell? w _ hc0) (by omega) hlc ?_).mono ?_
  · obtain ⟨_, b', o', e', hc⟩ := h3 j y hy
    obtain ⟨rfl, rfl⟩ : b1 = b' ∧ o1 = o' := by simpa using e'
    exact hc
  · have e : (joinT l sep).size = (Lib.join (l.map (·.data.toList)) sep.data.toList).length := by unfold joinT; simp [ByteArray.size]
    omega
  · rintro e w' ⟨rfl, hb⟩
    exact ⟨rfl, hb⟩
set_option maxRecDepth 100000 in
set_option maxHeartbeats 2000000 in
theorem numbered_ct (s : ByteArray) (v : Value) (l : List Int) (w : World) (h : IntsAt w v l) (hx : ∀ x ∈ l, -999999 ≤ x ∧ x ≤ 999999) (hl : l.length ≤ 1000) (hs : s.size ≤ 1000) (htab : Lib.TabIs Tryz.prog w "internal/strconv.uint64pow10" .u64 Lib.pow10Tab) : Calls Tryz.prog 98 #[.string s, v] w fun e w' => e = .returned (.string (numT s l l.length)) ∧ Below w.heap.size w w' := by
  obtain ⟨_, _, rfl, _, _, H⟩ := h.open
  have H' := Lib.hid H
  have HX := Lib.hid hx
  have HTB := Lib.hid htab
  clear h hx H htab
  go_enter Tryz.func98, Tryz.ntmps98
  go_wp2_with fail
  go_loopw [9, 0, 6] (fun i s' _ W => ∃ k : Nat, k ≤ l.length ∧ i = .int .i64 k ∧ s' = .string (numT s l k) ∧ Below w.heap.size w W) (fun i _ _ _ => l.length - (intOf i).toNat)
  case atStart => exact ⟨0, Nat.zero_le _, rfl, rfl, Below.refl _ _⟩
  case round =>
    obtain ⟨k, hk, rfl, rfl, hb⟩ := hrel
    by_cases hkl : k < l.length
    · obtain ⟨y, hy⟩ := getElem?_of_lt hkl
      obtain ⟨_, ob, oo, rfl, hc⟩ := H'.out k y hy
      have hc' := (hb.cell (World.block_lt_of_cell? w _ hc)).trans hc
      have HW := Lib.hid (numT_succ (s := s) hy)
      have hyb := HX.out y (List.mem_of_getElem? hy)
      have hz1 := numT_size (s := s) HX.out hk
      have hz2 := decZ_size hyb.1 hyb.2
      clear hy hc
      go_wp2_with fail
      refine (decZ_ct y hyb.1 hyb.2 _ (TabIs.below HTB.out hb)).mono ?_
      rintro e w2 ⟨rfl, hb2⟩
      have hb := bthen hb hb2
      clear hc' hb2
      go_wp2_with fail
      go_roundw
      case rel => exact ⟨k + 1, by omega, by go_num, by rw [HW.out]; rfl, hb⟩
      case measure => simp [intOf]; omega
    · have e : k = l.length := by omega
      subst e
      go_wp2_with fail
      go_ret
      exact ⟨rfl, hb⟩
set_option maxRecDepth 100000 in
set_option maxHeartbeats 8000000 in
theorem bigraphText_ct (vs v : Value) (sig : List Ctl) (b : Big) (w : World) (h : Ctx w vs v sig b) (hG : Good sig b) (htab : Lib.TabIs Tryz.prog w "internal/strconv.uint64pow10" .u64 Lib.pow10Tab) : Calls Tryz.prog 36 #[vs, v] w fun e w' => e = .returned (.string (textL sig b)) ∧ Below w.heap.size w w' := by
  have HTB := Lib.hid htab
  clear htab
  have HJO := Lib.hid (show (joinT (tOuter :: b.outer) tSp).size ≤ 1000000 by have := outer_joined sig b hG; omega)
  obtain ⟨a1, c1, a2, c2, a3, c3, a4, c4, rfl⟩ := h.big.shape
  have hh := h.big.parts
  obtain ⟨_, _, _, _, _, _, _, _, e0, h1, h2, h3, h4, _, _⟩ := hh
  simp only [Value.agg.injEq, Array.mk.injEq, List.cons.injEq, and_true, true_and, Value.slice.injEq] at e0
  obtain ⟨⟨rfl, rfl⟩, ⟨rfl, rfl⟩, ⟨rfl, rfl⟩, rfl, rfl⟩ := e0
  obtain ⟨sa, sc, rfl, _, _, Hs⟩ := h.sig.open
  have HG := Lib.hid hG
  have hD := hG.bds
  have HD := Lib.hid hD
  have HNI := Lib.hid h1
  have HSI := Lib.hid h2
  have HOI := Lib.hid h3
  have HWI := Lib.hid h4
  have HSG := Lib.hid h.sig
  have hnl := hD.nodes
  have hol := hD.outer
  have hil := hD.inner
  have HSB : Hid (∀ x ∈ b.sites, -999999 ≤ x ∧ x ≤ 999999) := fun x hx => by have := hD.site x hx; have := hD.roots; omega
  have HEB : Hid (-999999 ≤ b.edges ∧ b.edges ≤ 999999) := by have := hD.edges; show _ ∧ _; omega
  have HRB : Hid (-999999 ≤ b.roots ∧ b.roots ≤ 999999) := by have := hD.roots; show _ ∧ _; omega
  obtain ⟨W0, hW0⟩ : ∃ W, W = w.alloc (.cells #[.int .i64 b.roots, .slice a1 b.nodes.length c1, .slice a2 b.sites.length c2, .int .i64 b.edges, .slice a3 b.outer.length c3, .slice a4 b.inner.length c4] 29) := ⟨_, rfl⟩
  have hA : Below w.heap.size w W0 := by rw [hW0]; exact balloc _ _
  have BA : Box W0 w.heap.size #[.int .i64 b.roots, .slice a1 b.nodes.length c1, .slice a2 b.sites.length c2, .int .i64 b.edges, .slice a3 b.outer.length c3, .slice a4 b.inner.length c4] 29 := by rw [hW0]; exact Box.new _ _ _
  have hsl := hD.sites
  have hrz := decZ_size HRB.out.1 HRB.out.2
  have hez := decZ_size HEB.out.1 HEB.out.2
  have hsz := wordsN_size HSB.out b.sites.length (Nat.le_refl _)
  have hnz0 := nodesT_size hG b.nodes.length (Nat.le_refl _)
  have hoz0 := outT_size hG b.outer.length (Nat.le_refl _)
  clear h1 h2 h3 h4 h hG hD Hs
  obtain ⟨n0, hn0⟩ : ∃ n, n = w.heap.size + 1 := ⟨_, rfl⟩
  have hn1 : w.heap.size + 1 ≤ n0 := by omega
  have hs : n0 ≤ W0.heap.size := by rw [hW0, hn0]; simp
  clear hn0
  go_enter Tryz.func36, Tryz.ntmps36
  go_wp2_with fail
  rw [← hW0]
  clear hW0
  refine (decZ_ct b.roots HRB.out.1 HRB.out.2 _ (TabIs.below HTB.out hA)).mono ?_
  rintro e w1 ⟨rfl, hb1⟩
  have BA := BA.below hb1
  have hb := bthen hA hb1
  have hs := Nat.le_trans hs hb1.size
  clear hA hb1
  have q := (BA.alloc (.cells #[.string (decZ b.roots)] 9)).cell
  go_wp2_with fail
  clear q
  obtain ⟨w2, hw2⟩ : ∃ W, W = w1.alloc (.cells #[.string (decZ b.roots)] 9) := ⟨_, rfl⟩
  first | rw [← hw2] | fail "world2"
  have bx : Below w1.heap.size w1 w2 := by rw [hw2]; exact balloc _ _
  have BP : Box w2 w1.heap.size #[.string (decZ b.roots)] 9 := by rw [hw2]; exact Box.new _ _ _
  have acc : Acc w2 n0 9 1 (.slice (some ⟨w1.heap.size, 0, none⟩) 1 1) (strRows (partsT sig b 0)) := by simpa [strRows, partsT] using Acc.of_box1 BP hs
  have BA := BA.below bx
  have hb := bthen hb bx
  have hs := Nat.le_trans hs bx.size
  clear hw2 bx BP
  go_loopw [18, 5, 7] (fun i p _ W => ∃ k : Nat, k ≤ b.nodes.length ∧ i = .int .i64 k ∧ Below w.heap.size w W ∧ n0 ≤ W.heap.size ∧ Box W w.heap.size #[.int .i64 b.roots, .slice a1 b.nodes.length c1, .slice a2 b.sites.length c2, .int .i64 b.edges, .slice a3 b.outer.length c3, .slice a4 b.inner.length c4] 29 ∧ Acc W n0 9 1 p (strRows (partsT sig b k))) (fun i _ _ _ => b.nodes.length - (intOf i).toNat)
  case atStart => exact ⟨0, Nat.zero_le _, rfl, hb, hs, BA, acc⟩
  case round =>
    clear hb hs BA acc
    obtain ⟨k, hk, rfl, hb, hs, BA, acc⟩ := hrel
    obtain ⟨av, cv, rfl⟩ := acc.shape
    have HL : Hid ((strRows (partsT sig b k)).length = k + 1) := by show _ = _; rw [len_strRows, partsT_len sig b hk]
    rw [HL.out] at acc ⊢
    by_cases hkl : k < b.nodes.length
    · obtain ⟨x, hx⟩ := getElem?_of_lt hkl
      obtain ⟨xc, xp, xl⟩ := x
      obtain ⟨_, _, en, _, _, Hn⟩ := (HNI.out.below hb).open
      obtain ⟨rfl, rfl⟩ := (by simpa using en : a1 = _ ∧ c1 = _)
      obtain ⟨_, _, nb, no, vl, rfl, hvl, hc0, hc1, hc2⟩ := Hn k _ hx
      obtain ⟨ya, yc, rfl, _, _, _⟩ := hvl.open
      have HX := Lib.hid hx
      have hxm := List.mem_of_getElem? hx
      have hnc := node_ctl (HG.out.node k _ hx)
      have HXP : Hid (-999999 ≤ xp ∧ xp ≤ 999999) := by have h1 := HD.out.par _ hxm; have h2 := HD.out.roots; have h3 : -b.roots ≤ xp ∧ xp < (b.nodes.length : Int) := h1; show _ ∧ _; omega
      have HXL : Hid (∀ y ∈ xl, -999999 ≤ y ∧ y ≤ 999999) := fun y hy => by have h1 : 0 ≤ y ∧ y < b.edges + b.outer.length := HD.out.lnk _ hxm y hy; have h2 := HD.out.edges; omega
      have hnc : 0 ≤ xc ∧ xc ≤ (sig.length : Int) - 1 := hnc
      obtain ⟨cn, rfl⟩ : ∃ n : Nat, xc = n := ⟨xc.toNat, by omega⟩
      obtain ⟨cc, hcc⟩ := getElem?_of_lt (show cn < sig.length by omega)
      obtain ⟨_, _, es, _, _, Hs⟩ := (HSG.out.below hb).open
      obtain ⟨rfl, rfl⟩ := (by simpa using es : sa = _ ∧ sc = _)
      obtain ⟨_, _, _, sb, so, rfl, hs0, _, _⟩ := Hs cn cc hcc
      have HCN : Hid (ctlN sig (cn : Int) = cc.name) := by show _ = _; unfold ctlN; rw [Int.toNat_natCast, hcc]
      have hcl : cn < sig.length := by omega
      have hxl3 : xl.length ≤ 3 := HD.out.links _ hxm
      have hcz : cc.name.size ≤ 4 := by have := HG.out.ctlN_size hxm; rwa [HCN.out] at this
      have hpz := decZ_size HXP.out.1 HXP.out.2
      have hwz := wordsN_size HXL.out xl.length (Nat.le_refl _)
      have hnz := nodesT_size HG.out k hk
      have q := BA.cell
      clear hx hxm hcc Hs Hn es en hnc
      have HZ5 : Hid (((cc.name ++ tAtS) ++ decZ xp).size ≤ 1000) := by show _ ≤ _; rw [ByteArray.size_append, ByteArray.size_append, show tAtS.size = 1 from rfl]; omega
      have HT : Hid (strRows (partsT sig b (k + 1)) = strRows (partsT sig b k) ++ [[.string (numT ((cc.name ++ tAtS) ++ decZ xp) xl xl.length)]]) := by show _ = _; rw [partsT_succ HX.out]; unfold strRows nodeT; rw [HCN.out]; simp
      go_wp2_with fail
      clear q
      obtain ⟨wa, rfl⟩ : ∃ W, W = wr := ⟨_, rfl⟩
      obtain ⟨W8, hW8⟩ : ∃ W, W = wa.alloc (.cells #[.int .i64 (cn : Int), .int .i64 xp, .slice ya xl.length yc] 57) := ⟨_, rfl⟩
      first | rw [← hW8] | fail "world8"
      have bx : Below wa.heap.size wa W8 := by rw [hW8]; exact balloc _ _
      have BX : Box W8 wa.heap.size #[.int .i64 (cn : Int), .int .i64 xp, .slice ya xl.length yc] 57 := by rw [hW8]; exact Box.new _ _ _
      have hs8 := (bx.cell (World.block_lt_of_cell? wa _ hs0)).trans hs0
      have hvl8 : IntsAt W8 (.slice ya xl.length yc) xl := hvl.below bx
      have hb8 := bthen hb bx
      have BA8 := BA.below bx
      have acc8 := acc.below bx
      have hsz8 := Nat.le_trans hs bx.size
      clear hW8 bx hc0 hc1 hc2 hs0 hvl acc BA
      have gX0 := fun y => gr_cell (w := W8) (BX.cell 0) y
      have gX1 := fun y => gr_cell (w := W8) (BX.cell 1) y
      have gX2 := fun y => gr_cell (w := W8) (BX.cell 2) y
      have gs := fun y => gr_cell (w := W8) hs8 y
      refine rg_region [0, 1, 2, 3, 4, 5, 6, 7, 8, 9, 10, 11, 12, 13, 14, 15] [16, 17] (lo := (.cons _ (.cons _ .nil))) (by rfl) (tAt 10 (eVal (.string (decZ xp))) (tAt 14 (eVal (.string (numT ((cc.name ++ tAtS) ++ decZ xp) xl xl.length))) (tAt 15 (eLit1 [.string (numT ((cc.name ++ tAtS) ++ decZ xp) xl xl.length)] 9) tNil))) (by kernel_rfl) (by rfl) (by kernel_rfl) ?_
      refine rg_quiet anti_end [0, 1, 2, 3, 4, 5, 6, 7, 8, 9] [10, 11, 12, 13, 14, 15] (lo := (.cons _ (.cons _ (.cons _ (.cons _ (.cons _ (.cons _ (.cons _ (.cons _ (.cons _ (.cons _ .nil))))))))))) (by rfl) (by kernel_rfl) ?_
      repeat (go_big_quiet_step (fail))
      refine wpQuiet_nil ?_
      refine rg_call 10 rfl rfl 87 #[.int .i64 xp] ?_ ?_ ?_
      · intro w; first | (simp [go_sem]; done) | (simp [go_sem]; rfl) | rfl
      · rintro w' ⟨y, rfl⟩ hd
        refine (decZ_ct _ HXP.out.1 HXP.out.2 _ (TabIs.below HTB.out (bthen hb8 (gr_below _ _)))).mono ?_
        rintro e w3 ⟨rfl, bb⟩
        exact ⟨_, rfl, bb, rfl⟩
      intro v hv
      obtain rfl : v = .string (decZ xp) := hv
      simp only [Act.put, List.setIfInBounds_toArray, List.set_cons_zero, List.set_cons_succ]
      refine rg_quiet anti_end [11, 12, 13] [14, 15] (lo := (.cons _ (.cons _ (.cons _ .nil)))) (by rfl) (by kernel_rfl) ?_
      repeat (go_big_quiet_step (fail))
      refine wpQuiet_nil ?_
      refine rg_call 14 rfl rfl 98 #[.string ((cc.name ++ ⟨#[64]⟩) ++ decZ xp), .slice ya xl.length yc] ?_ ?_ ?_
      · intro w; first | (simp [go_sem]; done) | (simp [go_sem]; rfl) | rfl
      · rintro w' ⟨y, rfl⟩ hd
        refine (numbered_ct ((cc.name ++ tAtS) ++ decZ xp) _ xl _ (hvl8.below (gr_below _ _)) HXL.out (by omega) HZ5.out (TabIs.below HTB.out (bthen hb8 (gr_below _ _)))).mono ?_
        rintro e w3 ⟨rfl, bb⟩
        exact ⟨_, rfl, bb, rfl⟩
      intro v hv
      obtain rfl : v = .string (numT ((cc.name ++ tAtS) ++ decZ xp) xl xl.length) := hv
      simp only [Act.put, List.setIfInBounds_toArray, List.set_cons_zero, List.set_cons_succ]
      refine rg_made 15 rfl rfl ?_ ?_
      · rintro w' ⟨y, rfl⟩ hd
        exact ⟨_, _, by simp [go_sem]; try (first | exact ⟨rfl, rfl⟩ | rfl), balloc _ _, _, rfl, Box.new _ _ _, Nat.le_refl _, by simp⟩
      intro v hv
      obtain ⟨gl, rfl⟩ : ∃ g, v = .slice (some ⟨g, 0, none⟩) 1 1 := hv
      simp only [Act.put, List.setIfInBounds_toArray, List.set_cons_zero, List.set_cons_succ]
      intro w4 U hb4 hF
      obtain ⟨_, _, _, _, _, hF⟩ := hF
      obtain ⟨gl', e1, BL, _⟩ : ∃ g, Value.slice (some ⟨gl, 0, none⟩) 1 1 = .slice (some ⟨g, 0, none⟩) 1 1 ∧ Box w4 g #[.string (numT ((cc.name ++ tAtS) ++ decZ xp) xl xl.length)] 9 ∧ _ := hF
      obtain rfl : gl = gl' := by simpa using e1
      clear e1 gX0 gX1 gX2 gs hs8 hvl8 BX
      have BA4 := BA8.below hb4
      have acc4 := acc8.below hb4
      have hs4 := Nat.le_trans hsz8 hb4.size
      have hb4' := bthen hb8 hb4
      clear hb8 BA8 hb4 acc8 hsz8
      go_wp2_with (at_builtin; refine appR _ rfl (.tmp 22) (.tmp 37) 26 rfl n0 9 1 16 1 (.string ⟨#[]⟩) Tryz.underlying26 inf_str rfl (by decide) (by decide) _ (strRows (partsT sig b k)) (by rfl) acc4 _ [[.string (numT ((cc.name ++ tAtS) ++ decZ xp) xl xl.length)]] (by rfl) (rowAt_one (row := [.string (numT ((cc.name ++ tAtS) ++ decZ xp) xl xl.length)]) BL (by decide)) (by simp [Value.oneCell']) (by rw [HL.out]; simp; omega) hs4 ?_)
      intro v5 w5 acc5 hg _
      rw [← HT.out] at acc5
      have hb5 := grown_below hb4' acc4 hg (by omega) (by omega)
      have BA5 := BA4.keep (grown_block acc4 hg (by omega) BA4.lt)
      have hs5 := Nat.le_trans hs4 hg.size
      clear hb4' BA4 acc4 hg hs4 BL
      go_wp2_with fail
      go_roundw
      case rel => exact ⟨k + 1, by omega, by go_num, hb5, hs5, BA5, acc5⟩
      case measure => simp [intOf]; omega
    · have e : k = b.nodes.length := by omega
      subst e
      have q := BA.cell
      go_wp2_with fail
      clear q
      have gA2 := fun y => gr_cell (w := wr) (BA.cell 2) y
      have gA3 := fun y => gr_cell (w := wr) (BA.cell 3) y
      have gA4 := fun y => gr_cell (w := wr) (BA.cell 4) y
      refine rg_region [0, 1, 2, 3, 4, 5, 6, 7, 8, 9, 10, 11, 12] [13, 14] (lo := (.cons _ (.cons _ .nil))) (by rfl) (tAt 3 (eVal (.string (numT tSites b.sites b.sites.length))) (tAt 6 (eVal (.string (decZ b.edges))) (tAt 7 (eLit1 [.string tOuter] 9) (tAt 10 (eStrs (tOuter :: b.outer)) (tAt 11 (eVal (.string (joinT (tOuter :: b.outer) tSp))) (tAt 12 (eLitU [.string (numT tSites b.sites b.sites.length), .string (decZ b.edges), .string (joinT (tOuter :: b.outer) tSp)] 9) tNil)))))) (by kernel_rfl) (by rfl) (by kernel_rfl) ?_
      refine rg_quiet anti_end [0, 1, 2] [3, 4, 5, 6, 7, 8, 9, 10, 11, 12] (lo := (.cons _ (.cons _ (.cons _ .nil)))) (by rfl) (by kernel_rfl) ?_
      repeat (go_big_quiet_step (fail))
      refine wpQuiet_nil ?_
      refine rg_call 3 rfl rfl 98 #[.string ⟨#[115, 105, 116, 101, 115]⟩, .slice a2 b.sites.length c2] ?_ ?_ ?_
      · intro w; first | (simp [go_sem]; done) | (simp [go_sem]; rfl) | rfl
      · rintro w' ⟨y, rfl⟩ hd
        refine (numbered_ct tSites _ b.sites _ (HSI.out.below (bthen hb (gr_below _ _))) HSB.out (by omega) (by decide) (TabIs.below HTB.out (bthen hb (gr_below _ _)))).mono ?_
        rintro e w3 ⟨rfl, bb⟩
        exact ⟨_, rfl, bb, rfl⟩
      intro v hv
      obtain rfl : v = .string (numT tSites b.sites b.sites.length) := hv
      simp only [Act.put, List.setIfInBounds_toArray, List.set_cons_zero, List.set_cons_succ]
      refine rg_quiet anti_end [4, 5] [6, 7, 8, 9, 10, 11, 12] (lo := (.cons _ (.cons _ .nil))) (by rfl) (by kernel_rfl) ?_
      repeat (go_big_quiet_step (fail))
      refine wpQuiet_nil ?_
      refine rg_call 6 rfl rfl 87 #[.int .i64 b.edges] ?_ ?_ ?_
      · intro w; first | (simp [go_sem]; done) | (simp [go_sem]; rfl) | rfl
      · rintro w' ⟨y, rfl⟩ hd
        refine (decZ_ct _ HEB.out.1 HEB.out.2 _ (TabIs.below HTB.out (bthen hb (gr_below _ _)))).mono ?_
        rintro e w3 ⟨rfl, bb⟩
        exact ⟨_, rfl, bb, rfl⟩
      intro v hv
      obtain rfl : v = .string (decZ b.edges) := hv
      simp only [Act.put, List.setIfInBounds_toArray, List.set_cons_zero, List.set_cons_succ]
      refine rg_made 7 rfl rfl ?_ ?_
      · rintro w' ⟨y, rfl⟩ hd
        exact ⟨_, _, by simp [go_sem]; try (first | exact ⟨rfl, rfl⟩ | rfl), balloc _ _, _, rfl, Box.new _ _ _, Nat.le_refl _, by simp⟩
      intro v hv
      obtain ⟨go, rfl⟩ : ∃ g, v = .slice (some ⟨g, 0, none⟩) 1 1 := hv
      simp only [Act.put, List.setIfInBounds_toArray, List.set_cons_zero, List.set_cons_succ]
      refine rg_quiet anti_end [8, 9] [10, 11, 12] (lo := (.cons _ (.cons _ .nil))) (by rfl) (by kernel_rfl) ?_
      repeat (go_big_quiet_step (fail))
      refine wpQuiet_nil ?_
      refine rg_made 10 rfl rfl ?_ ?_
      · rintro w' ⟨y, rfl⟩ hd
        obtain ⟨_, gx, ex, BX, _⟩ : ∃ U : Nat → Prop, ∃ g, Value.slice (some ⟨go, 0, none⟩) 1 1 = .slice (some ⟨g, 0, none⟩) 1 1 ∧ Box _ g #[.string tOuter] 9 ∧ U g := (hd ⟨7, .data⟩ (by simp) rfl _ rfl (by decide) 47 rfl)
        obtain rfl : go = gx := by simpa using ex
        exact rg_app1s (.tmp 47) (.tmp 49) 26 (by rfl) 9 (.string ⟨#[]⟩) Tryz.underlying26 inf_str rfl go _ _ b.outer (by rfl) (by rfl) (by decide) (by omega) _ BX (HOI.out.below (bthen hb (gr_below _ _)))
      intro v hv
      obtain ⟨ja, jc, rfl⟩ : ∃ a c, v = .slice a (tOuter :: b.outer).length c := hv
      simp only [Act.put, List.setIfInBounds_toArray, List.set_cons_zero, List.set_cons_succ]
      refine rg_call 11 rfl rfl 99 #[.slice ja (tOuter :: b.outer).length jc, .string ⟨#[32]⟩] ?_ ?_ ?_
      · intro w; first | (simp [go_sem]; done) | (simp [go_sem]; rfl) | rfl
      · rintro w' ⟨y, rfl⟩ hd
        obtain ⟨_, hx⟩ := (hd ⟨10, .data⟩ (by simp) rfl _ rfl (by decide) 50 rfl)
        have hx : StrsAt _ (.slice ja (tOuter :: b.outer).length jc) (tOuter :: b.outer) := hx
        refine (joinT_ct _ (tOuter :: b.outer) tSp _ hx (by simp) HJO.out).mono ?_
        rintro e w3 ⟨rfl, bb⟩
        exact ⟨_, rfl, bb, rfl⟩
      intro v hv
      obtain rfl : v = .string (joinT (tOuter :: b.outer) tSp) := hv
      simp only [Act.put, List.setIfInBounds_toArray, List.set_cons_zero, List.set_cons_succ]
      refine rg_made 12 rfl rfl ?_ ?_
      · rintro w' ⟨y, rfl⟩ hd
        exact ⟨_, _, by simp [go_sem]; try (first | exact ⟨rfl, rfl⟩ | rfl), balloc _ _, _, rfl, Box.new _ _ _, Nat.le_refl _, by simp⟩
      intro v hv
      obtain ⟨gl, rfl⟩ : ∃ g, v = .slice (some ⟨g, 0, none⟩) 3 3 := hv
      simp only [Act.put, List.setIfInBounds_toArray, List.set_cons_zero, List.set_cons_succ]
      intro w4 U hb4 hF
      obtain ⟨_, _, _, _, _, hF⟩ := hF
      obtain ⟨gl', e1, BL, _⟩ : ∃ g, Value.slice (some ⟨gl, 0, none⟩) 3 3 = .slice (some ⟨g, 0, none⟩) 3 3 ∧ Box w4 g #[.string (numT tSites b.sites b.sites.length), .string (decZ b.edges), .string (joinT (tOuter :: b.outer) tSp)] 9 ∧ _ := hF
      obtain rfl : gl = gl' := by simpa using e1
      clear e1 gA2 gA3 gA4
      have BA := BA.below hb4
      have acc := acc.below hb4
      have hs := Nat.le_trans hs hb4.size
      have hb := bthen hb hb4
      clear hb4
      have HT : Hid (strRows (p2T sig b) = strRows (partsT sig b b.nodes.length) ++ [[.string (numT tSites b.sites b.sites.length)], [.string (decZ b.edges)], [.string (joinT (tOuter :: b.outer) tSp)]]) := by show _ = _; unfold p2T strRows; simp
      go_wp2_with (at_builtin; refine appR _ rfl (.tmp 40) (.tmp 52) 26 rfl n0 9 1 16 3 (.string ⟨#[]⟩) Tryz.underlying26 inf_str rfl (by decide) (by decide) _ (strRows (partsT sig b b.nodes.length)) (by rfl) acc _ [[.string (numT tSites b.sites b.sites.length)], [.string (decZ b.edges)], [.string (joinT (tOuter :: b.outer) tSp)]] (by rfl) (rowAt_cells (us := [.string (numT tSites b.sites b.sites.length), .string (decZ b.edges), .string (joinT (tOuter :: b.outer) tSp)]) BL (Nat.le_refl 3)) (by simp [Value.oneCell']) (by rw [HL.out]; simp; omega) hs ?_)
      intro v5 w5 acc5 hg _
      rw [← HT.out] at acc5
      have hb5 := grown_below hb acc hg (by omega) (by omega)
      have BA5 := BA.keep (grown_block acc hg (by omega) BA.lt)
      have hs5 := Nat.le_trans hs hg.size
      clear hb BA acc hg hs HT HL BL
      obtain ⟨pv, pc, rfl⟩ := acc5.shape
      have HL : Hid ((strRows (p2T sig b)).length = b.nodes.length + 4) := by show _ = _; rw [len_strRows, p2T_len]
      rw [HL.out] at acc5 ⊢
      have q := BA5.cell
      go_wp2_with fail
      clear q
      go_loopw [57, 8, 10] (fun i s _ W => ∃ k : Nat, k ≤ b.inner.length ∧ i = .int .i64 k ∧ s = .string (innT b k) ∧ Below w.heap.size w W ∧ n0 ≤ W.heap.size ∧ Box W w.heap.size #[.int .i64 b.roots, .slice a1 b.nodes.length c1, .slice a2 b.sites.length c2, .int .i64 b.edges, .slice a3 b.outer.length c3, .slice a4 b.inner.length c4] 29 ∧ Acc W n0 9 1 (.slice pv (b.nodes.length + 4) pc) (strRows (p2T sig b))) (fun i _ _ _ => b.inner.length - (intOf i).toNat)
      case atStart => exact ⟨0, Nat.zero_le _, rfl, rfl, hb5, hs5, BA5, acc5⟩
      case round =>
        clear hb5 hs5 BA5 acc5
        obtain ⟨k, hk, rfl, rfl, hb, hs, BA, acc⟩ := hrel
        have q := BA.cell
        by_cases hkl : k < b.inner.length
        · obtain ⟨x, hx⟩ := getElem?_of_lt hkl
          obtain ⟨_, _, en, _, _, Hn⟩ := (HWI.out.below hb).open
          obtain ⟨rfl, rfl⟩ := (by simpa using en : a4 = _ ∧ c4 = _)
          obtain ⟨_, _, ob, oo, rfl, hc0, hc1⟩ := Hn k x hx
          have HW := Lib.hid (innT_succ hx)
          have hz1 := innT_size HG.out k hk
          have hz2 := (name_pos (HG.out.nameI (List.mem_of_getElem? hx))).2
          have HXB : Hid (-999999 ≤ x.link ∧ x.link ≤ 999999) := by have h1 := HD.out.wire x (List.mem_of_getElem? hx); have h2 := HD.out.edges; show _ ∧ _; omega
          have hz3 := decZ_size HXB.out.1 HXB.out.2
          clear hx Hn en
          go_wp2_with fail
          clear q
          obtain ⟨wa, rfl⟩ : ∃ W, W = wr := ⟨_, rfl⟩
          obtain ⟨W8, hW8⟩ : ∃ W, W = wa.alloc (.cells #[.string x.name, .int .i64 x.link] 87) := ⟨_, rfl⟩
          first | rw [← hW8] | fail "world9"
          have bx : Below wa.heap.size wa W8 := by rw [hW8]; exact balloc _ _
          have BX : Box W8 wa.heap.size #[.string x.name, .int .i64 x.link] 87 := by rw [hW8]; exact Box.new _ _ _
          have BA := BA.below bx
          have acc := acc.below bx
          have hs := Nat.le_trans hs bx.size
          have hb := bthen hb bx
          clear hW8 bx hc0 hc1
          have g0 := fun y => gr_cell (w := W8) (BX.cell 0) y
          have g1 := fun y => gr_cell (w := W8) (BX.cell 1) y
          refine rg_region [0, 1, 2, 3, 4, 5, 6, 7, 8, 9] [10] (lo := (.cons _ .nil)) (by rfl) (tAt 7 (eVal (.string (decZ x.link))) tNil) (by kernel_rfl) (by rfl) (by kernel_rfl) ?_
          refine rg_quiet anti_end [0, 1, 2, 3, 4, 5, 6] [7, 8, 9] (lo := (.cons _ (.cons _ (.cons _ (.cons _ (.cons _ (.cons _ (.cons _ .nil)))))))) (by rfl) (by kernel_rfl) ?_
          repeat (go_big_quiet_step (fail))
          refine wpQuiet_nil ?_
          refine rg_call 7 rfl rfl 87 #[.int .i64 x.link] ?_ ?_ ?_
          · intro w; first | (simp [go_sem]; done) | (simp [go_sem]; rfl) | rfl
          · rintro w' ⟨y, rfl⟩ hd
            refine (decZ_ct _ HXB.out.1 HXB.out.2 _ (TabIs.below HTB.out (bthen hb (gr_below _ _)))).mono ?_
            rintro e w3 ⟨rfl, bb⟩
            exact ⟨_, rfl, bb, rfl⟩
          intro v hv
          obtain rfl : v = .string (decZ x.link) := hv
          simp only [Act.put, List.setIfInBounds_toArray, List.set_cons_zero, List.set_cons_succ]
          refine rg_quiet anti_end [8, 9] [] (lo := (.cons _ (.cons _ .nil))) (by rfl) (by kernel_rfl) ?_
          repeat (go_big_quiet_step (fail))
          refine wpQuiet_nil ?_
          intro w4 U hb4 hF
          clear hF g0 g1 BX
          have BA := BA.below hb4
          have acc := acc.below hb4
          have hs := Nat.le_trans hs hb4.size
          have hb := bthen hb hb4
          clear hb4
          go_wp2_with fail
          go_roundw
          case rel => exact ⟨k + 1, by omega, by go_num, by rw [HW.out]; rfl, hb, hs, BA, acc⟩
          case measure => simp [intOf]; omega
        · have e : k = b.inner.length := by omega
          subst e
          have HT : Hid (strRows (allT sig b) = strRows (p2T sig b) ++ [[.string (innT b b.inner.length)]]) := by show _ = _; rw [allT_eq]; unfold strRows; simp
          go_wp2_with (at_builtin; refine appR _ rfl (.tmp 72) (.tmp 74) 26 rfl n0 9 1 16 1 (.string ⟨#[]⟩) Tryz.underlying26 inf_str rfl (by decide) (by decide) _ (strRows (p2T sig b)) (by rfl) (acc.below (balloc _ _)) _ [[.string (innT b b.inner.length)]] (by rfl) (rowAt_one (row := [.string (innT b b.inner.length)]) (heap_alloc_new _ _) (by decide)) (by simp [Value.oneCell']) (by rw [HL.out]; simp; omega) (Nat.le_trans hs (balloc _ _).size) ?_)
          intro v5 w5 acc5 hg _
          rw [← HT.out] at acc5
          have accA := acc.below (balloc wr (.cells #[.string (innT b b.inner.length)] 9))
          have hb5 := grown_below (bthen hb (balloc _ _)) accA hg (by omega) (bthen hb (balloc _ _)).size
          have hst : StrsAt w5 v5 (allT sig b) := ⟨acc5.own.row (by rw [len_strRows, allT_eq, List.length_append, p2T_len]; simp; omega), allT_size HG.out⟩
          have HST := Lib.hid hst
          clear hb BA acc hg hs accA HT HL q hst acc5
          go_wp2_with fail
          refine (joinT_ct _ (allT sig b) tSc _ HST.out (by rw [allT_eq]; simp) (by rw [text_parts]; have := textL_size HG.out; omega)).mono ?_
          rintro e w6 ⟨rfl, hb6⟩
          have hb := bthen hb5 hb6
          rw [text_parts]
          go_wp2_with fail
          go_ret
          exact ⟨rfl, hb⟩
end Go.Proofs.YthgelhglfbgagaaGreatDoor
