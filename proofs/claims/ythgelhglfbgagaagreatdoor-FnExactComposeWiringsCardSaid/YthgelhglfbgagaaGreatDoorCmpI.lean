/- One wiring after another: the program's. -/
import Derived.Test.YthgelhglfbgagaaGreatDoorCmpP
import Derived.Test.YthgelhglfbgagaaGreatDoorRelink
import Derived.Test.YthgelhglfbgagaaGreatDoorG2
import Derived.Test.YthgelhglfbgagaaGreatDoorG4
import Derived.Test.YthgelhglfbgagaaGreatDoorG1
import Derived.Deep.RegionHeld3
namespace Go.Proofs.YthgelhglfbgagaaGreatDoor
open Go Go.RowKit Go.BigFrame

theorem isW_ct (vs v : Value) (sig : List Ctl) (b : Big) (r : Bool) (w : World) (h : Ctx w vs v sig b) (hr : goodWB sig b = r) :
    Calls Tryz.prog 65 #[vs, v] w fun e w' => e = .returned (.bool r) ∧ Below w.heap.size w w' := implIsWiring_ct vs v sig b r w h hr
set_option maxRecDepth 100000 in
set_option maxHeartbeats 2000000 in
theorem idCl_ct (p : Int) (s : ByteArray) (W : World) : Calls Tryz.prog 130 (#[.agg #[.int .i64 p, .string s]] ++ #[]) W fun e w' => e = .returned (.agg #[.int .i64 p, .string s]) ∧ Below W.heap.size W w' := by
  show Calls Tryz.prog 130 #[.agg #[.int .i64 p, .string s]] W _
  go_enter Tryz.func130, Tryz.ntmps130
  go_wp2_with fail
  refine bodyPost_ret (v := .agg #[.int .i64 p, .string s]) (by simp [results, Tryz.results130, go_sem]) rfl ⟨rfl, ?_⟩
  repeat (first | exact Below.refl _ _ | refine Below.alloc ?_ (by simp <;> omega) _ | refine Below.setCell ?_ (by simp <;> omega) _)
set_option maxRecDepth 100000 in
set_option maxHeartbeats 4000000 in
theorem cmpName_ct {sig : List Ctl} {a b : Big} (F : Fit2 sig a b) {p1 p2 p3 p4 na : Option Addr} {r1 r2 r3 r4 nc ga gn : Nat} {k : Nat} {x : Wr} {s : ByteArray} (hk : Lib.idxOfS (innerN a) s = k) (hx : a.inner[k]? = some x) (hl : 0 ≤ x.link ∧ x.link < a.edges + a.outer.length) (W : World)
    (BA : Box W ga #[.int .i64 a.roots, .slice p1 a.nodes.length r1, .slice p2 a.sites.length r2, .int .i64 a.edges, .slice p3 a.outer.length r3, .slice p4 a.inner.length r4] 29) (BN : Box W gn #[.slice na (innerN a).length nc] 26) (h2 : BigAt W (.agg #[.int .i64 a.roots, .slice p1 a.nodes.length r1, .slice p2 a.sites.length r2, .int .i64 a.edges, .slice p3 a.outer.length r3, .slice p4 a.inner.length r4]) a) (hn : StrsAt W (.slice na (innerN a).length nc) (innerN a)) :
    Calls Tryz.prog 111 #[.string s, .pointer (some ⟨ga, 0, none⟩), .pointer (some ⟨gn, 0, none⟩)] W fun e w' => e = .returned (.agg #[.int .i64 (endB a x.link).1, .string (endB a x.link).2]) ∧ Below W.heap.size W w' := by
  have ea := F.ga.bds.edges
  have eo := F.ga.bds.outer
  have hw4 := (BigAt.fields h2).2.2.2.1
  obtain ⟨_, _, ew, _, _, Hw⟩ := hw4.open
  obtain ⟨rfl, rfl⟩ := (by simpa using ew : p4 = _ ∧ r4 = _)
  obtain ⟨_, _, ob, oo, rfl, hc0, hc1⟩ := Hw k x hx
  have hkl := (List.getElem?_eq_some_iff.1 hx).1
  have HK := Lib.hid hk
  have HL := Lib.hid hl
  have H2 := Lib.hid h2
  have HN := Lib.hid hn
  clear ew hw4 Hw hk hl h2 hn hx
  go_enter Tryz.func111, Tryz.ntmps111
  go_wp2_with fail
  obtain ⟨W0, hW0⟩ : ∃ V, V = W.alloc (.cells #[.int .i64 0, .string ⟨#[]⟩] 134) := ⟨_, rfl⟩
  rw [← hW0]
  have BR : Box W0 W.heap.size #[.int .i64 0, .string ⟨#[]⟩] 134 := by rw [hW0]; exact Box.new _ _ _
  have hb : Below W.heap.size W W0 := by rw [hW0]; exact balloc _ _
  have BA := BA.below hb
  have BN := BN.below hb
  have hc1 := (hb.cell (World.block_lt_of_cell? W _ hc1)).trans hc1
  clear hW0 hc0
  have g0 := fun y => gr_cell (w := W0) (BA.cell 0) y
  have g1 := fun y => gr_cell (w := W0) (BA.cell 1) y
  have g2 := fun y => gr_cell (w := W0) (BA.cell 2) y
  have g3 := fun y => gr_cell (w := W0) (BA.cell 3) y
  have g4 := fun y => gr_cell (w := W0) (BA.cell 4) y
  have g5 := fun y => gr_cell (w := W0) (BA.cell 5) y
  have gN := fun y => gr_cell (w := W0) (BN.cell 0) y
  have gC := fun y => gr_cell (w := W0) hc1 y
  refine rg_region [0, 1, 2, 3, 4, 5, 6, 7, 8, 9] [10] (lo := (.cons _ .nil)) (by rfl) (tAt 5 (eVal (.int .i64 (k : Int))) (tAt 9 (eVal (.agg #[.int .i64 (endB a x.link).1, .string (endB a x.link).2])) tNil)) (by kernel_rfl) (by rfl) (by kernel_rfl) ?_
  refine rg_quiet anti_end [0, 1, 2, 3, 4] [5, 6, 7, 8, 9] (lo := (.cons _ (.cons _ (.cons _ (.cons _ (.cons _ .nil)))))) (by rfl) (by kernel_rfl) ?_
  repeat (go_big_quiet_step (fail))
  refine wpQuiet_nil ?_
  refine rg_call 5 rfl rfl 113 #[.slice na (innerN a).length nc, .string s] ?_ ?_ ?_
  · intro w; simp [go_sem]
  · rintro w' ⟨y, rfl⟩ hd
    refine (sIndex_ct _ (innerN a) s _ (HN.out.below (bthen hb (gr_below _ _)))).mono ?_
    rintro e w3 ⟨rfl, rfl⟩
    exact ⟨_, rfl, Below.refl _ _, by rw [HK.out]; rfl⟩
  intro v hv
  obtain rfl : v = .int .i64 (k : Int) := hv
  simp only [Act.put, List.setIfInBounds_toArray, List.set_cons_zero, List.set_cons_succ]
  refine rg_quiet anti_end [6, 7, 8] [9] (lo := (.cons _ (.cons _ (.cons _ .nil)))) (by rfl) (by kernel_rfl) ?_
  repeat (go_big_quiet_step (fail))
  refine wpQuiet_nil ?_
  refine rg_call 9 rfl rfl 112 #[.agg #[.int .i64 a.roots, .slice p1 a.nodes.length r1, .slice p2 a.sites.length r2, .int .i64 a.edges, .slice p3 a.outer.length r3, .slice (some ⟨ob, oo, none⟩) a.inner.length r4], .int .i64 x.link] ?_ ?_ ?_
  · intro w; simp [go_sem]
  · rintro w' ⟨y, rfl⟩ hd
    refine (endOf_ct _ a x.link _ _ _ (H2.out.below (bthen hb (gr_below _ _))) HL.out (by omega) (by omega) rfl).mono ?_
    rintro e w3 ⟨rfl, bb⟩
    exact ⟨_, rfl, bb, rfl⟩
  intro v hv
  obtain rfl : v = .agg #[.int .i64 (endB a x.link).1, .string (endB a x.link).2] := hv
  simp only [Act.put, List.setIfInBounds_toArray, List.set_cons_zero, List.set_cons_succ]
  intro w4 U hb4 hF
  have BR := BR.below hb4
  have hb := bthen hb hb4
  have q := BR.cell
  have f := BR.free
  clear g0 g1 g2 g3 g4 g5 gN gC hF
  go_wp2_with fail
  refine bodyPost_ret (v := .agg #[.int .i64 (endB a x.link).1, .string (endB a x.link).2]) (by simp [results, Tryz.results111, go_sem, q]) rfl ⟨rfl, ?_⟩
  iterate 2 refine Below.setCell ?_ (by dsimp only; omega) _
  exact hb
set_option maxRecDepth 100000 in
set_option maxHeartbeats 4000000 in
theorem turnCl_ct {sig : List Ctl} {a b : Big} (F : Fit2 sig a b) {p1 p2 p3 p4 na : Option Addr} {r1 r2 r3 r4 nc ga gn g7 g13 : Nat} {l : Int} (hl : 0 ≤ l ∧ l < b.edges + b.outer.length) (W : World)
    (B7 : Box W g7 #[.int .i64 a.roots, .slice p1 a.nodes.length r1, .slice p2 a.sites.length r2, .int .i64 a.edges, .slice p3 a.outer.length r3, .slice p4 a.inner.length r4] 29) (B13 : Box W g13 #[.func (.func 111) #[] #[.pointer (some ⟨ga, 0, none⟩), .pointer (some ⟨gn, 0, none⟩)]] 137) (BA : Box W ga #[.int .i64 a.roots, .slice p1 a.nodes.length r1, .slice p2 a.sites.length r2, .int .i64 a.edges, .slice p3 a.outer.length r3, .slice p4 a.inner.length r4] 29) (BN : Box W gn #[.slice na (innerN a).length nc] 26) (h2 : BigAt W (.agg #[.int .i64 a.roots, .slice p1 a.nodes.length r1, .slice p2 a.sites.length r2, .int .i64 a.edges, .slice p3 a.outer.length r3, .slice p4 a.inner.length r4]) a) (hn : StrsAt W (.slice na (innerN a).length nc) (innerN a)) :
    Calls Tryz.prog 131 (#[.agg #[.int .i64 (endB b l).1, .string (endB b l).2]] ++ #[.pointer (some ⟨g7, 0, none⟩), .pointer (some ⟨g13, 0, none⟩)]) W fun e w' => e = .returned (.agg #[.int .i64 (cmpE a (endB b l)).1, .string (cmpE a (endB b l)).2]) ∧ Below W.heap.size W w' := by
  show Calls Tryz.prog 131 #[.agg #[.int .i64 (endB b l).1, .string (endB b l).2], .pointer (some ⟨g7, 0, none⟩), .pointer (some ⟨g13, 0, none⟩)] W _
  have hE := F.end_ hl
  obtain ⟨_, hE2, hE3, hE4⟩ := hE
  have ea := F.ga.bds.edges
  have q7 := B7.cell
  have q13 := B13.cell
  have l7 := B7.lt
  have l13 := B13.lt
  obtain ⟨P, hP⟩ : ∃ P, P = (endB b l).1 := ⟨_, rfl⟩
  obtain ⟨S, hS⟩ : ∃ S, S = (endB b l).2 := ⟨_, rfl⟩
  have hpr : endB b l = (P, S) := by rw [hP, hS]
  rw [← hS] at hE2
  rw [← hP] at hE3 hE4
  rw [← hP, ← hS, hpr]
  clear hP hS hpr
  by_cases hz : S = ⟨#[]⟩
  · subst hz
    have HN : Hid (cmpE a (P, ⟨#[]⟩) = (P + a.edges, ⟨#[]⟩)) := by show _ = _; unfold cmpE; rw [if_pos rfl]
    rw [HN.out]
    have hz' : (⟨#[]⟩ : ByteArray).toList.isEmpty = true := by rw [ByteArray.toList_eq]; rfl
    have e1 : IntKind.i64.wrap (P + a.edges) = P + a.edges := Go.IntWalk.i64_in _ (by omega)
    clear hE2 h2 hn BA BN
    go_enter Tryz.func131, Tryz.ntmps131
    go_wp2_with fail
    refine bodyPost_ret (v := .agg #[.int .i64 (P + a.edges), .string ⟨#[]⟩]) (by simp [results, Tryz.results131, go_sem]) rfl ⟨rfl, ?_⟩
    repeat (first | exact Below.refl _ _ | refine Below.alloc ?_ (by simp <;> omega) _ | refine Below.setCell ?_ (by simp <;> omega) _)
  · have hz' : S.toList.isEmpty = false := by
      cases hh : S.toList.isEmpty with
      | false => rfl
      | true =>
        exfalso; apply hz
        apply ba_inj
        rw [ByteArray.toList_eq] at hh
        simpa using hh
    obtain ⟨k, x, hk, hx, hlk, hxl⟩ := hE2 hz
    have HN : Hid (cmpE a (P, S) = endB a x.link) := by show _ = _; unfold cmpE; rw [if_neg hz]; show endB a (lnkAt a (Lib.idxOfS (innerN a) S).toNat) = _; rw [hk, Int.toNat_natCast, hlk]
    rw [HN.out]
    obtain ⟨W0, hW0⟩ : ∃ V, V = (W.alloc (.cells #[.int .i64 P, .string S] 134)).alloc (.cells #[.int .i64 0, .string ⟨#[]⟩] 134) := ⟨_, rfl⟩
    have BR : Box W0 (W.heap.size + 1) #[.int .i64 0, .string ⟨#[]⟩] 134 := by rw [hW0]; exact Box.new' _ _ _ (by simp)
    have hb : Below W.heap.size W W0 := by rw [hW0]; exact bthen (balloc _ _) (balloc _ _)
    have HCT := Lib.hid (cmpName_ct F hk hx hxl W0 (BA.below hb) (BN.below hb) (h2.below hb) (hn.below hb))
    clear hE2 h2 hn hz hk hx hlk hxl BA BN
    go_enter Tryz.func131, Tryz.ntmps131
    go_wp2_with fail
    rw [← hW0]
    clear hW0
    refine HCT.out.mono ?_
    rintro e w3 ⟨rfl, bb⟩
    have BR := BR.below bb
    have hb := bthen hb bb
    have q := BR.cell
    have f := BR.free
    clear HCT bb q7 q13
    go_wp2_with fail
    refine bodyPost_ret (v := .agg #[.int .i64 (endB a x.link).1, .string (endB a x.link).2]) (by simp [results, Tryz.results131, go_sem, q]) rfl ⟨rfl, ?_⟩
    iterate 2 refine Below.setCell ?_ (by dsimp only; omega) _
    exact hb
/-- It reads as b wherever the blocks from B on are as in w. -/
def BigFrom (B : Nat) (w : World) (v : Value) (b : Big) : Prop := ∀ w' : World, (∀ g, B ≤ g → g < w.heap.size → w'.heap[g]? = w.heap[g]?) → BigAt w' v b
theorem left_bd {a : Big} (hD : Bds a) {E : Int} (hE : 0 ≤ E ∧ E ≤ 1000) {l : Int} (hl : 0 ≤ l ∧ l < a.edges + a.outer.length) : I64 (endL E (sortU a.outer) (endB a l)) := by
  have h1 := hD.edges
  have h2 := hD.outer
  have h3 := idx_bd (sortU a.outer) (endB a l).2
  have h4 := sortU_len a.outer
  have h5 : 0 ≤ (endB a l).1 ∧ (endB a l).1 ≤ 1000 := by unfold endB; split <;> dsimp only <;> omega
  unfold endL I64
  split <;> omega
set_option maxRecDepth 100000 in
set_option maxHeartbeats 16000000 in
theorem joined_ct {sig : List Ctl} {a b : Big} (F : Fit2 sig a b) {p1 p2 p3 p4 q1 q2 q3 q4 na : Option Addr} {r1 r2 r3 r4 s1 s2 s3 s4 nc ga gn : Nat} (pl : Value) (w : World)
    (BA : Box w ga #[.int .i64 a.roots, .slice p1 a.nodes.length r1, .slice p2 a.sites.length r2, .int .i64 a.edges, .slice p3 a.outer.length r3, .slice p4 a.inner.length r4] 29) (BN : Box w gn #[.slice na (innerN a).length nc] 26) (h2 : BigAt w (.agg #[.int .i64 a.roots, .slice p1 a.nodes.length r1, .slice p2 a.sites.length r2, .int .i64 a.edges, .slice p3 a.outer.length r3, .slice p4 a.inner.length r4]) a) (h3 : BigAt w (.agg #[.int .i64 b.roots, .slice q1 b.nodes.length s1, .slice q2 b.sites.length s2, .int .i64 b.edges, .slice q3 b.outer.length s3, .slice q4 b.inner.length s4]) b) (hn : StrsAt w (.slice na (innerN a).length nc) (innerN a)) :
    Calls Tryz.prog 109 #[.agg #[.int .i64 a.roots, .slice p1 a.nodes.length r1, .slice p2 a.sites.length r2, .int .i64 a.edges, .slice p3 a.outer.length r3, .slice p4 a.inner.length r4], .agg #[.int .i64 b.roots, .slice q1 b.nodes.length s1, .slice q2 b.sites.length s2, .int .i64 b.edges, .slice q3 b.outer.length s3, .slice q4 b.inner.length s4], .int .i64 a.roots, .slice none 0 0, .slice p3 a.outer.length r3, pl, .func (.func 111) #[] #[.pointer (some ⟨ga, 0, none⟩), .pointer (some ⟨gn, 0, none⟩)]] w fun e w' => ∃ u, e = .returned u ∧ BigFrom w.heap.size w' u (cmpR a b) ∧ Below w.heap.size w w' := by
  have hDa := F.ga.bds
  have hDb := F.gb.bds
  have ea := hDa.edges
  have eb := hDb.edges
  have eo := hDa.outer
  have ei := hDb.inner
  have hnb := (F.gb.none F.rb).1
  have hsb := (F.gb.none F.rb).2
  have hna := (F.ga.none F.ra).1
  have ho := (BigAt.fields h2).2.2.1
  have HRA := Lib.hid F.ra
  obtain ⟨W0, hW0⟩ : ∃ V, V = (((w.alloc (.cells #[.int .i64 a.roots, .slice p1 a.nodes.length r1, .slice p2 a.sites.length r2, .int .i64 a.edges, .slice p3 a.outer.length r3, .slice p4 a.inner.length r4] 29)).alloc (.cells #[.int .i64 b.roots, .slice q1 b.nodes.length s1, .slice q2 b.sites.length s2, .int .i64 b.edges, .slice q3 b.outer.length s3, .slice q4 b.inner.length s4] 29)).alloc (.cells #[.func (.func 111) #[] #[.pointer (some ⟨ga, 0, none⟩), .pointer (some ⟨gn, 0, none⟩)]] 137)).alloc (.cells #[.int .i64 0, .slice none 0 0, .slice none 0 0, .int .i64 0, .slice none 0 0, .slice none 0 0] 29) := ⟨_, rfl⟩
  have B7 : Box W0 w.heap.size #[.int .i64 a.roots, .slice p1 a.nodes.length r1, .slice p2 a.sites.length r2, .int .i64 a.edges, .slice p3 a.outer.length r3, .slice p4 a.inner.length r4] 29 := by rw [hW0]; exact (((Box.new _ _ _).alloc _).alloc _).alloc _
  have B8 : Box W0 (w.heap.size + 1) #[.int .i64 b.roots, .slice q1 b.nodes.length s1, .slice q2 b.sites.length s2, .int .i64 b.edges, .slice q3 b.outer.length s3, .slice q4 b.inner.length s4] 29 := by rw [hW0]; exact ((Box.new' _ _ _ (by simp)).alloc _).alloc _
  have B13 : Box W0 (w.heap.size + 1 + 1) #[.func (.func 111) #[] #[.pointer (some ⟨ga, 0, none⟩), .pointer (some ⟨gn, 0, none⟩)]] 137 := by rw [hW0]; exact (Box.new' _ _ _ (by simp)).alloc _
  have BR : Box W0 (w.heap.size + 1 + 1 + 1) #[.int .i64 0, .slice none 0 0, .slice none 0 0, .int .i64 0, .slice none 0 0, .slice none 0 0] 29 := by rw [hW0]; exact Box.new' _ _ _ (by simp)
  have hb : Below w.heap.size w W0 := by rw [hW0]; exact bthen (balloc _ _) (bthen (balloc _ _) (bthen (balloc _ _) (balloc _ _)))
  have hs0 : w.heap.size + 4 ≤ W0.heap.size := by rw [hW0]; simp
  obtain ⟨E, hE⟩ : ∃ E, E = a.edges + b.edges := ⟨_, rfl⟩
  have hE1 : 0 ≤ E ∧ E ≤ 1000 := by omega
  have HLF := Lib.hid (fun (V : World) (hV : BigAt V (.agg #[.int .i64 a.roots, .slice p1 a.nodes.length r1, .slice p2 a.sites.length r2, .int .i64 a.edges, .slice p3 a.outer.length r3, .slice p4 a.inner.length r4]) a) (hoV : StrsAt V (.slice p3 a.outer.length r3) a.outer) => relinked_ct 130 #[] (by intros; rfl) id (fun l => endL E (sortU a.outer) (endB a l)) (.agg #[.int .i64 a.roots, .slice p1 a.nodes.length r1, .slice p2 a.sites.length r2, .int .i64 a.edges, .slice p3 a.outer.length r3, .slice p4 a.inner.length r4]) (.slice p3 a.outer.length r3) a E a.outer V hV hoV hDa hE1 (by omega) (fun l _ W' _ => idCl_ct _ _ W') (fun l _ => rfl) (fun l hu => left_bd hDa hE1 (used_bd hDa hu)))
  have HRT := Lib.hid (fun (V : World) (hV : BigAt V (.agg #[.int .i64 b.roots, .slice q1 b.nodes.length s1, .slice q2 b.sites.length s2, .int .i64 b.edges, .slice q3 b.outer.length s3, .slice q4 b.inner.length s4]) b) (hoV : StrsAt V (.slice p3 a.outer.length r3) a.outer) (hA : BigAt V (.agg #[.int .i64 a.roots, .slice p1 a.nodes.length r1, .slice p2 a.sites.length r2, .int .i64 a.edges, .slice p3 a.outer.length r3, .slice p4 a.inner.length r4]) a) (hnV : StrsAt V (.slice na (innerN a).length nc) (innerN a)) (B7 : Box V w.heap.size #[.int .i64 a.roots, .slice p1 a.nodes.length r1, .slice p2 a.sites.length r2, .int .i64 a.edges, .slice p3 a.outer.length r3, .slice p4 a.inner.length r4] 29) (B13 : Box V (w.heap.size + 1 + 1) #[.func (.func 111) #[] #[.pointer (some ⟨ga, 0, none⟩), .pointer (some ⟨gn, 0, none⟩)]] 137) (BA : Box V ga #[.int .i64 a.roots, .slice p1 a.nodes.length r1, .slice p2 a.sites.length r2, .int .i64 a.edges, .slice p3 a.outer.length r3, .slice p4 a.inner.length r4] 29) (BN : Box V gn #[.slice na (innerN a).length nc] 26) => relinked_ct 131 #[.pointer (some ⟨w.heap.size, 0, none⟩), .pointer (some ⟨w.heap.size + 1 + 1, 0, none⟩)] (by intros; rfl) (cmpE a) (thrF a b) (.agg #[.int .i64 b.roots, .slice q1 b.nodes.length s1, .slice q2 b.sites.length s2, .int .i64 b.edges, .slice q3 b.outer.length s3, .slice q4 b.inner.length s4]) (.slice p3 a.outer.length r3) b E a.outer V hV hoV hDb hE1 (by omega) (fun l hu W' hb' => turnCl_ct F (used_bd hDb hu) W' (B7.below hb') (B13.below hb') (BA.below hb') (BN.below hb') (hA.below hb') (hnV.below hb')) (fun l hu => by rw [hE]; exact (F.end_ (used_bd hDb hu)).1) (fun l hu => by have := F.bd (used_bd hDb hu); unfold I64; omega))
  have H2 := Lib.hid h2
  have H3 := Lib.hid h3
  have HN := Lib.hid hn
  have HO := Lib.hid ho
  have HRES : Hid (cmpR a b = ⟨0, [], [], E, sortU a.outer, b.inner.map fun x => { x with link := thrF a b x.link }⟩) := by show _ = _; rw [hE, sortU_self F.ga.ascC]; rfl
  have HNB : Hid ((relB b E (sortU a.outer) (thrF a b)).nodes = []) := by show _ = _; unfold relB; rw [hnb]; rfl
  have HNA : Hid ((relB a E (sortU a.outer) (fun l => endL E (sortU a.outer) (endB a l))).nodes = []) := by show _ = _; unfold relB; rw [hna]; rfl
  have HSB : Hid (b.sites.length = 0) := by show _ = _; rw [hsb]; rfl
  have hsl := sortU_len a.outer
  have e1 : IntKind.i64.wrap (a.edges + b.edges) = a.edges + b.edges := Go.IntWalk.i64_in _ (by omega)
  have HE := Lib.hid hE
  have q7 := B7.cell
  have q8 := B8.cell
  rw [HRES.out]
  clear h2 h3 hn ho hDa hDb hnb hsb hna hE
  go_enter Tryz.func109, Tryz.ntmps109
  go_wp2_with fail
  rw [← hW0, ← HE.out]
  clear hW0 e1
  refine (HLF.out _ (H2.out.below hb) (HO.out.below hb)).mono ?_
  rintro e w1 ⟨u1, bs1, rfl, hB1, hN1, b1⟩
  obtain ⟨LB, hLB⟩ : ∃ L, L = relB a E (sortU a.outer) (fun l => endL E (sortU a.outer) (endB a l)) := ⟨_, rfl⟩
  rw [← hLB] at hB1
  have hl1 : LB.nodes.length = 0 := by rw [hLB, HNA.out]; rfl
  have hl2 : LB.outer = sortU a.outer := by rw [hLB]; rfl
  obtain ⟨d1, k1, d2, k2, d3, k3, d4, k4, rfl⟩ := hB1.at.shape
  rw [hl1, hl2] at hB1 ⊢
  have HL1 := Lib.hid hl1
  have HL2 := Lib.hid hl2
  clear hLB hl1 hl2
  have B7 := B7.below b1
  have B8 := B8.below b1
  have B13 := B13.below b1
  have BR := BR.below b1
  have hb := bthen hb b1
  have hB1 := hB1.mono (B' := w.heap.size + 4) hs0
  have hs := Nat.le_trans hs0 b1.size
  have q8 := (B8.alloc (.cells #[.int .i64 LB.roots, .slice d1 0 k1, .slice d2 LB.sites.length k2, .int .i64 LB.edges, .slice d3 (sortU a.outer).length k3, .slice d4 LB.inner.length k4] 29)).cell
  have hlt1 := hB1.lt
  clear b1 hs0 HLF q7
  go_wp2_with fail
  obtain ⟨W2, hW2⟩ : ∃ V, V = w1.alloc (.cells #[.int .i64 LB.roots, .slice d1 0 k1, .slice d2 LB.sites.length k2, .int .i64 LB.edges, .slice d3 (sortU a.outer).length k3, .slice d4 LB.inner.length k4] 29) := ⟨_, rfl⟩
  first | rw [← hW2] | fail "W2"
  have b2 : Below w1.heap.size w1 W2 := by rw [hW2]; exact balloc _ _
  obtain ⟨gl, hgl⟩ : ∃ g, g = w1.heap.size := ⟨_, rfl⟩
  have BL : Box W2 gl #[.int .i64 LB.roots, .slice d1 0 k1, .slice d2 LB.sites.length k2, .int .i64 LB.edges, .slice d3 (sortU a.outer).length k3, .slice d4 LB.inner.length k4] 29 := by rw [hW2]; exact Box.new' _ _ _ hgl
  have B7 := B7.below b2
  have B8 := B8.below b2
  have B13 := B13.below b2
  have BR := BR.below b2
  have hB1 := hB1.keep (keep_below b2 (fun p hp => (hlt1 p hp).2))
  have hb := bthen hb b2
  have hgs : w.heap.size + 4 ≤ gl := by omega
  have hs := Nat.le_trans hs b2.size
  rw [← hgl]
  clear b2 hW2 hlt1 q8 hgl
  have q8 := B8.cell
  try go_wp2_with fail
  refine (HRT.out _ (H3.out.below hb) (HO.out.below hb) (H2.out.below hb) (HN.out.below hb) B7 B13 (BA.below hb) (BN.below hb)).mono ?_
  rintro e w3 ⟨u2, bs2, rfl, hB2, hN2, b3⟩
  obtain ⟨RB, hRB⟩ : ∃ L, L = relB b E (sortU a.outer) (thrF a b) := ⟨_, rfl⟩
  rw [← hRB] at hB2
  have hr1 : RB.nodes.length = 0 := by rw [hRB, HNB.out]; rfl
  have hr2 : RB.inner = b.inner.map fun x => { x with link := thrF a b x.link } := by rw [hRB]; rfl
  obtain ⟨f1, m1, f2, m2, f3, m3, f4, m4, rfl⟩ := hB2.at.shape
  rw [hr1] at hB2 ⊢
  have HR1 := Lib.hid hr1
  have HR2 := Lib.hid hr2
  clear hRB hr1 hr2
  have hlt1 := hB1.lt
  have hB1 := hB1.keep (keep_below b3 (fun p hp => (hlt1 p hp).2))
  have B8 := B8.below b3
  have BR := BR.below b3
  have BL := BL.below b3
  have hb := bthen hb b3
  have hB2 := hB2.mono (B' := w.heap.size + 4) hs
  have hs := Nat.le_trans hs b3.size
  have hlt2 := hB2.lt
  clear b3 HRT q8 B7 B13
  go_wp2_with fail
  obtain ⟨W4, hW4⟩ : ∃ V, V = w3.alloc (.cells #[.int .i64 RB.roots, .slice f1 0 m1, .slice f2 RB.sites.length m2, .int .i64 RB.edges, .slice f3 RB.outer.length m3, .slice f4 RB.inner.length m4] 29) := ⟨_, rfl⟩
  first | rw [← hW4] | fail "W4"
  have b4 : Below w3.heap.size w3 W4 := by rw [hW4]; exact balloc _ _
  obtain ⟨gr4, hgr⟩ : ∃ g, g = w3.heap.size := ⟨_, rfl⟩
  have BT4 : Box W4 gr4 #[.int .i64 RB.roots, .slice f1 0 m1, .slice f2 RB.sites.length m2, .int .i64 RB.edges, .slice f3 RB.outer.length m3, .slice f4 RB.inner.length m4] 29 := by rw [hW4]; exact Box.new' _ _ _ hgr
  have hlt1 := hB1.lt
  have hB1 := hB1.keep (keep_below b4 (fun p hp => (hlt1 p hp).2))
  have hB2 := hB2.keep (keep_below b4 (fun p hp => (hlt2 p hp).2))
  have B8 := B8.below b4
  have BR := BR.below b4
  have BL := BL.below b4
  have hb := bthen hb b4
  have hgs4 : w.heap.size + 4 ≤ gr4 := by omega
  have hs := Nat.le_trans hs b4.size
  rw [← hgr]
  clear b4 hW4 hlt1 hlt2 hgr
  have gL1 := fun y => gr_cell (w := W4) (BL.cell 1) y
  have gL4 := fun y => gr_cell (w := W4) (BL.cell 4) y
  have gR5 := fun y => gr_cell (w := W4) (BT4.cell 5) y
  refine rg_region [0, 1, 2, 3, 4, 5, 6, 7, 8, 9, 10, 11] [12] (lo := (.cons _ .nil)) (by rfl) (tAt 4 (eRow W4.heap.size 1 0 (intRows []) rfl) (tAt 11 (ePtr W4.heap.size #[.int .i64 0, .slice none 0 0, .slice none 0 0, .int .i64 0, .slice none 0 0, .slice none 0 0] 29) tNil)) (by kernel_rfl) (by rfl) (by kernel_rfl) ?_
  refine rg_quiet anti_end [0, 1, 2, 3] [4, 5, 6, 7, 8, 9, 10, 11] (lo := (.cons _ (.cons _ (.cons _ (.cons _ .nil))))) (by rfl) (by kernel_rfl) ?_
  repeat (go_big_quiet_step (fail))
  refine wpQuiet_nil ?_
  refine rg_call 4 rfl rfl 100 #[.slice none 0 0] ?_ ?_ ?_
  · intro w; simp [go_sem]
  · rintro w' ⟨y, rfl⟩ hd
    refine (cloneI_ct _ [] _ (ints_none 0 _).at (by decide)).mono ?_
    rintro e w5 ⟨u5, rfl, hu5, bb⟩
    exact ⟨u5, rfl, bb, gRow_of hu5 (gr_below _ _).size⟩
  intro v hv
  obtain ⟨ka, kc, rfl⟩ : ∃ a c, v = .slice a 0 c := hv
  simp only [Act.put, List.setIfInBounds_toArray, List.set_cons_zero, List.set_cons_succ]
  refine rg_quiet anti_end [5, 6, 7, 8, 9, 10] [11] (lo := (.cons _ (.cons _ (.cons _ (.cons _ (.cons _ (.cons _ .nil))))))) (by rfl) (by kernel_rfl) ?_
  repeat (go_big_quiet_step (fail))
  refine wpQuiet_nil ?_
  refine rg_made 11 rfl rfl ?_ ?_
  · rintro w' ⟨y, rfl⟩ hd
    exact ⟨_, _, by simp [go_sem]; try exact ⟨rfl, rfl⟩, balloc _ _, _, rfl, Box.new _ _ _, (gr_below _ _).size, Nat.le_refl _, by simp⟩
  intro v hv
  obtain ⟨go6, rfl⟩ : ∃ g, v = .pointer (some ⟨g, 0, none⟩) := hv
  simp only [Act.put, List.setIfInBounds_toArray, List.set_cons_zero, List.set_cons_succ]
  intro w5 U hb5 hF
  obtain ⟨UA, UB, dd, _, ⟨UC, UD, _, uu, _, hK5, cK⟩, go6', e0, BO, hgo, nU⟩ := hF
  obtain rfl : go6 = go6' := by simpa using e0
  have hK5 : RowOwn W4.heap.size w5 (.slice ka 0 kc) 1 (intRows []) := hK5
  have HG3 : Hid (∀ p ∈ blks (.slice ka 0 kc), p ≠ go6) := fun p hp e => dd p ((uu p).2 (.inr (cK p hp))) (e ▸ nU)
  clear dd uu cK nU
  have hK5 := hK5.mono hs
  clear gL1 gL4 gR5 e0
  have hlt1 := hB1.lt
  have hlt2 := hB2.lt
  have hB1 := hB1.keep (keep_below hb5 (fun p hp => (hlt1 p hp).2))
  have hB2 := hB2.keep (keep_below hb5 (fun p hp => (hlt2 p hp).2))
  have HG1 : Hid (∀ p ∈ bs1, p ≠ go6) := fun p hp e => by have := (hlt1 p hp).2; omega
  have HG2 : Hid (∀ p ∈ bs2, p ≠ go6) := fun p hp e => by have := (hlt2 p hp).2; omega
  have hgb := BO.lt
  have n1 : gr4 ≠ go6 := by have := BT4.lt; omega
  have n2 : w.heap.size + 1 ≠ go6 := by have := B8.lt; omega
  have n1' : go6 ≠ gr4 := n1.symm
  have n2' : go6 ≠ w.heap.size + 1 := n2.symm
  have B8 := B8.below hb5
  have BR := BR.below hb5
  have BT4 := BT4.below hb5
  have hb := bthen hb hb5
  have hs := Nat.le_trans hs hb5.size
  have q8 := B8.cell
  have q4 := BT4.cell
  have qO := BO.cell
  have fO := BO.free
  clear hlt1 hlt2 hb5 BL
  go_wp2_with fail
  obtain ⟨W6, hW6, BO, o6⟩ := box_fill BO (.int .i64 a.roots) (.slice d1 0 k1) (.slice ka 0 kc) (.int .i64 E) (.slice d3 (sortU a.outer).length k3) (.slice f4 RB.inner.length m4)
  rw [← hW6]
  have hlt1 := hB1.lt
  have hlt2 := hB2.lt
  have hlt3 := hK5.lt
  have hB1 := hB1.keep (fun p hp => o6.block p (hlt1 p hp).2 (fun h => HG1.out p hp (List.mem_singleton.1 h)))
  have hB2 := hB2.keep (fun p hp => o6.block p (hlt2 p hp).2 (fun h => HG2.out p hp (List.mem_singleton.1 h)))
  have hK5 := hK5.keep (fun p hp => o6.block p (hlt3 p hp).2 (fun h => HG3.out p hp (List.mem_singleton.1 h)))
  have B8 := B8.keep (o6.block _ B8.lt (fun h => n2 (List.mem_singleton.1 h)))
  have BR := BR.keep (o6.block _ BR.lt (fun h => by have := List.mem_singleton.1 h; omega))
  have hb := hb.trans (o6.below (fun p hp => by have := List.mem_singleton.1 hp; omega) (by omega))
  have hs := Nat.le_trans hs o6.size
  clear hW6 hlt1 hlt2 hlt3 q8 q4 qO fO o6 n1 n2 n1' n2' BT4
  go_loopw [51, 20] (fun i _ W => i = .int .i64 0 ∧ W = W6) (fun _ _ _ => 0)
  case atStart => exact ⟨rfl, rfl⟩
  case round =>
    obtain ⟨rfl, rfl⟩ := hrel
    have q8 := B8.cell
    have hsb := HSB.out
    rw [hsb] at q8
    go_wp2_with fail
    go_loopw [71, 22] (fun i _ W => i = .int .i64 0 ∧ W = wr) (fun _ _ _ => 0)
    case atStart => exact ⟨rfl, rfl⟩
    case round =>
      obtain ⟨rfl, rfl⟩ := hrel
      clear q8 hsb
      have qO := BO.cell
      have qR := BR.cell
      have fR := BR.free
      go_wp2_with fail
      refine bodyPost_ret (v := .agg #[.int .i64 a.roots, .slice d1 0 k1, .slice ka 0 kc, .int .i64 E, .slice d3 (sortU a.outer).length k3, .slice f4 RB.inner.length m4]) (by simp [results, Tryz.results109, go_sem, qR]) rfl ⟨_, rfl, ?_, ?_⟩
      · intro w7 hk
        have hq : ∀ (bs : List Nat), (∀ p ∈ bs, w.heap.size + 4 ≤ p ∧ p < wr.heap.size) → ∀ p ∈ bs, w7.heap[p]? = wr.heap[p]? := fun bs h p hp => by
          have := h p hp
          rw [hk p (by omega) (by simp only [size_setCell]; omega)]
          repeat rw [heap_setCell_other _ _ _ _ (by dsimp only; omega)]
        have hA1 := BigAt.fields (hB1.keep (hq _ hB1.lt)).at
        have hA2 := BigAt.fields (hB2.keep (hq _ hB2.lt)).at
        obtain ⟨n1, _, n3, _, _, _⟩ := hA1
        obtain ⟨_, _, _, n4, _, _⟩ := hA2
        have hl1' : LB.nodes = [] := List.eq_nil_of_length_eq_zero HL1.out
        rw [hl1'] at n1
        rw [HL2.out] at n3
        have hrow := (hK5.keep (hq _ (fun p hp => by have := hK5.lt p hp; omega))).row (M := 1073741824) (Nat.zero_le _)
        refine ⟨.slice d1 0 k1, .slice ka 0 kc, .slice d3 (sortU a.outer).length k3, .slice f4 RB.inner.length m4, by rw [HRA.out], n1, ?_, n3, ?_, by unfold I64; dsimp only; omega, by unfold I64; dsimp only; omega⟩
        · exact ⟨hrow, fun x hx => by cases hx⟩
        · rw [HR2.out] at n4 ⊢
          exact n4
      · iterate 6 refine Below.setCell ?_ (by dsimp only; omega) _
        exact hb
set_option maxRecDepth 100000 in
set_option maxHeartbeats 8000000 in
theorem composed_ct {sig : List Ctl} {a b : Big} (F : Fit2 sig a b) {p1 p2 p3 p4 q1 q2 q3 q4 : Option Addr} {r1 r2 r3 r4 s1 s2 s3 s4 : Nat} (w : World) (h2 : BigAt w (.agg #[.int .i64 a.roots, .slice p1 a.nodes.length r1, .slice p2 a.sites.length r2, .int .i64 a.edges, .slice p3 a.outer.length r3, .slice p4 a.inner.length r4]) a) (h3 : BigAt w (.agg #[.int .i64 b.roots, .slice q1 b.nodes.length s1, .slice q2 b.sites.length s2, .int .i64 b.edges, .slice q3 b.outer.length s3, .slice q4 b.inner.length s4]) b) :
    Calls Tryz.prog 69 #[.agg #[.int .i64 a.roots, .slice p1 a.nodes.length r1, .slice p2 a.sites.length r2, .int .i64 a.edges, .slice p3 a.outer.length r3, .slice p4 a.inner.length r4], .agg #[.int .i64 b.roots, .slice q1 b.nodes.length s1, .slice q2 b.sites.length s2, .int .i64 b.edges, .slice q3 b.outer.length s3, .slice q4 b.inner.length s4]] w fun e w' => ∃ u, e = .returned u ∧ BigFrom w.heap.size w' u (cmpR a b) ∧ Below w.heap.size w w' := by
  have hil := F.ga.bds.inner
  obtain ⟨W0, hW0⟩ : ∃ V, V = ((w.alloc (.cells #[.int .i64 a.roots, .slice p1 a.nodes.length r1, .slice p2 a.sites.length r2, .int .i64 a.edges, .slice p3 a.outer.length r3, .slice p4 a.inner.length r4] 29)).alloc (.cells #[.int .i64 b.roots, .slice q1 b.nodes.length s1, .slice q2 b.sites.length s2, .int .i64 b.edges, .slice q3 b.outer.length s3, .slice q4 b.inner.length s4] 29)).alloc (.cells #[.int .i64 0, .slice none 0 0, .slice none 0 0, .int .i64 0, .slice none 0 0, .slice none 0 0] 29) := ⟨_, rfl⟩
  have BA : Box W0 w.heap.size #[.int .i64 a.roots, .slice p1 a.nodes.length r1, .slice p2 a.sites.length r2, .int .i64 a.edges, .slice p3 a.outer.length r3, .slice p4 a.inner.length r4] 29 := by rw [hW0]; exact ((Box.new _ _ _).alloc _).alloc _
  have BB : Box W0 (w.heap.size + 1) #[.int .i64 b.roots, .slice q1 b.nodes.length s1, .slice q2 b.sites.length s2, .int .i64 b.edges, .slice q3 b.outer.length s3, .slice q4 b.inner.length s4] 29 := by rw [hW0]; exact (Box.new' _ _ _ (by simp)).alloc _
  have BR : Box W0 (w.heap.size + 1 + 1) #[.int .i64 0, .slice none 0 0, .slice none 0 0, .int .i64 0, .slice none 0 0, .slice none 0 0] 29 := by rw [hW0]; exact Box.new' _ _ _ (by simp)
  have hb : Below w.heap.size w W0 := by rw [hW0]; exact bthen (balloc _ _) (bthen (balloc _ _) (balloc _ _))
  have hs0 : w.heap.size + 3 ≤ W0.heap.size := by rw [hW0]; simp
  have H2 := Lib.hid h2
  have H3 := Lib.hid h3
  have q := BA.cell
  clear h2 h3
  go_enter Tryz.func69, Tryz.ntmps69
  go_wp2_with fail
  rw [← hW0]
  clear hW0
  refine (innerNames_ct _ a _ (H2.out.below hb) (by omega)).mono ?_
  rintro e w1 ⟨u, rfl, hu, b1⟩
  have hn := hu.at
  obtain ⟨na, nc, rfl, _⟩ := id hn.open
  have BA := BA.below b1
  have BB := BB.below b1
  have BR := BR.below b1
  have hb := bthen hb b1
  have hs := Nat.le_trans hs0 b1.size
  clear b1 hu q hs0
  have q := (BA.alloc (.cells #[.slice na (innerN a).length nc] 26)).cell
  have qB := (BB.alloc (.cells #[.slice na (innerN a).length nc] 26)).cell
  go_wp2_with fail
  obtain ⟨W2, hW2⟩ : ∃ V, V = w1.alloc (.cells #[.slice na (innerN a).length nc] 26) := ⟨_, rfl⟩
  first | rw [← hW2] | fail "W2"
  have b2 : Below w1.heap.size w1 W2 := by rw [hW2]; exact balloc _ _
  obtain ⟨gn, hgn⟩ : ∃ g, g = w1.heap.size := ⟨_, rfl⟩
  have BN : Box W2 gn #[.slice na (innerN a).length nc] 26 := by rw [hW2]; exact Box.new' _ _ _ hgn
  have BA := BA.below b2
  have BR := BR.below b2
  have hn := hn.below b2
  have hb := bthen hb b2
  have hs := Nat.le_trans hs b2.size
  rw [← hgn]
  clear b2 hW2 hgn q qB
  try go_wp2_with fail
  refine (joined_ct F _ _ BA BN (H2.out.below hb) (H3.out.below hb) hn).mono ?_
  rintro e w3 ⟨u3, rfl, hF, b3⟩
  have hA3 := hF w3 (fun _ _ _ => rfl)
  obtain ⟨d1, k1, d2, k2, d3, k3, d4, k4, rfl⟩ := hA3.shape
  have BR := BR.below b3
  have hb := bthen hb b3
  have q := BR.cell
  have f := BR.free
  clear hA3 BA BN hn
  go_wp2_with fail
  refine bodyPost_ret (v := .agg #[.int .i64 (cmpR a b).roots, .slice d1 (cmpR a b).nodes.length k1, .slice d2 (cmpR a b).sites.length k2, .int .i64 (cmpR a b).edges, .slice d3 (cmpR a b).outer.length k3, .slice d4 (cmpR a b).inner.length k4]) (by simp [results, Tryz.results69, go_sem, q]) rfl ⟨_, rfl, ?_, ?_⟩
  · intro w7 hk
    refine hF w7 fun g h1 h2 => ?_
    rw [hk g (by omega) (by simp only [size_setCell]; exact h2)]
    repeat rw [heap_setCell_other _ _ _ _ (by dsimp only; omega)]
  · iterate 6 refine Below.setCell ?_ (by dsimp only; omega) _
    exact hb
set_option maxRecDepth 100000 in
set_option maxHeartbeats 16000000 in
theorem implComposeWirings_ct (vs va vb : Value) (sig : List Ctl) (a b : Big) (w : World) (h1 : CtlsAt w vs sig) (h2 : BigAt w va a) (h3 : BigAt w vb b) : Calls Tryz.prog 17 #[vs, va, vb] w (GivesBig (cmpP sig a b) (cmpC sig a b) w) := by
  have l1 := h2.lens
  obtain ⟨p1, r1, p2, r2, p3, r3, p4, r4, rfl⟩ := h2.shape
  obtain ⟨q1, s1, q2, s2, q3, s3, q4, s4, rfl⟩ := h3.shape
  obtain ⟨W0, hW0⟩ : ∃ W, W = ((w.alloc (.cells #[.int .i64 a.roots, .slice p1 a.nodes.length r1, .slice p2 a.sites.length r2, .int .i64 a.edges, .slice p3 a.outer.length r3, .slice p4 a.inner.length r4] 29)).alloc (.cells #[.int .i64 b.roots, .slice q1 b.nodes.length s1, .slice q2 b.sites.length s2, .int .i64 b.edges, .slice q3 b.outer.length s3, .slice q4 b.inner.length s4] 29)).alloc (.cells #[.int .i64 0, .slice none 0 0, .slice none 0 0, .int .i64 0, .slice none 0 0, .slice none 0 0] 29) := ⟨_, rfl⟩
  have BA : Box W0 w.heap.size #[.int .i64 a.roots, .slice p1 a.nodes.length r1, .slice p2 a.sites.length r2, .int .i64 a.edges, .slice p3 a.outer.length r3, .slice p4 a.inner.length r4] 29 := by rw [hW0]; exact ((Box.new _ _ _).alloc _).alloc _
  have BB : Box W0 (w.heap.size + 1) #[.int .i64 b.roots, .slice q1 b.nodes.length s1, .slice q2 b.sites.length s2, .int .i64 b.edges, .slice q3 b.outer.length s3, .slice q4 b.inner.length s4] 29 := by rw [hW0]; exact (Box.new' _ _ _ (by simp)).alloc _
  have BR : Box W0 (w.heap.size + 1 + 1) #[.int .i64 0, .slice none 0 0, .slice none 0 0, .int .i64 0, .slice none 0 0, .slice none 0 0] 29 := by rw [hW0]; exact Box.new' _ _ _ (by simp)
  have hb : Below w.heap.size w W0 := by rw [hW0]; exact bthen (balloc _ _) (bthen (balloc _ _) (balloc _ _))
  have hs0 : w.heap.size + 3 ≤ W0.heap.size := by rw [hW0]; simp
  have h1 := h1.below hb
  have h2 := h2.below hb
  have h3 := h3.below hb
  cases ga : goodWB sig a with
  | false =>
    have HK : Hid (cmpK sig a b = false) := by show _ = _; unfold cmpK; rw [ga]; rfl
    rw [(cmp_no HK.out).1, (cmp_no HK.out).2]
    go_enter Tryz.func17, Tryz.ntmps17
    go_wp2_with fail
    rw [← hW0]
    clear hW0
    have gA := fun y => (BA.gr y).cell
    have gB := fun y => (BB.gr y).cell
    refine wp_region_gr (by kernel_rfl) (by kernel_rfl) ?_
    repeat (go_big_quiet_step (first | (go_at_call 65; exact Calls.gr_of (isW_ct _ _ sig a false _ ⟨h1.below (gr_below _ _), h2.below (gr_below _ _)⟩ ga))))
    refine wpQuiet_nil ?_
    intro w2 hb2
    have BR := BR.below hb2
    have hb := bthen hb hb2
    have q := BR.cell
    have f := BR.free
    go_wp2_with fail
    refine bodyPost_ret (v := .tuple #[.agg #[.int .i64 0, .slice none 0 0, .slice none 0 0, .int .i64 0, .slice none 0 0, .slice none 0 0], .bool false]) (by simp [results, Tryz.results17, go_sem, q]) rfl ⟨_, _, rfl, noBig_own _ _, by simp, ?_⟩
    iterate 6 refine Below.setCell ?_ (by dsimp only; omega) _
    exact hb
  | true =>
  cases gb : goodWB sig b with
  | false =>
    have HK : Hid (cmpK sig a b = false) := by show _ = _; unfold cmpK; rw [ga, gb]; rfl
    rw [(cmp_no HK.out).1, (cmp_no HK.out).2]
    go_enter Tryz.func17, Tryz.ntmps17
    go_wp2_with fail
    rw [← hW0]
    clear hW0
    have gA := fun y => (BA.gr y).cell
    have gB := fun y => (BB.gr y).cell
    refine wp_region_gr (by kernel_rfl) (by kernel_rfl) ?_
    repeat (go_big_quiet_step (first | (go_at_call 65; exact Calls.gr_of (isW_ct _ _ sig a true _ ⟨h1.below (gr_below _ _), h2.below (gr_below _ _)⟩ ga)) | (go_at_call 65; exact Calls.gr_of (isW_ct _ _ sig b false _ ⟨h1.below (gr_below _ _), h3.below (gr_below _ _)⟩ gb))))
    refine wpQuiet_nil ?_
    intro w2 hb2
    have BR := BR.below hb2
    have hb := bthen hb hb2
    have q := BR.cell
    have f := BR.free
    go_wp2_with fail
    refine bodyPost_ret (v := .tuple #[.agg #[.int .i64 0, .slice none 0 0, .slice none 0 0, .int .i64 0, .slice none 0 0, .slice none 0 0], .bool false]) (by simp [results, Tryz.results17, go_sem, q]) rfl ⟨_, _, rfl, noBig_own _ _, by simp, ?_⟩
    iterate 6 refine Below.setCell ?_ (by dsimp only; omega) _
    exact hb
  | true =>
  cases sn : sameN (innerN a) b.outer with
  | false =>
    have HK : Hid (cmpK sig a b = false) := by show _ = _; unfold cmpK; rw [ga, gb, sn]; rfl
    rw [(cmp_no HK.out).1, (cmp_no HK.out).2]
    go_enter Tryz.func17, Tryz.ntmps17
    go_wp2_with fail
    rw [← hW0]
    clear hW0
    have b0 := bdrew (Below.refl W0.heap.size W0)
    have BA := BA.below b0
    have BB := BB.below b0
    have BR := BR.below b0
    have h1 := h1.below b0
    have h2 := h2.below b0
    have h3 := h3.below b0
    have hb := bthen hb b0
    clear b0
    go_region_held3 (fun w' => w'.cell? ⟨w.heap.size, 0, none⟩ = some (.int .i64 a.roots) ∧ w'.cell? ⟨w.heap.size, 1, none⟩ = some (.slice p1 a.nodes.length r1) ∧ w'.cell? ⟨w.heap.size, 2, none⟩ = some (.slice p2 a.sites.length r2) ∧ w'.cell? ⟨w.heap.size, 3, none⟩ = some (.int .i64 a.edges) ∧ w'.cell? ⟨w.heap.size, 4, none⟩ = some (.slice p3 a.outer.length r3) ∧ w'.cell? ⟨w.heap.size, 5, none⟩ = some (.slice p4 a.inner.length r4) ∧ w'.cell? ⟨w.heap.size + 1, 0, none⟩ = some (.int .i64 b.roots) ∧ w'.cell? ⟨w.heap.size + 1, 1, none⟩ = some (.slice q1 b.nodes.length s1) ∧ w'.cell? ⟨w.heap.size + 1, 2, none⟩ = some (.slice q2 b.sites.length s2) ∧ w'.cell? ⟨w.heap.size + 1, 3, none⟩ = some (.int .i64 b.edges) ∧ w'.cell? ⟨w.heap.size + 1, 4, none⟩ = some (.slice q3 b.outer.length s3) ∧ w'.cell? ⟨w.heap.size + 1, 5, none⟩ = some (.slice q4 b.inner.length s4)) (first | exact ⟨BA.cell 0, BA.cell 1, BA.cell 2, BA.cell 3, BA.cell 4, BA.cell 5, BB.cell 0, BB.cell 1, BB.cell 2, BB.cell 3, BB.cell 4, BB.cell 5⟩) (first | (go_at_call 65; with_reducible refine (isW_ct _ _ sig a true _ ⟨h1, h2⟩ ga).mono ?_; rintro e w2 ⟨rfl, bb⟩; have BA := BA.below bb; have BB := BB.below bb; have BR := BR.below bb; have h1 := h1.below bb; have h2 := h2.below bb; have h3 := h3.below bb; have hb := bthen hb bb; clear bb) | (go_at_call 65; with_reducible refine (isW_ct _ _ sig b true _ ⟨h1, h3⟩ gb).mono ?_; rintro e w3 ⟨rfl, bb⟩; have BA := BA.below bb; have BB := BB.below bb; have BR := BR.below bb; have h1 := h1.below bb; have h2 := h2.below bb; have h3 := h3.below bb; have hb := bthen hb bb; clear bb) | (go_at_call 67; refine (innerNames_ct _ a _ h2 l1.2.2.2).mono ?_; rintro e w6 ⟨u, rfl, hu, bb⟩; have hu := hu.at; have BA := BA.below bb; have BB := BB.below bb; have BR := BR.below bb; have h1 := h1.below bb; have h2 := h2.below bb; have h3 := h3.below bb; have hb := bthen hb bb; clear bb) | (go_at_call 66; refine (equalStr_ct _ _ (innerN a) b.outer false _ hu (BigAt.fields h3).2.2.1 sn).mono ?_; rintro e w7 ⟨rfl, bb⟩; have BA := BA.below bb; have BB := BB.below bb; have BR := BR.below bb; have h1 := h1.below bb; have h2 := h2.below bb; have h3 := h3.below bb; have hb := bthen hb bb; clear bb))
    have q := BR.cell
    have f := BR.free
    go_wp2_with fail
    refine bodyPost_ret (v := .tuple #[.agg #[.int .i64 0, .slice none 0 0, .slice none 0 0, .int .i64 0, .slice none 0 0, .slice none 0 0], .bool false]) (by simp [results, Tryz.results17, go_sem, q]) rfl ⟨_, _, rfl, noBig_own _ _, by simp, ?_⟩
    iterate 6 refine Below.setCell ?_ (by dsimp only; omega) _
    exact hb
  | true =>
  have HK : cmpK sig a b = true := by unfold cmpK; rw [ga, gb, sn]; rfl
  rw [(cmp_yes HK).1, (cmp_yes HK).2]
  have F := fit2_of HK
  clear HK
  go_enter Tryz.func17, Tryz.ntmps17
  go_wp2_with fail
  rw [← hW0]
  clear hW0
  have b0 := bdrew (Below.refl W0.heap.size W0)
  have BA := BA.below b0
  have BB := BB.below b0
  have BR := BR.below b0
  have h1 := h1.below b0
  have h2 := h2.below b0
  have h3 := h3.below b0
  have hb := bthen hb b0
  clear b0
  go_region_held3 (fun w' => w'.cell? ⟨w.heap.size, 0, none⟩ = some (.int .i64 a.roots) ∧ w'.cell? ⟨w.heap.size, 1, none⟩ = some (.slice p1 a.nodes.length r1) ∧ w'.cell? ⟨w.heap.size, 2, none⟩ = some (.slice p2 a.sites.length r2) ∧ w'.cell? ⟨w.heap.size, 3, none⟩ = some (.int .i64 a.edges) ∧ w'.cell? ⟨w.heap.size, 4, none⟩ = some (.slice p3 a.outer.length r3) ∧ w'.cell? ⟨w.heap.size, 5, none⟩ = some (.slice p4 a.inner.length r4) ∧ w'.cell? ⟨w.heap.size + 1, 0, none⟩ = some (.int .i64 b.roots) ∧ w'.cell? ⟨w.heap.size + 1, 1, none⟩ = some (.slice q1 b.nodes.length s1) ∧ w'.cell? ⟨w.heap.size + 1, 2, none⟩ = some (.slice q2 b.sites.length s2) ∧ w'.cell? ⟨w.heap.size + 1, 3, none⟩ = some (.int .i64 b.edges) ∧ w'.cell? ⟨w.heap.size + 1, 4, none⟩ = some (.slice q3 b.outer.length s3) ∧ w'.cell? ⟨w.heap.size + 1, 5, none⟩ = some (.slice q4 b.inner.length s4)) (first | exact ⟨BA.cell 0, BA.cell 1, BA.cell 2, BA.cell 3, BA.cell 4, BA.cell 5, BB.cell 0, BB.cell 1, BB.cell 2, BB.cell 3, BB.cell 4, BB.cell 5⟩) (first | (go_at_call 65; with_reducible refine (isW_ct _ _ sig a true _ ⟨h1, h2⟩ ga).mono ?_; rintro e w2 ⟨rfl, bb⟩; have BA := BA.below bb; have BB := BB.below bb; have BR := BR.below bb; have h1 := h1.below bb; have h2 := h2.below bb; have h3 := h3.below bb; have hb := bthen hb bb; clear bb) | (go_at_call 65; with_reducible refine (isW_ct _ _ sig b true _ ⟨h1, h3⟩ gb).mono ?_; rintro e w3 ⟨rfl, bb⟩; have BA := BA.below bb; have BB := BB.below bb; have BR := BR.below bb; have h1 := h1.below bb; have h2 := h2.below bb; have h3 := h3.below bb; have hb := bthen hb bb; clear bb) | (go_at_call 67; refine (innerNames_ct _ a _ h2 l1.2.2.2).mono ?_; rintro e w6 ⟨u, rfl, hu, bb⟩; have hu := hu.at; have BA := BA.below bb; have BB := BB.below bb; have BR := BR.below bb; have h1 := h1.below bb; have h2 := h2.below bb; have h3 := h3.below bb; have hb := bthen hb bb; clear bb) | (go_at_call 66; refine (equalStr_ct _ _ (innerN a) b.outer true _ hu (BigAt.fields h3).2.2.1 sn).mono ?_; rintro e w7 ⟨rfl, bb⟩; have BA := BA.below bb; have BB := BB.below bb; have BR := BR.below bb; have h1 := h1.below bb; have h2 := h2.below bb; have h3 := h3.below bb; have hb := bthen hb bb; clear bb))
  clear ga gb sn hu
  have qA := BA.cell
  have qB := BB.cell
  go_wp2_with fail
  refine (composed_ct F _ h2 h3).mono ?_
  rintro e w8 ⟨u8, rfl, hF, b8⟩
  have hA8 := hF w8 (fun _ _ _ => rfl)
  have h1 := h1.below b8
  have BR := BR.below b8
  have hb := bthen hb b8
  clear b8 hF qA qB
  go_wp2_with fail
  refine (valid_ct _ _ sig (cmpR a b) _ ⟨h1, hA8⟩).mono ?_
  rintro e w9 ⟨u9, bs9, rfl, hB9, hN9, b9⟩
  obtain ⟨d1, k1, d2, k2, d3, k3, d4, k4, rfl⟩ := hB9.at.shape
  have hs8 := Nat.le_trans hs0 (Nat.le_trans (Nat.le_refl _) (Nat.le_refl _))
  have BRl := BR.lt
  have BR := BR.below b9
  have hb := bthen hb b9
  have q := BR.cell
  have f := BR.free
  clear hA8 h1
  go_wp2_with fail
  refine bodyPost_ret (v := .tuple #[.agg #[.int .i64 (validR sig (cmpR a b)).roots, .slice d1 (validR sig (cmpR a b)).nodes.length k1, .slice d2 (validR sig (cmpR a b)).sites.length k2, .int .i64 (validR sig (cmpR a b)).edges, .slice d3 (validR sig (cmpR a b)).outer.length k3, .slice d4 (validR sig (cmpR a b)).inner.length k4], .bool (goodB sig (cmpR a b))]) (by simp [results, Tryz.results17, go_sem, q]) rfl ⟨_, bs9, rfl, (fill6 hB9 (by omega) _ _ _ _ _ _).mono (by omega), hN9, fill6b hb (by omega) _ _ _ _ _ _⟩
end Go.Proofs.YthgelhglfbgagaaGreatDoor
