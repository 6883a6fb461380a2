import Derived.Test.YtlkadcmicjencaaDoorIdent
namespace Go.Proofs.YtlkadcmicjencaaDoor
open Go Go.RowKit Go.BigFrame
def idB (n : Int) (l : List ByteArray) : Bool := decide (0 ≤ n ∧ n ≤ 4) && namesB l
def idP (n : Int) (l : List ByteArray) : Big := if idB n l = true then idBig n.toNat l else noBig

set_option maxRecDepth 100000 in
set_option maxHeartbeats 4000000 in
theorem specIdentityOf_ct (n : Int) (v : Value) (l : List ByteArray) (w : World) (h : StrsAt w v l) : Calls Tryd.prog 33 #[.int .i64 n, v] w (GivesBig (idP n l) (idB n l) w) := by
  by_cases hn4 : 0 ≤ n ∧ n ≤ 4
  · cases hn : namesB l with
    | false =>
      have HP : Hid (idP n l = noBig) := by unfold idP idB; rw [hn, Bool.and_false]; rfl
      have HB : Hid (idB n l = false) := by show _ = _; unfold idB; rw [hn, Bool.and_false]
      rw [HP.out, HB.out]
      go_enter Tryd.func33, Tryd.ntmps33
      go_wp2_with fail
      refine (l1In_ct _ _ _ true (by simp; omega) _).mono ?_
      rintro e w2 ⟨rfl, rfl⟩
      have BA : Box (w.alloc (.cells #[.int .i64 0, .slice none 0 0, .slice none 0 0, .int .i64 0, .slice none 0 0, .slice none 0 0] 40)) w.heap.size #[.int .i64 0, .slice none 0 0, .slice none 0 0, .int .i64 0, .slice none 0 0, .slice none 0 0] 40 := Box.new _ _ _
      have hb := balloc w (.cells #[.int .i64 0, .slice none 0 0, .slice none 0 0, .int .i64 0, .slice none 0 0, .slice none 0 0] 40)
      go_wp2_with fail
      refine (l3Names_ct v l false _ (h.below hb) hn).mono ?_
      rintro e w2 ⟨rfl, b⟩
      have BA := BA.below b
      have hb := bthen hb b
      clear b
      have q := BA.cell
      have f := BA.free
      go_wp2_with fail
      refine bodyPost_ret (v := .tuple #[.agg #[.int .i64 0, .slice none 0 0, .slice none 0 0, .int .i64 0, .slice none 0 0, .slice none 0 0], .bool false]) (by simp [results, Tryd.results33, go_sem, q]) rfl ⟨_, _, rfl, noBig_own _ _, by simp, ?_⟩
      iterate 6 refine Below.setCell ?_ (by simp) _
      exact hb
    | true =>
      have HP : Hid (idP n l = idBig n.toNat l) := by unfold idP idB; rw [hn, decide_eq_true hn4]; rfl
      have HB : Hid (idB n l = true) := by show _ = _; unfold idB; rw [hn, decide_eq_true hn4]; rfl
      rw [HP.out, HB.out]
      have h16 : l.length ≤ 16 := by unfold namesB at hn; simp at hn; exact hn.2
      obtain ⟨n, rfl⟩ := Int.eq_ofNat_of_zero_le hn4.1
      simp only [Int.toNat_natCast] at hn4 HP HB ⊢
      clear HP HB
      go_enter Tryd.func33, Tryd.ntmps33
      go_wp2_with fail
      refine (l1In_ct _ _ _ true (by simp; omega) _).mono ?_
      rintro e w2 ⟨rfl, rfl⟩
      have BA : Box (w.alloc (.cells #[.int .i64 0, .slice none 0 0, .slice none 0 0, .int .i64 0, .slice none 0 0, .slice none 0 0] 40)) w.heap.size #[.int .i64 0, .slice none 0 0, .slice none 0 0, .int .i64 0, .slice none 0 0, .slice none 0 0] 40 := Box.new _ _ _
      have hb := balloc w (.cells #[.int .i64 0, .slice none 0 0, .slice none 0 0, .int .i64 0, .slice none 0 0, .slice none 0 0] 40)
      go_wp2_with fail
      refine (l3Names_ct v l true _ (h.below hb) hn).mono ?_
      rintro e w2 ⟨rfl, b⟩
      have BA := BA.below b
      have hb := bthen hb b
      clear b
      have q := BA.cell
      have f := BA.free
      clear q f
      go_wp2_with fail
      refine (l3Identity_ct n v l _ (by omega) h16 (h.below hb)).mono ?_
      rintro e w3 ⟨u, bs, rfl, p, nd, b3⟩
      obtain ⟨a1, c1, a2, c2, a3, c3, a4, c4, rfl⟩ := p.at.shape
      have hln := p.lt
      have hlt := BA.lt
      have BA := BA.below b3
      have hb := bthen hb b3
      have q := BA.cell
      have f := BA.free
      clear b3
      go_wp2_with fail
      refine bodyPost_ret (v := .tuple #[.agg #[.int .i64 (idBig n l).roots, .slice a1 (idBig n l).nodes.length c1, .slice a2 (idBig n l).sites.length c2, .int .i64 (idBig n l).edges, .slice a3 (idBig n l).outer.length c3, .slice a4 (idBig n l).inner.length c4], .bool true]) (by simp [results, Tryd.results33, go_sem, q]) rfl ⟨_, bs, rfl, (p.keep ?_).mono (by omega), nd, ?_⟩
      · intro g hg; have := hln g hg; repeat rw [heap_setCell_other _ _ _ _ (by simp <;> omega)]
      · iterate 6 refine Below.setCell ?_ (by simp) _
        exact hb
  · have HP : Hid (idP n l = noBig) := by unfold idP idB; rw [decide_eq_false hn4]; rfl
    have HB : Hid (idB n l = false) := by show _ = _; unfold idB; rw [decide_eq_false hn4]; rfl
    rw [HP.out, HB.out]
    clear HP HB
    go_enter Tryd.func33, Tryd.ntmps33
    go_wp2_with (go_at_call 70; refine (l1In_ct _ _ _ false (by simp; omega) _).mono ?_; rintro e w2 ⟨rfl, rfl⟩)
    exact bodyPost_ret (v := .tuple #[.agg #[.int .i64 0, .slice none 0 0, .slice none 0 0, .int .i64 0, .slice none 0 0, .slice none 0 0], .bool false]) (by simp [results, Tryd.results33, go_sem]) rfl ⟨_, _, rfl, noBig_own _ _, by simp, balloc _ _⟩

set_option maxRecDepth 100000 in
set_option maxHeartbeats 4000000 in
theorem implIdentityOf_ct (n : Int) (v : Value) (l : List ByteArray) (w : World) (h : StrsAt w v l) : Calls Tryd.prog 34 #[.int .i64 n, v] w (GivesBig (idP n l) (idB n l) w) := by
  by_cases hn4 : 0 ≤ n ∧ n ≤ 4
  · cases hn : namesB l with
    | false =>
      have HP : Hid (idP n l = noBig) := by unfold idP idB; rw [hn, Bool.and_false]; rfl
      have HB : Hid (idB n l = false) := by show _ = _; unfold idB; rw [hn, Bool.and_false]
      rw [HP.out, HB.out]
      go_enter Tryd.func34, Tryd.ntmps34
      go_wp2_with fail
      refine (within_ct _ _ _ true (by simp; omega) _).mono ?_
      rintro e w2 ⟨rfl, rfl⟩
      have BA : Box (w.alloc (.cells #[.int .i64 0, .slice none 0 0, .slice none 0 0, .int .i64 0, .slice none 0 0, .slice none 0 0] 40)) w.heap.size #[.int .i64 0, .slice none 0 0, .slice none 0 0, .int .i64 0, .slice none 0 0, .slice none 0 0] 40 := Box.new _ _ _
      have hb := balloc w (.cells #[.int .i64 0, .slice none 0 0, .slice none 0 0, .int .i64 0, .slice none 0 0, .slice none 0 0] 40)
      go_wp2_with fail
      refine (areNames_ct v l false _ (h.below hb) hn).mono ?_
      rintro e w2 ⟨rfl, b⟩
      have BA := BA.below b
      have hb := bthen hb b
      clear b
      have q := BA.cell
      have f := BA.free
      go_wp2_with fail
      refine bodyPost_ret (v := .tuple #[.agg #[.int .i64 0, .slice none 0 0, .slice none 0 0, .int .i64 0, .slice none 0 0, .slice none 0 0], .bool false]) (by simp [results, Tryd.results34, go_sem, q]) rfl ⟨_, _, rfl, noBig_own _ _, by simp, ?_⟩
      iterate 6 refine Below.setCell ?_ (by simp) _
      exact hb
    | true =>
      have HP : Hid (idP n l = idBig n.toNat l) := by unfold idP idB; rw [hn, decide_eq_true hn4]; rfl
      have HB : Hid (idB n l = true) := by show _ = _; unfold idB; rw [hn, decide_eq_true hn4]; rfl
      rw [HP.out, HB.out]
      have h16 : l.length ≤ 16 := by unfold namesB at hn; simp at hn; exact hn.2
      obtain ⟨n, rfl⟩ := Int.eq_ofNat_of_zero_le hn4.1
      simp only [Int.toNat_natCast] at hn4 HP HB ⊢
      clear HP HB
      go_enter Tryd.func34, Tryd.ntmps34
      go_wp2_with fail
      refine (within_ct _ _ _ true (by simp; omega) _).mono ?_
      rintro e w2 ⟨rfl, rfl⟩
      have BA : Box (w.alloc (.cells #[.int .i64 0, .slice none 0 0, .slice none 0 0, .int .i64 0, .slice none 0 0, .slice none 0 0] 40)) w.heap.size #[.int .i64 0, .slice none 0 0, .slice none 0 0, .int .i64 0, .slice none 0 0, .slice none 0 0] 40 := Box.new _ _ _
      have hb := balloc w (.cells #[.int .i64 0, .slice none 0 0, .slice none 0 0, .int .i64 0, .slice none 0 0, .slice none 0 0] 40)
      go_wp2_with fail
      refine (areNames_ct v l true _ (h.below hb) hn).mono ?_
      rintro e w2 ⟨rfl, b⟩
      have BA := BA.below b
      have hb := bthen hb b
      clear b
      have q := BA.cell
      have f := BA.free
      clear q f
      go_wp2_with fail
      refine (identity_ct n v l _ (by omega) h16 (h.below hb)).mono ?_
      rintro e w3 ⟨u, bs, rfl, p, nd, b3⟩
      obtain ⟨a1, c1, a2, c2, a3, c3, a4, c4, rfl⟩ := p.at.shape
      have hln := p.lt
      have hlt := BA.lt
      have BA := BA.below b3
      have hb := bthen hb b3
      have q := BA.cell
      have f := BA.free
      clear b3
      go_wp2_with fail
      refine bodyPost_ret (v := .tuple #[.agg #[.int .i64 (idBig n l).roots, .slice a1 (idBig n l).nodes.length c1, .slice a2 (idBig n l).sites.length c2, .int .i64 (idBig n l).edges, .slice a3 (idBig n l).outer.length c3, .slice a4 (idBig n l).inner.length c4], .bool true]) (by simp [results, Tryd.results34, go_sem, q]) rfl ⟨_, bs, rfl, (p.keep ?_).mono (by omega), nd, ?_⟩
      · intro g hg; have := hln g hg; repeat rw [heap_setCell_other _ _ _ _ (by simp <;> omega)]
      · iterate 6 refine Below.setCell ?_ (by simp) _
        exact hb
  · have HP : Hid (idP n l = noBig) := by unfold idP idB; rw [decide_eq_false hn4]; rfl
    have HB : Hid (idB n l = false) := by show _ = _; unfold idB; rw [decide_eq_false hn4]; rfl
    rw [HP.out, HB.out]
    clear HP HB
    go_enter Tryd.func34, Tryd.ntmps34
    go_wp2_with (go_at_call 47; refine (within_ct _ _ _ false (by simp; omega) _).mono ?_; rintro e w2 ⟨rfl, rfl⟩)
    exact bodyPost_ret (v := .tuple #[.agg #[.int .i64 0, .slice none 0 0, .slice none 0 0, .int .i64 0, .slice none 0 0, .slice none 0 0], .bool false]) (by simp [results, Tryd.results34, go_sem]) rfl ⟨_, _, rfl, noBig_own _ _, by simp, balloc _ _⟩

end Go.Proofs.YtlkadcmicjencaaDoor
