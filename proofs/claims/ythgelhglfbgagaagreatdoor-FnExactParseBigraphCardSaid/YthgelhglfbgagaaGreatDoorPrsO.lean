/- Reading the text of a bigraph: the program's nodes. -/
import Derived.Test.YthgelhglfbgagaaGreatDoorPrsT
import Derived.Test.YthgelhglfbgagaaGreatDoorG4
import Derived.BigRegion
namespace Go.Proofs.YthgelhglfbgagaaGreatDoor
open Go Go.RowKit Go.BigFrame

theorem idx_ctlX (sig : List Ctl) (s : ByteArray) : idxI (fun c : Ctl => decide (c.name = s)) sig = ctlX sig s := by
  unfold idxI
  cases h : sig.any (fun c : Ctl => decide (c.name = s)) with
  | true =>
    rw [if_pos rfl]
    obtain ⟨x, hx, hp⟩ := List.any_eq_true.1 h
    have hl : sig.findIdx (fun c : Ctl => decide (c.name = s)) < sig.length := List.findIdx_lt_length_of_exists ⟨x, hx, hp⟩
    have hg : sig[sig.findIdx (fun c : Ctl => decide (c.name = s))]? = some (sig[sig.findIdx (fun c : Ctl => decide (c.name = s))]'hl) := List.getElem?_eq_getElem hl
    have hq := List.findIdx_getElem (w := hl)
    symm
    refine ctlX_at hg (by simpa using hq) fun j d hj hd => ?_
    have hn := List.not_of_lt_findIdx hj
    obtain ⟨hjl, e⟩ := List.getElem?_eq_some_iff.1 hd
    rw [e] at hn
    simpa using hn
  | false =>
    rw [if_neg (by simp)]
    symm
    refine ctlX_no fun j d hd => ?_
    have := List.any_eq_false.1 h d (List.mem_of_getElem? hd)
    simpa using this
set_option maxHeartbeats 2000000 in
theorem ctlCl_ct (x : Ctl) (s : ByteArray) (g : Nat) {t : TypeId} (W : World) (B : Box W g #[.string s] t) : Calls Tryz.prog 123 (#[.agg #[.string x.name, .int .i64 x.ports, .int .i64 x.kind]] ++ #[.pointer (some ⟨g, 0, none⟩)]) W fun e w' => e = .returned (.bool (decide (x.name = s))) ∧ Below W.heap.size W w' := by
  show Calls Tryz.prog 123 #[.agg #[.string x.name, .int .i64 x.ports, .int .i64 x.kind], .pointer (some ⟨g, 0, none⟩)] W _
  rw [← beq_data]
  have q := B.cell
  have l := B.lt
  go_enter Tryz.func123, Tryz.ntmps123
  go_wp2_with fail
  go_ret
  exact ⟨rfl, balloc _ _⟩
set_option maxRecDepth 100000 in
set_option maxHeartbeats 2000000 in
theorem controlOf_ct (v : Value) (sig : List Ctl) (s : ByteArray) (w : World) (h : CtlsAt w v sig) : Calls Tryz.prog 89 #[v, .string s] w fun e w' => e = .returned (.int .i64 (ctlX sig s)) ∧ Below w.heap.size w w' := by
  have B : Box (w.alloc (.cells #[.string s] 9)) w.heap.size #[.string s] 9 := Box.new _ _ _
  have hb := balloc w (.cells #[.string s] 9)
  have H := Lib.hid (idxCtl_ct 123 #[.pointer (some ⟨w.heap.size, 0, none⟩)] (by intros; rfl) (fun c => decide (c.name = s)) v sig (ctlX sig s) _ (h.below hb) (fun x _ W hW => ctlCl_ct x s _ W (B.below hW)) (idx_ctlX sig s))
  clear h B
  go_enter Tryz.func89, Tryz.ntmps89
  go_wp2_with fail
  refine H.out.mono ?_
  rintro e w2 ⟨rfl, b2⟩
  go_wp2_with fail
  go_ret
  exact ⟨rfl, bthen hb b2⟩
set_option maxRecDepth 100000 in
set_option maxHeartbeats 8000000 in
theorem readNode_ct (vs : Value) (sig : List Ctl) (s : ByteArray) (w : World) (h : CtlsAt w vs sig) (hsz : s.size ≤ 1100000) (E : Env w) :
    Calls Tryz.prog 31 #[vs, .string s] w fun e w' => ∃ a c, e = .returned (.tuple #[.agg #[.int .i64 (nodeJ rdA sig s).ctl, .int .i64 (nodeJ rdA sig s).par, .slice a (nodeJ rdA sig s).links.length c], .bool (nodeK rdA sig s)]) ∧ Acc w' w.heap.size 3 1 (.slice a (nodeJ rdA sig s).links.length c) (intRows (nodeJ rdA sig s).links) ∧ Below w.heap.size w w' := by
  obtain ⟨W0, hW0⟩ : ∃ W, W = w.alloc (.cells #[.int .i64 0, .int .i64 0, .slice none 0 0] 57) := ⟨_, rfl⟩
  have hA : Below w.heap.size w W0 := by rw [hW0]; exact balloc _ _
  have BA : Box W0 w.heap.size #[.int .i64 0, .int .i64 0, .slice none 0 0] 57 := by rw [hW0]; exact Box.new _ _ _
  have hs0 : w.heap.size + 1 ≤ W0.heap.size := by rw [hW0]; simp
  have HCT := Lib.hid h
  obtain ⟨_, _, rfl, _⟩ := h.open
  have HZ : Hid (∀ x ∈ splitP s 32, x.size ≤ s.size) := splitP_size s 32
  have hhz := headT_size s
  have hpz := cutZ_size (headT s) 64
  have haz := cutA_size (headT s) 64
  clear h
  go_enter Tryz.func31, Tryz.ntmps31
  go_wp2_with fail
  rw [← hW0]
  clear hW0
  refine (splitAt_ct s 32 _ hsz).mono ?_
  rintro e w1 ⟨g, c, rfl, acc, b1⟩
  have BA := BA.below b1
  have hb := bthen hA b1
  obtain ⟨n, hn⟩ : ∃ n, n = (splitP s 32).length := ⟨_, rfl⟩
  have hn1 := splitP_pos s 32
  have hnl := splitP_length s 32
  have HN := Lib.hid hn
  rw [← hn] at acc hn1 hnl ⊢
  have hcd : n ≤ c := by
    obtain ⟨a, c', e, hc, _⟩ := acc.own.row (M := n) (by rw [len_strRows, ← hn]; exact Nat.le_refl _)
    rw [len_strRows, ← hn] at e hc
    simp only [Value.slice.injEq] at e
    omega
  have hgl : g < w1.heap.size := (acc.own.lt g (by obtain ⟨k, rfl⟩ : ∃ k, n = k + 1 := ⟨n - 1, by omega⟩; simp [blks])).2
  have hcell := acc.strAt (headT_get s)
  have hs1 := Nat.le_trans hs0 b1.size
  clear hA b1 hn hs0
  go_wp2_with fail
  refine (cutE_ct (headT s) 64 _ (by omega) (E.below hb)).mono ?_
  rintro e w2 ⟨cb, rfl, b2⟩
  have BA := BA.below b2
  have hb := bthen hb b2
  have acc := acc.below b2
  have hgl := Nat.lt_of_lt_of_le hgl b2.size
  have hs2 := Nat.le_trans hs1 b2.size
  clear b2 hcell hs1
  go_wp2_with fail
  refine (controlOf_ct _ sig (cutA (headT s) 64) _ (HCT.out.below hb)).mono ?_
  rintro e w3 ⟨rfl, b3⟩
  have BA := BA.below b3
  have hb := bthen hb b3
  have acc := acc.below b3
  have hgl := Nat.lt_of_lt_of_le hgl b3.size
  have hs3 := Nat.le_trans hs2 b3.size
  obtain ⟨ct, hct⟩ : ∃ p, p = ctlX sig (cutA (headT s) 64) := ⟨_, rfl⟩
  rw [← hct]
  have HX := Lib.hid hct
  clear b3 hct hs2
  go_wp2_with fail
  obtain ⟨W4, hW4⟩ : ∃ V, V = w3.alloc (.cells #[.int .i64 ct, .int .i64 0, .slice none 0 0] 57) := ⟨_, rfl⟩
  first | rw [← hW4] | fail "W4"
  have b4 : Below w3.heap.size w3 W4 := by rw [hW4]; exact balloc _ _
  obtain ⟨gn, hgn⟩ : ∃ g, g = w3.heap.size := ⟨_, rfl⟩
  have BN : Box W4 gn #[.int .i64 ct, .int .i64 0, .slice none 0 0] 57 := by rw [hW4]; exact Box.new' _ _ _ hgn
  have BA := BA.below b4
  have hb := bthen hb b4
  have acc := acc.below b4
  have hgg : g < gn := by omega
  have hwn : w.heap.size < gn := by omega
  rw [← hgn]
  clear b4 hW4 hgn hgl hs3
  refine (rdE_ct (cutZ (headT s) 64) _ (by omega) (E.below hb)).mono ?_
  rintro e w5 ⟨rfl, b5⟩
  have BA := BA.below b5
  have BN := BN.below b5
  have hb := bthen hb b5
  have acc := acc.below b5
  obtain ⟨p, hp⟩ : ∃ p, p = (rdA (cutZ (headT s) 64)).getD 0 := ⟨_, rfl⟩
  rw [← hp]
  have HP := Lib.hid hp
  obtain ⟨k2, hk2⟩ : ∃ b, b = (rdA (cutZ (headT s) 64)).isSome := ⟨_, rfl⟩
  rw [← hk2]
  have HK2 := Lib.hid hk2
  have q := BN.cell
  have f := BN.free
  clear b5 hp hk2
  go_wp2_with (refine slice_tail _ rfl _ 26 9 rfl Tryz.underlying26 Tryz.sizeOf9 _ _ _ (by rfl) hn1 hcd ?_)
  intro o2 HO2
  go_wp2_with fail
  obtain ⟨W6, hW6⟩ : ∃ V, V = w5.setCell ⟨gn, 1, none⟩ (.int .i64 p) := ⟨_, rfl⟩
  first | rw [← hW6] | fail "W6"
  have BN6 : Box W6 gn #[.int .i64 ct, .int .i64 p, .slice none 0 0] 57 := by rw [hW6]; exact BN.set 1 _
  have BA6 : Box W6 w.heap.size #[.int .i64 0, .int .i64 0, .slice none 0 0] 57 := by rw [hW6]; exact BA.other _ (by dsimp only; omega)
  have acc6 : Acc W6 W0.heap.size 9 1 (.slice (some ⟨g, 0, none⟩) n c) (strRows (splitP s 32)) := by
    rw [hW6]
    refine acc.keep1 fun k hk => heap_setCell_other _ _ _ _ ?_
    have hk' : some g = some k := hk
    simp only [Option.some.injEq] at hk'
    dsimp only; omega
  have hb6 : Below w.heap.size w W6 := by rw [hW6]; exact hb.setCell (by dsimp only; omega) _
  have hst : StrsAt W6 (.slice (some ⟨g, o2, none⟩) (n - 1) (c - 1)) (wordsR s) := acc6.tail (by rw [← HN.out]; omega) (fun x hx => by have := HZ.out x hx; omega) hn1 o2 HO2.out _ (by omega)
  have hwl : (wordsR s).length ≤ 1200000 := by rw [wordsR_len, ← HN.out]; omega
  have hsg : gn < W6.heap.size := BN6.lt
  clear hW6 BA BN acc hb q f acc6
  refine (readNumbers_ct _ (wordsR s) _ hst hwl (fun x hx => by have := wordsR_size hx; omega) (E.below hb6)).mono ?_
  rintro e w7 ⟨la, lc, rfl, accl, b7⟩
  have BA := BA6.below b7
  have BN := BN6.below b7
  have hb := bthen hb6 b7
  have accl := accl.le (b' := gn + 1) hsg
  obtain ⟨L, hL⟩ : ∃ L, L = (allV rdA (wordsR s)).length := ⟨_, rfl⟩
  rw [← hL] at accl ⊢
  have HLN := Lib.hid hL
  obtain ⟨k1, hk1⟩ : ∃ b, b = allK rdA (wordsR s) := ⟨_, rfl⟩
  rw [← hk1]
  have HK1 := Lib.hid hk1
  have HJ : Hid (nodeJ rdA sig s = ⟨ct, p, allV rdA (wordsR s)⟩) := by show _ = _; rw [HX.out, HP.out]; rfl
  have HKK : Hid (nodeK rdA sig s = (k1 && (k2 && decide (0 ≤ ct)))) := by show _ = _; rw [HX.out, HK1.out, HK2.out]; rfl
  have q := BN.cell
  have f := BN.free
  have qa := BA.cell
  have fa := BA.free
  have n1 : gn ≠ w.heap.size := by omega
  have n2 : w.heap.size ≠ gn := by omega
  clear hL hk1 b7 BA6 BN6 hb6 hst hwl
  cases k1 <;> cases k2 <;> by_cases hc0 : ct ≥ 0
  all_goals
    go_wp2_with fail
    go_region
    all_goals
      go_wp2_with fail
      refine bodyPost_ret (v := .tuple #[.agg #[.int .i64 ct, .int .i64 p, .slice la L lc], .bool _]) (by simp [results, Tryz.results31, go_sem, qa]; rfl) rfl ⟨la, lc, by rw [HJ.out, HKK.out, HLN.out]; simp [hc0], ?_, ?_⟩
      · rw [HJ.out]
        dsimp only
        rw [← HLN.out]
        refine (accl.keep ?_).le (by omega)
        intro j hj _
        change (World.setCell _ _ _).heap[j]? = _
        repeat rw [heap_setCell_other _ _ _ _ (by dsimp only; omega)]
      · refine bdrew ?_
        iterate 4 refine Below.setCell ?_ (by dsimp only; omega) _
        exact hb
end Go.Proofs.YthgelhglfbgagaaGreatDoor
