/- Reading the text of a bigraph: the reference's nodes. -/
import Derived.Test.YthgelhglfbgagaaGreatDoorPrsS
namespace Go.Proofs.YthgelhglfbgagaaGreatDoor
open Go Go.RowKit Go.BigFrame

theorem cutA_size (s : ByteArray) (c : UInt8) : (cutA s c).size ≤ s.size := by unfold cutA; rw [ByteArray.size_extract]; omega
theorem cutZ_size (s : ByteArray) (c : UInt8) : (cutZ s c).size ≤ s.size := by unfold cutZ; rw [ByteArray.size_extract]; omega
theorem headT_get (s : ByteArray) : (splitP s 32)[0]? = some (headT s) := by
  have := splitP_pos s 32
  unfold headT
  rw [List.getD_eq_getElem?_getD, List.getElem?_eq_getElem (by omega)]; rfl
theorem headT_size (s : ByteArray) : (headT s).size ≤ s.size := splitP_size s 32 _ (List.mem_of_getElem? (headT_get s))
theorem Acc.strs {w : World} {base e n : Nat} {a : Option Addr} {c : Nat} {l : List ByteArray} (h : Acc w base e 1 (.slice a n c) (strRows l)) (hl : l.length ≤ 1073741824) (hz : ∀ x ∈ l, x.size ≤ 1073741824) : StrsAt w (.slice a n c) l :=
  ⟨h.own.row (by rw [len_strRows]; exact hl), hz⟩
theorem Acc.strAt {w : World} {base e g n c i : Nat} {l : List ByteArray} {x : ByteArray} (h : Acc w base e 1 (.slice (some ⟨g, 0, none⟩) n c) (strRows l)) (hi : l[i]? = some x) : w.cell? ⟨g, i, none⟩ = some (.string x) := by
  have := h.own.cellAt (i := i) (r := [.string x]) (by unfold strRows; rw [List.getElem?_map, hi]; rfl) (j := 0) rfl
  rwa [Nat.mul_one, Nat.add_zero] at this
/-- The slice behind the first element. -/
theorem Acc.tail {w : World} {base e g n c : Nat} {l : List ByteArray} (h : Acc w base e 1 (.slice (some ⟨g, 0, none⟩) n c) (strRows l)) (hl : l.length ≤ 1073741824) (hz : ∀ x ∈ l, x.size ≤ 1073741824) (hn : 1 ≤ n) (o : Nat) (ho : o = 1 ∨ n = 1) (c' : Nat) (hc : n ≤ c' + 1) : StrsAt w (.slice (some ⟨g, o, none⟩) (n - 1) c') (l.drop 1) := by
  have hlen : n = l.length := by
    obtain ⟨a', c2, e⟩ := h.shape
    simp only [Value.slice.injEq] at e
    have := e.2.1
    rwa [len_strRows] at this
  refine ⟨⟨_, c', by rw [List.length_map, List.length_drop, hlen], by rw [List.length_map, List.length_drop]; omega, by rw [List.length_map, List.length_drop]; omega, ?_, ?_⟩, fun x hx => hz x (List.mem_of_mem_drop hx)⟩
  · intro r hr; simp only [List.mem_map] at hr; obtain ⟨x, _, rfl⟩ := hr; rfl
  · intro i r hi
    refine ⟨g, o, rfl, fun j u hj => ?_⟩
    rw [List.getElem?_map, List.getElem?_drop] at hi
    cases hx : l[1 + i]? with
    | none => rw [hx] at hi; cases hi
    | some x =>
      rw [hx] at hi
      obtain rfl : [Value.string x] = r := by simpa using hi
      obtain ⟨rfl, rfl⟩ : j = 0 ∧ Value.string x = u := by
        cases j with
        | zero => simpa using hj
        | succ j => simp at hj
      have hlt := (List.getElem?_eq_some_iff.1 hx).1
      obtain rfl : o = 1 := by omega
      rw [Nat.mul_one, Nat.add_zero]
      exact h.strAt hx
set_option maxRecDepth 100000 in
set_option maxHeartbeats 8000000 in
theorem l2ReadNode_ct (vs : Value) (sig : List Ctl) (s : ByteArray) (w : World) (h : CtlsAt w vs sig) (hsz : s.size ≤ 1100000) :
    Calls Tryz.prog 24 #[vs, .string s] w fun e w' => ∃ a c, e = .returned (.tuple #[.agg #[.int .i64 (nodeJ rdN sig s).ctl, .int .i64 (nodeJ rdN sig s).par, .slice a (nodeJ rdN sig s).links.length c], .bool (nodeK rdN sig s)]) ∧ Acc w' w.heap.size 3 1 (.slice a (nodeJ rdN sig s).links.length c) (intRows (nodeJ rdN sig s).links) ∧ Below w.heap.size w w' := by
  obtain ⟨W0, hW0⟩ : ∃ W, W = w.alloc (.cells #[.int .i64 0, .int .i64 0, .slice none 0 0] 57) := ⟨_, rfl⟩
  have hA : Below w.heap.size w W0 := by rw [hW0]; exact balloc _ _
  have BA : Box W0 w.heap.size #[.int .i64 0, .int .i64 0, .slice none 0 0] 57 := by rw [hW0]; exact Box.new _ _ _
  have hs0 : w.heap.size + 1 ≤ W0.heap.size := by rw [hW0]; simp
  have HCT := Lib.hid h
  obtain ⟨_, _, rfl, _⟩ := h.open
  have HZ : Hid (∀ x ∈ splitP s 32, x.size ≤ s.size) := splitP_size s 32
  have hhz := headT_size s
  have hpz := cutZ_size (headT s) 64
  have haz := cutA_size (headT s) 64
  clear h
  go_enter Tryz.func24, Tryz.ntmps24
  go_wp2_with fail
  rw [← hW0]
  clear hW0
  refine (l1Split_ct s 32 _ hsz).mono ?_
  rintro e w1 ⟨g, c, rfl, acc, b1⟩
  have BA := BA.below b1
  have hb := bthen hA b1
  obtain ⟨n, hn⟩ : ∃ n, n = (splitP s 32).length := ⟨_, rfl⟩
  have hn1 := splitP_pos s 32
  have hnl := splitP_length s 32
  have HN := Lib.hid hn
  rw [← hn] at acc hn1 hnl ⊢
  have hcell := acc.strAt (headT_get s)
  have hs1 := Nat.le_trans hs0 b1.size
  clear hA b1 hn hs0
  go_wp2_with fail
  refine (l2Cut_ct (headT s) 64 _ (by omega)).mono ?_
  rintro e w2 ⟨rfl, b2⟩
  have BA := BA.below b2
  have hb := bthen hb b2
  have acc := acc.below b2
  have hs2 := Nat.le_trans hs1 b2.size
  clear b2 hcell hs1
  go_wp2_with fail
  have hst := acc.strs (by rw [← HN.out]; omega) (fun x hx => by have := HZ.out x hx; omega)
  refine (l2Numbers_ct _ (splitP s 32) _ hst (by rw [← HN.out]; omega)).mono ?_
  rintro e w3 ⟨la, lc, rfl, accl, b3⟩
  have BA := BA.below b3
  have accl := accl.le (b' := w.heap.size + 1) hs2
  have hb := bthen hb b3
  have acc := acc.below b3
  obtain ⟨L, hL⟩ : ∃ L, L = (allV rdN ((splitP s 32).drop 1)).length := ⟨_, rfl⟩
  rw [← hL] at accl ⊢
  have HLN := Lib.hid hL
  obtain ⟨k1, hk1⟩ : ∃ b, b = allK rdN ((splitP s 32).drop 1) := ⟨_, rfl⟩
  rw [← hk1]
  have HK1 := Lib.hid hk1
  clear b3 hst hL hk1
  go_wp2_with fail
  refine (l1Read_ct (cutZ (headT s) 64) _ (by omega)).mono ?_
  rintro e w4 ⟨rfl, b4⟩
  have BA := BA.below b4
  have hb := bthen hb b4
  have accl := accl.below b4
  obtain ⟨p, hp⟩ : ∃ p, p = rdV (cutZ (headT s) 64) := ⟨_, rfl⟩
  rw [← hp]
  have HP := Lib.hid hp
  obtain ⟨k2, hk2⟩ : ∃ b, b = rdB (cutZ (headT s) 64) := ⟨_, rfl⟩
  rw [← hk2]
  have HK2 := Lib.hid hk2
  clear b4 hp hk2 acc
  go_wp2_with fail
  refine (l2Control_ct _ sig (cutA (headT s) 64) _ (HCT.out.below hb) (by omega)).mono ?_
  rintro e w5 ⟨rfl, b5⟩
  have BA := BA.below b5
  have hb := bthen hb b5
  have accl := accl.below b5
  obtain ⟨ct, hct⟩ : ∃ p, p = ctlX sig (cutA (headT s) 64) := ⟨_, rfl⟩
  rw [← hct]
  have HX := Lib.hid hct
  clear b5 hct
  have HJ : Hid (nodeJ rdN sig s = ⟨ct, p, allV rdN ((splitP s 32).drop 1)⟩) := by show _ = _; rw [HX.out, HP.out]; rfl
  have HKK : Hid (nodeK rdN sig s = (k1 && (k2 && decide (0 ≤ ct)))) := by show _ = _; rw [HX.out, HK1.out, HK2.out]; rfl
  have q := BA.cell
  have f := BA.free
  clear hs2
  cases k1 <;> cases k2 <;> by_cases hc0 : ct ≥ 0
  all_goals
    go_wp2_with fail
    refine bodyPost_ret (v := .tuple #[.agg #[.int .i64 ct, .int .i64 p, .slice la L lc], .bool _]) (by simp [results, Tryz.results24, go_sem, q]; rfl) rfl ⟨la, lc, by rw [HJ.out, HKK.out, HLN.out]; simp [hc0], ?_, ?_⟩
    · rw [HJ.out]
      dsimp only
      rw [← HLN.out]
      refine (accl.keep ?_).le (Nat.le_succ _)
      intro j hj _
      repeat rw [heap_setCell_other _ _ _ _ (by dsimp only; omega)]
    · iterate 3 refine Below.setCell ?_ (by simp) _
      exact hb
end Go.Proofs.YthgelhglfbgagaaGreatDoor
