/- Names in ascending order, each once: the reference's way, by insertion. -/
import Derived.Test.YthbdmcobpcoajaaGreatDoorG2
namespace Go.Proofs.YthbdmcobpcoajaaGreatDoor
open Go Go.RowKit Go.BigFrame

theorem insU_at {x : ByteArray} : ∀ {o : List ByteArray} {k : Nat}, (∀ (i : Nat) y, i < k → o[i]? = some y → ltB y x) → o[k]? = some x → insU x o = o
  | [], k, _, h => by simp at h
  | y :: o, 0, _, h => by
    simp only [List.getElem?_cons_zero, Option.some.injEq] at h
    subst h
    unfold insU
    rw [if_neg (ltB_irrefl _), if_pos rfl]
  | y :: o, k + 1, h1, h => by
    unfold insU
    rw [if_pos (h1 0 y (by omega) rfl), insU_at (o := o) (k := k) (fun i z hi hz => h1 (i + 1) z (by omega) (by simpa using hz)) (by simpa using h)]
theorem insU_split {x : ByteArray} : ∀ {o : List ByteArray} {k : Nat}, k ≤ o.length → (∀ (i : Nat) y, i < k → o[i]? = some y → ltB y x) → (∀ y, o[k]? = some y → ¬ ltB y x ∧ y ≠ x) → insU x o = o.take k ++ [x] ++ o.drop k
  | [], k, hk, _, _ => by
    have : k = 0 := by simpa using hk
    subst this; rfl
  | y :: o, 0, _, _, h => by
    obtain ⟨h1, h2⟩ := h y rfl
    unfold insU
    rw [if_neg h1, if_neg h2]; rfl
  | y :: o, k + 1, hk, h1, h => by
    unfold insU
    rw [if_pos (h1 0 y (by omega) rfl), insU_split (o := o) (k := k) (by simpa using hk) (fun i z hi hz => h1 (i + 1) z (by omega) (by simpa using hz)) (fun z hz => h z (by simpa using hz))]
    simp
theorem rows_str {M n c : Nat} {w : World} {a : Option Addr} {S : List ByteArray} (h : RowAt M w (.slice a n c) 1 (strRows S)) (i : Nat) (x : ByteArray) (hx : S[i]? = some x) : ∃ b o, a = some ⟨b, o, none⟩ ∧ w.cell? ⟨b, o + i, none⟩ = some (.string x) := by
  obtain ⟨a', c', e, _, _, _, h5⟩ := h
  simp only [Value.slice.injEq] at e
  obtain ⟨rfl, _, _⟩ := e
  obtain ⟨b, o, e, hc⟩ := h5 i [.string x] (by simp [strRows, hx])
  exact ⟨b, o, e, by simpa using hc 0 _ rfl⟩
theorem RowAt.take {M n c sz : Nat} {w : World} {a : Option Addr} {cs : List (List Value)} (h : RowAt M w (.slice a n c) sz cs) (k : Nat) (hk : k ≤ cs.length) : RowAt M w (.slice a k c) sz (cs.take k) := by
  obtain ⟨a', c', e, h1, h2, h3, h5⟩ := h
  simp only [Value.slice.injEq] at e
  obtain ⟨rfl, rfl, rfl⟩ := e
  refine ⟨a, c, by rw [List.length_take, Nat.min_eq_left hk], by rw [List.length_take]; omega, by rw [List.length_take]; omega, fun r hr => h3 r (List.mem_of_mem_take hr), fun i r hi => ?_⟩
  have hik : i < k := by have := (List.getElem?_eq_some_iff.1 hi).1; rw [List.length_take] at this; omega
  rw [List.getElem?_take_of_lt hik] at hi
  exact h5 i r hi
theorem RowAt.drop {M n c sz : Nat} {w : World} {b o : Nat} {cs : List (List Value)} (h : RowAt M w (.slice (some ⟨b, o, none⟩) n c) sz cs) (k : Nat) (hk : k ≤ cs.length) : RowAt M w (.slice (some ⟨b, o + k * sz, none⟩) (cs.length - k) (c - k)) sz (cs.drop k) := by
  obtain ⟨a', c', e, h1, h2, h3, h5⟩ := h
  simp only [Value.slice.injEq] at e
  obtain ⟨rfl, rfl, rfl⟩ := e
  refine ⟨_, _, by rw [List.length_drop], by rw [List.length_drop]; omega, by rw [List.length_drop]; omega, fun r hr => h3 r (List.mem_of_mem_drop hr), fun i r hi => ⟨b, o + k * sz, rfl, fun j u hj => ?_⟩⟩
  rw [List.getElem?_drop] at hi
  obtain ⟨b', o', e', hc⟩ := h5 _ r hi
  obtain ⟨rfl, rfl⟩ : b = b' ∧ o = o' := by simpa using e'
  have := hc j u hj
  rw [Nat.add_mul] at this
  rw [show o + k * sz + i * sz + j = o + (k * sz + i * sz) + j by omega]
  exact this

theorem Acc.some_of {w : World} {base e sz : Nat} {v : Value} {cs : List (List Value)} (h : Acc w base e sz v cs) (hne : cs ≠ []) : ∃ g c, v = .slice (some ⟨g, 0, none⟩) cs.length c := by
  rcases h.1.2 with ⟨_, h0⟩ | ⟨g, c, cur, rfl, _⟩
  · exact absurd (List.eq_nil_of_length_eq_zero h0) hne
  · exact ⟨g, c, rfl⟩
theorem RowAt.keep1 {M n c sz g o : Nat} {w w' : World} {cs : List (List Value)} (h : RowAt M w (.slice (some ⟨g, o, none⟩) n c) sz cs) (hk : w'.heap[g]? = w.heap[g]?) : RowAt M w' (.slice (some ⟨g, o, none⟩) n c) sz cs := by
  obtain ⟨a, c', e, h1, h2, h3, h5⟩ := h
  refine ⟨a, c', e, h1, h2, h3, fun i r hi => ?_⟩
  obtain ⟨b, o', e', hc⟩ := h5 i r hi
  simp only [Value.slice.injEq] at e
  have e2 := e.1.trans e'
  simp only [Option.some.injEq, Addr.mk.injEq] at e2
  obtain ⟨rfl, rfl, _⟩ := e2
  refine ⟨g, o, e', fun j u hj => ?_⟩
  rw [← hc j u hj]
  unfold World.cell?
  simp only [hk]
theorem RowAt.empty (M sz c : Nat) (w : World) (a : Option Addr) : RowAt M w (.slice a 0 c) sz [] := ⟨a, c, rfl, Nat.zero_le _, Nat.zero_le _, fun r hr => (by cases hr), fun i r hi => by simp at hi⟩
theorem strRows_app (a b : List ByteArray) : strRows (a ++ b) = strRows a ++ strRows b := by simp [strRows]
theorem strRows_take (a : List ByteArray) (k : Nat) : (strRows a).take k = strRows (a.take k) := by simp [strRows, List.map_take]
theorem strRows_drop (a : List ByteArray) (k : Nat) : (strRows a).drop k = strRows (a.drop k) := by simp [strRows, List.map_drop]
/-- An empty block laid here. -/
def eBox0 (B : Nat) (t : TypeId) : Ent where
  sh := fun v => ∃ g, v = .slice (some ⟨g, 0, none⟩) 0 0
  ex := ⟨_, 0, rfl⟩
  fct := fun v W _ => ∃ g, v = .slice (some ⟨g, 0, none⟩) 0 0 ∧ Box W g #[] t ∧ B ≤ g
  hs := fun _ _ _ ⟨g, h, _⟩ => ⟨g, h⟩
  st := fun _ _ _ _ hb ⟨g, h, k, u⟩ => ⟨g, h, k.below hb, u⟩
/-- A slice of the call's own that may grow. -/
def eAcc (base e sz n : Nat) (cs : List (List Value)) (hn : cs.length = n) : Ent where
  sh := fun v => ∃ a c, v = .slice a n c
  ex := ⟨.slice none n 0, none, 0, rfl⟩
  fct := fun v W _ => Acc W base e sz v cs
  hs := fun v w U h => by obtain ⟨a, c, rfl⟩ := h.shape; exact ⟨a, c, by rw [hn]⟩
  st := fun v w w' U hb h => h.below hb
section
variable {P : Program} {a : Act}
theorem app0A_run (w : World) (t ty e base : TypeId) (sz bytes M : Nat) (z : Value) (ht : P.underlying t = some (.slice e)) (hinf : (P.info? e).map (fun i => (i.zero, i.size, i.bytes)) = some (some z, sz, bytes)) (hzs : z.cells.size = sz) (hsz : 0 < sz) (hby : bytes ≤ 128)
    (g : Nat) (B : Box w g #[] e) (hg : base ≤ g) (x : Value) (cs : List (List Value)) (hx : RowAt M w x sz cs) (h1 : ∀ r ∈ cs, ∀ u ∈ r, u.oneCell' = true) (hlen : cs.length ≤ 1000000) (hbase : base ≤ w.heap.size) :
    ∃ v' w', (Builtin.append_ #[t, t] ty #[.slice (some ⟨g, 0, none⟩) 0 0, x]).run P w = .ok v' w' ∧ Below w.heap.size w w' ∧ Acc w' base e sz v' cs := by
  obtain ⟨i, hi, hz0, hz1, hz2⟩ := info_parts hinf
  obtain ⟨ax, cx, rfl, _, _, hr, _⟩ := id hx
  by_cases hc : cs = []
  · subst hc
    refine ⟨_, w, run_append_nothing w t t ty e i ht hi (some ⟨g, 0, none⟩) 0 0 (Nat.le_refl _) _ ?_, Below.refl _ _, Acc.of_box0 B hg⟩
    cases ax with
    | none => exact Src.ofNil w ht cx
    | some b => exact Src.ofSlice w ht b 0 cx [] (by simp) (fun j u hj => by simp at hj) (fun u hu => by cases hu)
  · have hpos : 0 < cs.length := List.length_pos_iff.2 hc
    cases ax with
    | none => exact absurd hx.nil_of_none hc
    | some b =>
      obtain ⟨v', w', hrun, hown, hgr⟩ := run_append_arg_grows (P := P) w t ty e i z sz bytes ht hi hz0 hz1 hz2 hzs hsz ⟨g, 0, none⟩ 0 0 [] (by simp) (fun j u hj => by simp at hj) b cs.length cx cs.flatten (flatLen2 cs hr) hx.news (by omega) (by unfold maxLen; omega)
        (by have : (0 + cs.length) * bytes ≤ (0 + cs.length) * 128 := Nat.mul_le_mul_left _ hby; omega)
      refine ⟨v', w', hrun, (Below.refl _ _).grown hgr (Nat.le_refl _) (fun k hk => by cases hk), ?_⟩
      exact Acc.le (base := w.heap.size) ⟨by simpa using hown, hr⟩ hbase
theorem rg_app0A {o : Oper} (s x : Operand) (t : TypeId) (ho : o.op = .call { callee := .builtin .append, args := #[s, x], argTypes := #[t, t] })
    (e base : Nat) (sz bytes M : Nat) (z : Value) (ht : P.underlying t = some (.slice e)) (hinf : (P.info? e).map (fun i => (i.zero, i.size, i.bytes)) = some (some z, sz, bytes)) (hzs : z.cells.size = sz) (hsz : 0 < sz) (hby : bytes ≤ 128)
    (g : Nat) (xv : Value) (cs : List (List Value)) (hs : a.eval s = .slice (some ⟨g, 0, none⟩) 0 0) (hx : a.eval x = xv) (h1 : ∀ r ∈ cs, ∀ u ∈ r, u.oneCell' = true) (hlen : cs.length ≤ 1000000) (w : World) (B : Box w g #[] e) (hg : base ≤ g) (hr : RowAt M w xv sz cs) (hbase : base ≤ w.heap.size) :
    ∃ u w1, (execOp a.eval o).run P w = .ok (.value u) w1 ∧ Below w.heap.size w w1 ∧ Acc w1 base e sz u cs := by
  obtain ⟨v', w', hrun, hb, h1'⟩ := app0A_run (P := P) w t o.type e base sz bytes M z ht hinf hzs hsz hby g B hg xv cs hr h1 hlen hbase
  refine ⟨v', w', ?_, hb, h1'⟩
  simp [execOp, ho, resolve, invoke, builtin, hs, hx, hrun, Result.andThen]
end

set_option maxRecDepth 100000 in
set_option maxHeartbeats 4000000 in
theorem l2SortedB_ct (v : Value) (l : List ByteArray) (w : World) (h : StrsAt w v l) (h16 : l.length ≤ 1000) : Calls Tryz.prog 118 #[v] w fun e w' => ∃ u, e = .returned u ∧ RowOwn w.heap.size w' u 1 (strRows (sortU l)) ∧ Below w.heap.size w w' := by
  obtain ⟨a, c, rfl, hlc, hl, h3⟩ := h.open
  have H3 : Hid _ := h3
  clear h h3
  go_enter Tryz.func118, Tryz.ntmps118
  go_wp2_with fail
  obtain ⟨W0, hW0⟩ : ∃ W, W = w.alloc (.cells #[] 9) := ⟨_, rfl⟩
  rw [← hW0]
  have acc : Acc W0 w.heap.size 9 1 (.slice (some ⟨w.heap.size, 0, none⟩) 0 0) (strRows (sortU (l.take 0))) := by rw [hW0]; exact Acc.lit0 _ _ _ _ (Nat.le_refl _)
  have hb : Below w.heap.size w W0 := by rw [hW0]; exact balloc _ _
  clear hW0
  go_loopw [3, 4] (fun o i W => ∃ k : Nat, k ≤ l.length ∧ i = .int .i64 k ∧ Below w.heap.size w W ∧ ∃ g cv, o = .slice (some ⟨g, 0, none⟩) (sortU (l.take k)).length cv ∧ Acc W w.heap.size 9 1 o (strRows (sortU (l.take k)))) (fun _ i _ => l.length - (intOf i).toNat)
  case atStart => exact ⟨0, Nat.zero_le _, rfl, hb, w.heap.size, 0, rfl, acc⟩
  case round =>
    clear hb acc W0
    obtain ⟨k, hk, rfl, hb, g, cv, rfl, acc⟩ := hrel
    obtain ⟨S, hS⟩ : ∃ S, S = sortU (l.take k) := ⟨_, rfl⟩
    have hSl : S.length ≤ 1000 := by rw [hS]; have := sortU_len (l.take k); rw [List.length_take] at this; omega
    rw [← hS] at acc ⊢
    by_cases hkl : k < l.length
    · obtain ⟨x, hx⟩ := getElem?_of_lt hkl
      have HT : Hid (sortU (l.take (k + 1)) = insU x S) := by show _ = _; rw [take_snoc_l hx, sortU_snoc, ← hS]
      obtain ⟨_, b1, o1, rfl, hc0⟩ := H3.out k x hx
      have hc := (hb.cell (World.block_lt_of_cell? w _ hc0)).trans hc0
      have hrow : RowAt 1073741824 wr (.slice (some ⟨g, 0, none⟩) S.length cv) 1 (strRows S) := acc.own.row (by rw [strRows_len]; omega)
      have hScv : S.length ≤ cv := by
        rcases acc.1.2 with ⟨e0, _⟩ | ⟨_, _, _, e0, _, _, h2, _⟩
        · simp at e0
        · simp only [Value.slice.injEq] at e0; rw [strRows_len] at h2; omega
      clear hx hc0 hS
      go_wp2_with fail
      obtain ⟨w1, hw1⟩ : ∃ W, W = wr := ⟨_, rfl⟩
      rw [← hw1] at hb acc hc hrow ⊢
      clear hw1
      have hs1w := hb.size
      go_loopw [5] (fun j W => ∃ m : Nat, m ≤ S.length ∧ j = .int .i64 m ∧ Hid (∀ (i : Nat) y, i < m → S[i]? = some y → ltB y x) ∧ Below w1.heap.size w1 W) (fun j _ => S.length - (intOf j).toNat)
      case atStart => exact ⟨0, Nat.zero_le _, rfl, fun i y hi => absurd hi (Nat.not_lt_zero _), Below.refl _ _⟩
      case round =>
        obtain ⟨m, hm, rfl, HM, hbw⟩ := hrel
        have hcw := (hbw.cell (World.block_lt_of_cell? w1 _ hc)).trans hc
        have gc := fun z => gr_cell (w := wr) hcw z
        have hroww := hrow.below hbw
        by_cases hml : m < S.length
        · obtain ⟨y, hy⟩ := getElem?_of_lt hml
          obtain ⟨b2, o2, e2, hd⟩ := rows_str hroww m y hy
          obtain ⟨rfl, rfl⟩ : g = b2 ∧ 0 = o2 := by simpa using e2
          have hd : wr.cell? ⟨g, m, none⟩ = some (.string y) := by simpa using hd
          have gd := fun z => gr_cell (w := wr) hd z
          have HD : Hid _ := hd
          have hq3 : ((m : Int) == (S.length : Int)) = false := by simp only [beq_eq_false_iff_ne]; omega
          by_cases hlt : ltB y x
          · have HM2 : Hid (∀ (i : Nat) y, i < m + 1 → S[i]? = some y → ltB y x) := fun i z hi hz => by
              by_cases e : i = m
              · subst e; rw [hy] at hz; obtain rfl := Option.some.inj hz; exact hlt
              · exact HM.out i z (by omega) hz
            have hq : Op.bytesLess y.toList x.toList = true := by rw [bl_data]; exact decide_eq_true hlt
            clear hy HM hlt hd hcw hroww hrow e2
            go_wp2_with fail
            refine wp_region_gr (by kernel_rfl) (by kernel_rfl) ?_
            repeat (go_big_quiet_step (fail))
            refine wpQuiet_nil ?_
            intro w2 hb2
            have hbw := bthen hbw hb2
            clear gc gd hb2
            go_wp2_with fail
            go_roundw
            case rel => exact ⟨m + 1, by omega, by go_num, HM2, hbw⟩
            case measure => simp [intOf]; omega
          · have hq : Op.bytesLess y.toList x.toList = false := by rw [bl_data]; exact decide_eq_false hlt
            by_cases hxy : y = x
            · have HE : Hid (sortU (l.take (k + 1)) = S) := by show _ = _; rw [HT.out]; exact insU_at HM.out (by rw [hy, hxy])
              have hq2 : (y.toList == x.toList) = true := by rw [hxy]; simp
              clear hy HM HT hxy hlt hd hcw hroww hrow e2
              go_wp2_with fail
              refine wp_region_gr (by kernel_rfl) (by kernel_rfl) ?_
              repeat (go_big_quiet_step (fail))
              refine wpQuiet_nil ?_
              intro w2 hb2
              have hbw := bthen hbw hb2
              clear gc gd
              have gd := fun z => gr_cell (w := w2) ((hb2.cell (World.block_lt_of_cell? _ _ HD.out)).trans HD.out) z
              have gc := fun z => gr_cell (w := w2) ((hbw.cell (World.block_lt_of_cell? w1 _ hc)).trans hc) z
              clear hb2 HD
              go_wp2_with fail
              refine wp_region_gr (by kernel_rfl) (by kernel_rfl) ?_
              repeat (go_big_quiet_step (fail))
              refine wpQuiet_nil ?_
              intro w2' hb2
              have hbw := bthen hbw hb2
              clear gc gd hb2 hc
              have acc := acc.below hbw
              rw [← HE.out] at acc ⊢
              have hb := bthen hb hbw
              go_wp2_with fail
              go_roundw
              case rel => exact ⟨k + 1, by omega, by go_num, hb, g, cv, rfl, acc⟩
              case measure => simp [intOf]; omega
            · have HI : Hid (insU x S = S.take m ++ [x] ++ S.drop m) := insU_split hm HM.out (fun z hz => by rw [hy] at hz; obtain rfl := Option.some.inj hz; exact ⟨hlt, hxy⟩)
              have hq2 : (y.toList == x.toList) = false := by rw [beq_data]; exact decide_eq_false hxy
              clear hy HM hxy hlt hd hcw hroww e2
              go_wp2_with fail
              refine wp_region_gr (by kernel_rfl) (by kernel_rfl) ?_
              repeat (go_big_quiet_step (fail))
              refine wpQuiet_nil ?_
              intro w2 hb2
              have hbw := bthen hbw hb2
              clear gc gd
              have gd := fun z => gr_cell (w := w2) ((hb2.cell (World.block_lt_of_cell? _ _ HD.out)).trans HD.out) z
              have gc := fun z => gr_cell (w := w2) ((hbw.cell (World.block_lt_of_cell? w1 _ hc)).trans hc) z
              clear hb2 HD
              go_wp2_with fail
              refine wp_region_gr (by kernel_rfl) (by kernel_rfl) ?_
              repeat (go_big_quiet_step (fail))
              refine wpQuiet_nil ?_
              intro w2' hb2
              have hbw := bthen hbw hb2
              have hs2w : w.heap.size ≤ w2'.heap.size := Nat.le_trans hs1w hbw.size
              clear gc gd hb2
              have hroww := hrow.below hbw
              have hrT : RowAt 1073741824 w2' (.slice (some ⟨g, 0, none⟩) m cv) 1 (strRows (S.take m)) := by rw [← strRows_take]; exact hroww.take m (by rw [strRows_len]; omega)
              have hrD : RowAt 1073741824 w2' (.slice (some ⟨g, m, none⟩) (S.length - m) (cv - m)) 1 (strRows (S.drop m)) := by have := hroww.drop m (by rw [strRows_len]; omega); rw [strRows_drop, strRows_len] at this; simpa using this
              have HK : Hid ((strRows (S.take m)).length = m) := by show _ = _; rw [strRows_len, List.length_take]; omega
              have acc := acc.below hbw
              have hb := bthen hb hbw
              have gc := fun z => gr_cell (w := w2') ((hbw.cell (World.block_lt_of_cell? w1 _ hc)).trans hc) z
              clear hroww hrow hc
              go_wp2_with fail
              refine rg_region_pre [1, 2, 3, 5, 6, 7, 11, 12, 13] [0, 4, 8, 9] [10, 14, 15] (lo := (.cons _ (.cons _ (.cons _ .nil)))) (lp := (.cons _ (.cons _ (.cons _ (.cons _ (.cons _ (.cons _ (.cons _ (.cons _ (.cons _ .nil)))))))))) (by rfl) (by rfl) (tAt 0 (eBox0 w2'.heap.size 9) (tAt 4 (eAcc w2'.heap.size 9 1 m (strRows (S.take m)) HK.out) (tAt 9 (eLit1 [.string x] 9) tNil))) (by kernel_rfl) (by kernel_rfl) (fun _ _ _ _ _ h => h) ?_
              repeat (go_big_quiet_step (fail))
              refine wpQuiet_nil ⟨by rfl, ?_⟩
              refine rg_made 0 rfl rfl ?_ ?_
              · rintro w' ⟨y, rfl⟩ hd
                exact ⟨_, _, by simp [go_sem]; try exact ⟨rfl, rfl⟩, balloc _ _, _, rfl, Box.new _ _ _, (gr_below _ _).size⟩
              intro v hv
              obtain ⟨g0, rfl⟩ : ∃ g, v = .slice (some ⟨g, 0, none⟩) 0 0 := hv
              simp only [Act.put, List.setIfInBounds_toArray, List.set_cons_zero, List.set_cons_succ]
              refine rg_made 4 rfl rfl ?_ ?_
              · rintro w' ⟨y, rfl⟩ hd
                obtain ⟨_, g0', eg, B0, hg0⟩ := (hd ⟨0, .data⟩ (by simp) rfl _ rfl (by decide) 45 rfl)
                obtain rfl : g0 = g0' := by simpa using eg
                exact rg_app0A (.tmp 45) (.tmp 48) 25 (by rfl) 9 w2'.heap.size 1 16 1073741824 (.string ⟨#[]⟩) Tryz.underlying25 inf_str rfl (by decide) (by decide) _ _ (strRows (S.take m)) (by rfl) (by rfl) (one_strRows _) (by rw [strRows_len, List.length_take]; omega) _ B0 hg0 (hrT.below (gr_below _ _)) (gr_below _ _).size
              intro v hv
              obtain ⟨ta, tc, rfl⟩ : ∃ a c, v = .slice a m c := hv
              simp only [Act.put, List.setIfInBounds_toArray, List.set_cons_zero, List.set_cons_succ]
              refine rg_quiet anti_end [8] [9] (lo := (.cons _ .nil)) (by rfl) (by kernel_rfl) ?_
              repeat (go_big_quiet_step (fail))
              refine wpQuiet_nil ?_
              refine rg_made 9 rfl rfl ?_ ?_
              · rintro w' ⟨y, rfl⟩ hd
                exact ⟨_, _, by simp [go_sem]; try exact ⟨rfl, rfl⟩, balloc _ _, _, rfl, Box.new _ _ _, Nat.le_refl _, by simp⟩
              intro v hv
              obtain ⟨gl, rfl⟩ : ∃ g, v = .slice (some ⟨g, 0, none⟩) 1 1 := hv
              simp only [Act.put, List.setIfInBounds_toArray, List.set_cons_zero, List.set_cons_succ]
              intro w3 U hb3 hF
              obtain ⟨V1, V2, _, _, ⟨V3, V4, _, _, _, accT⟩, hL⟩ := hF
              obtain ⟨gl', e0, BL, _⟩ : ∃ g, Value.slice (some ⟨gl, 0, none⟩) 1 1 = .slice (some ⟨g, 0, none⟩) 1 1 ∧ Box w3 g #[.string x] 9 ∧ _ := hL
              obtain rfl : gl = gl' := by simpa using e0
              have accT : Acc w3 w2'.heap.size 9 1 (.slice ta m tc) (strRows (S.take m)) := accT
              have hrD := hrD.below hb3
              have hs3 := hb3.size
              have hb := bthen hb hb3
              have hgl : g < w2'.heap.size := (acc.1.lt g rfl).2
              have hsw : w.heap.size ≤ w2'.heap.size := hs2w
              clear e0 gc hrT acc hb3
              go_wp2_with (at_builtin; refine appR _ rfl (.tmp 49) (.tmp 54) 25 rfl w2'.heap.size 9 1 16 1 (.string ⟨#[]⟩) Tryz.underlying25 inf_str rfl (by decide) (by decide) _ (strRows (S.take m)) (by rfl) accT _ [[.string x]] (by rfl) (rowAt_one (row := [.string x]) BL (by decide)) (by simp [Value.oneCell']) (by rw [HK.out]; simp; omega) hs3 ?_)
              intro v4 w4 acc4 hg4 _
              have hb := grown_below hb accT hg4 hsw (by omega)
              have hrD := hrD.keep1 (grown_block accT hg4 hgl (by omega))
              have hs4 := Nat.le_trans hs3 hg4.size
              clear accT hg4 BL
              refine appR _ rfl (.tmp 55) (.tmp 58) 25 rfl w2'.heap.size 9 1 16 1073741824 (.string ⟨#[]⟩) Tryz.underlying25 inf_str rfl (by decide) (by decide) _ (strRows (S.take m) ++ [[.string x]]) (by rfl) acc4 _ (strRows (S.drop m)) (by rfl) hrD (one_strRows _) (by rw [List.length_append, HK.out, strRows_len, List.length_drop]; simp; omega) hs4 ?_
              intro v5 w5 acc5 hg5 _
              have hb := grown_below hb acc4 hg5 hsw (by omega)
              clear acc4 hg5 hrD
              have HF : Hid (strRows (S.take m) ++ [[.string x]] ++ strRows (S.drop m) = strRows (sortU (l.take (k + 1)))) := by show _ = _; rw [HT.out, HI.out, strRows_app, strRows_app]; rfl
              rw [HF.out] at acc5
              have acc5 := acc5.le hsw
              obtain ⟨g5, c5, rfl⟩ := acc5.some_of (by rw [← HF.out]; simp)
              rw [strRows_len] at acc5 ⊢
              go_wp2_with fail
              go_roundw
              case rel => exact ⟨k + 1, by omega, by go_num, hb, g5, c5, rfl, acc5⟩
              case measure => simp [intOf]; omega
        · have e : m = S.length := by omega
          subst e
          have HI : Hid (insU x S = S.take S.length ++ [x] ++ S.drop S.length) := insU_split (Nat.le_refl _) HM.out (fun z hz => by rw [List.getElem?_eq_none (Nat.le_refl _)] at hz; cases hz)
          obtain ⟨m, hme⟩ : ∃ m, m = S.length := ⟨_, rfl⟩
          clear HM hcw hroww
          go_wp2_with fail
          refine wp_region_gr (by kernel_rfl) (by kernel_rfl) ?_
          repeat (go_big_quiet_step (fail))
          refine wpQuiet_nil ?_
          intro w2 hb2
          have hbw := bthen hbw hb2
          clear gc hb2
          have gc := fun z => gr_cell (w := w2) ((hbw.cell (World.block_lt_of_cell? w1 _ hc)).trans hc) z
          go_wp2_with fail
          refine wp_region_gr (by kernel_rfl) (by kernel_rfl) ?_
          repeat (go_big_quiet_step (fail))
          refine wpQuiet_nil ?_
          intro w2' hb2
          have hbw := bthen hbw hb2
          have hs2w : w.heap.size ≤ w2'.heap.size := Nat.le_trans hs1w hbw.size
          clear gc hb2
          rcases Nat.lt_or_eq_of_le hScv with hcv | hcv
          case inl =>
            have hroww := hrow.below hbw
            have hrT : RowAt 1073741824 w2' (.slice (some ⟨g, 0, none⟩) S.length cv) 1 (strRows S) := hroww
            have HK : Hid ((strRows S).length = S.length) := by show _ = _; rw [strRows_len]
            have acc := acc.below hbw
            have hb := bthen hb hbw
            have gc := fun z => gr_cell (w := w2') ((hbw.cell (World.block_lt_of_cell? w1 _ hc)).trans hc) z
            clear hroww hrow hc
            go_wp2_with fail
            refine rg_region_pre [1, 2, 3, 5, 6, 7, 11, 12, 13] [0, 4, 8, 9] [10, 14, 15] (lo := (.cons _ (.cons _ (.cons _ .nil)))) (lp := (.cons _ (.cons _ (.cons _ (.cons _ (.cons _ (.cons _ (.cons _ (.cons _ (.cons _ .nil)))))))))) (by rfl) (by rfl) (tAt 0 (eBox0 w2'.heap.size 9) (tAt 4 (eAcc w2'.heap.size 9 1 S.length (strRows S) HK.out) (tAt 9 (eLit1 [.string x] 9) tNil))) (by kernel_rfl) (by kernel_rfl) (fun _ _ _ _ _ h => h) ?_
            repeat (go_big_quiet_step (fail))
            refine wpQuiet_nil ⟨by rfl, ?_⟩
            refine rg_made 0 rfl rfl ?_ ?_
            · rintro w' ⟨y, rfl⟩ hd
              exact ⟨_, _, by simp [go_sem]; try exact ⟨rfl, rfl⟩, balloc _ _, _, rfl, Box.new _ _ _, (gr_below _ _).size⟩
            intro v hv
            obtain ⟨g0, rfl⟩ : ∃ g, v = .slice (some ⟨g, 0, none⟩) 0 0 := hv
            simp only [Act.put, List.setIfInBounds_toArray, List.set_cons_zero, List.set_cons_succ]
            refine rg_made 4 rfl rfl ?_ ?_
            · rintro w' ⟨y, rfl⟩ hd
              obtain ⟨_, g0', eg, B0, hg0⟩ := (hd ⟨0, .data⟩ (by simp) rfl _ rfl (by decide) 45 rfl)
              obtain rfl : g0 = g0' := by simpa using eg
              exact rg_app0A (.tmp 45) (.tmp 48) 25 (by rfl) 9 w2'.heap.size 1 16 1073741824 (.string ⟨#[]⟩) Tryz.underlying25 inf_str rfl (by decide) (by decide) _ _ (strRows S) (by rfl) (by rfl) (one_strRows _) (by rw [strRows_len]; omega) _ B0 hg0 (hrT.below (gr_below _ _)) (gr_below _ _).size
            intro v hv
            obtain ⟨ta, tc, rfl⟩ : ∃ a c, v = .slice a S.length c := hv
            simp only [Act.put, List.setIfInBounds_toArray, List.set_cons_zero, List.set_cons_succ]
            refine rg_quiet anti_end [8] [9] (lo := (.cons _ .nil)) (by rfl) (by kernel_rfl) ?_
            repeat (go_big_quiet_step (fail))
            refine wpQuiet_nil ?_
            refine rg_made 9 rfl rfl ?_ ?_
            · rintro w' ⟨y, rfl⟩ hd
              exact ⟨_, _, by simp [go_sem]; try exact ⟨rfl, rfl⟩, balloc _ _, _, rfl, Box.new _ _ _, Nat.le_refl _, by simp⟩
            intro v hv
            obtain ⟨gl, rfl⟩ : ∃ g, v = .slice (some ⟨g, 0, none⟩) 1 1 := hv
            simp only [Act.put, List.setIfInBounds_toArray, List.set_cons_zero, List.set_cons_succ]
            intro w3 U hb3 hF
            obtain ⟨V1, V2, _, _, ⟨V3, V4, _, _, _, accT⟩, hL⟩ := hF
            obtain ⟨gl', e0, BL, _⟩ : ∃ g, Value.slice (some ⟨gl, 0, none⟩) 1 1 = .slice (some ⟨g, 0, none⟩) 1 1 ∧ Box w3 g #[.string x] 9 ∧ _ := hL
            obtain rfl : gl = gl' := by simpa using e0
            have accT : Acc w3 w2'.heap.size 9 1 (.slice ta S.length tc) (strRows S) := accT
            have hs3 := hb3.size
            have hb := bthen hb hb3
            have hgl : g < w2'.heap.size := (acc.1.lt g rfl).2
            have hsw : w.heap.size ≤ w2'.heap.size := hs2w
            clear e0 gc hrT acc hb3
            go_wp2_with (at_builtin; refine appR _ rfl (.tmp 49) (.tmp 54) 25 rfl w2'.heap.size 9 1 16 1 (.string ⟨#[]⟩) Tryz.underlying25 inf_str rfl (by decide) (by decide) _ (strRows S) (by rfl) accT _ [[.string x]] (by rfl) (rowAt_one (row := [.string x]) BL (by decide)) (by simp [Value.oneCell']) (by rw [HK.out]; simp; omega) hs3 ?_)
            intro v4 w4 acc4 hg4 _
            have hb := grown_below hb accT hg4 hsw (by omega)
            have hs4 := Nat.le_trans hs3 hg4.size
            clear accT hg4 BL
            refine appR _ rfl (.tmp 55) (.tmp 58) 25 rfl w2'.heap.size 9 1 16 1073741824 (.string ⟨#[]⟩) Tryz.underlying25 inf_str rfl (by decide) (by decide) _ (strRows S ++ [[.string x]]) (by rfl) acc4 _ [] (by rfl) (RowAt.empty _ _ _ _ _) (by simp) (by rw [List.length_append, HK.out]; simp; omega) hs4 ?_
            intro v5 w5 acc5 hg5 _
            have hb := grown_below hb acc4 hg5 hsw (by omega)
            clear acc4 hg5
            have HF : Hid (strRows S ++ [[.string x]] = strRows (sortU (l.take (k + 1)))) := by show _ = _; rw [HT.out, HI.out, List.drop_length, List.append_nil, List.take_length, strRows_app]; rfl
            rw [List.append_nil, HF.out] at acc5
            have acc5 := acc5.le hsw
            obtain ⟨g5, c5, rfl⟩ := acc5.some_of (by rw [← HF.out]; simp)
            rw [strRows_len] at acc5 ⊢
            go_wp2_with fail
            go_roundw
            case rel => exact ⟨k + 1, by omega, by go_num, hb, g5, c5, rfl, acc5⟩
            case measure => simp [intOf]; omega
          case inr =>
            subst hcv
            have hroww := hrow.below hbw
            have hrT : RowAt 1073741824 w2' (.slice (some ⟨g, 0, none⟩) S.length S.length) 1 (strRows S) := hroww
            have HK : Hid ((strRows S).length = S.length) := by show _ = _; rw [strRows_len]
            have acc := acc.below hbw
            have hb := bthen hb hbw
            have gc := fun z => gr_cell (w := w2') ((hbw.cell (World.block_lt_of_cell? w1 _ hc)).trans hc) z
            clear hroww hrow hc
            go_wp2_with fail
            refine rg_region_pre [1, 2, 3, 5, 6, 7, 11, 12, 13] [0, 4, 8, 9] [10, 14, 15] (lo := (.cons _ (.cons _ (.cons _ .nil)))) (lp := (.cons _ (.cons _ (.cons _ (.cons _ (.cons _ (.cons _ (.cons _ (.cons _ (.cons _ .nil)))))))))) (by rfl) (by rfl) (tAt 0 (eBox0 w2'.heap.size 9) (tAt 4 (eAcc w2'.heap.size 9 1 S.length (strRows S) HK.out) (tAt 9 (eLit1 [.string x] 9) tNil))) (by kernel_rfl) (by kernel_rfl) (fun _ _ _ _ _ h => h) ?_
            repeat (go_big_quiet_step (fail))
            refine wpQuiet_nil ⟨by rfl, ?_⟩
            refine rg_made 0 rfl rfl ?_ ?_
            · rintro w' ⟨y, rfl⟩ hd
              exact ⟨_, _, by simp [go_sem]; try exact ⟨rfl, rfl⟩, balloc _ _, _, rfl, Box.new _ _ _, (gr_below _ _).size⟩
            intro v hv
            obtain ⟨g0, rfl⟩ : ∃ g, v = .slice (some ⟨g, 0, none⟩) 0 0 := hv
            simp only [Act.put, List.setIfInBounds_toArray, List.set_cons_zero, List.set_cons_succ]
            refine rg_made 4 rfl rfl ?_ ?_
            · rintro w' ⟨y, rfl⟩ hd
              obtain ⟨_, g0', eg, B0, hg0⟩ := (hd ⟨0, .data⟩ (by simp) rfl _ rfl (by decide) 45 rfl)
              obtain rfl : g0 = g0' := by simpa using eg
              exact rg_app0A (.tmp 45) (.tmp 48) 25 (by rfl) 9 w2'.heap.size 1 16 1073741824 (.string ⟨#[]⟩) Tryz.underlying25 inf_str rfl (by decide) (by decide) _ _ (strRows S) (by rfl) (by rfl) (one_strRows _) (by rw [strRows_len]; omega) _ B0 hg0 (hrT.below (gr_below _ _)) (gr_below _ _).size
            intro v hv
            obtain ⟨ta, tc, rfl⟩ : ∃ a c, v = .slice a S.length c := hv
            simp only [Act.put, List.setIfInBounds_toArray, List.set_cons_zero, List.set_cons_succ]
            refine rg_quiet anti_end [8] [9] (lo := (.cons _ .nil)) (by rfl) (by kernel_rfl) ?_
            repeat (go_big_quiet_step (fail))
            refine wpQuiet_nil ?_
            refine rg_made 9 rfl rfl ?_ ?_
            · rintro w' ⟨y, rfl⟩ hd
              exact ⟨_, _, by simp [go_sem]; try exact ⟨rfl, rfl⟩, balloc _ _, _, rfl, Box.new _ _ _, Nat.le_refl _, by simp⟩
            intro v hv
            obtain ⟨gl, rfl⟩ : ∃ g, v = .slice (some ⟨g, 0, none⟩) 1 1 := hv
            simp only [Act.put, List.setIfInBounds_toArray, List.set_cons_zero, List.set_cons_succ]
            intro w3 U hb3 hF
            obtain ⟨V1, V2, _, _, ⟨V3, V4, _, _, _, accT⟩, hL⟩ := hF
            obtain ⟨gl', e0, BL, _⟩ : ∃ g, Value.slice (some ⟨gl, 0, none⟩) 1 1 = .slice (some ⟨g, 0, none⟩) 1 1 ∧ Box w3 g #[.string x] 9 ∧ _ := hL
            obtain rfl : gl = gl' := by simpa using e0
            have accT : Acc w3 w2'.heap.size 9 1 (.slice ta S.length tc) (strRows S) := accT
            have hs3 := hb3.size
            have hb := bthen hb hb3
            have hgl : g < w2'.heap.size := (acc.1.lt g rfl).2
            have hsw : w.heap.size ≤ w2'.heap.size := hs2w
            clear e0 gc hrT acc hb3
            go_wp2_with (at_builtin; refine appR _ rfl (.tmp 49) (.tmp 54) 25 rfl w2'.heap.size 9 1 16 1 (.string ⟨#[]⟩) Tryz.underlying25 inf_str rfl (by decide) (by decide) _ (strRows S) (by rfl) accT _ [[.string x]] (by rfl) (rowAt_one (row := [.string x]) BL (by decide)) (by simp [Value.oneCell']) (by rw [HK.out]; simp; omega) hs3 ?_)
            intro v4 w4 acc4 hg4 _
            have hb := grown_below hb accT hg4 hsw (by omega)
            have hs4 := Nat.le_trans hs3 hg4.size
            clear accT hg4 BL
            refine appR _ rfl (.tmp 55) (.tmp 58) 25 rfl w2'.heap.size 9 1 16 1073741824 (.string ⟨#[]⟩) Tryz.underlying25 inf_str rfl (by decide) (by decide) _ (strRows S ++ [[.string x]]) (by rfl) acc4 _ [] (by rfl) (RowAt.empty _ _ _ _ _) (by simp) (by rw [List.length_append, HK.out]; simp; omega) hs4 ?_
            intro v5 w5 acc5 hg5 _
            have hb := grown_below hb acc4 hg5 hsw (by omega)
            clear acc4 hg5
            have HF : Hid (strRows S ++ [[.string x]] = strRows (sortU (l.take (k + 1)))) := by show _ = _; rw [HT.out, HI.out, List.drop_length, List.append_nil, List.take_length, strRows_app]; rfl
            rw [List.append_nil, HF.out] at acc5
            have acc5 := acc5.le hsw
            obtain ⟨g5, c5, rfl⟩ := acc5.some_of (by rw [← HF.out]; simp)
            rw [strRows_len] at acc5 ⊢
            go_wp2_with fail
            go_roundw
            case rel => exact ⟨k + 1, by omega, by go_num, hb, g5, c5, rfl, acc5⟩
            case measure => simp [intOf]; omega
    · have e : k = l.length := by omega
      subst e
      rw [List.take_length] at hS
      subst hS
      go_wp2_with fail
      go_ret
      exact ⟨_, rfl, acc.own, hb⟩
theorem l2Sorted_ct (v : Value) (l : List ByteArray) (w : World) (h : StrsAt w v l) (h16 : l.length ≤ 16) : Calls Tryz.prog 118 #[v] w fun e w' => ∃ u, e = .returned u ∧ RowOwn w.heap.size w' u 1 (strRows (sortU l)) ∧ Below w.heap.size w w' :=
  l2SortedB_ct v l w h (by omega)
end Go.Proofs.YthbdmcobpcoajaaGreatDoor
