/- New names. -/
import Derived.Test.YtlkadcmicjencaaDoorNamesL
import Derived.Test.YtlkadcmicjencaaDoorElem1
namespace Go.Proofs.YtlkadcmicjencaaDoor
open Go Go.RowKit Go.BigFrame

theorem strs_flat (l : List ByteArray) : (strRows l).flatten = l.map Value.string := by induction l <;> simp_all [strRows]
def newP (l : List ByteArray) : Big := if namesB l = true then ⟨0, [], [], 0, l, []⟩ else noBig
theorem l3Names_ct (v : Value) (l : List ByteArray) (r : Bool) (w : World) (h : StrsAt w v l) (hr : namesB l = r) : Calls Tryd.prog 56 #[v] w fun e w' => e = .returned (.bool r) ∧ Below w.heap.size w w' := by
  go_enter Tryd.func56, Tryd.ntmps56
  go_wp2_with (go_at_call 97; refine (l2Names_ct v l r _ h hr).mono ?_; rintro e w2 ⟨rfl, hb2⟩)
  go_ret
  exact ⟨rfl, hb2⟩

theorem clone_ct (v : Value) (l : List ByteArray) (w : World) (h : StrsAt w v l) (h16 : l.length ≤ 16) : Calls Tryd.prog 69 #[v] w fun e w' => ∃ v', e = .returned v' ∧ RowOwn w.heap.size w' v' 1 (strRows l) ∧ Below w.heap.size w w' := by
  obtain ⟨a, c, rfl, hlc, _, h3⟩ := h.open
  cases a with
  | none =>
    have hl : l = [] := by
      cases l with
      | nil => rfl
      | cons s l => obtain ⟨_, b, o, e, _⟩ := h3 0 s rfl; cases e
    subst hl
    refine (Tryd.slices_Clone_string_nil _ _ w).mono ?_
    rintro e w' ⟨rfl, rfl⟩
    exact ⟨_, rfl, ⟨fun r hr => (by cases hr), .inl ⟨rfl, _, _, rfl⟩⟩, Below.refl _ _⟩
  | some ad =>
    cases hl : l with
    | nil =>
      refine (Tryd.slices_Clone_string_zero ad c w).mono ?_
      rintro e w' ⟨v', rfl, hown, _, hb⟩
      exact ⟨_, rfl, RowOwn.of_owns (cs := []) hown rfl (fun r hr => by cases hr), hb⟩
    | cons s l' =>
      rw [← hl]
      have h0 := h3 0 s (by rw [hl]; rfl)
      obtain ⟨_, b, o, e, _⟩ := h0
      obtain rfl : ad = ⟨b, o, none⟩ := by simpa using e
      refine (Tryd.slices_Clone_string b o l.length c l w (Nat.le_refl _) (by omega) ?_).mono ?_
      · intro j hj
        obtain ⟨x, hx⟩ := getElem?_of_lt hj
        obtain ⟨_, b', o', e', hc⟩ := h3 j x hx
        obtain ⟨rfl, rfl⟩ : b = b' ∧ o = o' := by simpa using e'
        rw [hc, List.getD_eq_getElem?_getD, hx]; rfl
      · rintro e w' ⟨v', rfl, hown, _, hb⟩
        rw [List.take_length] at hown
        exact ⟨_, rfl, RowOwn.of_owns (cs := strRows l) (n := l.length) (by rw [strs_flat]; exact hown) (by simp [strRows]) (by simp [strRows]), hb⟩

set_option maxRecDepth 100000 in
set_option maxHeartbeats 2000000 in
theorem implNewNames_ct (v : Value) (l : List ByteArray) (w : World) (h : StrsAt w v l) : Calls Tryd.prog 32 #[v] w (GivesBig (newP l) (namesB l) w) := by
  have HSS : Hid (∀ s ∈ l, s.size ≤ 1073741824) := h.2
  cases hn : namesB l with
  | false =>
    have HP : Hid (newP l = noBig) := by unfold newP; rw [hn]; rfl
    rw [HP.out]
    go_enter Tryd.func32, Tryd.ntmps32
    go_wp2_with fail
    have BA : Box (w.alloc (.cells #[.int .i64 0, .slice none 0 0, .slice none 0 0, .int .i64 0, .slice none 0 0, .slice none 0 0] 40)) w.heap.size #[.int .i64 0, .slice none 0 0, .slice none 0 0, .int .i64 0, .slice none 0 0, .slice none 0 0] 40 := Box.new _ _ _
    refine (areNames_ct v l false _ (h.below (balloc _ _)) hn).mono ?_
    rintro e w2 ⟨rfl, hb2⟩
    have BA2 := BA.below hb2
    have q := BA2.cell
    have f := BA2.free
    have hb2 := bthen (balloc w _) hb2
    go_wp2_with fail
    refine bodyPost_ret (v := .tuple #[.agg #[.int .i64 0, .slice none 0 0, .slice none 0 0, .int .i64 0, .slice none 0 0, .slice none 0 0], .bool false]) (by simp [results, Tryd.results32, go_sem, q]) rfl ⟨_, _, rfl, noBig_own _ _, by simp, ?_⟩
    iterate 6 refine Below.setCell ?_ (by simp) _
    exact hb2
  | true =>
    have HP : Hid (newP l = ⟨0, [], [], 0, l, []⟩) := by unfold newP; rw [hn]; rfl
    rw [HP.out]
    have h16 : l.length ≤ 16 := by unfold namesB at hn; simp at hn; exact hn.2
    have HLL : Hid (l.length ≤ 1073741824) := (by omega : l.length ≤ 1073741824)
    go_enter Tryd.func32, Tryd.ntmps32
    go_wp2_with fail
    have BA : Box (w.alloc (.cells #[.int .i64 0, .slice none 0 0, .slice none 0 0, .int .i64 0, .slice none 0 0, .slice none 0 0] 40)) w.heap.size #[.int .i64 0, .slice none 0 0, .slice none 0 0, .int .i64 0, .slice none 0 0, .slice none 0 0] 40 := Box.new _ _ _
    refine (areNames_ct v l true _ (h.below (balloc _ _)) hn).mono ?_
    rintro e w2 ⟨rfl, hb2⟩
    have BA2 := BA.below hb2
    have hb2 := bthen (balloc w _) hb2
    have h2 := h.below hb2
    clear BA h
    go_wp2_with fail
    refine (clone_ct v l _ h2 h16).mono ?_
    rintro e w3 ⟨v4, rfl, own4, hb4⟩
    have BA3 := BA2.below hb4
    have hb3 := bthen hb2 hb4
    obtain ⟨a4, c4, rfl⟩ : ∃ a c, v4 = .slice a l.length c := by have := own4.shape; simpa [strRows] using this
    have hln := own4.lt
    have hBL := BA2.lt
    have q := BA3.cell
    have f := BA3.free
    go_wp2_with fail
    refine bodyPost_ret (v := .tuple #[.agg #[.int .i64 0, .slice none 0 0, .slice none 0 0, .int .i64 0, .slice a4 l.length c4, .slice none 0 0], .bool true]) (by simp [results, Tryd.results32, go_sem, q]) rfl ⟨_, _, rfl, ⟨_, _, _, _, [], rfl, nds_none _ _, ints_none _ _, ⟨(own4.keep ?_).mono (Nat.le_of_lt BA2.lt), HLL.out, HSS.out⟩, wrs_none _ _, by unfold I64; dsimp only; omega, by unfold I64; dsimp only; omega, rfl⟩, ?_, ?_⟩
    · intro g hg; have := hln g hg; repeat rw [heap_setCell_other _ _ _ _ (by simp <;> omega)]
    · cases a4 <;> cases l.length <;> simp [blks]
    · iterate 6 refine Below.setCell ?_ (by simp) _
      exact hb3

set_option maxRecDepth 100000 in
set_option maxHeartbeats 2000000 in
theorem specNewNames_ct (v : Value) (l : List ByteArray) (w : World) (h : StrsAt w v l) : Calls Tryd.prog 31 #[v] w (GivesBig (newP l) (namesB l) w) := by
  have HSS : Hid (∀ s ∈ l, s.size ≤ 1073741824) := h.2
  cases hn : namesB l with
  | false =>
    have HP : Hid (newP l = noBig) := by unfold newP; rw [hn]; rfl
    rw [HP.out]
    go_enter Tryd.func31, Tryd.ntmps31
    go_wp2_with fail
    have BA : Box (w.alloc (.cells #[.int .i64 0, .slice none 0 0, .slice none 0 0, .int .i64 0, .slice none 0 0, .slice none 0 0] 40)) w.heap.size #[.int .i64 0, .slice none 0 0, .slice none 0 0, .int .i64 0, .slice none 0 0, .slice none 0 0] 40 := Box.new _ _ _
    refine (l3Names_ct v l false _ (h.below (balloc _ _)) hn).mono ?_
    rintro e w2 ⟨rfl, hb2⟩
    have BA2 := BA.below hb2
    have q := BA2.cell
    have f := BA2.free
    have hb2 := bthen (balloc w _) hb2
    go_wp2_with fail
    refine bodyPost_ret (v := .tuple #[.agg #[.int .i64 0, .slice none 0 0, .slice none 0 0, .int .i64 0, .slice none 0 0, .slice none 0 0], .bool false]) (by simp [results, Tryd.results31, go_sem, q]) rfl ⟨_, _, rfl, noBig_own _ _, by simp, ?_⟩
    iterate 6 refine Below.setCell ?_ (by simp) _
    exact hb2
  | true =>
    have HP : Hid (newP l = ⟨0, [], [], 0, l, []⟩) := by unfold newP; rw [hn]; rfl
    rw [HP.out]
    have h16 : l.length ≤ 16 := by unfold namesB at hn; simp at hn; exact hn.2
    have HLL : Hid (l.length ≤ 1073741824) := (by omega : l.length ≤ 1073741824)
    go_enter Tryd.func31, Tryd.ntmps31
    go_wp2_with fail
    have BA : Box (w.alloc (.cells #[.int .i64 0, .slice none 0 0, .slice none 0 0, .int .i64 0, .slice none 0 0, .slice none 0 0] 40)) w.heap.size #[.int .i64 0, .slice none 0 0, .slice none 0 0, .int .i64 0, .slice none 0 0, .slice none 0 0] 40 := Box.new _ _ _
    refine (l3Names_ct v l true _ (h.below (balloc _ _)) hn).mono ?_
    rintro e w2 ⟨rfl, hb2⟩
    have BA2 := BA.below hb2
    have hb2 := bthen (balloc w _) hb2
    have h2 := h.below hb2
    clear BA h
    obtain ⟨a, c, rfl, hlc, _, h3⟩ := h2.open
    have hlit : Below w2.heap.size w2 (w2.alloc (.cells #[] 9)) := balloc _ _
    have acc : Acc (w2.alloc (.cells #[] 9)) w2.heap.size 9 1 (.slice (some ⟨w2.heap.size, 0, none⟩) 0 0) [] := Acc.lit0 _ _ _ _ (Nat.le_refl _)
    have e2 : (strRows l).flatten = l.map Value.string := strs_flat l
    obtain ⟨i0, hi, hz0, hz1, hz2⟩ := info_parts inf_str
    cases a with
    | none =>
      have hl : l = [] := by
        cases l with
        | nil => rfl
        | cons s l => obtain ⟨_, b, o, e, _⟩ := h3 0 s rfl; cases e
      clear h3 hi hz0 hz1 hz2
      subst hl
      have own4 : RowOwn w2.heap.size (w2.alloc (.cells #[] 9)) (.slice (some ⟨w2.heap.size, 0, none⟩) 0 0) 1 (strRows []) := acc.own
      obtain ⟨v4, hv4⟩ : ∃ v4, v4 = Value.slice (some ⟨w2.heap.size, 0, none⟩) 0 0 := ⟨_, rfl⟩
      rw [← hv4] at own4
      have BA3 := BA2.below hlit
      have hb3 := bthen hb2 hlit
      have q := BA3.cell
      have f := BA3.free
      go_wp2_with fail
      refine bodyPost_ret (v := .tuple #[.agg #[.int .i64 0, .slice none 0 0, .slice none 0 0, .int .i64 0, .slice (some ⟨w2.heap.size, 0, none⟩) 0 0, .slice none 0 0], .bool true]) (by simp [results, Tryd.results31, go_sem, q]) rfl ⟨_, _, rfl, ⟨_, _, _, _, [], rfl, nds_none _ _, ints_none _ _, ⟨own_none _ _ _ _ _, HLL.out, HSS.out⟩, wrs_none _ _, by unfold I64; dsimp only; omega, by unfold I64; dsimp only; omega, rfl⟩, ?_, ?_⟩
      · simp [blks]
      · iterate 6 refine Below.setCell ?_ (by simp) _
        exact hb3
    | some ad =>
      have hnews : ∀ j u, (l.map Value.string)[j]? = some u → (w2.alloc (.cells #[] 9)).cell? (ad.add j) = some u := by
        intro j u hu
        rw [List.getElem?_map] at hu
        cases hx : l[j]? with
        | none => rw [hx] at hu; cases hu
        | some x =>
          rw [hx] at hu
          simp only [Option.map_some, Option.some.injEq] at hu
          subst hu
          obtain ⟨_, b, o, e, hc⟩ := h3 j x hx
          obtain rfl : ad = ⟨b, o, none⟩ := by simpa using e
          have hadd : (⟨b, o, none⟩ : Addr).add j = ⟨b, o + j, none⟩ := by unfold Addr.add; split <;> simp_all
          rw [hadd]
          exact (hlit.cell (World.block_lt_of_cell? _ _ hc)).trans hc
      clear h3
      go_wp2_with (at_builtin; refine wpList_append_own _ rfl (.tmp 8) (.tmp 9) 34 rfl w2.heap.size 9 i0 (.string ⟨#[]⟩) 1 16 Tryd.underlying34 hi hz0 hz1 hz2 rfl (by decide) (.slice (some ⟨w2.heap.size, 0, none⟩) 0 0) 0 [] rfl acc.1 ad l.length c (l.map Value.string) rfl (by simp) hnews (by intro u hu; obtain ⟨x, _, rfl⟩ := List.mem_map.1 hu; rfl) (by unfold maxLen; omega) (by omega) (by simp) ?_)
      intro v4 w3 own4 hg _
      have hb3 := (bthen hb2 hlit).grown hg (by simp; have := BA2.lt; omega) (fun k hk => by simp [Value.ownBlock] at hk; have := BA2.lt; omega)
      have BA3 := (BA2.below hlit).keep (hg.block _ (BA2.below hlit).lt (by simp [Value.ownBlock]; have := BA2.lt; omega))
      have own4 : RowOwn w2.heap.size w3 v4 1 (strRows l) := RowOwn.of_owns (cs := strRows l) (by rw [e2]; simpa using own4) (by simp [strRows]) (by simp [strRows])
      clear hg acc hi hz0 hz1 hz2 hnews
      obtain ⟨a4, c4, rfl⟩ : ∃ a c, v4 = .slice a l.length c := by have := own4.shape; simpa [strRows] using this
      have hln := own4.lt
      have hBL := BA2.lt
      have q := BA3.cell
      have f := BA3.free
      go_wp2_with fail
      refine bodyPost_ret (v := .tuple #[.agg #[.int .i64 0, .slice none 0 0, .slice none 0 0, .int .i64 0, .slice a4 l.length c4, .slice none 0 0], .bool true]) (by simp [results, Tryd.results31, go_sem, q]) rfl ⟨_, _, rfl, ⟨_, _, _, _, [], rfl, nds_none _ _, ints_none _ _, ⟨(own4.keep ?_).mono (Nat.le_of_lt BA2.lt), HLL.out, HSS.out⟩, wrs_none _ _, by unfold I64; dsimp only; omega, by unfold I64; dsimp only; omega, rfl⟩, ?_, ?_⟩
      · intro g hg; have := hln g hg; repeat rw [heap_setCell_other _ _ _ _ (by simp <;> omega)]
      · cases a4 <;> cases l.length <;> simp [blks]
      · iterate 6 refine Below.setCell ?_ (by simp) _
        exact hb3

end Go.Proofs.YtlkadcmicjencaaDoor
