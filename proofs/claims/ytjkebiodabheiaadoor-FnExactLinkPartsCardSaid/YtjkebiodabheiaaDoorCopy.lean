/- Rows of several cells, read as one list. No program in sight. -/
import Derived.Test.YtjkebiodabheiaaDoorNewN
namespace Go.Proofs.YtjkebiodabheiaaDoor
open Go Go.RowKit Go.BigFrame

theorem flatGet2 {sz : Nat} : ∀ (cs : List (List Value)), (∀ r ∈ cs, r.length = sz) → ∀ k u, cs.flatten[k]? = some u → ∃ i r j, cs[i]? = some r ∧ r[j]? = some u ∧ k = i * sz + j
  | [], _, k, u, h => by simp at h
  | c :: cs, hr, k, u, h => by
    have hc := hr c (List.mem_cons_self)
    rw [List.flatten_cons] at h
    by_cases hk : k < c.length
    · rw [List.getElem?_append_left hk] at h
      exact ⟨0, c, k, rfl, h, by simp⟩
    · rw [List.getElem?_append_right (by omega)] at h
      obtain ⟨i, r, j, h1, h2, h3⟩ := flatGet2 cs (fun r hr' => hr r (List.mem_cons_of_mem _ hr')) _ u h
      exact ⟨i + 1, r, j, by simpa using h1, h2, by rw [Nat.add_mul, Nat.one_mul]; omega⟩
theorem addr_add (b o k : Nat) : (⟨b, o, none⟩ : Addr).add k = ⟨b, o + k, none⟩ := by unfold Addr.add; split <;> simp_all
theorem RowAt.news {M sz n c : Nat} {w : World} {ad : Addr} {cs : List (List Value)} (h : RowAt M w (.slice (some ad) n c) sz cs) : ∀ j u, cs.flatten[j]? = some u → w.cell? (ad.add j) = some u := by
  obtain ⟨a, c', e, _, _, hr, h5⟩ := h
  intro j u hj
  obtain ⟨i, r, m, h1, h2, rfl⟩ := flatGet2 cs hr j u hj
  obtain ⟨b, o, ea, hc⟩ := h5 i r h1
  simp only [Value.slice.injEq] at e
  obtain rfl : ad = ⟨b, o, none⟩ := by have := e.1.trans ea; simpa using this
  rw [addr_add, ← Nat.add_assoc]
  exact hc m u h2
theorem RowAt.nil_of_none {M sz n c : Nat} {w : World} {cs : List (List Value)} (h : RowAt M w (.slice none n c) sz cs) : cs = [] := by
  obtain ⟨a, c', e, _, _, _, h5⟩ := h
  simp only [Value.slice.injEq] at e
  cases cs with
  | nil => rfl
  | cons r cs => obtain ⟨b, o, ea, _⟩ := h5 0 r rfl; rw [ea] at e; cases e.1
theorem flatLen2 {sz : Nat} : ∀ (cs : List (List Value)), (∀ r ∈ cs, r.length = sz) → cs.flatten.length = cs.length * sz
  | [], _ => by simp
  | c :: cs, hr => by
    have := flatLen2 cs (fun r hr' => hr r (List.mem_cons_of_mem _ hr'))
    have hc := hr c (List.mem_cons_self)
    simp only [List.flatten_cons, List.length_append, List.length_cons, this, hc, Nat.add_mul, Nat.one_mul]; omega

set_option maxRecDepth 100000 in
set_option maxHeartbeats 2000000 in
theorem cloneW_ct (v : Value) (l : List Wr) (w : World) (h : WrsAt w v l) (h16 : l.length ≤ 1000) : Calls Tryd.prog 71 #[v] w fun e w' => ∃ v', e = .returned v' ∧ RowOwn w.heap.size w' v' 2 (l.map Wr.cells) ∧ Below w.heap.size w w' := by
  have hr := h.1
  obtain ⟨a, c, rfl, hlc, _, _⟩ := h.open
  have q39 : ∀ (w : World) (a : Option Addr) (n c n' c' : Nat), (binOp .eql 41 (.slice a n c) (.slice none n' c')).run Tryd.prog w = .ok (.bool a.isNone) w := fun w a n c n' c' => Lib.run_eql_slice_nil w _ _ a n c n' c' Tryd.underlying41
  have hrow : ∀ r ∈ l.map Wr.cells, r.length = 2 := by intro r hr; obtain ⟨x, _, rfl⟩ := List.mem_map.1 hr; rfl
  obtain ⟨i0, hi, hz0, hz1, hz2⟩ := info_parts inf_wr
  cases a with
  | none =>
    have hl : l = [] := by have := hr.nil_of_none; simpa using this
    clear hr hi hz0 hz1 hz2 hrow h
    subst hl
    go_enter Tryd.func71, Tryd.ntmps71
    go_wp2_with fail
    go_ret
    exact ⟨_, rfl, own_none _ _ _ _ _, Below.refl _ _⟩
  | some ad =>
    have hlit : Below w.heap.size w (w.alloc (.cells #[] 85)) := balloc _ _
    have acc : Acc (w.alloc (.cells #[] 85)) w.heap.size 85 2 (.slice (some ⟨w.heap.size, 0, none⟩) 0 0) [] := Acc.lit0 _ _ _ _ (Nat.le_refl _)
    have hnews := (hr.below hlit).news
    have hfl := flatLen2 _ hrow
    simp only [List.length_map] at hfl
    have hone : ∀ u ∈ (l.map Wr.cells).flatten, u.oneCell' = true := by
      intro u hu
      obtain ⟨r, hr, hu⟩ := List.mem_flatten.1 hu
      obtain ⟨x, _, rfl⟩ := List.mem_map.1 hr
      simp only [Wr.cells, List.mem_cons, List.not_mem_nil, or_false] at hu
      rcases hu with rfl | rfl <;> rfl
    clear hr h
    go_enter Tryd.func71, Tryd.ntmps71
    go_wp2_with (at_builtin; refine wpList_append_own _ rfl (.tmp 5) (.tmp 6) 41 rfl w.heap.size 85 i0 (.agg #[.string ⟨#[]⟩, .int .i64 0]) 2 24 Tryd.underlying41 hi hz0 hz1 hz2 rfl (by decide) (.slice (some ⟨w.heap.size, 0, none⟩) 0 0) 0 [] rfl acc.1 ad l.length c ((l.map Wr.cells).flatten) rfl hfl hnews hone (by unfold maxLen; omega) (by omega) (by simp) ?_)
    intro v4 w3 own4 hg _
    have hb := hlit.grown hg (by simp) (fun k hk => by simp [Value.ownBlock] at hk; omega)
    have own4 : RowOwn w.heap.size w3 v4 2 (l.map Wr.cells) := RowOwn.of_owns (cs := l.map Wr.cells) (n := 0 + l.length) (by simpa using own4) (by simp) hrow
    clear hg acc hi hz0 hz1 hz2 hnews
    go_wp2_with fail
    go_ret
    exact ⟨_, rfl, own4, hb⟩
end Go.Proofs.YtjkebiodabheiaaDoor
