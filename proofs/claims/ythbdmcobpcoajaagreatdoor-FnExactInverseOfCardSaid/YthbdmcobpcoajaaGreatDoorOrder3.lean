/- slices.Clone and slices.Sort of numbers, as impl.isOrder uses them. -/
import Derived.Test.YthbdmcobpcoajaaGreatDoorOrder2
import Derived.Lib.OwnBridge
import Derived.Lib.SortBridge
namespace Go.Proofs.YthbdmcobpcoajaaGreatDoor
open Go Go.RowKit Go.BigFrame Go.Sort

/-- A slice of the call's own that holds the numbers, ready to be sorted. -/
def Src (base : Nat) (w : World) (u : Value) (l : List Int) : Prop :=
  ∃ p cap, u = .slice p l.length cap ∧ (l = [] ∨ ∃ g, p = some ⟨g, 0, none⟩ ∧ base ≤ g ∧ g < w.heap.size ∧ Holds (Value.int .i64) w g 0 l.toArray)
theorem src_of {base e : Nat} {w : World} {u : Value} {l : List Int} (h : w.ownsRow base e 1 u l.length (l.map (Value.int .i64))) : Src base w u l := by
  rcases h.2 with ⟨rfl, h0⟩ | ⟨g, cap, cur, rfl, hb, hg, h4⟩
  · exact ⟨none, 0, by rw [h0], .inl (List.eq_nil_of_length_eq_zero h0)⟩
  · refine ⟨_, cap, rfl, .inr ⟨g, rfl, hb, (Array.getElem?_eq_some_iff.1 hg).1, fun j hj => ?_⟩⟩
    have hj' : j < l.length := by simpa using hj
    rw [Nat.zero_add]
    refine ⟨?_, h.frozenAt j⟩
    rw [h.cellAt j (by simpa using hj')]
    simp [hj']
theorem intsClone_ct (v : Value) (l : List Int) (w : World) (h : IntsAt w v l) (h4 : l.length ≤ 2000000) : Calls Tryz.prog 176 #[v] w fun e w' => ∃ u, e = .returned u ∧ Src w.heap.size w' u l ∧ Below w.heap.size w w' := by
  obtain ⟨a, c, rfl, hlc, _, h3⟩ := h.open
  cases a with
  | none =>
    have hl : l = [] := by
      cases l with
      | nil => rfl
      | cons s l => obtain ⟨_, b, o, e, _⟩ := h3 0 s rfl; cases e
    subst hl
    refine (Tryz.slices_Clone_int_nil _ _ w).mono ?_
    rintro e w' ⟨rfl, rfl⟩
    exact ⟨_, rfl, ⟨none, 0, rfl, .inl rfl⟩, Below.refl _ _⟩
  | some ad =>
    cases hl : l with
    | nil =>
      refine (Tryz.slices_Clone_int_zero ad c w).mono ?_
      rintro e w' ⟨v', rfl, hown, _, hb⟩
      exact ⟨_, rfl, src_of (l := []) hown, hb⟩
    | cons s l' =>
      rw [← hl]
      obtain ⟨_, b, o, e, _⟩ := h3 0 s (by rw [hl]; rfl)
      obtain rfl : ad = ⟨b, o, none⟩ := by simpa using e
      refine (Tryz.slices_Clone_int b o l.length c l w (Nat.le_refl _) (by omega) ?_).mono ?_
      · intro j hj
        obtain ⟨x, hx⟩ := getElem?_of_lt hj
        obtain ⟨_, b', o', e', hc⟩ := h3 j x hx
        obtain ⟨rfl, rfl⟩ : b = b' ∧ o = o' := by simpa using e'
        rw [hc, List.getD_eq_getElem?_getD, hx]; rfl
      · rintro e w' ⟨v', rfl, hown, _, hb⟩
        rw [List.take_length] at hown
        exact ⟨_, rfl, src_of hown, hb⟩
theorem intsSort_ct (base : Nat) (u : Value) (l : List Int) (w : World) (h : Src base w u l) (h4 : l.length ≤ 2000000) (hbs : base ≤ w.heap.size) : Calls Tryz.prog 183 #[u] w fun e w' => e = .returned (.tuple #[]) ∧ Below base w w' ∧ ∃ p cap, u = .slice p l.length cap ∧ ∀ (j : Nat) x, (sortL l)[j]? = some x → ∃ g, p = some ⟨g, 0, none⟩ ∧ w'.cell? ⟨g, j, none⟩ = some (.int .i64 x) := by
  obtain ⟨p, cap, rfl, rfl | ⟨g, rfl, hb, hlt, hH⟩⟩ := h
  · refine (Tryz.slices_Sort_int_none p cap w).mono ?_
    rintro e w' ⟨rfl, rfl⟩
    exact ⟨rfl, Below.refl _ _, p, cap, rfl, fun j x hx => by simp [sortL] at hx⟩
  · refine (Tryz.slices_Sort_int g 0 cap l w hH hlt (by omega)).mono ?_
    rintro e w' ⟨rfl, n, os, rfl⟩
    have hB : Below base w (putRow (Value.int .i64) (Sort.ahead w n) g 0 (l.mergeSort fun x y => decide (x ≤ y)).toArray) := Lib.below_putRow (Below.refl _ _) hb
    have hsz : g < (putRow (Value.int .i64) (Sort.ahead w n) g 0 (l.mergeSort fun x y => decide (x ≤ y)).toArray).heap.size := Nat.lt_of_lt_of_le hlt hB.size
    have hG : ∀ W : World, Below W.heap.size W (grow W os) := fun W => ⟨rfl, rfl, rfl, by show W.heap.size ≤ (W.heap ++ os).size; rw [Array.size_append]; omega, fun j hj => heap_grow_old W os hj⟩
    refine ⟨rfl, hB.trans ((hG _).mono (Nat.le_trans hbs hB.size)), _, _, rfl, fun j x hx => ⟨g, rfl, ?_⟩⟩
    rw [cell?_grow _ os _ hsz]
    have hj := (List.getElem?_eq_some_iff.1 hx).1
    have hH' : Holds (Value.int .i64) (Sort.ahead w n) g 0 l.toArray := hH
    have := (holds_putRow (Value.int .i64) (Sort.ahead w n) g 0 l.toArray (l.mergeSort fun x y => decide (x ≤ y)).toArray hH' (by simp) j (by simpa [sortL] using hj)).1
    rw [Nat.zero_add] at this
    rw [this]
    unfold sortL at hx
    simp
    rw [hx]
    rfl
end Go.Proofs.YthbdmcobpcoajaaGreatDoor
