/- New names. -/
import Derived.Test.YtanndcclkmcfbaaDoorNamesL
import Derived.Test.YtanndcclkmcfbaaDoorElem1
namespace Go.Proofs.YtanndcclkmcfbaaDoor
open Go Go.RowKit Go.BigFrame

theorem strs_flat (l : List ByteArray) : (strRows l).flatten = l.map Value.string := by induction l <;> simp_all [strRows]
def newP (l : List ByteArray) : Big := if namesB l = true then ⟨0, [], [], 0, l, []⟩ else noBig

theorem clone_ct (v : Value) (l : List ByteArray) (w : World) (h : StrsAt w v l) (h16 : l.length ≤ 16) : Calls Tryd.prog 56 #[v] w fun e w' => ∃ v', e = .returned v' ∧ RowOwn w.heap.size w' v' 1 (strRows l) ∧ Below w.heap.size w w' := by
  obtain ⟨a, c, rfl, hlc, _, h3⟩ := h.open
  cases a with
  | none =>
    have hl : l = [] := by
      cases l with
      | nil => rfl
      | cons s l => obtain ⟨_, b, o, e, _⟩ := h3 0 s rfl; cases e
    subst hl
    refine (Tryd.slices_Clone_string_nil _ _ w).mono ?_
    rintro e w' ⟨rfl, rfl⟩
    exact ⟨_, rfl, ⟨fun r hr => (by cases hr), .inl ⟨rfl, _, _, rfl⟩⟩, Below.refl _ _⟩
  | some ad =>
    cases hl : l with
    | nil =>
      refine (Tryd.slices_Clone_string_zero ad c w).mono ?_
      rintro e w' ⟨v', rfl, hown, _, hb⟩
      exact ⟨_, rfl, RowOwn.of_owns (cs := []) hown rfl (fun r hr => by cases hr), hb⟩
    | cons s l' =>
      rw [← hl]
      have h0 := h3 0 s (by rw [hl]; rfl)
      obtain ⟨_, b, o, e, _⟩ := h0
      obtain rfl : ad = ⟨b, o, none⟩ := by simpa using e
      refine (Tryd.slices_Clone_string b o l.length c l w (Nat.le_refl _) (by omega) ?_).mono ?_
      · intro j hj
        obtain ⟨x, hx⟩ := getElem?_of_lt hj
        obtain ⟨_, b', o', e', hc⟩ := h3 j x hx
        obtain ⟨rfl, rfl⟩ : b = b' ∧ o = o' := by simpa using e'
        rw [hc, List.getD_eq_getElem?_getD, hx]; rfl
      · rintro e w' ⟨v', rfl, hown, _, hb⟩
        rw [List.take_length] at hown
        exact ⟨_, rfl, RowOwn.of_owns (cs := strRows l) (n := l.length) (by rw [strs_flat]; exact hown) (by simp [strRows]) (by simp [strRows]), hb⟩



end Go.Proofs.YtanndcclkmcfbaaDoor
