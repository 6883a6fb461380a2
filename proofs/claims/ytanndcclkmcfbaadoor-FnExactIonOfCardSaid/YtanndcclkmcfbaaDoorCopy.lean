/- Rows of several cells, read as one list. No program in sight. -/
import Derived.Test.YtanndcclkmcfbaaDoorNewN
namespace Go.Proofs.YtanndcclkmcfbaaDoor
open Go Go.RowKit Go.BigFrame

theorem flatGet2 {sz : Nat} : ∀ (cs : List (List Value)), (∀ r ∈ cs, r.length = sz) → ∀ k u, cs.flatten[k]? = some u → ∃ i r j, cs[i]? = some r ∧ r[j]? = some u ∧ k = i * sz + j
  | [], _, k, u, h => by simp at h
  | c :: cs, hr, k, u, h => by
    have hc := hr c (List.mem_cons_self)
    rw [List.flatten_cons] at h
    by_cases hk : k < c.length
    · rw [List.getElem?_append_left hk] at h
      exact ⟨0, c, k, rfl, h, by simp⟩
    · rw [List.getElem?_append_right (by omega)] at h
      obtain ⟨i, r, j, h1, h2, h3⟩ := flatGet2 cs (fun r hr' => hr r (List.mem_cons_of_mem _ hr')) _ u h
      exact ⟨i + 1, r, j, by simpa using h1, h2, by rw [Nat.add_mul, Nat.one_mul]; omega⟩
theorem addr_add (b o k : Nat) : (⟨b, o, none⟩ : Addr).add k = ⟨b, o + k, none⟩ := by unfold Addr.add; split <;> simp_all
theorem RowAt.news {M sz n c : Nat} {w : World} {ad : Addr} {cs : List (List Value)} (h : RowAt M w (.slice (some ad) n c) sz cs) : ∀ j u, cs.flatten[j]? = some u → w.cell? (ad.add j) = some u := by
  obtain ⟨a, c', e, _, _, hr, h5⟩ := h
  intro j u hj
  obtain ⟨i, r, m, h1, h2, rfl⟩ := flatGet2 cs hr j u hj
  obtain ⟨b, o, ea, hc⟩ := h5 i r h1
  simp only [Value.slice.injEq] at e
  obtain rfl : ad = ⟨b, o, none⟩ := by have := e.1.trans ea; simpa using this
  rw [addr_add, ← Nat.add_assoc]
  exact hc m u h2
theorem RowAt.nil_of_none {M sz n c : Nat} {w : World} {cs : List (List Value)} (h : RowAt M w (.slice none n c) sz cs) : cs = [] := by
  obtain ⟨a, c', e, _, _, _, h5⟩ := h
  simp only [Value.slice.injEq] at e
  cases cs with
  | nil => rfl
  | cons r cs => obtain ⟨b, o, ea, _⟩ := h5 0 r rfl; rw [ea] at e; cases e.1
theorem flatLen2 {sz : Nat} : ∀ (cs : List (List Value)), (∀ r ∈ cs, r.length = sz) → cs.flatten.length = cs.length * sz
  | [], _ => by simp
  | c :: cs, hr => by
    have := flatLen2 cs (fun r hr' => hr r (List.mem_cons_of_mem _ hr'))
    have hc := hr c (List.mem_cons_self)
    simp only [List.flatten_cons, List.length_append, List.length_cons, this, hc, Nat.add_mul, Nat.one_mul]; omega

end Go.Proofs.YtanndcclkmcfbaaDoor
