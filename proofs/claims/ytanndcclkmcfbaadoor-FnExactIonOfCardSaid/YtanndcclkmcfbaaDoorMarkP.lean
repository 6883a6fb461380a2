/- What the laws' marks write: plain lists. No program in sight. -/
import Derived.Test.YtanndcclkmcfbaaDoorOwn
namespace Go.Proofs.YtanndcclkmcfbaaDoor
open Go Go.RowKit

/-- The decimal digits of a number, with enough fuel. -/
def digsF : Nat → Nat → List UInt8
  | 0, _ => []
  | f + 1, n => if n = 0 then [] else digsF f (n / 10) ++ [UInt8.ofNat (48 + n % 10)]
/-- The text that is the mark k. -/
def mt (k : Int) : ByteArray := if k ≤ 0 then ⟨#[109, 48]⟩ else ⟨(109 :: digsF k.toNat k.toNat).toArray⟩

theorem digsF_len : ∀ f n, (digsF f n).length ≤ f
  | 0, _ => by simp [digsF]
  | f + 1, n => by
    unfold digsF
    split
    · simp
    · have := digsF_len f (n / 10); simp; omega
theorem mt_size (k : Int) (h : k ≤ 536870912) : (mt k).size ≤ 1073741824 := by
  unfold mt
  split
  · decide
  · have := digsF_len k.toNat k.toNat
    show (109 :: digsF k.toNat k.toNat).toArray.size ≤ _
    simp; omega

def markI : Int → List Int → List Int
  | _, [] => []
  | k, _ :: l => k :: markI (k + 1) l
def markS : Int → List ByteArray → List ByteArray
  | _, [] => []
  | k, _ :: l => mt k :: markS (k + 1) l
def markW : Int → List Wr → List Wr
  | _, [] => []
  | k, _ :: l => ⟨mt k, k + 1⟩ :: markW (k + 2) l
def markC : Int → List Ctl → List Ctl
  | _, [] => []
  | k, _ :: l => ⟨mt k, k + 1, k + 2⟩ :: markC (k + 3) l
def markN : Int → List Nd → List Nd
  | _, [] => []
  | k, n :: l => ⟨k, k + 1, markI (k + 2) n.links⟩ :: markN (k + 2 + n.links.length) l
def cntN (l : List Nd) : Nat := sumOf (fun n => 2 + n.links.length) l
def cntB (b : Big) : Nat := cntN b.nodes + (b.sites.length + (b.outer.length + 2 * b.inner.length))
def markB (k : Int) (b : Big) : Big :=
  { b with nodes := markN k b.nodes, sites := markI (k + cntN b.nodes) b.sites, outer := markS (k + cntN b.nodes + b.sites.length) b.outer, inner := markW (k + cntN b.nodes + b.sites.length + b.outer.length) b.inner }

theorem markI_snoc : ∀ (k : Int) (l : List Int) (x : Int), markI k (l ++ [x]) = markI k l ++ [k + l.length]
  | k, [], x => by simp [markI]
  | k, y :: l, x => by simp only [List.cons_append, markI, markI_snoc (k + 1) l x, List.length_cons]; rw [show k + 1 + (l.length : Int) = k + ((l.length + 1 : Nat) : Int) by omega]
theorem markS_snoc : ∀ (k : Int) (l : List ByteArray) (x : ByteArray), markS k (l ++ [x]) = markS k l ++ [mt (k + l.length)]
  | k, [], x => by simp [markS]
  | k, y :: l, x => by simp only [List.cons_append, markS, markS_snoc (k + 1) l x, List.length_cons]; rw [show k + 1 + (l.length : Int) = k + ((l.length + 1 : Nat) : Int) by omega]
theorem markW_snoc : ∀ (k : Int) (l : List Wr) (x : Wr), markW k (l ++ [x]) = markW k l ++ [⟨mt (k + 2 * l.length), k + 2 * l.length + 1⟩]
  | k, [], x => by simp [markW]
  | k, y :: l, x => by simp only [List.cons_append, markW, markW_snoc (k + 2) l x, List.length_cons]; rw [show k + 2 + 2 * (l.length : Int) = k + 2 * ((l.length + 1 : Nat) : Int) by omega]
theorem markC_snoc : ∀ (k : Int) (l : List Ctl) (x : Ctl), markC k (l ++ [x]) = markC k l ++ [⟨mt (k + 3 * l.length), k + 3 * l.length + 1, k + 3 * l.length + 2⟩]
  | k, [], x => by simp [markC]
  | k, y :: l, x => by simp only [List.cons_append, markC, markC_snoc (k + 3) l x, List.length_cons]; rw [show k + 3 + 3 * (l.length : Int) = k + 3 * ((l.length + 1 : Nat) : Int) by omega]
theorem cntN_cons (n : Nd) (l : List Nd) : cntN (n :: l) = 2 + n.links.length + cntN l := sumOf_cons _ _ _
theorem cntN_take {l : List Nd} {k : Nat} {x : Nd} (h : l[k]? = some x) : cntN (l.take (k + 1)) = cntN (l.take k) + (2 + x.links.length) := sumOf_take (fun n : Nd => 2 + n.links.length) h
theorem cntN_take_le (l : List Nd) (k : Nat) : cntN (l.take k) ≤ cntN l := sumOf_take_le _ _ _
theorem markN_snoc : ∀ (k : Int) (l : List Nd) (x : Nd), markN k (l ++ [x]) = markN k l ++ [⟨k + cntN l, k + cntN l + 1, markI (k + cntN l + 2) x.links⟩]
  | k, [], x => by simp [markN, cntN, sumOf]
  | k, y :: l, x => by
    simp only [List.cons_append, markN, markN_snoc (k + 2 + y.links.length) l x, cntN_cons]
    rw [show k + 2 + (y.links.length : Int) + (cntN l : Int) = k + ((2 + y.links.length + cntN l : Nat) : Int) by omega]

theorem markI_len : ∀ (k : Int) (l : List Int), (markI k l).length = l.length
  | _, [] => rfl
  | k, _ :: l => by simp [markI, markI_len (k + 1) l]
theorem markS_len : ∀ (k : Int) (l : List ByteArray), (markS k l).length = l.length
  | _, [] => rfl
  | k, _ :: l => by simp [markS, markS_len (k + 1) l]
theorem markW_len : ∀ (k : Int) (l : List Wr), (markW k l).length = l.length
  | _, [] => rfl
  | k, _ :: l => by simp [markW, markW_len (k + 2) l]
theorem markC_len : ∀ (k : Int) (l : List Ctl), (markC k l).length = l.length
  | _, [] => rfl
  | k, _ :: l => by simp [markC, markC_len (k + 3) l]
theorem markN_len : ∀ (k : Int) (l : List Nd), (markN k l).length = l.length
  | _, [] => rfl
  | k, n :: l => by simp [markN, markN_len (k + 2 + n.links.length) l]

theorem markI_get {k : Int} {l : List Int} {i : Nat} (h : i < l.length) : (markI k l)[i]? = some (k + i) := by
  induction l generalizing k i with
  | nil => simp at h
  | cons x l ih =>
    cases i with
    | zero => simp [markI]
    | succ i => simp only [markI, List.getElem?_cons_succ]; rw [ih (by simpa using h)]; congr 1; omega
theorem markS_get {k : Int} {l : List ByteArray} {i : Nat} (h : i < l.length) : (markS k l)[i]? = some (mt (k + i)) := by
  induction l generalizing k i with
  | nil => simp at h
  | cons x l ih =>
    cases i with
    | zero => simp [markS]
    | succ i => simp only [markS, List.getElem?_cons_succ]; rw [ih (by simpa using h)]; congr 2; omega
theorem markW_get {k : Int} {l : List Wr} {i : Nat} (h : i < l.length) : (markW k l)[i]? = some ⟨mt (k + 2 * i), k + 2 * i + 1⟩ := by
  induction l generalizing k i with
  | nil => simp at h
  | cons x l ih =>
    cases i with
    | zero => simp [markW]
    | succ i => simp only [markW, List.getElem?_cons_succ]; rw [ih (by simpa using h), show k + 2 + 2 * (i : Int) = k + 2 * ((i + 1 : Nat) : Int) by omega]
theorem markN_get {k : Int} {l : List Nd} {i : Nat} {n : Nd} (h : l[i]? = some n) : (markN k l)[i]? = some ⟨k + cntN (l.take i), k + cntN (l.take i) + 1, markI (k + cntN (l.take i) + 2) n.links⟩ := by
  induction l generalizing k i with
  | nil => simp at h
  | cons x l ih =>
    cases i with
    | zero => simp at h; subst h; simp [markN, cntN, sumOf]
    | succ i =>
      simp only [markN, List.getElem?_cons_succ] at h ⊢
      rw [ih h, List.take_succ_cons, cntN_cons, show k + 2 + (x.links.length : Int) + (cntN (l.take i) : Int) = k + ((2 + x.links.length + cntN (l.take i) : Nat) : Int) by omega]

theorem markI_mem {k : Int} {l : List Int} (h0 : 0 ≤ k) (h1 : k + l.length ≤ 536870912) : ∀ x ∈ markI k l, I64 x := by
  intro x hx
  obtain ⟨i, hi⟩ := List.getElem?_of_mem hx
  have hl := (List.getElem?_eq_some_iff.1 hi).1
  rw [markI_len] at hl
  rw [markI_get hl] at hi
  simp only [Option.some.injEq] at hi
  unfold I64; omega
theorem markS_mem {k : Int} {l : List ByteArray} (h1 : k + l.length ≤ 536870912) : ∀ x ∈ markS k l, x.size ≤ 1073741824 := by
  intro x hx
  obtain ⟨i, hi⟩ := List.getElem?_of_mem hx
  have hl := (List.getElem?_eq_some_iff.1 hi).1
  rw [markS_len] at hl
  rw [markS_get hl] at hi
  simp only [Option.some.injEq] at hi
  subst hi
  exact mt_size _ (by omega)
theorem markW_mem {k : Int} {l : List Wr} (h0 : 0 ≤ k) (h1 : k + 2 * l.length ≤ 536870912) : ∀ x ∈ markW k l, x.name.size ≤ 1073741824 ∧ I64 x.link := by
  intro x hx
  obtain ⟨i, hi⟩ := List.getElem?_of_mem hx
  have hl := (List.getElem?_eq_some_iff.1 hi).1
  rw [markW_len] at hl
  rw [markW_get hl] at hi
  simp only [Option.some.injEq] at hi
  subst hi
  exact ⟨mt_size _ (by omega), by unfold I64; dsimp only; omega⟩
theorem markC_mem {k : Int} {l : List Ctl} (h0 : 0 ≤ k) (h1 : k + 3 * l.length ≤ 536870912) : ∀ x ∈ markC k l, x.name.size ≤ 1073741824 ∧ I64 x.ports ∧ I64 x.kind := by
  induction l generalizing k with
  | nil => intro x hx; cases hx
  | cons y l ih =>
    intro x hx
    simp only [List.length_cons] at h1
    rcases List.mem_cons.1 hx with rfl | hx
    · exact ⟨mt_size _ (by omega), by unfold I64; dsimp only; omega, by unfold I64; dsimp only; omega⟩
    · exact ih (k := k + 3) (by omega) (by omega) x hx
theorem markN_mem {k : Int} {l : List Nd} (h0 : 0 ≤ k) (h1 : k + cntN l ≤ 536870912) : ∀ x ∈ markN k l, I64 x.ctl ∧ I64 x.par := by
  induction l generalizing k with
  | nil => intro x hx; cases hx
  | cons y l ih =>
    intro x hx
    rw [cntN_cons] at h1
    rcases List.mem_cons.1 hx with rfl | hx
    · exact ⟨by unfold I64; dsimp only; omega, by unfold I64; dsimp only; omega⟩
    · exact ih (k := k + 2 + y.links.length) (by omega) (by omega) x hx

/-- One element more is marked: the list with the first i marked. -/
theorem mark_step {α : Type} {A D : List α} {x y : α} {n : Nat} (h : A.length = n) : (A ++ x :: D).set n y = (A ++ [y]) ++ D := by
  subst h
  simp
theorem drop_cons {α : Type} {l : List α} {i : Nat} {x : α} (h : l[i]? = some x) : l.drop i = x :: l.drop (i + 1) := by
  obtain ⟨hi, rfl⟩ := List.getElem?_eq_some_iff.1 h
  exact List.drop_eq_getElem_cons hi

/-! ### A store into a row at rest -/
theorem RowOwn.head {B sz : Nat} {w : World} {a : Option Addr} {n c : Nat} {cs : List (List Value)} (h : RowOwn B w (.slice a n c) sz cs) (hn : 0 < n) : ∃ g, a = some ⟨g, 0, none⟩ ∧ blks (.slice a n c) = [g] := by
  rcases h.2 with ⟨_, a', c', e⟩ | ⟨g, c', cur, e, h1, _⟩
  · simp only [Value.slice.injEq] at e; omega
  · simp only [Value.slice.injEq] at h1
    obtain ⟨rfl, h2, rfl⟩ := h1
    obtain ⟨m, rfl⟩ : ∃ m, n = m + 1 := ⟨n - 1, by omega⟩
    exact ⟨g, rfl, rfl⟩
theorem RowOwn.len {B sz : Nat} {w : World} {a : Option Addr} {n c : Nat} {cs : List (List Value)} (h : RowOwn B w (.slice a n c) sz cs) : n = cs.length := by
  rcases h.2 with ⟨rfl, a', c', e⟩ | ⟨g, c', cur, e, h1, _⟩
  · simp only [Value.slice.injEq] at e; simpa using e.2.1
  · simp only [Value.slice.injEq] at h1; exact h1.2.1
theorem RowOwn.box {B sz : Nat} {w : World} {g n c : Nat} {cs : List (List Value)} (h : RowOwn B w (.slice (some ⟨g, 0, none⟩) n c) sz cs) (hn : 0 < n) :
    ∃ cur e, w.heap[g]? = some (.cells cur e (0, 0)) ∧ cs.length ≤ c ∧ B ≤ g ∧ cur.toList.take (cs.length * sz) = cs.flatten := by
  rcases h.2 with ⟨_, a', c', e⟩ | ⟨g', c', cur, e, h1, hb, hg, hc, ht⟩
  · simp only [Value.slice.injEq] at e; omega
  · simp only [Value.slice.injEq, Option.some.injEq, Addr.mk.injEq, and_true] at h1
    obtain ⟨rfl, _, rfl⟩ := h1
    exact ⟨cur, e, hg, hc, hb, ht⟩
theorem RowOwn.cellAt {B sz : Nat} {w : World} {g n c : Nat} {cs : List (List Value)} (h : RowOwn B w (.slice (some ⟨g, 0, none⟩) n c) sz cs) {i : Nat} {r : List Value} (hi : cs[i]? = some r) {j : Nat} {u : Value} (hj : r[j]? = some u) :
    w.cell? ⟨g, i * sz + j, none⟩ = some u := by
  have hn : 0 < n := by rw [h.len]; have := (List.getElem?_eq_some_iff.1 hi).1; omega
  obtain ⟨cur, e, hg, hc, hb, ht⟩ := h.box hn
  have h1 := flat_get cs h.1 i r hi j u hj
  have h2 := (List.getElem?_eq_some_iff.1 h1).1
  rw [flat_len cs h.1] at h2
  rw [← ht, List.getElem?_take, if_pos h2] at h1
  rw [cell_of_row w g (i * sz + j) cur e (0, 0) hg]
  simpa using h1
theorem RowOwn.free {B sz : Nat} {w : World} {g n c : Nat} {cs : List (List Value)} (h : RowOwn B w (.slice (some ⟨g, 0, none⟩) n c) sz cs) (hn : 0 < n) (j : Nat) : w.frozen? ⟨g, j, none⟩ = false := by
  obtain ⟨cur, e, hg, _⟩ := h.box hn
  exact frozen_of_row w g j cur e hg

theorem flat_set {sz : Nat} : ∀ (cs : List (List Value)), (∀ r ∈ cs, r.length = sz) → ∀ i r, cs[i]? = some r → ∀ j (u : Value), j < sz → (cs.set i (r.set j u)).flatten = cs.flatten.set (i * sz + j) u
  | [], _, i, r, hi, _, _, _ => by simp at hi
  | c :: cs, h, 0, r, hi, j, u, hj => by
    simp only [List.getElem?_cons_zero, Option.some.injEq] at hi
    subst hi
    have := h c (List.mem_cons_self)
    simp only [List.set_cons_zero, List.flatten_cons, Nat.zero_mul, Nat.zero_add]
    rw [List.set_append_left _ _ (by omega)]
  | c :: cs, h, i + 1, r, hi, j, u, hj => by
    simp only [List.getElem?_cons_succ] at hi
    have h2 := h c (List.mem_cons_self)
    simp only [List.set_cons_succ, List.flatten_cons, Nat.add_mul, Nat.one_mul]
    rw [flat_set cs (fun r hr => h r (List.mem_cons_of_mem _ hr)) i r hi j u hj, List.set_append_right _ _ (by omega)]
    congr 2; omega

theorem RowOwn.store {B sz : Nat} {w : World} {g n c : Nat} {cs : List (List Value)} (h : RowOwn B w (.slice (some ⟨g, 0, none⟩) n c) sz cs) {i : Nat} {r : List Value} (hi : cs[i]? = some r) {j : Nat} (hj : j < sz) (u : Value) :
    RowOwn B (w.setCell ⟨g, i * sz + j, none⟩ u) (.slice (some ⟨g, 0, none⟩) n c) sz (cs.set i (r.set j u)) := by
  have hil := (List.getElem?_eq_some_iff.1 hi).1
  have hl := h.len
  have hn : 0 < n := by omega
  obtain ⟨cur, e, hg, hc, hb, ht⟩ := h.box hn
  have hr := h.1
  refine ⟨?_, .inr ⟨g, c, cur.setIfInBounds (i * sz + j) u, e, by rw [List.length_set, hl], hb, heap_setCell_same w g _ cur e u hg, by rw [List.length_set]; exact hc, ?_⟩⟩
  · intro r' hr'
    rcases List.mem_or_eq_of_mem_set hr' with h' | rfl
    · exact hr r' h'
    · rw [List.length_set]; exact hr r (List.mem_of_getElem? hi)
  · rw [List.length_set, flat_set cs hr i r hi j u hj, ← ht, Array.toList_setIfInBounds, List.take_set]

theorem Only.setCell {bs : List Nat} {a b : World} (h : Only bs a b) {p : Addr} (hp : p.block ∈ bs) (u : Value) : Only bs a (b.setCell p u) :=
  h.trans ⟨rfl, rfl, rfl, by simp [World.setCell], fun k _ hn => heap_setCell_other b p k u (fun e => hn (e ▸ hp))⟩
theorem Only.then_below {bs : List Nat} {a b c : World} (h : Only bs a b) (hb : Below b.heap.size b c) : Only bs a c := h.trans (.of_below hb bs)

end Go.Proofs.YtanndcclkmcfbaaDoor
