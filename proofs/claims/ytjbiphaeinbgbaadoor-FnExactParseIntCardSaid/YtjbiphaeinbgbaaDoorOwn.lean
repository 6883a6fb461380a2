/- What a call has made and owns: a slice at the head of a block of its own, which nothing else shares. No program in sight. -/
import Derived.Test.YtjbiphaeinbgbaaDoorData
import Derived.Deep.MidRow
namespace Go.Proofs.YtjbiphaeinbgbaaDoor
open Go Go.RowKit

/-! ### Lists of rows -/
theorem flat_len {sz : Nat} : ∀ (cs : List (List Value)), (∀ r ∈ cs, r.length = sz) → cs.flatten.length = cs.length * sz
  | [], _ => by simp
  | r :: cs, h => by
    have h1 := flat_len cs (fun r hr => h r (List.mem_cons_of_mem _ hr))
    have h2 := h r (List.mem_cons_self)
    simp only [List.flatten_cons, List.length_append, List.length_cons, h1, h2, Nat.add_mul, Nat.one_mul]; omega

theorem flat_get {sz : Nat} : ∀ (cs : List (List Value)), (∀ r ∈ cs, r.length = sz) → ∀ i r, cs[i]? = some r → ∀ j u, r[j]? = some u → cs.flatten[i * sz + j]? = some u
  | [], _, i, r, hi, _, _, _ => by simp at hi
  | c :: cs, h, 0, r, hi, j, u, hj => by
    simp only [List.getElem?_cons_zero, Option.some.injEq] at hi
    subst hi
    have hlt := (List.getElem?_eq_some_iff.1 hj).1
    simp only [List.flatten_cons, Nat.zero_mul, Nat.zero_add]
    rw [List.getElem?_append_left hlt]; exact hj
  | c :: cs, h, i + 1, r, hi, j, u, hj => by
    simp only [List.getElem?_cons_succ] at hi
    have h2 := h c (List.mem_cons_self)
    simp only [List.flatten_cons, Nat.add_mul, Nat.one_mul]
    rw [List.getElem?_append_right (by omega), show i * sz + sz + j - c.length = i * sz + j by omega]
    exact flat_get cs (fun r hr => h r (List.mem_cons_of_mem _ hr)) i r hi j u hj

/-! ### Stores into a row that is owned -/
theorem heap_setCells (g : Nat) (e : TypeId) : ∀ (us : List Value) (o : Nat) (w : World) (cur : Array Value), w.heap[g]? = some (.cells cur e (0, 0)) → o + us.length ≤ cur.size →
    ∃ cur', (w.setCells g o us).heap[g]? = some (.cells cur' e (0, 0)) ∧ cur'.toList = cur.toList.take o ++ us ++ cur.toList.drop (o + us.length) ∧ cur'.size = cur.size
  | [], o, w, cur, hg, _ => ⟨cur, by simpa [World.setCells] using hg, by simp, rfl⟩
  | u :: us, o, w, cur, hg, hle => by
    simp only [List.length_cons] at hle
    have h1 := heap_setCell_same w g o cur e u hg
    obtain ⟨cur', h2, h3, h4⟩ := heap_setCells g e us (o + 1) (w.setCell ⟨g, o, none⟩ u) _ h1 (by simpa using by omega)
    refine ⟨cur', by simpa [World.setCells] using h2, ?_, by simpa using h4⟩
    rw [h3]
    apply List.ext_getElem?
    intro i
    simp only [Array.toList_setIfInBounds, List.length_cons]
    have hlen : cur.toList.length = cur.size := by simp
    rcases Nat.lt_trichotomy i o with hi | hi | hi
    · rw [List.getElem?_append_left (by simp; omega), List.getElem?_append_left (by simp; omega), List.getElem?_append_left (by simp; omega), List.getElem?_append_left (by simp; omega),
        List.getElem?_take, List.getElem?_take, if_pos (by omega), if_pos (by omega), List.getElem?_set_ne (by omega)]
    · subst hi
      rw [List.getElem?_append_left (by simp; omega), List.getElem?_append_left (by simp; omega), List.getElem?_append_left (by simp; omega), List.getElem?_append_right (by simp; omega),
        List.getElem?_take, if_pos (by omega), List.getElem?_set_self (by omega)]
      simp [Nat.min_eq_left (show i ≤ cur.size by omega)]
    · by_cases hj : i < o + 1 + us.length
      · rw [List.getElem?_append_left (by simp; omega), List.getElem?_append_right (by simp; omega), List.getElem?_append_left (by simp; omega), List.getElem?_append_right (by simp; omega)]
        simp only [List.length_take, List.length_set, hlen]
        rw [show i - min o cur.size = (i - min (o + 1) cur.size) + 1 by omega, List.getElem?_cons_succ]
      · rw [List.getElem?_append_right (by simp; omega), List.getElem?_append_right (by simp; omega)]
        simp only [List.length_append, List.length_take, List.length_set, List.length_cons, hlen, List.getElem?_drop]
        rw [List.getElem?_set_ne (by omega)]
        congr 1; omega

theorem other_setCells (g : Nat) : ∀ (us : List Value) (o : Nat) (w : World) (k : Nat), k ≠ g → (w.setCells g o us).heap[k]? = w.heap[k]?
  | [], o, w, k, _ => by simp [World.setCells]
  | u :: us, o, w, k, hk => by
    have h := other_setCells g us (o + 1) (w.setCell ⟨g, o, none⟩ u) k hk
    simp only [World.setCells] at h ⊢
    rw [h]
    exact heap_setCell_other w ⟨g, o, none⟩ k u hk

theorem rest_setCells (g : Nat) : ∀ (us : List Value) (o : Nat) (w : World), (w.setCells g o us).os = w.os ∧ (w.setCells g o us).tape = w.tape ∧ (w.setCells g o us).output = w.output ∧ (w.setCells g o us).heap.size = w.heap.size
  | [], o, w => by simp [World.setCells]
  | u :: us, o, w => by
    obtain ⟨h1, h2, h3, h4⟩ := rest_setCells g us (o + 1) (w.setCell ⟨g, o, none⟩ u)
    simp only [World.setCells] at *
    refine ⟨h1.trans rfl, h2.trans rfl, h3.trans rfl, h4.trans (by simp [World.setCell])⟩

/-- One element of an owned row is stored: the row with it in its place. -/
theorem ownsRow_splice {w : World} {base e sz g n c : Nat} {xs : List Value} (h : w.ownsRow base e sz (.slice (some ⟨g, 0, none⟩) n c) n xs) {k : Nat} (hk : k < n) {us : List Value} (hu : us.length = sz) :
    (w.setCells g (k * sz) us).ownsRow base e sz (.slice (some ⟨g, 0, none⟩) n c) n (xs.take (k * sz) ++ us ++ xs.drop ((k + 1) * sz)) ∧ w.grownBy (w.setCells g (k * sz) us) (some g) := by
  obtain ⟨hl, hc⟩ := h
  rcases hc with ⟨h', _⟩ | ⟨g', c', cur, h', hb, hg, hnc, hcm, hcs, htk⟩
  · simp at h'
  · simp only [Value.slice.injEq, Option.some.injEq, Addr.mk.injEq, and_true, true_and] at h'
    obtain ⟨rfl, rfl⟩ := h'
    have hks : k * sz + sz ≤ n * sz := by rw [← Nat.succ_mul]; exact Nat.mul_le_mul_right _ hk
    have hns : n * sz ≤ c * sz := Nat.mul_le_mul_right _ hnc
    obtain ⟨cur', h1, h2, h3⟩ := heap_setCells g e us (k * sz) w cur hg (by omega)
    obtain ⟨r1, r2, r3, r4⟩ := rest_setCells g us (k * sz) w
    have hk1 : (k + 1) * sz = k * sz + sz := by rw [Nat.add_mul, Nat.one_mul]
    refine ⟨⟨by simp only [List.length_append, List.length_take, List.length_drop, hl, hu, hk1]; omega, .inr ⟨g, c, cur', rfl, hb, h1, hnc, hcm, by omega, ?_⟩⟩, ⟨r1, r2, r3, by omega, fun i _ hi => other_setCells g us _ w i (fun e => hi (by simp [e]))⟩⟩
    rw [h2, ← htk, hu, hk1]
    have hlen : cur.toList.length = cur.size := by simp
    rw [List.take_append, List.take_of_length_le (by simp; omega), List.take_take, Nat.min_eq_left (by omega), List.drop_take]
    congr 2
    simp only [List.length_append, List.length_take, hlen, hu]
    omega

theorem owns_below {w w' : World} {base e sz n : Nat} {v : Value} {xs : List Value} (h : w.ownsRow base e sz v n xs) (hb : Below w.heap.size w w') : w'.ownsRow base e sz v n xs :=
  h.kept (row := none) ⟨hb.os, hb.tape, hb.output, hb.size, fun k hk _ => hb.block k hk⟩ (by cases v.ownBlock <;> simp)

theorem owns_there {w : World} {base e sz g n c : Nat} {xs : List Value} (h : w.ownsRow base e sz (.slice (some ⟨g, 0, none⟩) n c) n xs) {k : Nat} (hk : k < n) : w.there g (k * sz) sz := by
  intro j hj
  have hks : k * sz + sz ≤ n * sz := by rw [← Nat.succ_mul]; exact Nat.mul_le_mul_right _ hk
  refine ⟨?_, h.frozenAt _⟩
  rw [h.cellAt _ (by omega)]
  have := h.1
  rw [List.getElem?_eq_getElem (show k * sz + j < xs.length by omega)]; rfl

theorem owns_lt {w : World} {base e sz g n c : Nat} {xs : List Value} (h : w.ownsRow base e sz (.slice (some ⟨g, 0, none⟩) n c) n xs) : g < w.heap.size := (h.lt g rfl).2

theorem oc_ctl (s : ByteArray) (p k : Int) : (#[Value.string s, .int .i64 p, .int .i64 k] : Array Value).all (·.oneCell') = true := by simp [Value.oneCell']
theorem oc_wr (s : ByteArray) (p : Int) : (#[Value.string s, .int .i64 p] : Array Value).all (·.oneCell') = true := by simp [Value.oneCell']
theorem oc_nd (p k : Int) (a : Option Addr) (n c : Nat) : (#[Value.int .i64 p, .int .i64 k, .slice a n c] : Array Value).all (·.oneCell') = true := by simp [Value.oneCell']

/-! ### Rows that are owned, at rest -/
/-- The block of a slice that has elements. -/
def blks : Value → List Nat
  | .slice (some a) (_ + 1) _ => [a.block]
  | _ => []

def RowOwn (B : Nat) (w : World) (v : Value) (sz : Nat) (cs : List (List Value)) : Prop :=
  (∀ r ∈ cs, r.length = sz) ∧ ((cs = [] ∧ ∃ a c, v = .slice a 0 c) ∨
    ∃ g c cur e, v = .slice (some ⟨g, 0, none⟩) cs.length c ∧ B ≤ g ∧ w.heap[g]? = some (.cells cur e (0, 0)) ∧ cs.length ≤ c ∧ cur.toList.take (cs.length * sz) = cs.flatten)

theorem RowOwn.of_owns {B e sz n : Nat} {w : World} {v : Value} {cs : List (List Value)} (h : w.ownsRow B e sz v n cs.flatten) (hn : n = cs.length) (hr : ∀ r ∈ cs, r.length = sz) : RowOwn B w v sz cs := by
  subst hn
  refine ⟨hr, ?_⟩
  rcases h.2 with ⟨rfl, h0⟩ | ⟨g, c, cur, rfl, hb, hg, hnc, _, _, ht⟩
  · exact .inl ⟨List.eq_nil_of_length_eq_zero h0, _, _, rfl⟩
  · exact .inr ⟨g, c, cur, e, rfl, hb, hg, hnc, ht⟩

theorem RowOwn.row {B sz M : Nat} {w : World} {v : Value} {cs : List (List Value)} (h : RowOwn B w v sz cs) (hM : cs.length ≤ M) : RowAt M w v sz cs := by
  obtain ⟨hr, hc⟩ := h
  rcases hc with ⟨rfl, a, c, rfl⟩ | ⟨g, c, cur, e, rfl, hb, hg, hnc, ht⟩
  · exact ⟨a, c, rfl, Nat.zero_le _, hM, hr, fun i r hi => by simp at hi⟩
  · refine ⟨some ⟨g, 0, none⟩, c, rfl, hnc, hM, hr, fun i r hi => ⟨g, 0, rfl, fun j u hj => ?_⟩⟩
    have h1 := flat_get cs hr i r hi j u hj
    have h2 := (List.getElem?_eq_some_iff.1 h1).1
    rw [flat_len cs hr] at h2
    rw [← ht, List.getElem?_take, if_pos h2] at h1
    rw [Nat.zero_add, cell_of_row w g (i * sz + j) cur e (0, 0) hg]
    simpa using h1

theorem RowOwn.keep {B sz : Nat} {w w' : World} {v : Value} {cs : List (List Value)} (h : RowOwn B w v sz cs) (hk : ∀ g ∈ blks v, w'.heap[g]? = w.heap[g]?) : RowOwn B w' v sz cs := by
  obtain ⟨hr, hc⟩ := h
  refine ⟨hr, ?_⟩
  rcases hc with hc | ⟨g, c, cur, e, rfl, hb, hg, hnc, ht⟩
  · exact .inl hc
  · by_cases hl : cs = []
    · subst hl; exact .inl ⟨rfl, _, _, rfl⟩
    · obtain ⟨n, hn⟩ : ∃ n, cs.length = n + 1 := ⟨cs.length - 1, by have := List.length_pos_iff.2 hl; omega⟩
      refine .inr ⟨g, c, cur, e, rfl, hb, ?_, hnc, ht⟩
      rw [hk g (by simp [blks, hn])]; exact hg

theorem RowOwn.lt {B sz : Nat} {w : World} {v : Value} {cs : List (List Value)} (h : RowOwn B w v sz cs) : ∀ g ∈ blks v, B ≤ g ∧ g < w.heap.size := by
  intro k hk
  rcases h.2 with ⟨_, a, c, rfl⟩ | ⟨g, c, cur, e, rfl, hb, hg, _, _⟩
  · cases a <;> simp [blks] at hk
  · cases hl : cs.length with
    | zero => simp [blks, hl] at hk
    | succ n =>
      simp [blks, hl] at hk
      subst hk
      exact ⟨hb, (Array.getElem?_eq_some_iff.1 hg).1⟩

theorem RowOwn.mono {B B' sz : Nat} {w : World} {v : Value} {cs : List (List Value)} (h : RowOwn B w v sz cs) (hB : B' ≤ B) : RowOwn B' w v sz cs := by
  obtain ⟨hr, hc⟩ := h
  refine ⟨hr, ?_⟩
  rcases hc with hc | ⟨g, c, cur, e, h1, hb, h2⟩
  · exact .inl hc
  · exact .inr ⟨g, c, cur, e, h1, Nat.le_trans hB hb, h2⟩

def intRows (l : List Int) : List (List Value) := l.map fun x => [.int .i64 x]
def strRows (l : List ByteArray) : List (List Value) := l.map fun s => [.string s]
def IntsOwn (B : Nat) (w : World) (v : Value) (l : List Int) : Prop := RowOwn B w v 1 (intRows l) ∧ l.length ≤ 1073741824 ∧ ∀ x ∈ l, I64 x
def StrsOwn (B : Nat) (w : World) (v : Value) (l : List ByteArray) : Prop := RowOwn B w v 1 (strRows l) ∧ l.length ≤ 1073741824 ∧ ∀ s ∈ l, s.size ≤ 1073741824
def CtlsOwn (B : Nat) (w : World) (v : Value) (l : List Ctl) : Prop := RowOwn B w v 3 (l.map Ctl.cells) ∧ l.length ≤ 1073741824 ∧ ∀ c ∈ l, c.name.size ≤ 1073741824 ∧ I64 c.ports ∧ I64 c.kind
def WrsOwn (B : Nat) (w : World) (v : Value) (l : List Wr) : Prop := RowOwn B w v 2 (l.map Wr.cells) ∧ l.length ≤ 1073741824 ∧ ∀ c ∈ l, c.name.size ≤ 1073741824 ∧ I64 c.link
def NdsOwn (B : Nat) (w : World) (v : Value) (l : List Nd) (bs : List Nat) : Prop :=
  ∃ lv : List (Nd × Value), lv.map Prod.fst = l ∧ RowOwn B w v 3 (lv.map Nd.cells) ∧ l.length ≤ 1073741824 ∧ (∀ n ∈ lv, IntsOwn B w n.2 n.1.links) ∧ (∀ n ∈ l, I64 n.ctl ∧ I64 n.par) ∧ bs = blks v ++ lv.flatMap (fun n => blks n.2)
def BigOwn (B : Nat) (w : World) (v : Value) (b : Big) (bs : List Nat) : Prop :=
  ∃ vn vs vo vi bn, v = .agg #[.int .i64 b.roots, vn, vs, .int .i64 b.edges, vo, vi] ∧ NdsOwn B w vn b.nodes bn ∧ IntsOwn B w vs b.sites ∧ StrsOwn B w vo b.outer ∧ WrsOwn B w vi b.inner ∧ I64 b.roots ∧ I64 b.edges ∧ bs = bn ++ (blks vs ++ (blks vo ++ blks vi))

section
variable {B B' : Nat} {w w' : World} {v : Value}
theorem IntsOwn.at {l : List Int} (h : IntsOwn B w v l) : IntsAt w v l := ⟨h.1.row (by simpa [intRows] using h.2.1), h.2.2⟩
theorem StrsOwn.at {l : List ByteArray} (h : StrsOwn B w v l) : StrsAt w v l := ⟨h.1.row (by simpa [strRows] using h.2.1), h.2.2⟩
theorem CtlsOwn.at {l : List Ctl} (h : CtlsOwn B w v l) : CtlsAt w v l := ⟨h.1.row (by simpa using h.2.1), h.2.2⟩
theorem WrsOwn.at {l : List Wr} (h : WrsOwn B w v l) : WrsAt w v l := ⟨h.1.row (by simpa using h.2.1), h.2.2⟩
theorem NdsOwn.at {l : List Nd} {bs : List Nat} (h : NdsOwn B w v l bs) : NdsAt w v l := by
  obtain ⟨lv, h1, h2, h3, h4, h5, _⟩ := h
  exact ⟨lv, h1, h2.row (by rw [← h1] at h3; simpa using h3), fun n hn => (h4 n hn).at, h5⟩
theorem BigOwn.at {b : Big} {bs : List Nat} (h : BigOwn B w v b bs) : BigAt w v b := by
  obtain ⟨vn, vs, vo, vi, bn, e, h1, h2, h3, h4, h5, h6, _⟩ := h
  exact ⟨vn, vs, vo, vi, e, h1.at, h2.at, h3.at, h4.at, h5, h6⟩
theorem IntsOwn.keep {l : List Int} (h : IntsOwn B w v l) (hk : ∀ g ∈ blks v, w'.heap[g]? = w.heap[g]?) : IntsOwn B w' v l := ⟨h.1.keep hk, h.2⟩
theorem StrsOwn.keep {l : List ByteArray} (h : StrsOwn B w v l) (hk : ∀ g ∈ blks v, w'.heap[g]? = w.heap[g]?) : StrsOwn B w' v l := ⟨h.1.keep hk, h.2⟩
theorem CtlsOwn.keep {l : List Ctl} (h : CtlsOwn B w v l) (hk : ∀ g ∈ blks v, w'.heap[g]? = w.heap[g]?) : CtlsOwn B w' v l := ⟨h.1.keep hk, h.2⟩
theorem WrsOwn.keep {l : List Wr} (h : WrsOwn B w v l) (hk : ∀ g ∈ blks v, w'.heap[g]? = w.heap[g]?) : WrsOwn B w' v l := ⟨h.1.keep hk, h.2⟩
theorem NdsOwn.keep {l : List Nd} {bs : List Nat} (h : NdsOwn B w v l bs) (hk : ∀ g ∈ bs, w'.heap[g]? = w.heap[g]?) : NdsOwn B w' v l bs := by
  obtain ⟨lv, h1, h2, h3, h4, h5, rfl⟩ := h
  exact ⟨lv, h1, h2.keep fun g hg => hk g (List.mem_append_left _ hg), h3, fun n hn => (h4 n hn).keep fun g hg => hk g (List.mem_append_right _ (List.mem_flatMap.2 ⟨n, hn, hg⟩)), h5, rfl⟩
theorem BigOwn.keep {b : Big} {bs : List Nat} (h : BigOwn B w v b bs) (hk : ∀ g ∈ bs, w'.heap[g]? = w.heap[g]?) : BigOwn B w' v b bs := by
  obtain ⟨vn, vs, vo, vi, bn, e, h1, h2, h3, h4, h5, h6, rfl⟩ := h
  exact ⟨vn, vs, vo, vi, bn, e, h1.keep fun g hg => hk g (by simp [hg]), h2.keep fun g hg => hk g (by simp [hg]), h3.keep fun g hg => hk g (by simp [hg]), h4.keep fun g hg => hk g (by simp [hg]), h5, h6, rfl⟩
theorem IntsOwn.lt {l : List Int} (h : IntsOwn B w v l) : ∀ g ∈ blks v, B ≤ g ∧ g < w.heap.size := h.1.lt
theorem StrsOwn.lt {l : List ByteArray} (h : StrsOwn B w v l) : ∀ g ∈ blks v, B ≤ g ∧ g < w.heap.size := h.1.lt
theorem CtlsOwn.lt {l : List Ctl} (h : CtlsOwn B w v l) : ∀ g ∈ blks v, B ≤ g ∧ g < w.heap.size := h.1.lt
theorem WrsOwn.lt {l : List Wr} (h : WrsOwn B w v l) : ∀ g ∈ blks v, B ≤ g ∧ g < w.heap.size := h.1.lt
theorem NdsOwn.lt {l : List Nd} {bs : List Nat} (h : NdsOwn B w v l bs) : ∀ g ∈ bs, B ≤ g ∧ g < w.heap.size := by
  obtain ⟨lv, h1, h2, h3, h4, h5, rfl⟩ := h
  intro g hg
  rcases List.mem_append.1 hg with hg | hg
  · exact h2.lt g hg
  · obtain ⟨n, hn, hg⟩ := List.mem_flatMap.1 hg
    exact (h4 n hn).lt g hg
theorem BigOwn.lt {b : Big} {bs : List Nat} (h : BigOwn B w v b bs) : ∀ g ∈ bs, B ≤ g ∧ g < w.heap.size := by
  obtain ⟨vn, vs, vo, vi, bn, e, h1, h2, h3, h4, h5, h6, rfl⟩ := h
  intro g hg
  simp only [List.mem_append] at hg
  rcases hg with hg | hg | hg | hg
  · exact h1.lt g hg
  · exact h2.lt g hg
  · exact h3.lt g hg
  · exact h4.lt g hg
theorem IntsOwn.mono {l : List Int} (h : IntsOwn B w v l) (hB : B' ≤ B) : IntsOwn B' w v l := ⟨h.1.mono hB, h.2⟩
theorem StrsOwn.mono {l : List ByteArray} (h : StrsOwn B w v l) (hB : B' ≤ B) : StrsOwn B' w v l := ⟨h.1.mono hB, h.2⟩
theorem CtlsOwn.mono {l : List Ctl} (h : CtlsOwn B w v l) (hB : B' ≤ B) : CtlsOwn B' w v l := ⟨h.1.mono hB, h.2⟩
theorem WrsOwn.mono {l : List Wr} (h : WrsOwn B w v l) (hB : B' ≤ B) : WrsOwn B' w v l := ⟨h.1.mono hB, h.2⟩
theorem NdsOwn.mono {l : List Nd} {bs : List Nat} (h : NdsOwn B w v l bs) (hB : B' ≤ B) : NdsOwn B' w v l bs := by
  obtain ⟨lv, h1, h2, h3, h4, h5, h6⟩ := h
  exact ⟨lv, h1, h2.mono hB, h3, fun n hn => (h4 n hn).mono hB, h5, h6⟩
theorem BigOwn.mono {b : Big} {bs : List Nat} (h : BigOwn B w v b bs) (hB : B' ≤ B) : BigOwn B' w v b bs := by
  obtain ⟨vn, vs, vo, vi, bn, e, h1, h2, h3, h4, h5⟩ := h
  exact ⟨vn, vs, vo, vi, bn, e, h1.mono hB, h2.mono hB, h3.mono hB, h4.mono hB, h5⟩
end

theorem RowOwn.shape {B sz : Nat} {w : World} {v : Value} {cs : List (List Value)} (h : RowOwn B w v sz cs) : ∃ a c, v = .slice a cs.length c := by
  rcases h.2 with ⟨rfl, a, c, rfl⟩ | ⟨g, c, cur, e, rfl, _⟩
  · exact ⟨a, c, rfl⟩
  · exact ⟨_, c, rfl⟩
theorem IntsOwn.shape {B : Nat} {w : World} {v : Value} {l : List Int} (h : IntsOwn B w v l) : ∃ a c, v = .slice a l.length c := by simpa [intRows] using h.1.shape
/-- A store into another block leaves it owned. -/
theorem keep_setCell {w : World} {bs : List Nat} {p : Addr} {u : Value} (h : p.block ∉ bs) : ∀ g ∈ bs, (w.setCell p u).heap[g]? = w.heap[g]? := fun g hg => heap_setCell_other w p g u (fun e => h (e ▸ hg))
theorem keep_below {w w' : World} {bs : List Nat} (hb : Below w.heap.size w w') (h : ∀ g ∈ bs, g < w.heap.size) : ∀ g ∈ bs, w'.heap[g]? = w.heap[g]? := fun g hg => hb.block g (h g hg)

/-! ### A variable of several cells: a struct's -/
def Box (w : World) (g : Nat) (cs : Array Value) (t : TypeId) : Prop := w.heap[g]? = some (.cells cs t (0, 0))
section
variable {w w' : World} {g : Nat} {cs : Array Value} {t : TypeId}
theorem Box.cell (h : Box w g cs t) : ∀ j, w.cell? ⟨g, j, none⟩ = cs[j]? := fun j => cell_of_row w g j cs t (0, 0) h
theorem Box.free (h : Box w g cs t) : ∀ j, w.frozen? ⟨g, j, none⟩ = false := fun j => frozen_of_row w g j cs t h
theorem Box.lt (h : Box w g cs t) : g < w.heap.size := (Array.getElem?_eq_some_iff.1 h).1
theorem Box.set (h : Box w g cs t) (j : Nat) (u : Value) : Box (w.setCell ⟨g, j, none⟩ u) g (cs.setIfInBounds j u) t := heap_setCell_same w g j cs t u h
theorem Box.other (h : Box w g cs t) {p : Addr} (u : Value) (hp : g ≠ p.block) : Box (w.setCell p u) g cs t := (heap_setCell_other w p g u hp).trans h
theorem Box.below (h : Box w g cs t) (hb : Below w.heap.size w w') : Box w' g cs t := (hb.block g h.lt).trans h
theorem Box.keep (h : Box w g cs t) (hk : w'.heap[g]? = w.heap[g]?) : Box w' g cs t := hk.trans h
theorem Box.alloc (h : Box w g cs t) (o : Obj) : Box (w.alloc o) g cs t := h.below (balloc w o)
theorem Box.new (w : World) (cs : Array Value) (t : TypeId) : Box (w.alloc (.cells cs t)) w.heap.size cs t := heap_alloc_new w _
end
theorem Box.new' (w : World) (cs : Array Value) (t : TypeId) {n : Nat} (hn : n = w.heap.size) : Box (w.alloc (.cells cs t)) n cs t := by subst hn; exact heap_alloc_new w _
theorem size_setCell (w : World) (p : Addr) (u : Value) : (w.setCell p u).heap.size = w.heap.size := by simp [World.setCell]

/-! ### The frame: only some blocks are written; the memory grows -/
structure Only (bs : List Nat) (w w' : World) : Prop where
  os : w'.os = w.os
  tape : w'.tape = w.tape
  output : w'.output = w.output
  size : w.heap.size ≤ w'.heap.size
  block : ∀ k, k < w.heap.size → k ∉ bs → w'.heap[k]? = w.heap[k]?

theorem Only.refl (bs : List Nat) (w : World) : Only bs w w := ⟨rfl, rfl, rfl, Nat.le_refl _, fun _ _ _ => rfl⟩
theorem Only.trans {bs : List Nat} {a b c : World} (h : Only bs a b) (k : Only bs b c) : Only bs a c :=
  ⟨k.os.trans h.os, k.tape.trans h.tape, k.output.trans h.output, Nat.le_trans h.size k.size, fun i hi hn => (k.block i (Nat.lt_of_lt_of_le hi h.size) hn).trans (h.block i hi hn)⟩
theorem Only.mono {bs bs' : List Nat} {a b : World} (h : Only bs a b) (hs : ∀ g ∈ bs, g ∈ bs') : Only bs' a b := ⟨h.os, h.tape, h.output, h.size, fun k hk hn => h.block k hk fun hm => hn (hs k hm)⟩
theorem Only.of_below {a b : World} (h : Below a.heap.size a b) (bs : List Nat) : Only bs a b := ⟨h.os, h.tape, h.output, h.size, fun k hk _ => h.block k hk⟩
theorem Only.below {bs : List Nat} {B : Nat} {a b : World} (h : Only bs a b) (hB : ∀ g ∈ bs, B ≤ g) (hs : B ≤ a.heap.size) : Below B a b :=
  ⟨h.os, h.tape, h.output, h.size, fun k hk => h.block k (by omega) fun hm => by have := hB k hm; omega⟩
theorem Only.grown {bs : List Nat} {a b c : World} {g : Nat} (h : Only bs a b) (hg : b.grownBy c (some g)) (hm : g ∈ bs) : Only bs a c :=
  h.trans ⟨hg.os, hg.tape, hg.output, hg.size, fun k hk hn => hg.block k hk fun e => hn (by simp only [Option.some.injEq] at e; rw [e]; exact hm)⟩

end Go.Proofs.YtjbiphaeinbgbaaDoor
