/- A bigraph that reads as it should, whatever happens elsewhere. No program in sight. -/
import Derived.Test.YthgelhglfbgagaaGreatDoorPrsE
import Derived.Test.YthgelhglfbgagaaGreatDoorG1
import Derived.Test.YthgelhglfbgagaaGreatDoorG2
namespace Go.Proofs.YthgelhglfbgagaaGreatDoor
open Go Go.RowKit Go.BigFrame

/-- It reads as b wherever the blocks bs are as in w. -/
def BigIn (B : Nat) (w : World) (v : Value) (b : Big) (bs : List Nat) : Prop := (∀ w' : World, (∀ g ∈ bs, w'.heap[g]? = w.heap[g]?) → BigAt w' v b) ∧ ∀ g ∈ bs, B ≤ g ∧ g < w.heap.size
section
variable {B : Nat} {w w' : World} {v : Value} {b : Big} {bs : List Nat}
theorem BigIn.at (h : BigIn B w v b bs) : BigAt w v b := h.1 w (fun _ _ => rfl)
theorem BigIn.lt (h : BigIn B w v b bs) : ∀ g ∈ bs, B ≤ g ∧ g < w.heap.size := h.2
theorem BigIn.keep (h : BigIn B w v b bs) (hk : ∀ g ∈ bs, w'.heap[g]? = w.heap[g]?) : BigIn B w' v b bs := by
  refine ⟨fun w2 h2 => h.1 w2 (fun g hg => (h2 g hg).trans (hk g hg)), fun g hg => ⟨(h.2 g hg).1, ?_⟩⟩
  have h1 := hk g hg
  rw [Array.getElem?_eq_getElem (h.2 g hg).2] at h1
  exact (Array.getElem?_eq_some_iff.1 h1).1
theorem BigIn.mono {B' : Nat} (h : BigIn B w v b bs) (hB : B' ≤ B) : BigIn B' w v b bs := ⟨h.1, fun g hg => ⟨Nat.le_trans hB (h.2 g hg).1, (h.2 g hg).2⟩⟩
theorem BigIn.noBig (B : Nat) (w : World) : BigIn B w (.agg #[.int .i64 0, .slice none 0 0, .slice none 0 0, .int .i64 0, .slice none 0 0, .slice none 0 0]) noBig [] :=
  ⟨fun w' _ => (noBig_own 0 w').at, fun g hg => by cases hg⟩
def bsOf (B : Nat) (w : World) : List Nat := (List.range w.heap.size).filter (fun g => decide (B ≤ g))
theorem BigIn.of_from (h : ∀ w' : World, (∀ g, B ≤ g → g < w.heap.size → w'.heap[g]? = w.heap[g]?) → BigAt w' v b) : BigIn B w v b (bsOf B w) := by
  refine ⟨fun w' h' => h w' (fun g h1 h2 => h' g ?_), fun g hg => ?_⟩
  · unfold bsOf; simp [List.mem_filter, h1, h2]
  · unfold bsOf at hg
    simp only [List.mem_filter, List.mem_range, decide_eq_true_eq] at hg
    exact ⟨hg.2, hg.1⟩
end
def GivesIn (R : Big) (ok : Bool) (w : World) (e : Ending) (w' : World) : Prop :=
  ∃ v bs, e = .returned (.tuple #[v, .bool ok]) ∧ BigIn w.heap.size w' v R bs ∧ True ∧ Below w.heap.size w w'
theorem OutT.keep {w w' : World} {B : Nat} {v : Value} {s : ByteArray} (h : OutT w B v s) (hk : ∀ g, B ≤ g → g < w.heap.size → w'.heap[g]? = w.heap[g]?) : OutT w' B v s := by
  obtain ⟨g, c, o, c', e, ho, hc, acc⟩ := h
  exact ⟨g, c, o, c', e, ho, hc, acc.keep hk⟩
theorem OutT.below {w w' : World} {B : Nat} {v : Value} {s : ByteArray} (h : OutT w B v s) (hb : Below w.heap.size w w') : OutT w' B v s := by
  obtain ⟨g, c, o, c', e, ho, hc, acc⟩ := h
  exact ⟨g, c, o, c', e, ho, hc, acc.below hb⟩
theorem OutT.le {w : World} {B B' : Nat} {v : Value} {s : ByteArray} (h : OutT w B v s) (hB : B' ≤ B) : OutT w B' v s := by
  obtain ⟨g, c, o, c', e, ho, hc, acc⟩ := h
  exact ⟨g, c, o, c', e, ho, hc, acc.le hB⟩
theorem OutT.at {w : World} {B : Nat} {v : Value} {s : ByteArray} (h : OutT w B v s) (hz : s.size ≤ 1100000) : StrsAt w v (wordsR s) := by
  obtain ⟨g, c, o, c', rfl, ho, hc, acc⟩ := h
  have h1 := splitP_length s 32
  exact acc.tail (by omega) (fun x hx => by have := splitP_size s 32 x hx; omega) (splitP_pos s 32) o ho c' hc
theorem wordsR_len (s : ByteArray) : (wordsR s).length = (splitP s 32).length - 1 := by unfold wordsR; rw [List.length_drop]
theorem wordsR_size {s x : ByteArray} (h : x ∈ wordsR s) : x.size ≤ s.size := splitP_size s 32 x (List.mem_of_mem_drop h)
/-- What the pieces of a bigraph must keep to. -/
structure BigBd (b : Big) : Prop where
  nodes : b.nodes.length ≤ 1073741824
  links : ∀ n ∈ b.nodes, n.links.length ≤ 1073741824 ∧ (∀ x ∈ n.links, I64 x) ∧ I64 n.ctl ∧ I64 n.par
  sites : b.sites.length ≤ 1073741824 ∧ ∀ x ∈ b.sites, I64 x
  inner : b.inner.length ≤ 1073741824 ∧ ∀ x ∈ b.inner, x.name.size ≤ 1073741824 ∧ I64 x.link
  roots : I64 b.roots
  edges : I64 b.edges
theorem big_of_accs {W : World} {n0 n1 : Nat} {b : Big} {nv sv ov iv : Value} {x : ByteArray} {lv : List (Nd × Value)} (hb : BigBd b) (hn : lv.map Prod.fst = b.nodes) (hn1 : n0 ≤ n1)
    (accn : Acc W n1 57 3 nv (lv.map Nd.cells)) (hl : ∀ n ∈ lv, Acc W n1 3 1 n.2 (intRows n.1.links)) (hs : Acc W n0 3 1 sv (intRows b.sites)) (ho : OutT W n0 ov x) (hx : x.size ≤ 1100000) (hxo : wordsR x = b.outer)
    (hi : Acc W n0 87 2 iv (b.inner.map Wr.cells)) (w' : World) (hk : ∀ g, n0 ≤ g → g < W.heap.size → w'.heap[g]? = W.heap[g]?) : BigAt w' (.agg #[.int .i64 b.roots, nv, sv, .int .i64 b.edges, ov, iv]) b := by
  have hll : lv.length = b.nodes.length := by rw [← hn]; simp
  have hk1 : ∀ g, n1 ≤ g → g < W.heap.size → w'.heap[g]? = W.heap[g]? := fun g h => hk g (Nat.le_trans hn1 h)
  refine ⟨nv, sv, ov, iv, rfl, ⟨lv, hn, (accn.keep hk1).own.row (by have := hb.nodes; simp; omega), fun n hm => ?_, fun n hm => (hb.links n hm).2.2⟩, ⟨?_, hb.sites.2⟩, by rw [← hxo]; exact (ho.keep hk).at hx, ⟨?_, hb.inner.2⟩, hb.roots, hb.edges⟩
  · have hm' : n.1 ∈ b.nodes := by rw [← hn]; exact List.mem_map_of_mem hm
    have h1 := hb.links n.1 hm'
    exact ⟨((hl n hm).keep hk1).own.row (by simp [intRows]; exact h1.1), h1.2.1⟩
  · exact (hs.keep hk).own.row (by simp [intRows]; exact hb.sites.1)
  · exact (hi.keep hk).own.row (by simp; exact hb.inner.1)
theorem StrsAt.drop {w : World} {g n c : Nat} {l : List ByteArray} (h : StrsAt w (.slice (some ⟨g, 0, none⟩) n c) l) (m : Nat) (hm : m ≤ n) : StrsAt w (.slice (some ⟨g, m, none⟩) (n - m) (c - m)) (l.drop m) := by
  obtain ⟨a, c', e, h1, h2, h3⟩ := h.open
  simp only [Value.slice.injEq] at e
  obtain ⟨rfl, rfl, rfl⟩ := e
  refine ⟨⟨_, _, by rw [List.length_map, List.length_drop], by rw [List.length_map, List.length_drop]; omega, by rw [List.length_map, List.length_drop]; omega, ?_, ?_⟩, fun x hx => h.2 x (List.mem_of_mem_drop hx)⟩
  · intro r hr; simp only [List.mem_map] at hr; obtain ⟨x, _, rfl⟩ := hr; rfl
  · intro i r hi
    refine ⟨g, m, rfl, fun j u hj => ?_⟩
    rw [List.getElem?_map, List.getElem?_drop] at hi
    cases hx : l[m + i]? with
    | none => rw [hx] at hi; cases hi
    | some x =>
      rw [hx] at hi
      obtain rfl : [Value.string x] = r := by simpa using hi
      obtain ⟨rfl, rfl⟩ : j = 0 ∧ Value.string x = u := by
        cases j with
        | zero => simpa using hj
        | succ j => simp at hj
      obtain ⟨_, b, o, e, hc⟩ := h3 (m + i) x hx
      simp only [Option.some.injEq, Addr.mk.injEq, and_true] at e
      obtain ⟨rfl, rfl⟩ := e
      rw [Nat.mul_one, Nat.add_zero]
      rwa [Nat.zero_add] at hc
theorem StrsAt.cellAt {w : World} {g o n c i : Nat} {l : List ByteArray} {x : ByteArray} (h : StrsAt w (.slice (some ⟨g, o, none⟩) n c) l) (hi : l[i]? = some x) : w.cell? ⟨g, o + i, none⟩ = some (.string x) := by
  obtain ⟨a, c', e, h1, h2, h3⟩ := h.open
  simp only [Value.slice.injEq] at e
  obtain ⟨rfl, rfl, rfl⟩ := e
  obtain ⟨_, b, o', e, hc⟩ := h3 i x hi
  simp only [Option.some.injEq, Addr.mk.injEq, and_true] at e
  obtain ⟨rfl, rfl⟩ := e
  exact hc
theorem partsS_size {s x : ByteArray} (h : x ∈ partsS s) : x.size ≤ s.size := by
  rw [← dropK_end (s := s) (k := (splitP s 59).length) (Nat.le_succ _)] at h
  exact dropK_size (splitP_size s 59) _ x h
/-- The last four parts by themselves. -/
theorem part_drop (ps : List ByteArray) (m i : Nat) : part (ps.drop m) i = part ps (m + i) := by
  unfold part
  rw [List.getD_eq_getElem?_getD, List.getD_eq_getElem?_getD, List.getElem?_drop]
theorem bigJ_eq {rd : ByteArray → Option Int} {sig : List Ctl} {ps : List ByteArray} {m : Nat} (h : ps.length = m + 4) : bigJ rd sig ps = ⟨(rd (part ps 0)).getD 0, allV (nodeR rd sig) (nodesW ps), allV rd (wordsR (part ps m)), (rd (part ps (m + 1))).getD 0, wordsR (part ps (m + 2)), allV (wireR rd) (wordsR (part ps (m + 3)))⟩ := by
  unfold bigJ
  rw [h, show m + 4 - 4 = m by omega, show m + 4 - 3 = m + 1 by omega, show m + 4 - 2 = m + 2 by omega, show m + 4 - 1 = m + 3 by omega]
theorem readR_J {rd : ByteArray → Option Int} {sig : List Ctl} {ps : List ByteArray} {m : Nat} (h : ps.length = m + 4) (h0 : (rd (part ps 0)).isSome = true) (h1 : allK (nodeR rd sig) (nodesW ps) = true) (h2 : endK rd (ps.drop m) = true) : readR rd sig ps = some (bigJ rd sig ps) := by
  unfold endK at h2
  simp only [Bool.and_eq_true] at h2
  rw [part_drop, part_drop, part_drop] at h2
  refine readR_yes h0 h1 ?_ ?_ ?_
  · rw [h, show m + 4 - 4 = m + 0 by omega]; exact h2.1
  · rw [h, show m + 4 - 3 = m + 1 by omega]; exact h2.2.1
  · rw [h, show m + 4 - 1 = m + 3 by omega]; exact h2.2.2
theorem readR_end {rd : ByteArray → Option Int} {sig : List Ctl} {ps : List ByteArray} {m : Nat} (h : ps.length = m + 4) (h2 : endK rd (ps.drop m) = false) : readR rd sig ps = none := by
  unfold endK at h2
  rw [part_drop, part_drop, part_drop] at h2
  have e4 : ps.length - 4 = m + 0 := by omega
  have e3 : ps.length - 3 = m + 1 := by omega
  have e1 : ps.length - 1 = m + 3 := by omega
  cases ha : allK rd (wordsR (part ps (m + 0))) with
  | false => exact readR_n2 (by rw [e4]; exact allK_none ha)
  | true =>
    cases hc : rd (part ps (m + 1)) with
    | none => exact readR_n3 (by rw [e3]; exact hc)
    | some n =>
      rw [ha, hc] at h2
      simp only [Option.isSome_some, Bool.true_and] at h2
      exact readR_n4 (by rw [e1]; exact allK_none h2)
theorem nodesW_get {ps : List ByteArray} {m k : Nat} (h : ps.length = m + 4) (hk : k + 1 < m) : ∃ x, (nodesW ps)[k]? = some x ∧ ps[k + 1]? = some x := by
  obtain ⟨x, hx⟩ := getElem?_of_lt (l := ps) (i := k + 1) (by omega)
  refine ⟨x, ?_, hx⟩
  unfold nodesW
  rw [List.getElem?_take, if_pos (by omega), List.getElem?_drop, Nat.add_comm]
  exact hx
theorem nodesW_len {ps : List ByteArray} {m : Nat} (h : ps.length = m + 4) : (nodesW ps).length = m - 1 := by
  unfold nodesW
  rw [List.length_take, List.length_drop]; omega
/-- The answer of both. -/
noncomputable def parV (sig : List Ctl) (s : ByteArray) : Big := (parA sig s).getD noBig
noncomputable def parB (sig : List Ctl) (s : ByteArray) : Bool := (parA sig s).isSome
theorem par_some {sig : List Ctl} {s : ByteArray} {b : Big} (h : parA sig s = some b) : parV sig s = b ∧ parB sig s = true := by unfold parV parB; rw [h]; exact ⟨rfl, rfl⟩
theorem par_none {sig : List Ctl} {s : ByteArray} (h : parA sig s = none) : parV sig s = noBig ∧ parB sig s = false := by unfold parV parB; rw [h]; exact ⟨rfl, rfl⟩
theorem parV_good {sig : List Ctl} {s : ByteArray} : parV sig s = noBig ∨ goodB sig (parV sig s) = true := by
  cases h : parA sig s with
  | none => exact .inl (par_none h).1
  | some b =>
    refine .inr ?_
    rw [(par_some h).1]
    have := h
    unfold parA parsR at this
    split at this
    · split at this
      · split at this
        · rename_i hc
          simp only [Option.some.injEq] at this
          subst this
          exact hc.1
        · cases this
      · cases this
    · cases this
theorem ctlX_bd (sig : List Ctl) (s : ByteArray) : -1 ≤ ctlX sig s ∧ ctlX sig s < sig.length + 1 := by
  unfold ctlX
  cases h : sig.findIdx? (fun c => decide (c.name = s)) with
  | none => dsimp only; omega
  | some i =>
    have := (List.findIdx?_eq_some_iff_getElem.1 h).1
    dsimp only; omega
theorem getD_I64 {rd : ByteArray → Option Int} (hI : ∀ s n, rd s = some n → I64 n) (s : ByteArray) : I64 ((rd s).getD 0) := by
  cases h : rd s with
  | none => unfold I64; decide
  | some n => exact hI s n h
theorem nodeJ_bd {rd : ByteArray → Option Int} {sig : List Ctl} (hI : ∀ s n, rd s = some n → I64 n) (hs : sig.length ≤ 1073741824) {s : ByteArray} (hz : s.size ≤ 1100000) : (nodeJ rd sig s).links.length ≤ 1073741824 ∧ (∀ x ∈ (nodeJ rd sig s).links, I64 x) ∧ I64 (nodeJ rd sig s).ctl ∧ I64 (nodeJ rd sig s).par := by
  unfold nodeJ
  refine ⟨?_, fun x hx => ?_, ?_, getD_I64 hI _⟩
  · have h1 := allV_len (rd := rd) (wordsR s)
    have h2 := splitP_length s 32
    rw [wordsR_len] at h1
    dsimp only; omega
  · obtain ⟨w, _, h⟩ := allV_mem hx; exact hI w x h
  · have := ctlX_bd sig (cutA (headT s) 64)
    unfold I64; dsimp only; omega
theorem bigJ_bd {rd : ByteArray → Option Int} {sig : List Ctl} {ps : List ByteArray} (hI : ∀ s n, rd s = some n → I64 n) (hs : sig.length ≤ 1073741824) (hl : ps.length ≤ 1100001) (hz : ∀ x ∈ ps, x.size ≤ 1100000) : BigBd (bigJ rd sig ps) := by
  have hp : ∀ i, (part ps i).size ≤ 1100000 := fun i => by
    unfold part
    rw [List.getD_eq_getElem?_getD]
    cases h : ps[i]? with
    | none => show (⟨#[]⟩ : ByteArray).size ≤ _; decide
    | some x => exact hz x (List.mem_of_getElem? h)
  have hw : ∀ i, (wordsR (part ps i)).length ≤ 1100001 := fun i => by
    have h2 := splitP_length (part ps i) 32
    have := hp i
    rw [wordsR_len]; omega
  unfold bigJ
  refine ⟨?_, fun n hn => ?_, ⟨?_, fun x hx => ?_⟩, ⟨?_, fun x hx => ?_⟩, getD_I64 hI _, getD_I64 hI _⟩
  · have h1 := allV_len (rd := nodeR rd sig) (nodesW ps)
    have h2 : (nodesW ps).length ≤ ps.length := by unfold nodesW; rw [List.length_take, List.length_drop]; omega
    dsimp only; omega
  · obtain ⟨w, hw', h⟩ := allV_mem hn
    have hz' := hz w (by unfold nodesW at hw'; exact List.mem_of_mem_drop (List.mem_of_mem_take hw'))
    cases hk : nodeK rd sig w with
    | false => rw [nodeR_no hk] at h; cases h
    | true =>
      rw [nodeR_yes hk] at h
      obtain rfl := Option.some.inj h
      exact nodeJ_bd hI hs hz'
  · have h1 := allV_len (rd := rd) (wordsR (part ps (ps.length - 4)))
    have := hw (ps.length - 4)
    dsimp only; omega
  · obtain ⟨w, _, h⟩ := allV_mem hx; exact hI w x h
  · have h1 := allV_len (rd := wireR rd) (wordsR (part ps (ps.length - 1)))
    have := hw (ps.length - 1)
    dsimp only; omega
  · obtain ⟨w, hw', h⟩ := allV_mem hx
    unfold wireR at h
    split at h
    · rename_i n hn
      obtain rfl := Option.some.inj h
      refine ⟨?_, hI _ _ hn⟩
      have h1 : (cutA w 61).size ≤ w.size := cutA_size w 61
      have h2 := wordsR_size hw'
      have := hp (ps.length - 1)
      dsimp only; omega
    · cases h
theorem rdN_64 (s : ByteArray) (n : Int) (h : rdN s = some n) : I64 n := by have := rdN_I64 h; unfold I64; omega
theorem rdA_64 (s : ByteArray) (n : Int) (h : rdA s = some n) : I64 n := by
  unfold rdA at h
  split at h
  · rename_i m hm
    split at h
    · obtain rfl := Option.some.inj h
      have := Lib.atoiAll_bounds hm
      unfold I64; omega
    · cases h
  · cases h
end Go.Proofs.YthgelhglfbgagaaGreatDoor
