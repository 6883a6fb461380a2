/- The text of a bigraph: two ways to put it together. No program in sight. -/
import Derived.Test.YthgelhglfbgagaaGreatDoorG2
import Derived.Test.YthgelhglfbgagaaGreatDoorDecZ
import Derived.Lib.Join
namespace Go.Proofs.YthgelhglfbgagaaGreatDoor
open Go Go.RowKit Go.BigFrame

def tSp : ByteArray := ⟨#[32]⟩
def tAtS : ByteArray := ⟨#[64]⟩
def tEqS : ByteArray := ⟨#[61]⟩
def tSc : ByteArray := ⟨#[59, 32]⟩
def tSites : ByteArray := ⟨#[115, 105, 116, 101, 115]⟩
def tOuter : ByteArray := ⟨#[111, 117, 116, 101, 114]⟩
def tInner : ByteArray := ⟨#[105, 110, 110, 101, 114]⟩
def tScOuter : ByteArray := ⟨#[59, 32, 111, 117, 116, 101, 114]⟩
def tScInner : ByteArray := ⟨#[59, 32, 105, 110, 110, 101, 114]⟩
def ctlN (sig : List Ctl) (c : Int) : ByteArray := match sig[c.toNat]? with | some x => x.name | none => ⟨#[]⟩
def wordsN (l : List Int) : Nat → ByteArray
  | 0 => ⟨#[]⟩
  | k + 1 => (wordsN l k ++ tSp) ++ decZ (l.getD k 0)
def numT (s : ByteArray) (l : List Int) : Nat → ByteArray
  | 0 => s
  | k + 1 => numT s l k ++ (tSp ++ decZ (l.getD k 0))
theorem wordsN_succ {l : List Int} {k : Nat} {x : Int} (h : l[k]? = some x) : wordsN l (k + 1) = (wordsN l k ++ tSp) ++ decZ x := by
  show (wordsN l k ++ tSp) ++ decZ (l.getD k 0) = _
  rw [List.getD_eq_getElem?_getD, h]; rfl
theorem numT_succ {s : ByteArray} {l : List Int} {k : Nat} {x : Int} (h : l[k]? = some x) : numT s l (k + 1) = numT s l k ++ (tSp ++ decZ x) := by
  show numT s l k ++ (tSp ++ decZ (l.getD k 0)) = _
  rw [List.getD_eq_getElem?_getD, h]; rfl
theorem numT_eq (s : ByteArray) (l : List Int) : ∀ k, numT s l k = s ++ wordsN l k
  | 0 => ByteArray.append_empty.symm
  | k + 1 => by
    unfold numT wordsN
    rw [numT_eq s l k]
    simp only [ByteArray.append_assoc]
/-! The reference's way. -/
def nodesT (sig : List Ctl) (b : Big) : Nat → ByteArray
  | 0 => decZ b.roots ++ tSc
  | k + 1 => match b.nodes[k]? with
    | some x => ((((nodesT sig b k ++ ctlN sig x.ctl) ++ tAtS) ++ decZ x.par) ++ wordsN x.links x.links.length) ++ tSc
    | none => nodesT sig b k
def midT (sig : List Ctl) (b : Big) : ByteArray := ((((nodesT sig b b.nodes.length ++ tSites) ++ wordsN b.sites b.sites.length) ++ tSc) ++ decZ b.edges) ++ tScOuter
def outT (sig : List Ctl) (b : Big) : Nat → ByteArray
  | 0 => midT sig b
  | k + 1 => (outT sig b k ++ tSp) ++ b.outer.getD k ⟨#[]⟩
def inT (sig : List Ctl) (b : Big) : Nat → ByteArray
  | 0 => outT sig b b.outer.length ++ tScInner
  | k + 1 => match b.inner[k]? with
    | some x => (((inT sig b k ++ tSp) ++ x.name) ++ tEqS) ++ decZ x.link
    | none => inT sig b k
def textL (sig : List Ctl) (b : Big) : ByteArray := inT sig b b.inner.length
theorem nodesT_succ {sig : List Ctl} {b : Big} {k : Nat} {x : Nd} (h : b.nodes[k]? = some x) : nodesT sig b (k + 1) = ((((nodesT sig b k ++ ctlN sig x.ctl) ++ tAtS) ++ decZ x.par) ++ wordsN x.links x.links.length) ++ tSc := by
  show (match b.nodes[k]? with | some x => _ | none => _) = _; rw [h]
theorem outT_succ {sig : List Ctl} {b : Big} {k : Nat} {x : ByteArray} (h : b.outer[k]? = some x) : outT sig b (k + 1) = (outT sig b k ++ tSp) ++ x := by
  show (outT sig b k ++ tSp) ++ b.outer.getD k ⟨#[]⟩ = _
  rw [List.getD_eq_getElem?_getD, h]; rfl
theorem inT_succ {sig : List Ctl} {b : Big} {k : Nat} {x : Wr} (h : b.inner[k]? = some x) : inT sig b (k + 1) = (((inT sig b k ++ tSp) ++ x.name) ++ tEqS) ++ decZ x.link := by
  show (match b.inner[k]? with | some x => _ | none => _) = _; rw [h]
/-! The program's way. -/
def joinT (xs : List ByteArray) (sep : ByteArray) : ByteArray := ⟨(Lib.join (xs.map (·.data.toList)) sep.data.toList).toArray⟩
def nodeT (sig : List Ctl) (x : Nd) : ByteArray := numT ((ctlN sig x.ctl ++ tAtS) ++ decZ x.par) x.links x.links.length
def partsT (sig : List Ctl) (b : Big) (k : Nat) : List ByteArray := [decZ b.roots] ++ (b.nodes.take k).map (nodeT sig)
def innT (b : Big) : Nat → ByteArray
  | 0 => tInner
  | k + 1 => match b.inner[k]? with
    | some x => innT b k ++ (((tSp ++ x.name) ++ tEqS) ++ decZ x.link)
    | none => innT b k
theorem innT_succ {b : Big} {k : Nat} {x : Wr} (h : b.inner[k]? = some x) : innT b (k + 1) = innT b k ++ (((tSp ++ x.name) ++ tEqS) ++ decZ x.link) := by
  show (match b.inner[k]? with | some x => _ | none => _) = _; rw [h]
theorem partsT_succ {sig : List Ctl} {b : Big} {k : Nat} {x : Nd} (h : b.nodes[k]? = some x) : partsT sig b (k + 1) = partsT sig b k ++ [nodeT sig x] := by
  unfold partsT
  rw [List.take_add_one, h]; simp
def allT (sig : List Ctl) (b : Big) : List ByteArray := partsT sig b b.nodes.length ++ [numT tSites b.sites b.sites.length, decZ b.edges, joinT ([tOuter] ++ b.outer) tSp] ++ [innT b b.inner.length]
theorem joinT_one (x sep : ByteArray) : joinT [x] sep = x := by
  unfold joinT; apply ByteArray.ext; simp [Lib.join_one]
theorem join_snoc (s : List UInt8) (y : List UInt8) : ∀ (l : List (List UInt8)), l ≠ [] → Lib.join (l ++ [y]) s = Lib.join l s ++ s ++ y
  | [], h => absurd rfl h
  | x :: r, _ => by
    rw [List.cons_append, Lib.join_cons, Lib.join_cons]
    unfold Lib.joinTail
    simp
theorem joinT_snoc {l : List ByteArray} (y sep : ByteArray) (h : l ≠ []) : joinT (l ++ [y]) sep = (joinT l sep ++ sep) ++ y := by
  unfold joinT
  apply ByteArray.ext
  rw [List.map_append, List.map_singleton, join_snoc _ _ _ (by simpa using h)]
  simp [ByteArray.data_append]
theorem partsT_ne (sig : List Ctl) (b : Big) (k : Nat) : partsT sig b k ≠ [] := by unfold partsT; simp
theorem parts_nodes (sig : List Ctl) (b : Big) : ∀ k, k ≤ b.nodes.length → joinT (partsT sig b k) tSc ++ tSc = nodesT sig b k
  | 0, _ => by unfold partsT; rw [List.take_zero]; show joinT [decZ b.roots] tSc ++ tSc = _; rw [joinT_one]; rfl
  | k + 1, hk => by
    obtain ⟨x, hx⟩ := getElem?_of_lt (show k < b.nodes.length by omega)
    rw [partsT_succ hx, nodesT_succ hx, joinT_snoc _ _ (partsT_ne sig b k), parts_nodes sig b k (by omega)]
    unfold nodeT
    rw [numT_eq]
    simp only [ByteArray.append_assoc]
theorem outer_parts (sig : List Ctl) (b : Big) (p : ByteArray) (hp : midT sig b = p ++ tOuter) : ∀ k, k ≤ b.outer.length → outT sig b k = p ++ joinT ([tOuter] ++ b.outer.take k) tSp
  | 0, _ => by rw [List.take_zero]; show midT sig b = p ++ joinT [tOuter] tSp; rw [joinT_one, hp]
  | k + 1, hk => by
    obtain ⟨x, hx⟩ := getElem?_of_lt (show k < b.outer.length by omega)
    rw [outT_succ hx, outer_parts sig b p hp k (by omega), List.take_add_one, hx]
    show _ = p ++ joinT ([tOuter] ++ (b.outer.take k ++ [x])) tSp
    rw [← List.append_assoc, joinT_snoc _ _ (by simp)]
    simp only [ByteArray.append_assoc]
theorem inner_parts (sig : List Ctl) (b : Big) (p : ByteArray) (hp : outT sig b b.outer.length ++ tScInner = p ++ tInner) : ∀ k, k ≤ b.inner.length → inT sig b k = p ++ innT b k
  | 0, _ => hp
  | k + 1, hk => by
    obtain ⟨x, hx⟩ := getElem?_of_lt (show k < b.inner.length by omega)
    rw [inT_succ hx, innT_succ hx, inner_parts sig b p hp k (by omega)]
    simp only [ByteArray.append_assoc]
theorem text_parts (sig : List Ctl) (b : Big) : joinT (allT sig b) tSc = textL sig b := by
  have e1 : tScOuter = tSc ++ tOuter := rfl
  have e2 : tScInner = tSc ++ tInner := rfl
  have h := parts_nodes sig b b.nodes.length (Nat.le_refl _)
  have hm : midT sig b = (((((nodesT sig b b.nodes.length ++ tSites) ++ wordsN b.sites b.sites.length) ++ tSc) ++ decZ b.edges) ++ tSc) ++ tOuter := by
    unfold midT; rw [e1]; simp only [ByteArray.append_assoc]
  have ho := outer_parts sig b _ hm b.outer.length (Nat.le_refl _)
  rw [List.take_length] at ho
  have hi := inner_parts sig b (outT sig b b.outer.length ++ tSc) (by rw [e2]; simp only [ByteArray.append_assoc]) b.inner.length (Nat.le_refl _)
  unfold textL
  rw [hi, ho]
  have e3 : allT sig b = (((partsT sig b b.nodes.length ++ [numT tSites b.sites b.sites.length]) ++ [decZ b.edges]) ++ [joinT ([tOuter] ++ b.outer) tSp]) ++ [innT b b.inner.length] := by
    unfold allT; simp
  rw [e3, joinT_snoc _ _ (by simp), joinT_snoc _ _ (by simp), joinT_snoc _ _ (by simp), joinT_snoc _ _ (partsT_ne _ _ _), h, numT_eq]
  simp only [ByteArray.append_assoc]
/-! ### How long the texts are -/
theorem decZ_size {n : Int} (h0 : -999999 ≤ n) (h1 : n ≤ 999999) : (decZ n).size ≤ 7 := by
  unfold decZ
  split
  · rw [ByteArray.size_append]
    have := decS_size_le 6 n.natAbs (by omega) (by omega)
    have e : (⟨#[45]⟩ : ByteArray).size = 1 := rfl
    omega
  · have := decS_size_le 6 n.toNat (by omega) (by omega)
    omega
theorem wordsN_size {l : List Int} (h : ∀ x ∈ l, -999999 ≤ x ∧ x ≤ 999999) : ∀ k, k ≤ l.length → (wordsN l k).size ≤ 8 * k
  | 0, _ => Nat.le_refl _
  | k + 1, hk => by
    obtain ⟨x, hx⟩ := getElem?_of_lt (show k < l.length by omega)
    have h1 := wordsN_size h k (by omega)
    have h2 := h x (List.mem_of_getElem? hx)
    have h3 := decZ_size h2.1 h2.2
    have e : tSp.size = 1 := rfl
    rw [wordsN_succ hx, ByteArray.size_append, ByteArray.size_append]
    omega
theorem numT_size {s : ByteArray} {l : List Int} (h : ∀ x ∈ l, -999999 ≤ x ∧ x ≤ 999999) {k : Nat} (hk : k ≤ l.length) : (numT s l k).size ≤ s.size + 8 * k := by
  rw [numT_eq, ByteArray.size_append]
  have := wordsN_size h k hk
  omega
section
variable {sig : List Ctl} {b : Big}
theorem Good.links_dec (hG : Good sig b) {x : Nd} (hx : x ∈ b.nodes) : ∀ y ∈ x.links, -999999 ≤ y ∧ y ≤ 999999 := fun y hy => by
  have h1 := hG.bds.lnk x hx y hy
  have h2 := hG.bds.edges
  have h3 := hG.bds.outer
  omega
theorem Good.par_dec (hG : Good sig b) {x : Nd} (hx : x ∈ b.nodes) : -999999 ≤ x.par ∧ x.par ≤ 999999 := by
  have h1 := hG.bds.par x hx
  have h2 := hG.bds.roots
  have h3 := hG.bds.nodes
  omega
theorem Good.site_dec (hG : Good sig b) : ∀ y ∈ b.sites, -999999 ≤ y ∧ y ≤ 999999 := fun y hy => by
  have h1 := hG.bds.site y hy
  have h2 := hG.bds.roots
  have h3 := hG.bds.nodes
  omega
theorem Good.wire_dec (hG : Good sig b) {x : Wr} (hx : x ∈ b.inner) : -999999 ≤ x.link ∧ x.link ≤ 999999 := by
  have h1 := hG.bds.wire x hx
  have h2 := hG.bds.edges
  have h3 := hG.bds.outer
  omega
theorem Good.nameI (hG : Good sig b) {x : Wr} (hx : x ∈ b.inner) : nameB x.name = true := by
  have h1 := hG.inner
  unfold namesB at h1
  simp only [Bool.and_eq_true, List.all_eq_true, List.mem_range] at h1
  obtain ⟨k, hk⟩ := List.mem_iff_getElem?.1 hx
  have hk2 : (b.inner.map Wr.name)[k]? = some x.name := by rw [List.getElem?_map, hk]; rfl
  have := h1.1 k (List.getElem?_eq_some_iff.1 hk2).1
  unfold stepB at this
  rw [hk2] at this
  simp only [Bool.and_eq_true] at this
  exact this.1
theorem Good.ctlN_size (hG : Good sig b) {x : Nd} (hx : x ∈ b.nodes) : (ctlN sig x.ctl).size ≤ 4 := by
  obtain ⟨k, hk⟩ := List.mem_iff_getElem?.1 hx
  have hc := node_ctl (hG.node k x hk)
  obtain ⟨c, hcc⟩ := getElem?_of_lt (l := sig) (i := x.ctl.toNat) (by omega)
  have h1 := sig_ctl hG.sg hcc
  unfold ctlB at h1
  simp only [Bool.and_eq_true] at h1
  have h2 := (name_pos h1.1).2
  unfold ctlN
  rw [hcc]
  exact h2
theorem nodesT_size (hG : Good sig b) : ∀ k, k ≤ b.nodes.length → (nodesT sig b k).size ≤ 9 + 100 * k
  | 0, _ => by
    show (decZ b.roots ++ tSc).size ≤ _
    have h1 := hG.bds.roots
    have h2 := decZ_size (n := b.roots) (by omega) (by omega)
    have e : tSc.size = 2 := rfl
    rw [ByteArray.size_append]; omega
  | k + 1, hk => by
    obtain ⟨x, hx⟩ := getElem?_of_lt (show k < b.nodes.length by omega)
    have hm := List.mem_of_getElem? hx
    have h1 := nodesT_size hG k (by omega)
    have h2 := hG.ctlN_size hm
    have h3 := decZ_size (hG.par_dec hm).1 (hG.par_dec hm).2
    have h4 := wordsN_size (hG.links_dec hm) x.links.length (Nat.le_refl _)
    have h5 := hG.bds.links x hm
    have e : tSc.size = 2 := rfl
    have e2 : tAtS.size = 1 := rfl
    rw [nodesT_succ hx]
    simp only [ByteArray.size_append]
    omega
theorem midT_size (hG : Good sig b) : (midT sig b).size ≤ 900 := by
  have h0 := hG.bds.nodes
  have h1 := nodesT_size hG b.nodes.length (Nat.le_refl _)
  have h2 := wordsN_size hG.site_dec b.sites.length (Nat.le_refl _)
  have h3 := hG.bds.sites
  have h4 := hG.bds.edges
  have h5 := decZ_size (n := b.edges) (by omega) (by omega)
  have e1 : tSc.size = 2 := rfl
  have e2 : tSites.size = 5 := rfl
  have e3 : tScOuter.size = 7 := rfl
  unfold midT
  simp only [ByteArray.size_append]
  omega
theorem outT_size (hG : Good sig b) : ∀ k, k ≤ b.outer.length → (outT sig b k).size ≤ 900 + 5 * k
  | 0, _ => midT_size hG
  | k + 1, hk => by
    obtain ⟨x, hx⟩ := getElem?_of_lt (show k < b.outer.length by omega)
    have h1 := outT_size hG k (by omega)
    have h2 := (name_pos (hG.name (List.mem_of_getElem? hx))).2
    have e1 : tSp.size = 1 := rfl
    rw [outT_succ hx]
    simp only [ByteArray.size_append]
    omega
theorem inT_size (hG : Good sig b) : ∀ k, k ≤ b.inner.length → (inT sig b k).size ≤ 1000 + 13 * k
  | 0, _ => by
    show (outT sig b b.outer.length ++ tScInner).size ≤ _
    have h0 := hG.bds.outer
    have h1 := outT_size hG b.outer.length (Nat.le_refl _)
    have e1 : tScInner.size = 7 := rfl
    rw [ByteArray.size_append]
    omega
  | k + 1, hk => by
    obtain ⟨x, hx⟩ := getElem?_of_lt (show k < b.inner.length by omega)
    have hm := List.mem_of_getElem? hx
    have h1 := inT_size hG k (by omega)
    have h2 := (name_pos (hG.nameI hm)).2
    have h3 := decZ_size (hG.wire_dec hm).1 (hG.wire_dec hm).2
    have e1 : tSp.size = 1 := rfl
    have e2 : tEqS.size = 1 := rfl
    rw [inT_succ hx]
    simp only [ByteArray.size_append]
    omega
theorem textL_size (hG : Good sig b) : (textL sig b).size ≤ 1300 := by
  have h0 := hG.bds.inner
  have h1 := inT_size hG b.inner.length (Nat.le_refl _)
  unfold textL
  omega
theorem innT_size (hG : Good sig b) : ∀ k, k ≤ b.inner.length → (innT b k).size ≤ 5 + 13 * k
  | 0, _ => by show tInner.size ≤ _; decide
  | k + 1, hk => by
    obtain ⟨x, hx⟩ := getElem?_of_lt (show k < b.inner.length by omega)
    have hm := List.mem_of_getElem? hx
    have h1 := innT_size hG k (by omega)
    have h2 := (name_pos (hG.nameI hm)).2
    have h3 := decZ_size (hG.wire_dec hm).1 (hG.wire_dec hm).2
    have e1 : tSp.size = 1 := rfl
    have e2 : tEqS.size = 1 := rfl
    rw [innT_succ hx]
    simp only [ByteArray.size_append]
    omega
end
end Go.Proofs.YthgelhglfbgagaaGreatDoor
