/- A name for each point: what it means. No program in sight. -/
import Derived.Test.YthbdmcobpcoajaaGreatDoorLeanP
import Derived.Test.YthbdmcobpcoajaaGreatDoorCntB
namespace Go.Proofs.YthbdmcobpcoajaaGreatDoor
open Go Go.RowKit Go.BigFrame

def linksD (b : Big) : List Int := b.nodes.flatMap (·.links) ++ b.inner.map (·.link)
def offN (l : List Nd) : Nat → Nat
  | 0 => 0
  | k + 1 => offN l k + (match l[k]? with | some n => n.links.length | none => 0)
theorem offN_succ {l : List Nd} {k : Nat} {n : Nd} (h : l[k]? = some n) : offN l (k + 1) = offN l k + n.links.length := by
  show offN l k + (match l[k]? with | some n => n.links.length | none => 0) = _; rw [h]
theorem offN_len (l : List Nd) : ∀ k, k ≤ l.length → ((l.take k).flatMap (·.links)).length = offN l k
  | 0, _ => by simp [offN]
  | k + 1, h => by
    obtain ⟨n, hn⟩ := getElem?_of_lt (show k < l.length by omega)
    rw [take_snoc_l hn, offN_succ hn, List.flatMap_append, List.length_append, offN_len l k (by omega)]
    simp
theorem offN_all (l : List Nd) : (l.flatMap (·.links)).length = offN l l.length := by
  have := offN_len l l.length (Nat.le_refl _)
  rwa [List.take_length] at this
theorem linksD_len (b : Big) : (linksD b).length = offN b.nodes b.nodes.length + b.inner.length := by
  unfold linksD; rw [List.length_append, offN_all, List.length_map]
theorem linksD_node {b : Big} {i k : Nat} {n : Nd} {y : Int} (hn : b.nodes[i]? = some n) (hy : n.links[k]? = some y) : (linksD b)[offN b.nodes i + k]? = some y := by
  have hil := (List.getElem?_eq_some_iff.1 hn).1
  have hkl := (List.getElem?_eq_some_iff.1 hy).1
  have e : b.nodes = b.nodes.take i ++ n :: b.nodes.drop (i + 1) := by
    obtain ⟨_, he⟩ := List.getElem?_eq_some_iff.1 hn
    rw [← he, List.getElem_cons_drop, List.take_append_drop]
  obtain ⟨o, ho⟩ : ∃ o, o = offN b.nodes i := ⟨_, rfl⟩
  have hl : ((b.nodes.take i).flatMap (·.links)).length = o := by rw [offN_len _ _ (by omega), ho]
  rw [← ho]
  clear ho
  unfold linksD
  rw [e]
  rw [List.flatMap_append, List.flatMap_cons, List.append_assoc, List.append_assoc, List.getElem?_append_right (by omega), hl, Nat.add_sub_cancel_left, List.getElem?_append_left hkl]
  exact hy
theorem linksD_wire {b : Big} {m : Nat} {x : Wr} (hx : b.inner[m]? = some x) : (linksD b)[offN b.nodes b.nodes.length + m]? = some x.link := by
  unfold linksD
  rw [List.getElem?_append_right (by rw [offN_all]; omega), offN_all, Nat.add_sub_cancel_left, List.getElem?_map, hx]; rfl
theorem offN_le {l : List Nd} (h : ∀ n ∈ l, n.links.length ≤ 3) : ∀ k, offN l k ≤ 3 * k
  | 0 => Nat.le_refl _
  | k + 1 => by
    have ih := offN_le h k
    show offN l k + (match l[k]? with | some n => n.links.length | none => 0) ≤ _
    cases hk : l[k]? with
    | none => simp only; omega
    | some n => have := h n (List.mem_of_getElem? hk); simp only; omega
theorem linksD_bd {b : Big} (h : Bds b) : (linksD b).length ≤ 40 := by
  have h1 := offN_le h.links b.nodes.length
  have h2 := h.nodes
  have h3 := h.inner
  rw [linksD_len]; omega
/-- The name of a point by its number. -/
def ptN (k : Nat) : ByteArray := (⟨#[112]⟩ : ByteArray) ++ Utf8.encode (97 + (k : Int))
theorem ptN_size {k : Nat} (h : k < 64) : (ptN k).size ≤ 4 := by
  have : ∀ x : Fin 64, (ptN x.val).size ≤ 4 := by decide +kernel
  exact this ⟨k, h⟩
def pts (n : Nat) : List ByteArray := (List.range n).map ptN
theorem pts_len (n : Nat) : (pts n).length = n := by simp [pts]
theorem pts_succ (n : Nat) : pts (n + 1) = pts n ++ [ptN n] := by simp [pts, List.range_succ]
theorem pts_size {n : Nat} (h : n ≤ 64) : ∀ s ∈ pts n, s.size ≤ 1073741824 := by
  intro s hs
  obtain ⟨k, hk, rfl⟩ := List.mem_map.1 hs
  have := ptN_size (k := k) (by have := List.mem_range.1 hk; omega)
  omega
def lit16 : List ByteArray := [⟨#[112, 97]⟩, ⟨#[112, 98]⟩, ⟨#[112, 99]⟩, ⟨#[112, 100]⟩, ⟨#[112, 101]⟩, ⟨#[112, 102]⟩, ⟨#[112, 103]⟩, ⟨#[112, 104]⟩, ⟨#[112, 105]⟩, ⟨#[112, 106]⟩, ⟨#[112, 107]⟩, ⟨#[112, 108]⟩, ⟨#[112, 109]⟩, ⟨#[112, 110]⟩, ⟨#[112, 111]⟩, ⟨#[112, 112]⟩]
theorem lit16_pts : lit16 = pts 16 := by
  have h : lit16.map (·.data.toList) = (pts 16).map (·.data.toList) := by decide +kernel
  exact (List.map_inj_right (f := fun s : ByteArray => s.data.toList) (fun x y e => ByteArray.ext (Array.toList_inj.1 e))).1 h
theorem pts_take {n m : Nat} (h : n ≤ m) : (pts m).take n = pts n := by
  unfold pts
  rw [← List.map_take, List.take_range, Nat.min_eq_left h]
def wirD (l : List Int) (k : Nat) : List Wr := (l.take k).mapIdx fun i x => ⟨ptN i, x⟩
theorem wirD_len {l : List Int} {k : Nat} (h : k ≤ l.length) : (wirD l k).length = k := by unfold wirD; simp; omega
theorem wirD_succ {l : List Int} {k : Nat} {x : Int} (h : l[k]? = some x) : wirD l (k + 1) = wirD l k ++ [⟨ptN k, x⟩] := by
  have hk := (List.getElem?_eq_some_iff.1 h).1
  unfold wirD
  rw [take_snoc_l h, List.mapIdx_append]
  simp only [List.length_take, List.mapIdx_cons, List.mapIdx_nil]
  rw [Nat.min_eq_left (by omega), Nat.zero_add]
def wdR (l : List Int) (k : Nat) : List (List Value) := (wirD l k).map Wr.cells
theorem wdR_len {l : List Int} {k : Nat} (h : k ≤ l.length) : (wdR l k).length = k := by unfold wdR; rw [List.length_map, wirD_len h]
theorem wdR_succ {l : List Int} {k : Nat} {x : Int} (h : l[k]? = some x) : wdR l (k + 1) = wdR l k ++ [[.string (ptN k), .int .i64 x]] := by unfold wdR; rw [wirD_succ h]; simp [Wr.cells]
theorem wdR_zero (l : List Int) : wdR l 0 = [] := by simp [wdR, wirD]
theorem pts_zero : pts 0 = [] := rfl
theorem ptsR_len (n : Nat) : (strRows (pts n)).length = n := by simp [strRows, pts_len]
theorem ptsR_succ (n : Nat) : strRows (pts (n + 1)) = strRows (pts n) ++ [[.string (ptN n)]] := by rw [pts_succ]; simp [strRows]
/-- The links of the first nodes, then those of the first wires. -/
def lnkN (b : Big) (k : Nat) : List Int := (b.nodes.take k).flatMap (·.links)
def lnkW (b : Big) (k : Nat) : List Int := b.nodes.flatMap (·.links) ++ (b.inner.take k).map (·.link)
theorem lnkN_len {b : Big} {k : Nat} (h : k ≤ b.nodes.length) : (intRows (lnkN b k)).length = offN b.nodes k := by unfold lnkN intRows; rw [List.length_map, offN_len _ _ h]
theorem lnkN_succ {b : Big} {k : Nat} {n : Nd} (h : b.nodes[k]? = some n) : intRows (lnkN b (k + 1)) = intRows (lnkN b k) ++ intRows n.links := by unfold lnkN; rw [take_snoc_l h, List.flatMap_append]; simp [intRows]
theorem lnkW_len {b : Big} {k : Nat} (h : k ≤ b.inner.length) : (intRows (lnkW b k)).length = offN b.nodes b.nodes.length + k := by unfold lnkW intRows; rw [List.length_map, List.length_append, offN_all, List.length_map, List.length_take, Nat.min_eq_left h]
theorem lnkW_succ {b : Big} {k : Nat} {x : Wr} (h : b.inner[k]? = some x) : intRows (lnkW b (k + 1)) = intRows (lnkW b k) ++ [[.int .i64 x.link]] := by unfold lnkW; rw [take_snoc_l h]; simp [intRows]
theorem lnkW_zero (b : Big) : lnkW b 0 = lnkN b b.nodes.length := by unfold lnkW lnkN; simp
theorem lnkW_all (b : Big) : lnkW b b.inner.length = linksD b := by unfold lnkW linksD; rw [List.take_length]
theorem linksD_I64 {b : Big} (h : Bds b) : ∀ x ∈ linksD b, I64 x := by
  intro x hm
  have he := h.edges
  have ho := h.outer
  unfold linksD at hm
  rcases List.mem_append.1 hm with h1 | h1
  · obtain ⟨n, hn, hx⟩ := List.mem_flatMap.1 h1
    have := h.lnk n hn x hx
    unfold I64; omega
  · obtain ⟨y, hy, rfl⟩ := List.mem_map.1 h1
    have := h.wire y hy
    unfold I64; omega
def fD (b : Big) (i k : Nat) (_ : Int) : Int := ((offN b.nodes i + k : Nat) : Int)
def gD (b : Big) (m : Nat) (_ : Int) : Int := ((offN b.nodes b.nodes.length + m : Nat) : Int)
def discB (b : Big) : Big := ⟨b.roots, allN (fD b) b.nodes, b.sites, 0, pts (linksD b).length, allW (gD b) b.inner⟩
def wireB (b : Big) : Big := ⟨0, [], [], b.edges, b.outer, wirD (linksD b) (linksD b).length⟩
def dscC (sig : List Ctl) (b : Big) : Bool := goodB sig b && decide ((linksD b).length ≤ 16)
def dscW (sig : List Ctl) (b : Big) : Big := if dscC sig b then wireB b else noBig
def dscO (sig : List Ctl) (b : Big) : Big := if dscC sig b then discB b else noBig
theorem dscW_no {sig : List Ctl} {b : Big} (h : dscC sig b = false) : dscW sig b = noBig := by unfold dscW; rw [h]; rfl
theorem dscO_no {sig : List Ctl} {b : Big} (h : dscC sig b = false) : dscO sig b = noBig := by unfold dscO; rw [h]; rfl
theorem dscW_yes {sig : List Ctl} {b : Big} (h : dscC sig b = true) : dscW sig b = wireB b := by unfold dscW; rw [h]; rfl
theorem dscO_yes {sig : List Ctl} {b : Big} (h : dscC sig b = true) : dscO sig b = discB b := by unfold dscO; rw [h]; rfl
theorem wirD_ok {b : Big} (h : Bds b) {k : Nat} (hk : k ≤ (linksD b).length) : ∀ c ∈ wirD (linksD b) k, c.name.size ≤ 1073741824 ∧ I64 c.link := by
  intro c hc
  have hl := linksD_bd h
  obtain ⟨i, hi⟩ := List.mem_iff_getElem?.1 hc
  unfold wirD at hi
  rw [List.getElem?_mapIdx] at hi
  cases hx : ((linksD b).take k)[i]? with
  | none => rw [hx] at hi; cases hi
  | some x =>
    rw [hx] at hi
    simp only [Option.map_some, Option.some.injEq] at hi
    subst hi
    have hil := (List.getElem?_eq_some_iff.1 hx).1
    have hm : x ∈ linksD b := List.mem_of_mem_take (List.mem_of_getElem? hx)
    have hsz := ptN_size (k := i) (by simp at hil; omega)
    refine ⟨by dsimp only; omega, ?_⟩
    have he := h.edges
    have ho := h.outer
    unfold linksD at hm
    rcases List.mem_append.1 hm with h1 | h1
    · obtain ⟨n, hn, hx⟩ := List.mem_flatMap.1 h1
      have := h.lnk n hn x hx
      unfold I64; dsimp only; omega
    · obtain ⟨y, hy, rfl⟩ := List.mem_map.1 h1
      have := h.wire y hy
      unfold I64; dsimp only; omega
theorem dscW_len (sig : List Ctl) (b : Big) : (cntB (dscW sig b) : Int) ≤ 100000000 := by
  unfold dscW
  split
  · rename_i h
    unfold dscC at h
    simp only [Bool.and_eq_true, decide_eq_true_eq] at h
    have hD := (good_of h.1).bds
    refine cntB_bd ?_ ?_ ?_ ?_ ?_
    · show ([] : List Nd).length ≤ _; simp
    · intro n hn; cases hn
    · show ([] : List Int).length ≤ _; simp
    · show b.outer.length ≤ _; have := hD.outer; omega
    · show (wirD (linksD b) (linksD b).length).length ≤ _; rw [wirD_len (Nat.le_refl _)]; omega
  · unfold cntB cntN noBig; simp [sumOf_nil]
theorem dscO_len (sig : List Ctl) (b : Big) : (cntB (dscO sig b) : Int) ≤ 100000000 := by
  unfold dscO
  split
  · rename_i h
    unfold dscC at h
    simp only [Bool.and_eq_true, decide_eq_true_eq] at h
    have hD := (good_of h.1).bds
    refine cntB_bd ?_ ?_ ?_ ?_ ?_
    · show (allN (fD b) b.nodes).length ≤ _; unfold allN; rw [List.length_mapIdx]; have := hD.nodes; omega
    · intro n hn
      obtain ⟨i, hi⟩ := List.mem_iff_getElem?.1 hn
      have hi : (allN (fD b) b.nodes)[i]? = some n := hi
      unfold allN at hi
      rw [List.getElem?_mapIdx] at hi
      cases hx : b.nodes[i]? with
      | none => rw [hx] at hi; cases hi
      | some x =>
        rw [hx] at hi
        simp only [Option.map_some, Option.some.injEq] at hi
        subst hi
        have := hD.links x (List.mem_of_getElem? hx)
        dsimp only
        rw [List.length_mapIdx]; omega
    · show b.sites.length ≤ _; have := hD.sites; omega
    · show (pts (linksD b).length).length ≤ _; rw [pts_len]; omega
    · show (allW (gD b) b.inner).length ≤ _; unfold allW; rw [List.length_mapIdx]; have := hD.inner; omega
  · unfold cntB cntN noBig; simp [sumOf_nil]
end Go.Proofs.YthbdmcobpcoajaaGreatDoor
