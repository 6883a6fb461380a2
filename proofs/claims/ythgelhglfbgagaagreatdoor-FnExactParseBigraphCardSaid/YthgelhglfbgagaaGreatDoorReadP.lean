/- Reading the text of a bigraph: what it means; two ways to read are one. No program in sight. -/
import Derived.Test.YthgelhglfbgagaaGreatDoorTextP
import Derived.Test.YthgelhglfbgagaaGreatDoorRdP
import Derived.Test.YthgelhglfbgagaaGreatDoorSplP
import Derived.Test.YthgelhglfbgagaaGreatDoorG2
namespace Go.Proofs.YthgelhglfbgagaaGreatDoor
open Go Go.RowKit Go.BigFrame

/-- All of some strings, each read; nothing if one cannot be. -/
def allR {α : Type} (rd : ByteArray → Option α) : List ByteArray → Option (List α)
  | [] => some []
  | x :: l => match rd x, allR rd l with
    | some v, some r => some (v :: r)
    | _, _ => none
theorem allR_snoc {α : Type} (rd : ByteArray → Option α) (x : ByteArray) : ∀ l, allR rd (l ++ [x]) = match allR rd l, rd x with
    | some r, some v => some (r ++ [v])
    | _, _ => none
  | [] => by
    show allR rd [x] = _
    unfold allR
    cases rd x <;> simp [allR]
  | y :: l => by
    rw [List.cons_append]
    simp only [allR]
    rw [allR_snoc rd x l]
    cases rd y <;> cases allR rd l <;> cases rd x <;> simp
theorem allR_take {α : Type} {rd : ByteArray → Option α} {l : List ByteArray} {k : Nat} {r : List α} {x : ByteArray} {v : α} (h : allR rd (l.take k) = some r) (hx : l[k]? = some x) (hv : rd x = some v) : allR rd (l.take (k + 1)) = some (r ++ [v]) := by
  rw [take_snoc_l hx, allR_snoc, h, hv]
theorem allR_none {α : Type} {rd : ByteArray → Option α} : ∀ {l : List ByteArray} {x : ByteArray}, x ∈ l → rd x = none → allR rd l = none
  | y :: l, x, hx, hn => by
    unfold allR
    rcases List.mem_cons.1 hx with rfl | hx
    · rw [hn]
    · rw [allR_none hx hn]; cases rd y <;> rfl
theorem allR_len {α : Type} {rd : ByteArray → Option α} : ∀ {l : List ByteArray} {r : List α}, allR rd l = some r → r.length = l.length
  | [], r, h => by simp only [allR, Option.some.injEq] at h; subst h; rfl
  | x :: l, r, h => by
    unfold allR at h
    cases hx : rd x with
    | none => rw [hx] at h; cases h
    | some v =>
      cases hl : allR rd l with
      | none => rw [hx, hl] at h; cases h
      | some q =>
        rw [hx, hl] at h
        simp only [Option.some.injEq] at h
        subst h
        simp [allR_len hl]
theorem allR_map {α β : Type} {rd : ByteArray → Option α} (f : β → ByteArray) (g : β → α) : ∀ {l : List β}, (∀ x ∈ l, rd (f x) = some (g x)) → allR rd (l.map f) = some (l.map g)
  | [], _ => rfl
  | x :: l, h => by
    rw [List.map_cons]
    unfold allR
    rw [h x (by simp), allR_map f g (fun y hy => h y (by simp [hy]))]
    rfl
def allV {α : Type} (rd : ByteArray → Option α) (l : List ByteArray) : List α := (allR rd l).getD []
def allK {α : Type} (rd : ByteArray → Option α) (l : List ByteArray) : Bool := (allR rd l).isSome

/-- The number of the control with a name; -1 if there is none. -/
def ctlX (sig : List Ctl) (s : ByteArray) : Int := match sig.findIdx? (fun c => decide (c.name = s)) with | some i => i | none => -1
def nodeR (rd : ByteArray → Option Int) (sig : List Ctl) (s : ByteArray) : Option Nd :=
  match rd (cutZ ((splitP s 32).getD 0 ⟨#[]⟩) 64), allR rd ((splitP s 32).drop 1) with
  | some p, some l => if 0 ≤ ctlX sig (cutA ((splitP s 32).getD 0 ⟨#[]⟩) 64) then some ⟨ctlX sig (cutA ((splitP s 32).getD 0 ⟨#[]⟩) 64), p, l⟩ else none
  | _, _ => none
def wireR (rd : ByteArray → Option Int) (s : ByteArray) : Option Wr :=
  match rd (cutZ s 61) with
  | some l => some ⟨cutA s 61, l⟩
  | none => none
def wordsR (s : ByteArray) : List ByteArray := (splitP s 32).drop 1
def readR (rd : ByteArray → Option Int) (sig : List Ctl) (ps : List ByteArray) : Option Big :=
  match rd (ps.getD 0 ⟨#[]⟩), allR (nodeR rd sig) ((ps.drop 1).take (ps.length - 5)), allR rd (wordsR (ps.getD (ps.length - 4) ⟨#[]⟩)), rd (ps.getD (ps.length - 3) ⟨#[]⟩), allR (wireR rd) (wordsR (ps.getD (ps.length - 1) ⟨#[]⟩)) with
  | some r, some ns, some ss, some e, some ws => some ⟨r, ns, ss, e, wordsR (ps.getD (ps.length - 2) ⟨#[]⟩), ws⟩
  | _, _, _, _, _ => none
open Classical in
/-- What a text is read to, by some parts of it: only what has that very text. -/
noncomputable def parsR (rd : ByteArray → Option Int) (lim : Nat) (sig : List Ctl) (ps : List ByteArray) (s : ByteArray) : Option Big :=
  if sigB sig = true ∧ 5 ≤ ps.length ∧ ps.length ≤ lim then
    match readR rd sig ps with
    | some b => if goodB sig b = true ∧ textL sig b = s then some b else none
    | none => none
  else none

/-! ### The text's own bytes -/
theorem decDigits_bd {n : Nat} {b : UInt8} (h : b ∈ Lib.decDigits n) : 48 ≤ b.toNat ∧ b.toNat ≤ 57 := by
  obtain ⟨k, hk⟩ := List.mem_iff_getElem?.1 h
  obtain ⟨d, hd⟩ := Lib.digit_of_decFrom _ _ _ (decFrom_dec n) k b hk
  have := Lib.digitVal_eq hd
  exact ⟨this.1, this.2.1⟩
theorem decZ_byte {n : Int} {b : UInt8} (h : b ∈ (decZ n).data.toList) : b = 45 ∨ (48 ≤ b.toNat ∧ b.toNat ≤ 57) := by
  rw [decZ_list] at h
  unfold Lib.itoa at h
  split at h
  · rcases List.mem_cons.1 h with rfl | h
    · exact .inl rfl
    · exact .inr (decDigits_bd h)
  · exact .inr (decDigits_bd h)
theorem decZ_no {n : Int} {c : UInt8} (h1 : c ≠ 45) (h2 : c.toNat < 48 ∨ 57 < c.toNat) : c ∉ (decZ n).data.toList := by
  intro h
  rcases decZ_byte h with e | e
  · exact h1 e
  · omega
theorem name_byte {s : ByteArray} (h : nameB s = true) {b : UInt8} (hb : b ∈ s.data.toList) : 97 ≤ b.toNat ∧ b.toNat ≤ 122 := by
  unfold nameB at h
  simp only [Bool.and_eq_true, List.all_eq_true] at h
  have := h.2 b hb
  unfold lowB at this
  simpa using this
theorem name_no {s : ByteArray} (h : nameB s = true) {c : UInt8} (h2 : c.toNat < 97) : c ∉ s.data.toList := fun hm => by
  have := name_byte h hm
  omega
theorem wordsN_list (l : List Int) : ∀ k, k ≤ l.length → (wordsN l k).data.toList = (((l.take k).map decZ).map (·.data.toList)).flatMap (32 :: ·)
  | 0, _ => by simp [wordsN]
  | k + 1, h => by
    obtain ⟨x, hx⟩ := getElem?_of_lt (show k < l.length by omega)
    rw [wordsN_succ hx, take_snoc_l hx]
    simp only [ByteArray.data_append, Array.toList_append, List.map_append, List.flatMap_append, wordsN_list l k (by omega)]
    simp [tSp]
theorem wordsN_all (l : List Int) : (wordsN l l.length).data.toList = ((l.map decZ).map (·.data.toList)).flatMap (32 :: ·) := by
  have := wordsN_list l l.length (Nat.le_refl _)
  rwa [List.take_length] at this
theorem numT_list (s : ByteArray) (l : List Int) : (numT s l l.length).data.toList = s.data.toList ++ ((l.map decZ).map (·.data.toList)).flatMap (32 :: ·) := by
  rw [numT_eq]
  simp only [ByteArray.data_append, Array.toList_append, wordsN_all]
theorem numT_split {s : ByteArray} {l : List Int} (hs : 32 ∉ s.data.toList) : splitP (numT s l l.length) 32 = s :: l.map decZ := by
  refine splitP_words (numT_list s l) hs ?_
  intro w hw
  obtain ⟨x, _, rfl⟩ := List.mem_map.1 hw
  exact decZ_no (by decide) (.inl (by decide))
theorem join_list (x sep : List UInt8) : ∀ ws : List (List UInt8), Lib.join (x :: ws) sep = x ++ ws.flatMap (fun w => sep ++ w) := by
  intro ws
  rw [Lib.join_cons]
  rfl
theorem joinT_list (x : ByteArray) (ws : List ByteArray) (sep : ByteArray) : (joinT (x :: ws) sep).data.toList = x.data.toList ++ (ws.map (·.data.toList)).flatMap (fun w => sep.data.toList ++ w) := by
  unfold joinT
  show Lib.join ((x :: ws).map _) _ = _
  rw [List.map_cons, join_list]
theorem innT_list {b : Big} : ∀ k, k ≤ b.inner.length → (innT b k).data.toList = tInner.data.toList ++ (((b.inner.take k).map fun x => (x.name ++ tEqS) ++ decZ x.link).map (·.data.toList)).flatMap (32 :: ·)
  | 0, _ => by simp [innT]
  | k + 1, h => by
    obtain ⟨x, hx⟩ := getElem?_of_lt (show k < b.inner.length by omega)
    rw [innT_succ hx, take_snoc_l hx]
    simp only [ByteArray.data_append, Array.toList_append, List.map_append, List.flatMap_append, innT_list (b := b) k (by omega)]
    simp [tSp]
/-! ### What is read out of a text -/
section
variable {rd : ByteArray → Option Int} {sig : List Ctl} {b : Big}
theorem read_nums (hrd : ∀ n : Int, -999999 ≤ n → n ≤ 999999 → rd (decZ n) = some n) {l : List Int} (hl : ∀ x ∈ l, -999999 ≤ x ∧ x ≤ 999999) : allR rd (l.map decZ) = some l := by
  have := allR_map (rd := rd) decZ (fun x => x) (l := l) (fun x hx => hrd x (hl x hx).1 (hl x hx).2)
  simpa using this
theorem sig_name (hs : sigB sig = true) {k : Nat} {c : Ctl} (hc : sig[k]? = some c) : nameB c.name = true := by
  have := sig_ctl hs hc
  unfold ctlB at this
  simp only [Bool.and_eq_true] at this
  exact this.1
theorem sig_first (hs : sigB sig = true) {k : Nat} {c : Ctl} (hc : sig[k]? = some c) : ctlX sig c.name = k := by
  have h : sig.findIdx? (fun d => decide (d.name = c.name)) = some k := by
    obtain ⟨hk, he⟩ := List.getElem?_eq_some_iff.1 hc
    rw [List.findIdx?_eq_some_iff_getElem]
    refine ⟨hk, by rw [he]; simp, fun j hj => ?_⟩
    have h1 := hs
    unfold sigB at h1
    simp only [Bool.and_eq_true, List.all_eq_true, List.mem_range] at h1
    have h2 := h1.1 k hk
    rw [sigStep_eq hc] at h2
    simp only [Bool.and_eq_true, List.all_eq_true] at h2
    have hjl : j < sig.length := by omega
    have h3 := h2.2 sig[j] (by rw [List.mem_take_iff_getElem]; exact ⟨j, by omega, rfl⟩)
    unfold otherB at h3
    rw [Bool.not_eq_true', beq_eq_false_iff_ne] at h3
    simp only [Bool.not_eq_true, decide_eq_false_iff_not]
    intro e
    exact h3 (by rw [e])
  unfold ctlX
  rw [h]
theorem read_node (hrd : ∀ n : Int, -999999 ≤ n → n ≤ 999999 → rd (decZ n) = some n) (hG : Good sig b) {x : Nd} (hx : x ∈ b.nodes) : nodeR rd sig (nodeT sig x) = some x := by
  have hD := hG.bds
  obtain ⟨k, hk⟩ := List.mem_iff_getElem?.1 hx
  have hp := hD.par x hx
  have hr := hD.roots
  have hn := hD.nodes
  have he := hD.edges
  have ho := hD.outer
  have hc := node_ctl (hG.node k x hk)
  obtain ⟨i, hi⟩ : ∃ i : Nat, x.ctl = i := ⟨x.ctl.toNat, by omega⟩
  obtain ⟨c, hcc⟩ := getElem?_of_lt (l := sig) (i := i) (by omega)
  have hcn : ctlN sig x.ctl = c.name := by unfold ctlN; rw [hi, Int.toNat_natCast, hcc]
  have hnm := sig_name hG.sg hcc
  have hsp : splitP (nodeT sig x) 32 = ((c.name ++ tAtS) ++ decZ x.par) :: x.links.map decZ := by
    unfold nodeT
    rw [hcn]
    refine numT_split ?_
    simp only [ByteArray.data_append, Array.toList_append, List.mem_append, not_or]
    exact ⟨⟨name_no hnm (by decide), by decide⟩, decZ_no (by decide) (.inl (by decide))⟩
  have hcut := cut_of (c := 64) (s := (c.name ++ tAtS) ++ decZ x.par) (x := c.name) (r := decZ x.par) (by simp [ByteArray.data_append, tAtS]) (name_no hnm (by decide))
  unfold nodeR
  rw [hsp]
  show (match rd (cutZ ((c.name ++ tAtS) ++ decZ x.par) 64), allR rd (x.links.map decZ) with | some p, some l => if 0 ≤ ctlX sig (cutA ((c.name ++ tAtS) ++ decZ x.par) 64) then some (⟨ctlX sig (cutA ((c.name ++ tAtS) ++ decZ x.par) 64), p, l⟩ : Nd) else none | _, _ => none) = _
  rw [hcut.1, hcut.2, hrd x.par (by omega) (by omega), read_nums hrd (fun y hy => by have := hD.lnk x hx y hy; omega), sig_first hG.sg hcc]
  show (if 0 ≤ ((i : Nat) : Int) then some (⟨((i : Nat) : Int), x.par, x.links⟩ : Nd) else none) = _
  rw [if_pos (by omega), ← hi]
theorem allT_len (sig : List Ctl) (b : Big) : (allT sig b).length = b.nodes.length + 5 := by
  unfold allT partsT; simp
theorem allT_eqR (sig : List Ctl) (b : Big) : allT sig b = decZ b.roots :: (b.nodes.map (nodeT sig) ++ [numT tSites b.sites b.sites.length, decZ b.edges, joinT ([tOuter] ++ b.outer) tSp, innT b b.inner.length]) := by
  unfold allT partsT; simp
theorem read_all (hrd : ∀ n : Int, -999999 ≤ n → n ≤ 999999 → rd (decZ n) = some n) (hG : Good sig b) : readR rd sig (allT sig b) = some b := by
  have hD := hG.bds
  have hr := hD.roots
  have he := hD.edges
  have ho := hD.outer
  have hn := hD.nodes
  have hlen := allT_len sig b
  have g0 : (allT sig b).getD 0 ⟨#[]⟩ = decZ b.roots := by rw [allT_eqR]; rfl
  have gt : ∀ j, (allT sig b).getD (b.nodes.length + 1 + j) ⟨#[]⟩ = [numT tSites b.sites b.sites.length, decZ b.edges, joinT ([tOuter] ++ b.outer) tSp, innT b b.inner.length].getD j ⟨#[]⟩ := fun j => by
    rw [allT_eqR, List.getD_eq_getElem?_getD, List.getD_eq_getElem?_getD, show b.nodes.length + 1 + j = (b.nodes.length + j) + 1 by omega, List.getElem?_cons_succ, List.getElem?_append_right (by simp)]
    simp
  have gn : ((allT sig b).drop 1).take ((allT sig b).length - 5) = b.nodes.map (nodeT sig) := by
    rw [hlen, allT_eqR, List.drop_succ_cons, List.drop_zero, Nat.add_sub_cancel]
    exact List.take_left' (by simp)
  have e1 : allR rd (wordsR (numT tSites b.sites b.sites.length)) = some b.sites := by
    unfold wordsR
    rw [numT_split (by decide)]
    exact read_nums hrd (fun y hy => by have := hD.site y hy; omega)
  have e2 : wordsR (joinT ([tOuter] ++ b.outer) tSp) = b.outer := by
    unfold wordsR
    show List.drop 1 (splitP (joinT (tOuter :: b.outer) tSp) 32) = _
    rw [splitP_words (x := tOuter) (ws := b.outer) (joinT_list tOuter b.outer tSp) (by decide) (fun w hw => name_no (hG.name hw) (by decide))]
    rfl
  have hin : ∀ x ∈ b.inner, nameB x.name = true := fun x hx => hG.nameI hx
  have e3 : allR (wireR rd) (wordsR (innT b b.inner.length)) = some b.inner := by
    unfold wordsR
    have hl := innT_list (b := b) b.inner.length (Nat.le_refl _)
    rw [List.take_length] at hl
    rw [splitP_words hl (by decide) ?_]
    · show allR (wireR rd) (b.inner.map _) = _
      have := allR_map (rd := wireR rd) (fun x : Wr => (x.name ++ tEqS) ++ decZ x.link) (fun x => x) (l := b.inner) (fun x hx => by
        have hcut := cut_of (c := 61) (s := (x.name ++ tEqS) ++ decZ x.link) (x := x.name) (r := decZ x.link) (by simp [ByteArray.data_append, tEqS]) (name_no (hin x hx) (by decide))
        have hw := hD.wire x hx
        unfold wireR
        rw [hcut.1, hcut.2, hrd x.link (by omega) (by omega)])
      simpa using this
    · intro w hw
      obtain ⟨x, hx, rfl⟩ := List.mem_map.1 hw
      simp only [ByteArray.data_append, Array.toList_append, List.mem_append, not_or]
      exact ⟨⟨name_no (hin x hx) (by decide), by decide⟩, decZ_no (by decide) (.inl (by decide))⟩
  have e4 : allR (nodeR rd sig) (b.nodes.map (nodeT sig)) = some b.nodes := by
    have := allR_map (rd := nodeR rd sig) (nodeT sig) (fun x => x) (l := b.nodes) (fun x hx => read_node hrd hG hx)
    simpa using this
  have h1 := gt 0; have h2 := gt 1; have h3 := gt 2; have h4 := gt 3
  unfold readR
  rw [gn, g0, hlen, show b.nodes.length + 5 - 4 = b.nodes.length + 1 + 0 by omega, show b.nodes.length + 5 - 3 = b.nodes.length + 1 + 1 by omega, show b.nodes.length + 5 - 2 = b.nodes.length + 1 + 2 by omega, show b.nodes.length + 5 - 1 = b.nodes.length + 1 + 3 by omega, h1, h2, h3, h4]
  show (match rd (decZ b.roots), allR (nodeR rd sig) (b.nodes.map (nodeT sig)), allR rd (wordsR (numT tSites b.sites b.sites.length)), rd (decZ b.edges), allR (wireR rd) (wordsR (innT b b.inner.length)) with
    | some r, some ns, some ss, some e, some ws => some (⟨r, ns, ss, e, wordsR (joinT ([tOuter] ++ b.outer) tSp), ws⟩ : Big)
    | _, _, _, _, _ => none) = _
  rw [e1, e2, e3, e4, hrd b.roots (by omega) (by omega), hrd b.edges (by omega) (by omega)]
/-! ### The parts of a text -/
theorem part_no (hG : Good sig b) : ∀ w ∈ allT sig b, (59 : UInt8) ∉ w.data.toList := by
  have hin : ∀ x ∈ b.inner, nameB x.name = true := fun x hx => hG.nameI hx
  have hd : ∀ n : Int, (59 : UInt8) ∉ (decZ n).data.toList := fun n => decZ_no (by decide) (.inr (by decide))
  have hw : ∀ l : List Int, (59 : UInt8) ∉ ((l.map decZ).map (·.data.toList)).flatMap (32 :: ·) := fun l h => by
    obtain ⟨y, hy, hm⟩ := List.mem_flatMap.1 h
    obtain ⟨z, hz, rfl⟩ := List.mem_map.1 hy
    obtain ⟨n, _, rfl⟩ := List.mem_map.1 hz
    rcases List.mem_cons.1 hm with h | h
    · exact absurd h (by decide)
    · exact hd n h
  intro w hw'
  rw [allT_eqR] at hw'
  simp only [List.mem_cons, List.mem_append, List.not_mem_nil, or_false] at hw'
  rcases hw' with rfl | h | rfl | rfl | rfl | rfl
  · exact hd _
  · obtain ⟨x, hx, rfl⟩ := List.mem_map.1 h
    unfold nodeT
    rw [numT_list]
    obtain ⟨k, hk⟩ := List.mem_iff_getElem?.1 hx
    have hc := node_ctl (hG.node k x hk)
    obtain ⟨c, hcc⟩ := getElem?_of_lt (l := sig) (i := x.ctl.toNat) (by omega)
    have hcn : ctlN sig x.ctl = c.name := by unfold ctlN; rw [hcc]
    rw [hcn]
    simp only [ByteArray.data_append, Array.toList_append, List.mem_append, not_or]
    exact ⟨⟨⟨name_no (sig_name hG.sg hcc) (by decide), by decide⟩, hd _⟩, hw _⟩
  · rw [numT_list, List.mem_append, not_or]
    exact ⟨by decide, hw _⟩
  · exact hd _
  · show (59 : UInt8) ∉ (joinT (tOuter :: b.outer) tSp).data.toList
    rw [joinT_list, List.mem_append, not_or]
    refine ⟨by decide, fun h => ?_⟩
    obtain ⟨y, hy, hm⟩ := List.mem_flatMap.1 h
    obtain ⟨z, hz, rfl⟩ := List.mem_map.1 hy
    rcases List.mem_append.1 hm with h | h
    · exact absurd h (by decide)
    · exact name_no (hG.name hz) (by decide) h
  · have hl := innT_list (b := b) b.inner.length (Nat.le_refl _)
    rw [hl, List.mem_append, not_or]
    refine ⟨by decide, fun h => ?_⟩
    obtain ⟨y, hy, hm⟩ := List.mem_flatMap.1 h
    obtain ⟨z, hz, rfl⟩ := List.mem_map.1 hy
    obtain ⟨x, hx, rfl⟩ := List.mem_map.1 hz
    rw [List.take_length] at hx
    rcases List.mem_cons.1 hm with h | h
    · exact absurd h (by decide)
    · revert h
      simp only [ByteArray.data_append, Array.toList_append, List.mem_append]
      rintro ((h | h) | h)
      · exact name_no (hin x hx) (by decide) h
      · exact absurd h (by decide)
      · exact hd _ h
theorem text_list (sig : List Ctl) (b : Big) : (textL sig b).data.toList = (decZ b.roots).data.toList ++ (((allT sig b).drop 1).map (·.data.toList)).flatMap (fun w => 59 :: 32 :: w) := by
  rw [← text_parts, allT_eqR, joinT_list]
  rfl
theorem parts_impl (hG : Good sig b) : splitB2 (textL sig b) tSc = allT sig b := by
  have h := splitB2_words (c := 59) (d := 32) (text_list sig b) (part_no hG _ (by rw [allT_eqR]; simp)) (fun w hw => part_no hG w (List.mem_of_mem_drop hw))
  show splitB2 (textL sig b) ⟨#[59, 32]⟩ = _
  rw [h, allT_eqR]; rfl
theorem parts_spec (hG : Good sig b) : partsS (textL sig b) = allT sig b := by
  have h := partsS_words (text_list sig b) (part_no hG _ (by rw [allT_eqR]; simp)) (fun w hw => part_no hG w (List.mem_of_mem_drop hw))
  rw [h, allT_eqR]; rfl
theorem parsR_iff (hrd : ∀ n : Int, -999999 ≤ n → n ≤ 999999 → rd (decZ n) = some n) {lim : Nat} (hlim : 13 ≤ lim) (cut : ByteArray → List ByteArray) (hcut : ∀ c : Big, Good sig c → cut (textL sig c) = allT sig c) (s : ByteArray) (b : Big) :
    parsR rd lim sig (cut s) s = some b ↔ goodB sig b = true ∧ textL sig b = s := by
  unfold parsR
  constructor
  · intro h
    split at h
    · split at h
      · split at h
        · rename_i hc
          simp only [Option.some.injEq] at h
          subst h
          exact hc
        · cases h
      · cases h
    · cases h
  · rintro ⟨h1, h2⟩
    have hG := good_of h1
    subst h2
    have hn := hG.bds.nodes
    rw [hcut b hG, allT_len, if_pos ⟨hG.sg, by omega, by omega⟩, read_all hrd hG]
    show (if goodB sig b = true ∧ textL sig b = textL sig b then some b else none) = _
    rw [if_pos ⟨h1, rfl⟩]
end
/-- The program's reading of a number. -/
def rdA (s : ByteArray) : Option Int := match Lib.atoiAll s.data.toList with
  | .ok n => if decZ n = s then some n else none
  | _ => none
theorem rdA_dec (n : Int) (h0 : -999999 ≤ n) (h1 : n ≤ 999999) : rdA (decZ n) = some n := by
  unfold rdA
  rw [atoiAll_dec h0 h1 rfl]
  exact if_pos rfl
/-- The answer of both. -/
noncomputable def parA (sig : List Ctl) (s : ByteArray) : Option Big := parsR rdA (s.size + 100) sig (splitB2 s tSc) s
noncomputable def parS (sig : List Ctl) (s : ByteArray) : Option Big := parsR rdN 13 sig (partsS s) s
theorem par_same (sig : List Ctl) (s : ByteArray) : parS sig s = parA sig s := by
  unfold parS parA
  refine Option.ext fun b => ?_
  rw [parsR_iff (sig := sig) (fun n h0 h1 => rdN_dec h0 h1 rfl) (Nat.le_refl 13) partsS (fun c hc => parts_spec hc) s b,
    parsR_iff (sig := sig) rdA_dec (by omega) (fun s => splitB2 s tSc) (fun c hc => parts_impl hc) s b]
end Go.Proofs.YthgelhglfbgagaaGreatDoor
