/- When a signature and a bigraph are valid. Plain words; no program in sight. -/
import Derived.Test.YtanndcclkmcfbaaDoorNamesL
namespace Go.Proofs.YtanndcclkmcfbaaDoor
open Go Go.RowKit

theorem all_range_not {f : Nat → Bool} {n k : Nat} (h : k < n) (hs : f k = false) : (List.range n).all f = false := by
  rw [List.all_eq_false]
  exact ⟨k, List.mem_range.2 h, by simp [hs]⟩
theorem all_range_snoc {f : Nat → Bool} {k : Nat} (h : (List.range k).all f = true) (hs : f k = true) : (List.range (k + 1)).all f = true := by
  rw [List.range_succ, List.all_append, h]; simp [hs]
theorem all_take_snoc {α : Type} {f : α → Bool} {l : List α} {k : Nat} {x : α} (h : (l.take k).all f = true) (hx : l[k]? = some x) (hs : f x = true) : (l.take (k + 1)).all f = true := by
  rw [take_snoc_l hx, List.all_append, h]; simp [hs]
theorem all_not {α : Type} {f : α → Bool} {l : List α} {k : Nat} {x : α} (hx : l[k]? = some x) (hs : f x = false) : l.all f = false := by
  rw [List.all_eq_false]
  exact ⟨x, List.mem_of_getElem? hx, by simp [hs]⟩
theorem all_full {α : Type} {f : α → Bool} {l : List α} {k : Nat} {r : Bool} (hk : l.length ≤ k) (h : (l.take k).all f = r) : l.all f = r := by
  rwa [List.take_of_length_le hk] at h

/-! ### Signatures -/
def ctlB (c : Ctl) : Bool := nameB c.name && (decide (0 ≤ c.ports ∧ c.ports ≤ 3) && decide (0 ≤ c.kind ∧ c.kind ≤ 2))
def otherB (c d : Ctl) : Bool := !(d.name.toList == c.name.toList)
def sigStep (l : List Ctl) (k : Nat) : Bool :=
  match l[k]? with
  | some c => ctlB c && (l.take k).all (otherB c)
  | none => true
def sigB (l : List Ctl) : Bool := (List.range l.length).all (sigStep l) && decide (1 ≤ l.length ∧ l.length ≤ 6)
theorem sigStep_eq {l : List Ctl} {k : Nat} {c : Ctl} (h : l[k]? = some c) : sigStep l k = (ctlB c && (l.take k).all (otherB c)) := by unfold sigStep; rw [h]
theorem sig_not {l : List Ctl} {k : Nat} (h : k < l.length) (hs : sigStep l k = false) : sigB l = false := by
  unfold sigB; rw [all_range_not h hs]; rfl
theorem sig_len_not {l : List Ctl} (h : ¬ (1 ≤ l.length ∧ l.length ≤ 6)) : sigB l = false := by
  unfold sigB; rw [decide_eq_false h, Bool.and_false]
theorem sig_len {l : List Ctl} (h : sigB l = true) : 1 ≤ l.length ∧ l.length ≤ 6 := by
  unfold sigB at h; simp only [Bool.and_eq_true, decide_eq_true_eq] at h; exact h.2
theorem sig_ctl {l : List Ctl} (h : sigB l = true) {k : Nat} {c : Ctl} (hc : l[k]? = some c) : ctlB c = true := by
  unfold sigB at h
  simp only [Bool.and_eq_true, List.all_eq_true, List.mem_range] at h
  have := h.1 k (List.getElem?_eq_some_iff.1 hc).1
  rw [sigStep_eq hc, Bool.and_eq_true] at this
  exact this.1
theorem ctl_ports {c : Ctl} (h : ctlB c = true) : 0 ≤ c.ports ∧ c.ports ≤ 3 := by
  unfold ctlB at h; simp only [Bool.and_eq_true, decide_eq_true_eq] at h; exact h.2.1
theorem ctl_name {c : Ctl} (h : ctlB c = true) : nameB c.name = true := by
  unfold ctlB at h; simp only [Bool.and_eq_true, decide_eq_true_eq] at h; exact h.1

/-! ### Bigraphs -/
def linkB (b : Big) (l : Int) : Bool := decide (0 ≤ l ∧ l ≤ b.edges + b.outer.length - 1)
def solidB (sig : List Ctl) (b : Big) (p : Int) : Bool :=
  match b.nodes[p.toNat]? with
  | some n => (match sig[n.ctl.toNat]? with | some c => !decide (c.kind = 2) | none => false)
  | none => false
def underB (sig : List Ctl) (b : Big) (below : Nat) (p : Int) : Bool :=
  if p < 0 then decide (-b.roots ≤ p) else decide (p < below) && solidB sig b p
def portsB (sig : List Ctl) (n : Nd) : Bool := match sig[n.ctl.toNat]? with | some c => decide ((n.links.length : Int) = c.ports) | none => false
def nodeB (sig : List Ctl) (b : Big) (i : Nat) (n : Nd) : Bool := decide (0 ≤ n.ctl ∧ n.ctl ≤ (sig.length : Int) - 1) && (underB sig b i n.par && (portsB sig n && n.links.all (linkB b)))
def nodeStep (sig : List Ctl) (b : Big) (i : Nat) : Bool := match b.nodes[i]? with | some n => nodeB sig b i n | none => true
def headB (sig : List Ctl) (b : Big) : Bool := sigB sig && (decide (0 ≤ b.roots ∧ b.roots ≤ 4) && (decide (b.nodes.length ≤ 8) && (decide (b.sites.length ≤ 4) && (decide (0 ≤ b.edges ∧ b.edges ≤ 8) && (namesB b.outer && namesB (b.inner.map Wr.name))))))
def goodB (sig : List Ctl) (b : Big) : Bool :=
  headB sig b && ((List.range b.nodes.length).all (nodeStep sig b) && (b.sites.all (underB sig b b.nodes.length) && b.inner.all (fun x => linkB b x.link)))
theorem nodeStep_eq {sig : List Ctl} {b : Big} {i : Nat} {n : Nd} (h : b.nodes[i]? = some n) : nodeStep sig b i = nodeB sig b i n := by unfold nodeStep; rw [h]

structure Good (sig : List Ctl) (b : Big) : Prop where
  sg : sigB sig = true
  roots : 0 ≤ b.roots ∧ b.roots ≤ 4
  nodes : b.nodes.length ≤ 8
  sites : b.sites.length ≤ 4
  edges : 0 ≤ b.edges ∧ b.edges ≤ 8
  outer : namesB b.outer = true
  inner : namesB (b.inner.map Wr.name) = true
  node : ∀ (i : Nat) n, b.nodes[i]? = some n → nodeB sig b i n = true
  site : ∀ p ∈ b.sites, underB sig b b.nodes.length p = true
  wire : ∀ x ∈ b.inner, linkB b x.link = true
theorem head_of {sig : List Ctl} {b : Big} (h : headB sig b = true) : sigB sig = true ∧ (0 ≤ b.roots ∧ b.roots ≤ 4) ∧ b.nodes.length ≤ 8 ∧ b.sites.length ≤ 4 ∧ (0 ≤ b.edges ∧ b.edges ≤ 8) ∧ namesB b.outer = true ∧ namesB (b.inner.map Wr.name) = true := by
  unfold headB at h
  simp only [Bool.and_eq_true, decide_eq_true_eq] at h
  exact h
theorem good_of {sig : List Ctl} {b : Big} (h : goodB sig b = true) : Good sig b := by
  unfold goodB at h
  simp only [Bool.and_eq_true, List.all_eq_true, List.mem_range] at h
  obtain ⟨h1, h2, h3, h4⟩ := h
  obtain ⟨a1, a2, a3, a4, a5, a6, a7⟩ := head_of h1
  exact ⟨a1, a2, a3, a4, a5, a6, a7, fun i n hn => by have := h2 i (List.getElem?_eq_some_iff.1 hn).1; rwa [nodeStep_eq hn] at this, h3, h4⟩
theorem node_ctl {sig : List Ctl} {b : Big} {i : Nat} {n : Nd} (h : nodeB sig b i n = true) : 0 ≤ n.ctl ∧ n.ctl ≤ (sig.length : Int) - 1 := by
  unfold nodeB at h; simp only [Bool.and_eq_true, decide_eq_true_eq] at h; exact h.1
theorem node_under {sig : List Ctl} {b : Big} {i : Nat} {n : Nd} (h : nodeB sig b i n = true) : underB sig b i n.par = true := by
  unfold nodeB at h; simp only [Bool.and_eq_true, decide_eq_true_eq] at h; exact h.2.1
theorem node_ports {sig : List Ctl} {b : Big} {i : Nat} {n : Nd} (h : nodeB sig b i n = true) : portsB sig n = true := by
  unfold nodeB at h; simp only [Bool.and_eq_true, decide_eq_true_eq] at h; exact h.2.2.1
theorem node_links {sig : List Ctl} {b : Big} {i : Nat} {n : Nd} (h : nodeB sig b i n = true) : ∀ l ∈ n.links, linkB b l = true := by
  unfold nodeB at h; simp only [Bool.and_eq_true, List.all_eq_true] at h; exact h.2.2.2
theorem link_of {b : Big} {l : Int} (h : linkB b l = true) : 0 ≤ l ∧ l ≤ b.edges + b.outer.length - 1 := by unfold linkB at h; simpa using h
theorem names_len {l : List ByteArray} (h : namesB l = true) : l.length ≤ 16 := by unfold namesB at h; simp only [Bool.and_eq_true, decide_eq_true_eq] at h; exact h.2
theorem Good.ctl {sig : List Ctl} {b : Big} (h : Good sig b) {i : Nat} {n : Nd} (hn : b.nodes[i]? = some n) : ∃ c, 0 ≤ n.ctl ∧ sig[n.ctl.toNat]? = some c := by
  have := node_ctl (h.node i n hn)
  obtain ⟨c, hc⟩ := getElem?_of_lt (l := sig) (i := n.ctl.toNat) (by omega)
  exact ⟨c, this.1, hc⟩

end Go.Proofs.YtanndcclkmcfbaaDoor
