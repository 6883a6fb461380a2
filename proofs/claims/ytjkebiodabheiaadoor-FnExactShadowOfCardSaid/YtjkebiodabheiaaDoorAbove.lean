/- Ancestors, heights. -/
import Derived.Test.YtjkebiodabheiaaDoorIsA
import Derived.Test.YtjkebiodabheiaaDoorBig0
namespace Go.Proofs.YtjkebiodabheiaaDoor
open Go Go.RowKit Go.BigFrame

/-- Each node's parent has a smaller number. -/
def Down (b : Big) : Prop := ∀ (i : Nat) n, b.nodes[i]? = some n → n.par < i
theorem Good.down {sig : List Ctl} {b : Big} (h : Good sig b) : Down b := by
  intro i n hn
  have := node_under (h.node i n hn)
  unfold underB at this
  split at this
  · omega
  · simp only [Bool.and_eq_true, decide_eq_true_eq] at this; exact this.1
inductive AboveR (b : Big) : Int → List Int → Prop
  | nil (p : Int) (h : p < 0) : AboveR b p []
  | cons (k : Nat) (n : Nd) (l : List Int) (h : b.nodes[k]? = some n) (t : AboveR b n.par l) : AboveR b k (n.par :: l)
theorem AboveR.end {b : Big} {p : Int} {l : List Int} (h : AboveR b p l) (hp : p < 0) : l = [] := by
  cases h with
  | nil => rfl
  | cons k n l h t => omega
theorem AboveR.step {b : Big} {k : Nat} {l : List Int} (h : AboveR b k l) {n : Nd} (hn : b.nodes[k]? = some n) : ∃ r, l = n.par :: r ∧ AboveR b n.par r := by
  generalize hp : (k : Int) = p at h
  cases h with
  | nil _ h => omega
  | cons j m l h t =>
    obtain rfl : k = j := by omega
    rw [hn] at h
    cases h
    exact ⟨_, rfl, t⟩
theorem AboveR.len {b : Big} (hd : Down b) {p : Int} {l : List Int} (h : AboveR b p l) : p < 8 → l.length ≤ 9 := by
  have key : ∀ {p : Int} {l : List Int}, AboveR b p l → (l.length : Int) ≤ (if p < 0 then 0 else p + 1) := by
    intro p l h
    induction h with
    | nil p h => rw [if_pos h]; simp
    | cons k n l h t ih =>
      have := hd k n h
      rw [if_neg (by omega)]
      simp only [List.length_cons, Int.natCast_add]
      split at ih <;> omega
  intro hp
  have := key h
  split at this <;> omega
theorem AboveR.i64 {b : Big} (hi : ∀ (i : Nat) n, b.nodes[i]? = some n → I64 n.par) {p : Int} {l : List Int} (h : AboveR b p l) : ∀ x ∈ l, I64 x := by
  induction h with
  | nil p h => intro x hx; cases hx
  | cons k n l h t ih =>
    intro x hx
    rcases List.mem_cons.1 hx with rfl | hx
    · exact hi k n h
    · exact ih x hx
def aboveF (b : Big) : Nat → Int → List Int
  | 0, _ => []
  | f + 1, p => if p < 0 then [] else match b.nodes[p.toNat]? with | some n => n.par :: aboveF b f n.par | none => []
theorem above_rel {b : Big} (hd : Down b) : ∀ (f : Nat) (p : Int), p < f → p < b.nodes.length → AboveR b p (aboveF b f p)
  | 0, p, hp, _ => .nil p (by omega)
  | f + 1, p, hp, hl => by
    unfold aboveF
    split
    · exact .nil p (by assumption)
    · obtain ⟨k, rfl⟩ : ∃ k : Nat, p = k := ⟨p.toNat, by omega⟩
      obtain ⟨n, hn⟩ := getElem?_of_lt (show k < b.nodes.length by omega)
      rw [Int.toNat_natCast, hn]
      have := hd k n hn
      exact .cons k n _ hn (above_rel hd f n.par (by omega) (by omega))
def aboveL (b : Big) (i : Nat) : List Int := aboveF b 9 i
theorem aboveL_rel {b : Big} (hd : Down b) {i : Nat} (h : i < b.nodes.length) (h8 : b.nodes.length ≤ 8) : AboveR b i (aboveL b i) := above_rel hd 9 i (by omega) (by omega)
theorem aboveL_len {b : Big} (hd : Down b) {i : Nat} (h : i < b.nodes.length) (h8 : b.nodes.length ≤ 8) : (aboveL b i).length ≤ 9 := (aboveL_rel hd h h8).len hd (by omega)


set_option maxRecDepth 100000 in
set_option maxHeartbeats 4000000 in
theorem ancestorsOf_ct (v : Value) (b : Big) (p : Nat) (l : List Int) (w : World) (h : BigAt w v b) (hd : Down b) (hp : p < b.nodes.length) (hl : AboveR b p l) (hn : b.nodes.length ≤ 8) :
    Calls Tryd.prog 76 #[v, .int .i64 p] w fun e w' => ∃ u, e = .returned u ∧ IntsOwn w.heap.size w' u l ∧ Below w.heap.size w w' := by
  have hlen := AboveR.len hd hl (by omega)
  obtain ⟨a, c, a2, c2, a3, c3, a4, c4, rfl, hnds, _, _, _, _, _⟩ := h.parts
  obtain ⟨_, _, e, _, nl, n3⟩ := hnds.open
  obtain ⟨rfl, rfl⟩ := (by simpa using e : a = _ ∧ c = _)
  have N3 : Hid _ := n3
  have HL : Hid (AboveR b p l) := hl
  have HD : Hid (Down b) := hd
  have hI := AboveR.i64 (fun i n hn => by obtain ⟨_, h2, _⟩ := n3 i n hn; exact h2) hl
  clear e hnds h n3 hl hd
  go_enter Tryd.func76, Tryd.ntmps76
  go_wp2_with fail
  obtain ⟨W0, hW0⟩ : ∃ W, W = (w.alloc (.cells #[.int .i64 b.roots, .slice a b.nodes.length c, .slice a2 b.sites.length c2, .int .i64 b.edges, .slice a3 b.outer.length c3, .slice a4 b.inner.length c4] 43)).alloc (.cells #[] 3) := ⟨_, rfl⟩
  rw [← hW0]
  have BA : Box W0 w.heap.size #[.int .i64 b.roots, .slice a b.nodes.length c, .slice a2 b.sites.length c2, .int .i64 b.edges, .slice a3 b.outer.length c3, .slice a4 b.inner.length c4] 43 := by rw [hW0]; exact (Box.new _ _ _).alloc _
  have acc : Acc W0 (w.heap.size + 1) 3 1 (.slice (some ⟨w.heap.size + 1, 0, none⟩) 0 0) (intRows []) := by
    rw [hW0]; simpa [intRows] using Acc.lit0 (w.alloc (.cells #[.int .i64 b.roots, .slice a b.nodes.length c, .slice a2 b.sites.length c2, .int .i64 b.edges, .slice a3 b.outer.length c3, .slice a4 b.inner.length c4] 43)) (w.heap.size + 1) 3 1 (by simp)
  have hb : Below w.heap.size w W0 := by rw [hW0]; exact bthen (balloc _ _) (balloc _ _)
  have hs : w.heap.size + 1 ≤ W0.heap.size := by rw [hW0]; simp
  clear hW0
  go_loopw [1, 5] (fun q o W => ∃ (x : Int) (D R : List Int), q = .int .i64 x ∧ x < 8 ∧ I64 x ∧ x < b.nodes.length ∧ D.length + x + 1 ≤ 8 + 8 * (if x < 0 then 1 else 0) ∧ D.length ≤ 9 ∧ Hid (l = D ++ R ∧ AboveR b x R) ∧ Below w.heap.size w W ∧ w.heap.size + 1 ≤ W.heap.size ∧ Box W w.heap.size #[.int .i64 b.roots, .slice a b.nodes.length c, .slice a2 b.sites.length c2, .int .i64 b.edges, .slice a3 b.outer.length c3, .slice a4 b.inner.length c4] 43 ∧ Acc W (w.heap.size + 1) 3 1 o (intRows D)) (fun q _ _ => (intOf q + 1).toNat)
  case atStart => exact ⟨p, [], l, rfl, by omega, by unfold I64; omega, by omega, by simp; omega, by simp, (by show _; exact ⟨rfl, HL.out⟩), hb, hs, BA, acc⟩
  case round =>
    clear hb hs BA acc W0
    obtain ⟨x, D, R, rfl, hx8, hxI, hxl, hDx, hD9, HR, hb, hs, BA, acc⟩ := hrel
    unfold I64 at hxI
    obtain ⟨av, cv, rfl⟩ := acc.shape
    have HL : Hid ((intRows D).length = D.length) := by show _ = _; simp [intRows]
    rw [HL.out] at acc ⊢
    by_cases hlt : 0 ≤ x
    · obtain ⟨k, rfl⟩ : ∃ k : Nat, x = k := ⟨x.toNat, by omega⟩
      have hkn : k < b.nodes.length := by omega
      obtain ⟨n, hn⟩ := getElem?_of_lt hkn
      obtain ⟨R', hR1, hR2⟩ := AboveR.step HR.out.2 hn
      have hdn := HD.out k n hn
      obtain ⟨_, hpI, bk, o', ul, rfl, _, _, hc1, _⟩ := N3.out k n hn
      have hpI' := hpI
      unfold I64 at hpI'
      have g1 := (hb.cell (World.block_lt_of_cell? w _ hc1)).trans hc1
      have HT : Hid (intRows (D ++ [n.par]) = intRows D ++ [[.int .i64 n.par]]) := by show _ = _; simp [intRows]
      have HR2 : Hid (l = (D ++ [n.par]) ++ R' ∧ AboveR b n.par R') := by
        refine ⟨?_, hR2⟩
        have := HR.out.1
        rw [this, hR1]; simp
      have q := BA.cell
      have hDl : D.length + 1 + n.par + 1 ≤ 8 + 8 * (if n.par < 0 then 1 else 0) ∧ D.length + 1 ≤ 9 := by
        rw [if_neg (by omega)] at hDx
        split <;> omega
      clear hc1 hn hR1 hR2 HR
      go_wp2_with (at_builtin; refine app1g _ _ rfl (.tmp 15) (.tmp 17) 30 rfl (w.heap.size + 1) 3 1 8 (.int .i64 0) Tryd.underlying30 inf_int rfl (by decide) (by decide) _ (intRows D) (by rfl) acc [.int .i64 n.par] _ rfl (by simp [Value.oneCell']) (by rfl) (by first | rfl | simp) (by rw [HL.out]; omega) hs ?_)
      intro g c2 w2 acc2 hg
      rw [HL.out, ← HT.out] at acc2
      rw [HL.out]
      have hb2 := grown_below hb acc hg (by omega) (by omega)
      have hs2 : w.heap.size + 1 ≤ w2.heap.size := Nat.le_trans hs hg.size
      have BA2 := BA.keep (grown_block acc hg (by omega) BA.lt)
      have hac : Value.slice (some ⟨g, 0, none⟩) (D.length + 1) c2 = Value.slice (some ⟨g, 0, none⟩) (D.length + 1) c2 := rfl
      clear acc hg BA q hb hs hac
      go_wp2_with fail
      go_roundw
      case rel => exact ⟨n.par, D ++ [n.par], R', rfl, by omega, hpI, by omega, by simp only [List.length_append, List.length_singleton, Int.natCast_add]; exact (by have := hDl.1; omega), by simp only [List.length_append, List.length_singleton]; exact hDl.2, HR2, hb2, hs2, BA2, acc2⟩
      case measure => simp [intOf]; omega
    · have hl0 : Hid (l = D) := by
        have := HR.out
        rw [AboveR.end this.2 (by omega), List.append_nil] at this
        exact this.1
      have q := BA.cell
      have hln : D.length ≤ 9 := hD9
      clear HR
      go_wp2_with fail
      go_ret
      exact ⟨_, rfl, ⟨by rw [hl0.out]; exact acc.own.mono (by omega), by rw [hl0.out]; omega, hI⟩, hb⟩
end Go.Proofs.YtjkebiodabheiaaDoor
