/- The points of a link. -/
import Derived.Test.YthbdmcobpcoajaaGreatDoorIsA
import Derived.Test.YthbdmcobpcoajaaGreatDoorBig0
import Derived.Test.YthbdmcobpcoajaaGreatDoorG1
import Derived.Deep.RegionHeld3
import Derived.Test.YthbdmcobpcoajaaGreatDoorG4
namespace Go.Proofs.YthbdmcobpcoajaaGreatDoor
open Go Go.RowKit Go.BigFrame

theorem inf_a2 : (Tryz.prog.info? 140).map (fun i => (i.zero, i.size, i.bytes)) = some (some (.agg #[.int .i64 0, .int .i64 0]), 2, 16) := by kernel_rfl
def hitsN (link : Int) (i : Nat) (ls : List Int) (k : Nat) : List (Nat × Nat) := (List.range k).flatMap fun j => match ls[j]? with | some x => if x = link then [(i, j)] else [] | none => []
def portsN (b : Big) (link : Int) (k : Nat) : List (Nat × Nat) := (List.range k).flatMap fun i => match b.nodes[i]? with | some n => hitsN link i n.links n.links.length | none => []
def endsN (b : Big) (link : Int) (k : Nat) : List ByteArray := (List.range k).flatMap fun j => match b.inner[j]? with | some x => if x.link = link then [x.name] else [] | none => []
def portsL (b : Big) (link : Int) : List (Nat × Nat) := portsN b link b.nodes.length
def endsL (b : Big) (link : Int) : List ByteArray := endsN b link b.inner.length
theorem hitsN_succ {link : Int} {i : Nat} {ls : List Int} {k : Nat} {x : Int} (h : ls[k]? = some x) : hitsN link i ls (k + 1) = hitsN link i ls k ++ (if x = link then [(i, k)] else []) := by
  unfold hitsN; rw [List.range_succ, List.flatMap_append]; simp [h]
theorem portsN_succ {b : Big} {link : Int} {k : Nat} {n : Nd} (h : b.nodes[k]? = some n) : portsN b link (k + 1) = portsN b link k ++ hitsN link k n.links n.links.length := by
  unfold portsN; rw [List.range_succ, List.flatMap_append]; simp [h]
theorem endsN_succ {b : Big} {link : Int} {k : Nat} {x : Wr} (h : b.inner[k]? = some x) : endsN b link (k + 1) = endsN b link k ++ (if x.link = link then [x.name] else []) := by
  unfold endsN; rw [List.range_succ, List.flatMap_append]; simp [h]
theorem hitsN_len (link : Int) (i : Nat) (ls : List Int) : ∀ k, (hitsN link i ls k).length ≤ k
  | 0 => by simp [hitsN]
  | k + 1 => by
    have ih := hitsN_len link i ls k
    cases h : ls[k]? with
    | some x => rw [hitsN_succ h, List.length_append]; split <;> simp <;> omega
    | none => unfold hitsN at ih ⊢; rw [List.range_succ, List.flatMap_append]; simp [h] at ih ⊢; omega
theorem endsN_len (b : Big) (link : Int) : ∀ k, (endsN b link k).length ≤ k
  | 0 => by simp [endsN]
  | k + 1 => by
    have ih := endsN_len b link k
    cases h : b.inner[k]? with
    | some x => rw [endsN_succ h, List.length_append]; split <;> simp <;> omega
    | none => unfold endsN at ih ⊢; rw [List.range_succ, List.flatMap_append]; simp [h] at ih ⊢; omega
theorem portsN_len {b : Big} (hl : ∀ (i : Nat) n, b.nodes[i]? = some n → n.links.length ≤ 3) (link : Int) : ∀ k, (portsN b link k).length ≤ 3 * k
  | 0 => by simp [portsN]
  | k + 1 => by
    have ih := portsN_len hl link k
    cases h : b.nodes[k]? with
    | some n => rw [portsN_succ h, List.length_append]; have := hitsN_len link k n.links n.links.length; have := hl k n h; omega
    | none => unfold portsN at ih ⊢; rw [List.range_succ, List.flatMap_append]; simp [h] at ih ⊢; omega
theorem endsN_mem {b : Big} {link : Int} {k : Nat} {s : ByteArray} (h : s ∈ endsN b link k) : ∃ x ∈ b.inner, s = x.name := by
  unfold endsN at h
  obtain ⟨j, _, hj⟩ := List.mem_flatMap.1 h
  cases hx : b.inner[j]? with
  | none => rw [hx] at hj; cases hj
  | some x =>
    rw [hx] at hj
    simp only at hj
    split at hj
    · exact ⟨x, List.mem_of_getElem? hx, List.mem_singleton.1 hj⟩
    · cases hj
theorem Good.links3 {sig : List Ctl} {b : Big} (h : Good sig b) : ∀ (i : Nat) n, b.nodes[i]? = some n → n.links.length ≤ 3 := by
  intro i n hn
  have := node_ports (h.node i n hn)
  unfold portsB at this
  obtain ⟨c, _, hc⟩ := h.ctl hn
  rw [hc] at this
  simp only [decide_eq_true_eq] at this
  have := (ctl_ports (sig_ctl h.sg hc)).2
  omega
def pairRows (l : List (Nat × Nat)) : List (List Value) := l.map fun p => [.int .i64 p.1, .int .i64 p.2]
def PairsOwn (B : Nat) (w : World) (v : Value) (l : List (Nat × Nat)) : Prop := RowOwn B w v 2 (pairRows l) ∧ l.length ≤ 1000
theorem pairRows_app (l m : List (Nat × Nat)) : pairRows (l ++ m) = pairRows l ++ pairRows m := by simp [pairRows]
theorem PairsOwn.shape {B : Nat} {w : World} {v : Value} {l : List (Nat × Nat)} (h : PairsOwn B w v l) : ∃ a c, v = .slice a l.length c := by simpa [pairRows] using h.1.shape
theorem StrsOwn.shape {B : Nat} {w : World} {v : Value} {l : List ByteArray} (h : StrsOwn B w v l) : ∃ a c, v = .slice a l.length c := by simpa [strRows] using h.1.shape

set_option maxRecDepth 100000 in
set_option maxHeartbeats 8000000 in
theorem l2Ports_ct (v : Value) (sig : List Ctl) (b : Big) (link : Int) (w : World) (h : BigAt w v b) (hG : Good sig b) (hI : I64 link) :
    Calls Tryz.prog 193 #[v, .int .i64 link] w fun e w' => ∃ u, e = .returned u ∧ PairsOwn w.heap.size w' u (portsL b link) ∧ Below w.heap.size w w' := by
  have hl3 := portsN_len hG.links3 link
  have h8 := hG.nodes
  have hlk := hG.links3
  obtain ⟨a, c, a2, c2, a3, c3, a4, c4, rfl, hnds, _, _, _, _, _⟩ := h.parts
  obtain ⟨_, _, e, _, nl, n3⟩ := hnds.open
  obtain ⟨rfl, rfl⟩ := (by simpa using e : a = _ ∧ c = _)
  have N3 : Hid _ := n3
  have L3 : Hid _ := hl3
  have LK : Hid _ := hlk
  unfold I64 at hI
  clear e hnds h n3 hG hl3 hlk
  go_enter Tryz.func193, Tryz.ntmps193
  go_wp2_with fail
  obtain ⟨W0, hW0⟩ : ∃ W, W = (w.alloc (.cells #[.int .i64 b.roots, .slice a b.nodes.length c, .slice a2 b.sites.length c2, .int .i64 b.edges, .slice a3 b.outer.length c3, .slice a4 b.inner.length c4] 34)).alloc (.cells #[] 140) := ⟨_, rfl⟩
  rw [← hW0]
  have BA : Box W0 w.heap.size #[.int .i64 b.roots, .slice a b.nodes.length c, .slice a2 b.sites.length c2, .int .i64 b.edges, .slice a3 b.outer.length c3, .slice a4 b.inner.length c4] 34 := by rw [hW0]; exact (Box.new _ _ _).alloc _
  have acc : Acc W0 (w.heap.size + 1) 140 2 (.slice (some ⟨w.heap.size + 1, 0, none⟩) 0 0) (pairRows (portsN b link 0)) := by
    rw [hW0]; simpa [pairRows, portsN] using Acc.lit0 (w.alloc (.cells #[.int .i64 b.roots, .slice a b.nodes.length c, .slice a2 b.sites.length c2, .int .i64 b.edges, .slice a3 b.outer.length c3, .slice a4 b.inner.length c4] 34)) (w.heap.size + 1) 140 2 (by simp)
  have hb : Below w.heap.size w W0 := by rw [hW0]; exact bthen (balloc _ _) (balloc _ _)
  have hs : w.heap.size + 1 ≤ W0.heap.size := by rw [hW0]; simp
  clear hW0
  go_loopw [5, 6, 7] (fun o i _ W => ∃ k : Nat, k ≤ b.nodes.length ∧ i = .int .i64 k ∧ Below w.heap.size w W ∧ w.heap.size + 1 ≤ W.heap.size ∧ Box W w.heap.size #[.int .i64 b.roots, .slice a b.nodes.length c, .slice a2 b.sites.length c2, .int .i64 b.edges, .slice a3 b.outer.length c3, .slice a4 b.inner.length c4] 34 ∧ Acc W (w.heap.size + 1) 140 2 o (pairRows (portsN b link k))) (fun _ i _ _ => b.nodes.length - (intOf i).toNat)
  case atStart => exact ⟨0, Nat.zero_le _, rfl, hb, hs, BA, acc⟩
  case round =>
    clear hb hs BA acc W0
    obtain ⟨k, hk, rfl, hb, hs, BA, acc⟩ := hrel
    by_cases hlt : k < b.nodes.length
    · obtain ⟨n, hn⟩ := getElem?_of_lt hlt
      obtain ⟨_, _, bk, o', ul, rfl, hul, _, _, hc2⟩ := N3.out k n hn
      obtain ⟨al, cl, rfl, hl1, hl2, hl3⟩ := hul.open
      have HL3 : Hid _ := hl3
      have hn3 := LK.out k n hn
      have hp3 := L3.out k
      have HX : Hid (b.nodes[k]? = some n) := hn
      have g2 := (hb.cell (World.block_lt_of_cell? w _ hc2)).trans hc2
      have G2 : Hid (w.cell? ⟨bk, o' + k * 3 + 2, none⟩ = some (.slice al n.links.length cl)) := hc2
      have q := BA.cell
      clear hn hc2 hul hl3
      go_wp2_with fail
      clear q g2
      go_loopw [5, 7] (fun o i W => ∃ m : Nat, m ≤ n.links.length ∧ i = .int .i64 m ∧ Below w.heap.size w W ∧ w.heap.size + 1 ≤ W.heap.size ∧ Box W w.heap.size #[.int .i64 b.roots, .slice (some ⟨bk, o', none⟩) b.nodes.length c, .slice a2 b.sites.length c2, .int .i64 b.edges, .slice a3 b.outer.length c3, .slice a4 b.inner.length c4] 34 ∧ Acc W (w.heap.size + 1) 140 2 o (pairRows (portsN b link k ++ hitsN link k n.links m))) (fun _ i _ => n.links.length - (intOf i).toNat)
      case atStart => exact ⟨0, Nat.zero_le _, rfl, hb, hs, BA, by simpa [hitsN] using acc⟩
      case round =>
        clear hb hs BA acc
        obtain ⟨m, hm, rfl, hb, hs, BA, acc⟩ := hrel
        obtain ⟨av, cv, rfl⟩ := acc.shape
        have hh := hitsN_len link k n.links m
        obtain ⟨L, hL⟩ : ∃ L, L = (portsN b link k ++ hitsN link k n.links m).length := ⟨_, rfl⟩
        have hLb : L ≤ 1000 := by rw [hL, List.length_append]; omega
        have HL : Hid ((pairRows (portsN b link k ++ hitsN link k n.links m)).length = L) := by show _ = _; rw [hL]; simp [pairRows]
        rw [HL.out] at acc ⊢
        clear hL
        have q := BA.cell
        have g2 := (hb.cell (World.block_lt_of_cell? w _ G2.out)).trans G2.out
        by_cases hml : m < n.links.length
        · obtain ⟨x, hx⟩ := getElem?_of_lt hml
          obtain ⟨hxI, b3, o3, rfl, hc⟩ := HL3.out m x hx
          unfold I64 at hxI
          have g3 := (hb.cell (World.block_lt_of_cell? w _ hc)).trans hc
          have HS : Hid (hitsN link k n.links (m + 1) = hitsN link k n.links m ++ (if x = link then [(k, m)] else [])) := hitsN_succ hx
          clear hc hx
          by_cases hxl : x = link
          · have HT : Hid (pairRows (portsN b link k ++ hitsN link k n.links (m + 1)) = pairRows (portsN b link k ++ hitsN link k n.links m) ++ [[.int .i64 k, .int .i64 m]]) := by
              show _ = _; rw [HS.out, if_pos hxl, ← List.append_assoc, pairRows_app]; rfl
            clear HS
            subst hxl
            go_wp2_with (at_builtin; refine app1g _ _ rfl (.tmp 38) (.tmp 42) 79 rfl (w.heap.size + 1) 140 2 16 (.agg #[.int .i64 0, .int .i64 0]) Tryz.underlying79 inf_a2 rfl (by decide) (by decide) _ (pairRows (portsN b x k ++ hitsN x k n.links m)) (by rfl) acc [.int .i64 k, .int .i64 m] _ rfl (by simp [Value.oneCell']) (by rfl) (by first | rfl | simp) (by rw [HL.out]; omega) hs ?_)
            intro g cc w2 acc2 hg
            rw [HL.out, ← HT.out] at acc2
            rw [HL.out]
            have hb2 := grown_below hb acc hg (by omega) (by omega)
            have hs2 : w.heap.size + 1 ≤ w2.heap.size := Nat.le_trans hs hg.size
            have BA2 := BA.keep (grown_block acc hg (by omega) BA.lt)
            clear acc hg BA q hb hs g2 g3
            go_wp2_with fail
            go_roundw
            case rel => exact ⟨m + 1, by omega, by go_num, hb2, hs2, BA2, acc2⟩
            case measure => simp [intOf]; omega
          · have HT : Hid (pairRows (portsN b link k ++ hitsN link k n.links (m + 1)) = pairRows (portsN b link k ++ hitsN link k n.links m)) := by
              show _ = _; rw [HS.out, if_neg hxl, List.append_nil]
            clear HS
            rw [← HT.out] at acc
            go_wp2_with fail
            go_roundw
            case rel => exact ⟨m + 1, by omega, by go_num, hb, hs, BA, acc⟩
            case measure => simp [intOf]; omega
        · have e : m = n.links.length := by omega
          subst e
          rw [← portsN_succ HX.out] at acc
          go_wp2_with fail
          go_roundw
          case rel => exact ⟨k + 1, by omega, by go_num, hb, hs, BA, acc⟩
          case measure => simp [intOf]; omega
    · have e : k = b.nodes.length := by omega
      subst e
      have q := BA.cell
      obtain ⟨av, cv, rfl⟩ := acc.shape
      have hp3 := L3.out b.nodes.length
      go_wp2_with fail
      go_ret
      exact ⟨_, rfl, ⟨acc.own.mono (by omega), by unfold portsL; omega⟩, hb⟩

set_option maxRecDepth 100000 in
set_option maxHeartbeats 8000000 in
theorem l2Ends_ct (v : Value) (b : Big) (link : Int) (w : World) (h : BigAt w v b) (hn16 : b.inner.length ≤ 16) (_ : I64 link) :
    Calls Tryz.prog 137 #[v, .int .i64 link] w fun e w' => ∃ u, e = .returned u ∧ StrsOwn w.heap.size w' u (endsL b link) ∧ Below w.heap.size w w' := by
  have hl3 := endsN_len b link
  have hsz := h.inner_size
  obtain ⟨a1, c1, a2, c2, a3, c3, a4, c4, rfl, _, _, _, hinn, _, _⟩ := h.parts
  obtain ⟨_, _, e, _, nl, n3⟩ := hinn.open
  obtain ⟨rfl, rfl⟩ := (by simpa using e : a4 = _ ∧ c4 = _)
  have N3 : Hid _ := n3
  have L3 : Hid _ := hl3
  have HZ : Hid _ := hsz
  clear e hinn h n3 hl3 hsz
  go_enter Tryz.func137, Tryz.ntmps137
  go_wp2_with fail
  obtain ⟨W0, hW0⟩ : ∃ W, W = (w.alloc (.cells #[.int .i64 b.roots, .slice a1 b.nodes.length c1, .slice a2 b.sites.length c2, .int .i64 b.edges, .slice a3 b.outer.length c3, .slice a4 b.inner.length c4] 34)).alloc (.cells #[] 9) := ⟨_, rfl⟩
  rw [← hW0]
  have BA : Box W0 w.heap.size #[.int .i64 b.roots, .slice a1 b.nodes.length c1, .slice a2 b.sites.length c2, .int .i64 b.edges, .slice a3 b.outer.length c3, .slice a4 b.inner.length c4] 34 := by rw [hW0]; exact (Box.new _ _ _).alloc _
  have acc : Acc W0 (w.heap.size + 1) 9 1 (.slice (some ⟨w.heap.size + 1, 0, none⟩) 0 0) (strRows (endsN b link 0)) := by
    rw [hW0]; simpa [strRows, endsN] using Acc.lit0 (w.alloc (.cells #[.int .i64 b.roots, .slice a1 b.nodes.length c1, .slice a2 b.sites.length c2, .int .i64 b.edges, .slice a3 b.outer.length c3, .slice a4 b.inner.length c4] 34)) (w.heap.size + 1) 9 1 (by simp)
  have hb : Below w.heap.size w W0 := by rw [hW0]; exact bthen (balloc _ _) (balloc _ _)
  have hs : w.heap.size + 1 ≤ W0.heap.size := by rw [hW0]; simp
  clear hW0
  go_loopw [5, 6] (fun o i W => ∃ k : Nat, k ≤ b.inner.length ∧ i = .int .i64 k ∧ Below w.heap.size w W ∧ w.heap.size + 1 ≤ W.heap.size ∧ Box W w.heap.size #[.int .i64 b.roots, .slice a1 b.nodes.length c1, .slice a2 b.sites.length c2, .int .i64 b.edges, .slice a3 b.outer.length c3, .slice a4 b.inner.length c4] 34 ∧ Acc W (w.heap.size + 1) 9 1 o (strRows (endsN b link k))) (fun _ i _ => b.inner.length - (intOf i).toNat)
  case atStart => exact ⟨0, Nat.zero_le _, rfl, hb, hs, BA, acc⟩
  case round =>
    clear hb hs BA acc W0
    obtain ⟨k, hk, rfl, hb, hs, BA, acc⟩ := hrel
    obtain ⟨av, cv, rfl⟩ := acc.shape
    have hp3 := L3.out k
    obtain ⟨L, hL⟩ : ∃ L, L = (endsN b link k).length := ⟨_, rfl⟩
    have HL : Hid ((strRows (endsN b link k)).length = L) := by show _ = _; rw [hL]; simp [strRows]
    rw [HL.out] at acc ⊢
    rw [← hL] at hp3
    clear hL
    have q := BA.cell
    by_cases hlt : k < b.inner.length
    · obtain ⟨x, hx⟩ := getElem?_of_lt hlt
      obtain ⟨_, hxI, bk, o', rfl, hc0, hc1⟩ := N3.out k x hx
      unfold I64 at hxI
      have g0 := (hb.cell (World.block_lt_of_cell? w _ hc0)).trans hc0
      have g1 := (hb.cell (World.block_lt_of_cell? w _ hc1)).trans hc1
      have HS : Hid (endsN b link (k + 1) = endsN b link k ++ (if x.link = link then [x.name] else [])) := endsN_succ hx
      clear hc0 hc1 hx
      by_cases hxl : x.link = link
      · have HT : Hid (strRows (endsN b link (k + 1)) = strRows (endsN b link k) ++ [[.string x.name]]) := by
          show _ = _; rw [HS.out, if_pos hxl]; simp [strRows]
        clear HS
        rw [hxl] at g1
        clear hxl
        go_wp2_with (at_builtin; refine app1g _ _ rfl (.tmp 23) (.tmp 30) 25 rfl (w.heap.size + 1) 9 1 16 (.string ⟨#[]⟩) Tryz.underlying25 inf_str rfl (by decide) (by decide) _ (strRows (endsN b link k)) (by rfl) acc [.string x.name] _ rfl (by simp [Value.oneCell']) (by rfl) (by first | rfl | simp) (by rw [HL.out]; omega) hs ?_)
        intro g cc w2 acc2 hg
        rw [HL.out, ← HT.out] at acc2
        rw [HL.out]
        have hb2 := grown_below hb acc hg (by omega) (by omega)
        have hs2 : w.heap.size + 1 ≤ w2.heap.size := Nat.le_trans hs hg.size
        have BA2 := BA.keep (grown_block acc hg (by omega) BA.lt)
        clear acc hg BA q hb hs g0 g1
        go_wp2_with fail
        go_roundw
        case rel => exact ⟨k + 1, by omega, by go_num, hb2, hs2, BA2, acc2⟩
        case measure => simp [intOf]; omega
      · have HT : Hid (strRows (endsN b link (k + 1)) = strRows (endsN b link k)) := by
          show _ = _; rw [HS.out, if_neg hxl, List.append_nil]
        clear HS
        rw [← HT.out] at acc
        go_wp2_with fail
        go_roundw
        case rel => exact ⟨k + 1, by omega, by go_num, hb, hs, BA, acc⟩
        case measure => simp [intOf]; omega
    · have e : k = b.inner.length := by omega
      have HE : Hid (endsL b link = endsN b link k) := by show _ = _; rw [e]; rfl
      go_wp2_with fail
      go_ret
      exact ⟨_, rfl, ⟨by rw [HE.out]; exact acc.own.mono (by omega), by rw [HE.out]; have := endsN_len b link k; omega, fun s hs => by obtain ⟨y, hy, rfl⟩ := endsN_mem hs; exact HZ.out y hy⟩, hb⟩
end Go.Proofs.YthbdmcobpcoajaaGreatDoor
