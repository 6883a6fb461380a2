/- The points of a link, the program's way. -/
import Derived.Test.YthbdmcobpcoajaaGreatDoorPoints
namespace Go.Proofs.YthbdmcobpcoajaaGreatDoor
open Go Go.RowKit Go.BigFrame

/-- Two lists that the call owns, in blocks of their own. -/
def GivesPoints (P : List (Nat × Nat)) (E : List ByteArray) (w : World) (e : Ending) (w' : World) : Prop :=
  ∃ u1 u2, e = .returned (.tuple #[u1, u2]) ∧ PairsOwn w.heap.size w' u1 P ∧ StrsOwn w.heap.size w' u2 E ∧ (∀ g ∈ blks u1, g ∉ blks u2) ∧ Below w.heap.size w w'
set_option maxRecDepth 100000 in
set_option maxHeartbeats 16000000 in
theorem pointsOf_ct (v : Value) (sig : List Ctl) (b : Big) (link : Int) (w : World) (h : BigAt w v b) (hG : Good sig b) (hI : I64 link) :
    Calls Tryz.prog 63 #[v, .int .i64 link] w (GivesPoints (portsL b link) (endsL b link) w) := by
  have hl3 := portsN_len hG.links3 link
  have h8 := hG.nodes
  have hlk := hG.links3
  have h16 := names_len hG.inner
  simp only [List.length_map] at h16
  have hsz := h.inner_size
  obtain ⟨a, c, a2, c2, a3, c3, a4, c4, rfl, hnds, _, _, hinn, _, _⟩ := h.parts
  obtain ⟨_, _, e, _, nl, n3⟩ := hnds.open
  obtain ⟨rfl, rfl⟩ := (by simpa using e : a = _ ∧ c = _)
  obtain ⟨_, _, e, _, il, i3⟩ := hinn.open
  obtain ⟨rfl, rfl⟩ := (by simpa using e : a4 = _ ∧ c4 = _)
  have N3 : Hid _ := n3
  have I3 : Hid _ := i3
  have L3 : Hid _ := hl3
  have LK : Hid _ := hlk
  have HZ : Hid _ := hsz
  unfold I64 at hI
  clear e hnds hinn h n3 i3 hG hl3 hlk hsz
  go_enter Tryz.func63, Tryz.ntmps63
  go_wp2_with fail
  obtain ⟨W0, hW0⟩ : ∃ W, W = ((w.alloc (.cells #[.int .i64 b.roots, .slice a b.nodes.length c, .slice a2 b.sites.length c2, .int .i64 b.edges, .slice a3 b.outer.length c3, .slice a4 b.inner.length c4] 34)).alloc (.cells #[] 140)).alloc (.cells #[] 9) := ⟨_, rfl⟩
  rw [← hW0]
  have BA : Box W0 w.heap.size #[.int .i64 b.roots, .slice a b.nodes.length c, .slice a2 b.sites.length c2, .int .i64 b.edges, .slice a3 b.outer.length c3, .slice a4 b.inner.length c4] 34 := by rw [hW0]; exact ((Box.new _ _ _).alloc _).alloc _
  have BP : Box W0 (w.heap.size + 1) #[] 140 := by rw [hW0]; exact (Box.new' _ _ _ (by simp)).alloc _
  have BE : Box W0 (w.heap.size + 2) #[] 9 := by rw [hW0]; exact Box.new' _ _ _ (by simp)
  have acc : Acc W0 (w.heap.size + 1) 140 2 (.slice (some ⟨w.heap.size + 1, 0, none⟩) 0 0) (pairRows (portsN b link 0)) := by
    simpa [pairRows, portsN] using Acc.of_box0 (sz := 2) BP (Nat.le_refl _)
  have hb : Below w.heap.size w W0 := by rw [hW0]; exact bthen (bthen (balloc _ _) (balloc _ _)) (balloc _ _)
  have hs : w.heap.size + 3 ≤ W0.heap.size := by rw [hW0]; simp
  clear hW0 BP
  go_loopw [6, 19] (fun o i W => ∃ k : Nat, k ≤ b.nodes.length ∧ i = .int .i64 k ∧ Below w.heap.size w W ∧ w.heap.size + 3 ≤ W.heap.size ∧ Box W w.heap.size #[.int .i64 b.roots, .slice a b.nodes.length c, .slice a2 b.sites.length c2, .int .i64 b.edges, .slice a3 b.outer.length c3, .slice a4 b.inner.length c4] 34 ∧ Box W (w.heap.size + 2) #[] 9 ∧ Acc W (w.heap.size + 1) 140 2 o (pairRows (portsN b link k))) (fun _ i _ => b.nodes.length - (intOf i).toNat)
  case atStart => exact ⟨0, Nat.zero_le _, rfl, hb, hs, BA, BE, acc⟩
  case round =>
    clear hb hs BA BE acc W0
    obtain ⟨k, hk, rfl, hb, hs, BA, BE, acc⟩ := hrel
    by_cases hlt : k < b.nodes.length
    · obtain ⟨n, hn⟩ := getElem?_of_lt hlt
      obtain ⟨_, _, bk, o', ul, rfl, hul, hc0, hc1, hc2⟩ := N3.out k n hn
      obtain ⟨al, cl, rfl, hl1, hl2, hl3⟩ := hul.open
      have HL3 : Hid _ := hl3
      have hn3 := LK.out k n hn
      have hp3 := L3.out k
      have HX : Hid (b.nodes[k]? = some n) := hn
      have g0 := (hb.cell (World.block_lt_of_cell? w _ hc0)).trans hc0
      have g1 := (hb.cell (World.block_lt_of_cell? w _ hc1)).trans hc1
      have g2 := (hb.cell (World.block_lt_of_cell? w _ hc2)).trans hc2
      have q := BA.cell
      clear hn hc0 hc1 hc2 hul hl3
      go_wp2_with fail
      obtain ⟨W2, hW2⟩ : ∃ W, W = wr.alloc (.cells #[.int .i64 n.ctl, .int .i64 n.par, .slice al n.links.length cl] 100) := ⟨_, rfl⟩
      rw [← hW2]
      have hB : Below wr.heap.size wr W2 := by rw [hW2]; exact balloc _ _
      have BA := BA.below hB
      have BE := BE.below hB
      have acc := acc.below hB
      have hb := bthen hb hB
      have hs : w.heap.size + 3 ≤ W2.heap.size := Nat.le_trans hs hB.size
      clear hW2 hB q g0 g1 g2
      go_loopw [6, 27] (fun o i W => ∃ m : Nat, m ≤ n.links.length ∧ i = .int .i64 m ∧ Below w.heap.size w W ∧ w.heap.size + 3 ≤ W.heap.size ∧ Box W w.heap.size #[.int .i64 b.roots, .slice (some ⟨bk, o', none⟩) b.nodes.length c, .slice a2 b.sites.length c2, .int .i64 b.edges, .slice a3 b.outer.length c3, .slice a4 b.inner.length c4] 34 ∧ Box W (w.heap.size + 2) #[] 9 ∧ Acc W (w.heap.size + 1) 140 2 o (pairRows (portsN b link k ++ hitsN link k n.links m))) (fun _ i _ => n.links.length - (intOf i).toNat)
      case atStart => exact ⟨0, Nat.zero_le _, rfl, hb, hs, BA, BE, by simpa [hitsN] using acc⟩
      case round =>
        clear hb hs BA BE acc
        obtain ⟨m, hm, rfl, hb, hs, BA, BE, acc⟩ := hrel
        obtain ⟨av, cv, rfl⟩ := acc.shape
        have hh := hitsN_len link k n.links m
        obtain ⟨L, hL⟩ : ∃ L, L = (portsN b link k ++ hitsN link k n.links m).length := ⟨_, rfl⟩
        have hLb : L ≤ 1000 := by rw [hL, List.length_append]; omega
        have HL : Hid ((pairRows (portsN b link k ++ hitsN link k n.links m)).length = L) := by show _ = _; rw [hL]; simp [pairRows]
        rw [HL.out] at acc ⊢
        clear hL
        by_cases hml : m < n.links.length
        · obtain ⟨x, hx⟩ := getElem?_of_lt hml
          obtain ⟨hxI, b3, o3, rfl, hc⟩ := HL3.out m x hx
          unfold I64 at hxI
          have g3 := (hb.cell (World.block_lt_of_cell? w _ hc)).trans hc
          have HS : Hid (hitsN link k n.links (m + 1) = hitsN link k n.links m ++ (if x = link then [(k, m)] else [])) := hitsN_succ hx
          clear hc hx
          by_cases hxl : x = link
          · have HT : Hid (pairRows (portsN b link k ++ hitsN link k n.links (m + 1)) = pairRows (portsN b link k ++ hitsN link k n.links m) ++ [[.int .i64 k, .int .i64 m]]) := by
              show _ = _; rw [HS.out, if_pos hxl, ← List.append_assoc, pairRows_app]; rfl
            clear HS
            subst hxl
            go_wp2_with (at_builtin; refine app1g _ _ rfl (.tmp 35) (.tmp 39) 79 rfl (w.heap.size + 1) 140 2 16 (.agg #[.int .i64 0, .int .i64 0]) Tryz.underlying79 inf_a2 rfl (by decide) (by decide) _ (pairRows (portsN b x k ++ hitsN x k n.links m)) (by rfl) acc [.int .i64 k, .int .i64 m] _ rfl (by simp [Value.oneCell']) (by rfl) (by first | rfl | simp) (by rw [HL.out]; omega) (by omega) ?_)
            intro g cc w2 acc2 hg
            rw [HL.out, ← HT.out] at acc2
            rw [HL.out]
            have hb2 := grown_below hb acc hg (by omega) (by omega)
            have hs2 : w.heap.size + 3 ≤ w2.heap.size := Nat.le_trans hs hg.size
            have BA2 := BA.keep (grown_block acc hg (by omega) BA.lt)
            have BE2 := Acc.box BE acc (by decide) hg
            clear acc hg BA BE hb hs g3
            go_wp2_with fail
            go_roundw
            case rel => exact ⟨m + 1, by omega, by go_num, hb2, hs2, BA2, BE2, acc2⟩
            case measure => simp [intOf]; omega
          · have HT : Hid (pairRows (portsN b link k ++ hitsN link k n.links (m + 1)) = pairRows (portsN b link k ++ hitsN link k n.links m)) := by
              show _ = _; rw [HS.out, if_neg hxl, List.append_nil]
            clear HS
            rw [← HT.out] at acc
            go_wp2_with fail
            go_roundw
            case rel => exact ⟨m + 1, by omega, by go_num, hb, hs, BA, BE, acc⟩
            case measure => simp [intOf]; omega
        · have e : m = n.links.length := by omega
          subst e
          rw [← portsN_succ HX.out] at acc
          go_wp2_with fail
          go_roundw
          case rel => exact ⟨k + 1, by omega, by go_num, hb, hs, BA, BE, acc⟩
          case measure => simp [intOf]; omega
    · have e : k = b.nodes.length := by omega
      subst e
      have q := BA.cell
      obtain ⟨ap, cp, rfl⟩ := acc.shape
      have hp3 := L3.out b.nodes.length
      obtain ⟨L, hL⟩ : ∃ L, L = (pairRows (portsN b link b.nodes.length)).length := ⟨_, rfl⟩
      rw [← hL] at acc ⊢
      have HLP : Hid (L = (pairRows (portsN b link b.nodes.length)).length) := hL
      clear hL
      have accE : Acc wr (w.heap.size + 1) 9 1 (.slice (some ⟨w.heap.size + 2, 0, none⟩) 0 0) (strRows (endsN b link 0)) := by
        simpa [strRows, endsN] using Acc.of_box0 (sz := 1) BE (by omega)
      obtain ⟨wa, rfl⟩ : ∃ W, W = wr := ⟨_, rfl⟩
      go_wp2_with fail
      clear q
      go_loopw [7, 46] (fun o i W => ∃ k : Nat, k ≤ b.inner.length ∧ i = .int .i64 k ∧ Below w.heap.size w W ∧ w.heap.size + 3 ≤ W.heap.size ∧ Acc W (w.heap.size + 1) 140 2 (.slice ap L cp) (pairRows (portsN b link b.nodes.length)) ∧ Acc W (w.heap.size + 1) 9 1 o (strRows (endsN b link k))) (fun _ i _ => b.inner.length - (intOf i).toNat)
      case atStart => exact ⟨0, Nat.zero_le _, rfl, hb, hs, acc, accE⟩
      case round =>
        clear hb hs BA BE acc accE
        obtain ⟨k, hk, rfl, hb, hs, accP, acc⟩ := hrel
        obtain ⟨av, cv, rfl⟩ := acc.shape
        have hp3 := endsN_len b link k
        obtain ⟨M, hM⟩ : ∃ M, M = (endsN b link k).length := ⟨_, rfl⟩
        have HL : Hid ((strRows (endsN b link k)).length = M) := by show _ = _; rw [hM]; simp [strRows]
        rw [HL.out] at acc ⊢
        rw [← hM] at hp3
        clear hM
        by_cases hlt : k < b.inner.length
        · obtain ⟨x, hx⟩ := getElem?_of_lt hlt
          obtain ⟨_, hxI, bk, o', rfl, hc0, hc1⟩ := I3.out k x hx
          unfold I64 at hxI
          have g0 := (hb.cell (World.block_lt_of_cell? w _ hc0)).trans hc0
          have g1 := (hb.cell (World.block_lt_of_cell? w _ hc1)).trans hc1
          have HS : Hid (endsN b link (k + 1) = endsN b link k ++ (if x.link = link then [x.name] else [])) := endsN_succ hx
          have hB := balloc wr (.cells #[.string x.name, .int .i64 x.link] 84)
          have acc := acc.below hB
          have accP := accP.below hB
          have hb := bthen hb hB
          have hs : w.heap.size + 3 ≤ (wr.alloc (.cells #[.string x.name, .int .i64 x.link] 84)).heap.size := Nat.le_trans hs hB.size
          clear hc0 hc1 hx hB
          by_cases hxl : x.link = link
          · have HT : Hid (strRows (endsN b link (k + 1)) = strRows (endsN b link k) ++ [[.string x.name]]) := by
              show _ = _; rw [HS.out, if_pos hxl]; simp [strRows]
            have hq : (x.link == link) = true := by simpa using hxl
            clear HS hxl
            go_wp2_with (at_builtin; refine app1g _ _ rfl (.tmp 54) (.tmp 57) 25 rfl (w.heap.size + 1) 9 1 16 (.string ⟨#[]⟩) Tryz.underlying25 inf_str rfl (by decide) (by decide) _ (strRows (endsN b link k)) (by rfl) acc [.string x.name] _ rfl (by simp [Value.oneCell']) (by rfl) (by first | rfl | simp) (by rw [HL.out]; omega) (by omega) ?_)
            intro g cc w2 acc2 hg
            rw [HL.out, ← HT.out] at acc2
            rw [HL.out]
            have hb2 := grown_below hb acc hg (by omega) (by omega)
            have hs2 : w.heap.size + 3 ≤ w2.heap.size := Nat.le_trans hs hg.size
            have accP2 := accP.beside acc (by decide) hg
            clear acc accP hg hb hs g0 g1
            go_wp2_with fail
            go_roundw
            case rel => exact ⟨k + 1, by omega, by go_num, hb2, hs2, accP2, acc2⟩
            case measure => simp [intOf]; omega
          · have HT : Hid (strRows (endsN b link (k + 1)) = strRows (endsN b link k)) := by
              show _ = _; rw [HS.out, if_neg hxl, List.append_nil]
            clear HS
            rw [← HT.out] at acc
            go_wp2_with fail
            go_roundw
            case rel => exact ⟨k + 1, by omega, by go_num, hb, hs, accP, acc⟩
            case measure => simp [intOf]; omega
        · have e : k = b.inner.length := by omega
          have HE : Hid (endsL b link = endsN b link k) := by show _ = _; rw [e]; rfl
          have hep := endsN_len b link k
          go_wp2_with fail
          go_ret2
          exact ⟨_, _, rfl, ⟨accP.own.mono (by omega), by unfold portsL; omega⟩, ⟨by rw [HE.out]; exact acc.own.mono (by omega), by rw [HE.out]; omega, fun s hs => by obtain ⟨y, hy, rfl⟩ := endsN_mem hs; exact HZ.out y hy⟩, accP.disj acc (by decide), hb⟩
end Go.Proofs.YthbdmcobpcoajaaGreatDoor
