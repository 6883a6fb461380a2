/- One root for all: the small functions. -/
import Derived.Test.YthbdmcobpcoajaaGreatDoorRenum
import Derived.Test.YthbdmcobpcoajaaGreatDoorKids
namespace Go.Proofs.YthbdmcobpcoajaaGreatDoor
open Go Go.RowKit Go.BigFrame

def oneN (by_ : Int) (ps l : List Int) : List Int := l.map (oneP by_ ps)
def oneK (by_ : Int) (ps l : List Int) (k : Nat) : List (List Value) := intRows ((oneN by_ ps l).take k)
theorem oneK_len {by_ : Int} {ps l : List Int} {k : Nat} (h : k ≤ l.length) : (oneK by_ ps l k).length = k := by simp [oneK, oneN, intRows]; omega
theorem oneK_snoc {by_ : Int} {ps l : List Int} {k : Nat} {x r : Int} (h : l[k]? = some x) (hr : oneP by_ ps x = r) : oneK by_ ps l (k + 1) = oneK by_ ps l k ++ [[.int .i64 r]] := by
  have h2 : (oneN by_ ps l)[k]? = some r := by simp [oneN, h, hr]
  unfold oneK
  rw [take_snoc_l h2]
  simp [intRows]
set_option maxRecDepth 100000 in
set_option maxHeartbeats 4000000 in
theorem l4Sites_ct (v vp : Value) (b : Big) (ps : List Int) (by_ : Int) (w : World) (h : BigAt w v b) (hp : IntsAt w vp ps) (hlen : b.sites.length ≤ 100) (hy : 0 ≤ by_ ∧ by_ < 1073741824) (hps : ∀ p ∈ b.sites, -(ps.length : Int) ≤ p ∧ p < 1073741824) (hI : ∀ p ∈ b.sites, I64 (oneP by_ ps p)) :
    Calls Tryz.prog 179 #[v, .int .i64 by_, vp] w fun e w' => ∃ u, e = .returned u ∧ IntsOwn w.heap.size w' u (oneN by_ ps b.sites) ∧ Below w.heap.size w w' := by
  obtain ⟨a1, c1, a2, c2, a3, c3, a4, c4, rfl, hnds, hsit, _, _, _, _⟩ := h.parts
  obtain ⟨_, _, e, _, ln, n3⟩ := hsit.open
  obtain ⟨rfl, rfl⟩ := (by simpa using e : a2 = _ ∧ c2 = _)
  have N3 : Hid _ := n3
  have HPS : Hid (∀ p ∈ b.sites, -(ps.length : Int) ≤ p ∧ p < 1073741824) := hps
  have HII : Hid (∀ p ∈ b.sites, I64 (oneP by_ ps p)) := hI
  obtain ⟨pa, pc, rfl, _⟩ := hp.open
  clear e hnds hsit h n3 hps hI
  go_enter Tryz.func179, Tryz.ntmps179
  go_wp2_with fail
  obtain ⟨W0, hW0⟩ : ∃ W, W = (w.alloc (.cells #[.int .i64 b.roots, .slice a1 b.nodes.length c1, .slice a2 b.sites.length c2, .int .i64 b.edges, .slice a3 b.outer.length c3, .slice a4 b.inner.length c4] 34)).alloc (.cells #[] 3) := ⟨_, rfl⟩
  rw [← hW0]
  have BA : Box W0 w.heap.size #[.int .i64 b.roots, .slice a1 b.nodes.length c1, .slice a2 b.sites.length c2, .int .i64 b.edges, .slice a3 b.outer.length c3, .slice a4 b.inner.length c4] 34 := by rw [hW0]; exact (Box.new _ _ _).alloc _
  have acc : Acc W0 (w.heap.size + 1) 3 1 (.slice (some ⟨w.heap.size + 1, 0, none⟩) 0 0) (oneK by_ ps b.sites 0) := by
    rw [hW0]; simpa [oneK, intRows] using Acc.lit0 (w.alloc (.cells #[.int .i64 b.roots, .slice a1 b.nodes.length c1, .slice a2 b.sites.length c2, .int .i64 b.edges, .slice a3 b.outer.length c3, .slice a4 b.inner.length c4] 34)) (w.heap.size + 1) 3 1 (by simp)
  have hb : Below w.heap.size w W0 := by rw [hW0]; exact bthen (balloc _ _) (balloc _ _)
  have hs : w.heap.size + 1 ≤ W0.heap.size := by rw [hW0]; simp
  clear hW0
  go_loopw [7, 8] (fun o i W => ∃ k : Nat, k ≤ b.sites.length ∧ i = .int .i64 k ∧ Below w.heap.size w W ∧ w.heap.size + 1 ≤ W.heap.size ∧ Box W w.heap.size #[.int .i64 b.roots, .slice a1 b.nodes.length c1, .slice a2 b.sites.length c2, .int .i64 b.edges, .slice a3 b.outer.length c3, .slice a4 b.inner.length c4] 34 ∧ Acc W (w.heap.size + 1) 3 1 o (oneK by_ ps b.sites k)) (fun _ i _ => b.sites.length - (intOf i).toNat)
  case atStart => exact ⟨0, Nat.zero_le _, rfl, hb, hs, BA, acc⟩
  case round =>
    clear hb hs BA acc W0
    obtain ⟨k, hk, rfl, hb, hs, BA, acc⟩ := hrel
    obtain ⟨av, cv, rfl⟩ := acc.shape
    have HL : Hid ((oneK by_ ps b.sites k).length = k) := oneK_len hk
    rw [HL.out] at acc ⊢
    by_cases hlt : k < b.sites.length
    · obtain ⟨n, hn⟩ := getElem?_of_lt hlt
      obtain ⟨hqI, bk, o', rfl, hc1⟩ := N3.out k n hn
      have g1 := (hb.cell (World.block_lt_of_cell? w _ hc1)).trans hc1
      obtain ⟨r, hr⟩ : ∃ r, oneP by_ ps n = r := ⟨_, rfl⟩
      have HT : Hid (oneK by_ ps b.sites (k + 1) = oneK by_ ps b.sites k ++ [[.int .i64 r]]) := oneK_snoc hn hr
      have HR : Hid (oneP by_ ps n = r) := hr
      have HPN : Hid (-(ps.length : Int) ≤ n ∧ n < 1073741824) := HPS.out n (List.mem_of_getElem? hn)
      have q := BA.cell
      clear hc1 hn hr hqI
      go_wp2_with fail
      refine (l4Parent_ct _ ps by_ n r _ (hp.below hb) HPN.out hy HR.out).mono ?_
      rintro e w2 ⟨rfl, rfl⟩
      go_wp2_with (at_builtin; refine app1g _ _ rfl (.tmp 17) (.tmp 26) 24 rfl (w.heap.size + 1) 3 1 8 (.int .i64 0) Tryz.underlying24 inf_int rfl (by decide) (by decide) _ (oneK by_ ps b.sites k) (by rfl) acc [.int .i64 r] _ rfl (by simp [Value.oneCell']) (by rfl) (by first | rfl | simp) (by rw [HL.out]; omega) hs ?_)
      intro g cc w3 acc2 hg
      rw [HL.out, ← HT.out] at acc2
      rw [HL.out]
      have hb2 := grown_below hb acc hg (by omega) (by omega)
      have hs2 : w.heap.size + 1 ≤ w3.heap.size := Nat.le_trans hs hg.size
      have BA2 := BA.keep (grown_block acc hg (by omega) BA.lt)
      clear acc hg BA hb hs
      go_wp2_with fail
      go_roundw
      case rel => exact ⟨k + 1, by omega, by go_num, hb2, hs2, BA2, acc2⟩
      case measure => simp [intOf]; omega
    · have e : k = b.sites.length := by omega
      subst e
      have q := BA.cell
      have ho := acc.own
      have hT : oneK by_ ps b.sites b.sites.length = intRows (oneN by_ ps b.sites) := by unfold oneK; rw [List.take_of_length_le (by simp [oneN])]
      rw [hT] at ho
      have HO := Lib.hid ho
      clear hT ho
      go_wp2_with fail
      go_ret
      exact ⟨_, rfl, ⟨HO.out.mono (by omega), by simp [oneN]; omega, fun y hy => by obtain ⟨p, hp, rfl⟩ := List.mem_map.1 hy; exact HII.out p hp⟩, hb⟩
end Go.Proofs.YthbdmcobpcoajaaGreatDoor
