/- LinkParts: the walks. -/
import Derived.Test.YtjkebiodabheiaaDoorMeet
import Derived.Test.YtjkebiodabheiaaDoorCount
import Derived.Test.YtjkebiodabheiaaDoorSortS
import Derived.Test.YtjkebiodabheiaaDoorKids
namespace Go.Proofs.YtjkebiodabheiaaDoor
open Go Go.RowKit Go.BigFrame

def idxZ (n : Nat) : List Int := (List.range n).map fun (i : Nat) => (i : Int)
theorem idxZ_snoc (n : Nat) : idxZ (n + 1) = idxZ n ++ [(n : Int)] := by unfold idxZ; rw [List.range_succ, List.map_append]; rfl
theorem idxZ_len (n : Nat) : (idxZ n).length = n := by simp [idxZ]
theorem parts_ex (meet : Nat → Nat → Bool) (n : Nat) : ∃ o, IsParts meet n o := by
  obtain ⟨m, hm⟩ := least_all meet n
  exact ⟨(List.range n).map fun (i : Nat) => (m i : Int), by simp, fun i hi => ⟨m i, by simp [hi], (hm i).1, (hm i).2⟩⟩
/-- The list of the parts, in words that both ways meet. -/
noncomputable def partsOf (b : Big) : List Int := Classical.choose (parts_ex (meetB b) b.nodes.length)
theorem partsOf_eq {b : Big} {o : List Int} (h : IsParts (meetB b) b.nodes.length o) : o = partsOf b := h.uniq (Classical.choose_spec (parts_ex (meetB b) b.nodes.length))
noncomputable def partR (sig : List Ctl) (b : Big) : List Int := if goodB sig b then partsOf b else []
theorem PartOk.ints {meet : Nat → Nat → Bool} {n : Nat} {o : List Int} (h : PartOk meet n o) (i : Nat) (hi : i < n) : ∃ x : Nat, o[i]? = some (x : Int) ∧ atI o i = (x : Int) ∧ x < n := by
  obtain ⟨m, e, ea, _, hl, _⟩ := h.at hi
  exact ⟨m, e, ea, hl⟩
theorem partR_len (sig : List Ctl) (b : Big) : ((partR sig b).length : Int) ≤ 100000000 := by
  unfold partR
  split
  · rename_i h
    have h8 := (good_of h).nodes
    have := (Classical.choose_spec (parts_ex (meetB b) b.nodes.length)).1
    show ((partsOf b).length : Int) ≤ _
    unfold partsOf
    omega
  · simp

section
variable {meet : Nat → Nat → Bool} {N : Nat} {o o0 : List Int} {i k : Nat}
def SpecSt (meet : Nat → Nat → Bool) (N : Nat) (o0 o : List Int) (i k : Nat) : Prop := PartOk meet N o ∧ Below' N o o0 ∧ Swept meet N o0 o i k
theorem SpecSt.put (h : SpecSt meet N o0 o i k) (hi : i < N) (hk : k < N) (hm : meet i k = true) (hlt : atI o k < atI o i) : SpecSt meet N o0 (o.set i (atI o k)) i (k + 1) := by
  have hil : i < o.length := by rw [h.1.1]; exact hi
  have hl : Below' N (o.set i (atI o k)) o := lower_set hil (by omega)
  refine ⟨h.1.set hi hk hm hlt, hl.trans h.2.1, (h.2.2.lower hl).next fun _ => ?_⟩
  rw [atI_set hil, if_pos rfl]
  exact h.2.1 k hk
theorem SpecSt.skip (h : SpecSt meet N o0 o i k) (hk : k < N) (hc : meet i k = true → atI o i ≤ atI o k) : SpecSt meet N o0 o i (k + 1) :=
  ⟨h.1, h.2.1, h.2.2.next fun hm => Int.le_trans (hc hm) (h.2.1 k hk)⟩
def Still (meet : Nat → Nat → Bool) (N : Nat) (o : List Int) (i k : Nat) : Prop := ∀ i' k', i' < N → k' < N → (i' < i ∨ i' = i ∧ k' < k) → meet i' k' = true → atI o k' ≤ atI o i'
def ImplSt (meet : Nat → Nat → Bool) (N : Nat) (o0 : List Int) (c : Bool) (o : List Int) (i k : Nat) : Prop := PartOk meet N o ∧ (c = false → o = o0 ∧ Still meet N o i k) ∧ (c = true → sumI o < sumI o0)
theorem ImplSt.start (h : PartOk meet N o) : ImplSt meet N o false o 0 0 := ⟨h, fun _ => ⟨rfl, fun i' k' _ _ hc => by omega⟩, fun h => by cases h⟩
theorem ImplSt.row {c : Bool} (h : ImplSt meet N o0 c o i N) : ImplSt meet N o0 c o (i + 1) 0 := ⟨h.1, fun hc => ⟨(h.2.1 hc).1, fun i' k' h1 h2 hc' hm => (h.2.1 hc).2 i' k' h1 h2 (by omega) hm⟩, h.2.2⟩
theorem ImplSt.put {c : Bool} (hs : ∀ i k, meet i k = true → meet k i = true) (h : ImplSt meet N o0 c o i k) (hi : i < N) (hk : k < N) (hm : meet i k = true) (hlt : atI o i < atI o k) : ImplSt meet N o0 true (o.set k (atI o i)) i (k + 1) := by
  obtain ⟨x, _, ex, _⟩ := h.1.ints i hi
  refine ⟨h.1.set hk hi (hs _ _ hm) hlt, fun h => (by cases h), fun _ => ?_⟩
  have h1 := sumI_set (o := o) (i := k) (x := atI o i) (by rw [h.1.1]; exact hk) (by omega) hlt
  cases c with
  | false => rw [(h.2.1 rfl).1] at h1 ⊢; exact h1
  | true => have := h.2.2 rfl; omega
theorem ImplSt.skip {c : Bool} (h : ImplSt meet N o0 c o i k) (hc : meet i k = true → atI o k ≤ atI o i) : ImplSt meet N o0 c o i (k + 1) := by
  refine ⟨h.1, fun hf => ⟨(h.2.1 hf).1, fun i' k' h1 h2 hcc hm => ?_⟩, h.2.2⟩
  by_cases e : i' = i ∧ k' = k
  · obtain ⟨rfl, rfl⟩ := e; exact hc hm
  · exact (h.2.1 hf).2 i' k' h1 h2 (by omega) hm
theorem ImplSt.parts (hs : ∀ i k, meet i k = true → meet k i = true) (h : ImplSt meet N o0 false o N 0) : IsParts meet N o := isParts_of_still hs h.1 fun i k hi hk hm => (h.2.1 rfl).2 i k hi hk (by omega) hm
end
theorem own0lt {B g n c : Nat} {w : World} {o : List Int} (h : IntsOwn B w (.slice (some ⟨g, 0, none⟩) n c) o) (hn : 0 < n) : g < w.heap.size := (h.lt g (by obtain ⟨m, rfl⟩ : ∃ m, n = m + 1 := ⟨n - 1, by omega⟩; simp [blks])).2
def readI (W : World) (g N : Nat) : List Int := (List.range N).map fun j => match W.cell? ⟨g, j, none⟩ with | some (.int _ x) => x | _ => 0
theorem readI_own {B g N c : Nat} {W : World} {o : List Int} (h : IntsOwn B W (.slice (some ⟨g, 0, none⟩) N c) o) (hN : o.length = N) : readI W g N = o := by
  apply List.ext_getElem?
  intro j
  unfold readI
  by_cases hj : j < N
  · obtain ⟨x, hx⟩ := getElem?_of_lt (show j < o.length by omega)
    rw [List.getElem?_map, List.getElem?_range hj, hx]
    simp [h.cellAt hx]
  · rw [List.getElem?_eq_none (by simp; omega), List.getElem?_eq_none (by omega)]
theorem atI_int {o : List Int} {i : Nat} {x : Int} (h : o[i]? = some x) : atI o i = x := atI_of h


set_option maxRecDepth 100000 in
set_option maxHeartbeats 8000000 in
theorem specLinkParts_ct (vs v : Value) (sig : List Ctl) (b : Big) (w : World) (h : Ctx w vs v sig b) : Calls Tryd.prog 22 #[vs, v] w (GivesInts (partR sig b) (goodB sig b) w) := by
  obtain ⟨a1, c1, a2, c2, a3, c3, a4, c4, rfl⟩ := h.big.shape
  have hA := bthen (balloc w (.cells #[.int .i64 b.roots, .slice a1 b.nodes.length c1, .slice a2 b.sites.length c2, .int .i64 b.edges, .slice a3 b.outer.length c3, .slice a4 b.inner.length c4] 43)) (balloc (w.alloc (.cells #[.int .i64 b.roots, .slice a1 b.nodes.length c1, .slice a2 b.sites.length c2, .int .i64 b.edges, .slice a3 b.outer.length c3, .slice a4 b.inner.length c4] 43)) (.cells #[] 3))
  have hx := h.below hA
  obtain ⟨W0, hW0⟩ : ∃ W, W = (w.alloc (.cells #[.int .i64 b.roots, .slice a1 b.nodes.length c1, .slice a2 b.sites.length c2, .int .i64 b.edges, .slice a3 b.outer.length c3, .slice a4 b.inner.length c4] 43)).alloc (.cells #[] 3) := ⟨_, rfl⟩
  have BA : Box W0 w.heap.size #[.int .i64 b.roots, .slice a1 b.nodes.length c1, .slice a2 b.sites.length c2, .int .i64 b.edges, .slice a3 b.outer.length c3, .slice a4 b.inner.length c4] 43 := by rw [hW0]; exact (Box.new _ _ _).alloc _
  have acc : Acc W0 (w.heap.size + 1) 3 1 (.slice (some ⟨w.heap.size + 1, 0, none⟩) 0 0) (intRows (idxZ 0)) := by
    rw [hW0]; simpa [intRows, idxZ] using Acc.lit0 (w.alloc (.cells #[.int .i64 b.roots, .slice a1 b.nodes.length c1, .slice a2 b.sites.length c2, .int .i64 b.edges, .slice a3 b.outer.length c3, .slice a4 b.inner.length c4] 43)) (w.heap.size + 1) 3 1 (by simp)
  have hs : w.heap.size + 1 ≤ W0.heap.size := by rw [hW0]; simp
  rw [← hW0] at hA hx
  cases hg : goodB sig b with
  | false =>
    have HN : Hid (partR sig b = []) := by show _ = _; unfold partR; rw [hg]; rfl
    rw [HN.out]
    go_enter Tryd.func22, Tryd.ntmps22
    go_wp2_with fail
    rw [← hW0]
    clear hW0
    refine (l2Good_ct _ _ sig b false _ hx hg).mono ?_
    rintro e w2 ⟨rfl, hb⟩
    have acc := acc.below hb
    have hb := bthen hA hb
    go_wp2_with fail
    go_ret2
    exact ⟨_, rfl, ⟨acc.own.mono (by omega), by simp, fun x hx => by cases hx⟩, hb⟩
  | true =>
    have hG := good_of hg
    have h8 := hG.nodes
    have HN : Hid (partR sig b = partsOf b) := by show _ = _; unfold partR; rw [hg]; rfl
    have HBG : Hid (BigAt w (.agg #[.int .i64 b.roots, .slice a1 b.nodes.length c1, .slice a2 b.sites.length c2, .int .i64 b.edges, .slice a3 b.outer.length c3, .slice a4 b.inner.length c4]) b) := h.big
    rw [HN.out]
    clear hG
    go_enter Tryd.func22, Tryd.ntmps22
    go_wp2_with fail
    rw [← hW0]
    clear hW0
    refine (l2Good_ct _ _ sig b true _ hx hg).mono ?_
    rintro e w2 ⟨rfl, hb⟩
    have BA := BA.below hb
    have acc := acc.below hb
    have hs := Nat.le_trans hs hb.size
    have hb := bthen hA hb
    obtain ⟨mm, hmm⟩ := least_all (meetB b) b.nodes.length
    have HM : Hid (Least (meetB b) b.nodes.length mm) := hmm
    have q := BA.cell
    clear hA hx hg h hmm
    go_wp2_with fail
    clear q
    go_loopw [6, 8] (fun o i W => ∃ k : Nat, k ≤ b.nodes.length ∧ i = .int .i64 k ∧ Below w.heap.size w W ∧ w.heap.size + 1 ≤ W.heap.size ∧ Box W w.heap.size #[.int .i64 b.roots, .slice a1 b.nodes.length c1, .slice a2 b.sites.length c2, .int .i64 b.edges, .slice a3 b.outer.length c3, .slice a4 b.inner.length c4] 43 ∧ ∃ g cv, o = .slice (some ⟨g, 0, none⟩) k cv ∧ Acc W (w.heap.size + 1) 3 1 o (intRows (idxZ k))) (fun _ i _ => b.nodes.length - (intOf i).toNat)
    case atStart => exact ⟨0, Nat.zero_le _, rfl, hb, hs, BA, _, _, rfl, acc⟩
    case round =>
      clear hb hs BA acc
      obtain ⟨k, hk, rfl, hb, hs, BA, g, cv, rfl, acc⟩ := hrel
      have HL : Hid ((intRows (idxZ k)).length = k) := by show _ = _; simp [intRows, idxZ]
      by_cases hlt : k < b.nodes.length
      · have HT : Hid (intRows (idxZ (k + 1)) = intRows (idxZ k) ++ [[.int .i64 k]]) := by show _ = _; rw [idxZ_snoc]; simp [intRows]
        have q := BA.cell
        go_wp2_with (at_builtin; refine app1g _ _ rfl (.tmp 26) (.tmp 28) 30 rfl (w.heap.size + 1) 3 1 8 (.int .i64 0) Tryd.underlying30 inf_int rfl (by decide) (by decide) _ (intRows (idxZ k)) (by rfl) acc [.int .i64 k] _ rfl (by simp [Value.oneCell']) (by rfl) (by first | rfl | simp) (by rw [HL.out]; omega) hs ?_)
        intro g2 cc w3 acc2 hg
        rw [HL.out, ← HT.out] at acc2
        rw [HL.out]
        have hb2 := grown_below hb acc hg (by omega) (by omega)
        have hs2 : w.heap.size + 1 ≤ w3.heap.size := Nat.le_trans hs hg.size
        have BA2 := BA.keep (grown_block acc hg (by omega) BA.lt)
        clear acc hg BA hb hs q
        go_wp2_with fail
        go_roundw
        case rel => exact ⟨k + 1, by omega, by go_num, hb2, hs2, BA2, g2, cc, rfl, acc2⟩
        case measure => simp [intOf]; omega
      · have e : k = b.nodes.length := by omega
        subst e
        have hgB : w.heap.size + 1 ≤ g := (acc.1.lt g rfl).1
        have own : IntsOwn (w.heap.size + 1) wr (.slice (some ⟨g, 0, none⟩) b.nodes.length cv) (idxZ b.nodes.length) := ⟨acc.own, by rw [idxZ_len]; omega, fun x hx => by unfold idxZ at hx; obtain ⟨j, hj, rfl⟩ := List.mem_map.1 hx; have := List.mem_range.1 hj; unfold I64; omega⟩
        have HP0 : Hid (PartOk (meetB b) b.nodes.length (idxZ b.nodes.length)) := PartOk.idx
        clear acc HL
        go_wp2_with fail
        go_loopw [9] (fun r W => ∃ k : Nat, k ≤ b.nodes.length ∧ r = .int .i64 k ∧ ∃ o, Hid (PartOk (meetB b) b.nodes.length o ∧ bad mm b.nodes.length o ≤ b.nodes.length - k) ∧ Below w.heap.size w W ∧ Box W w.heap.size #[.int .i64 b.roots, .slice a1 b.nodes.length c1, .slice a2 b.sites.length c2, .int .i64 b.edges, .slice a3 b.outer.length c3, .slice a4 b.inner.length c4] 43 ∧ IntsOwn (w.heap.size + 1) W (.slice (some ⟨g, 0, none⟩) b.nodes.length cv) o) (fun r _ => b.nodes.length - (intOf r).toNat)
        case atStart => exact ⟨0, Nat.zero_le _, rfl, _, ⟨HP0.out, bad_le _ _ _⟩, hb, BA, own⟩
        case round =>
          clear hb BA own HP0
          obtain ⟨r, hr, rfl, o0, HR, hb, BA, own⟩ := hrel
          by_cases hrl : r < b.nodes.length
          · go_wp2_with fail
            go_loopw [10] (fun i W => ∃ i0 : Nat, i0 ≤ b.nodes.length ∧ i = .int .i64 i0 ∧ ∃ o, Hid (SpecSt (meetB b) b.nodes.length o0 o i0 0) ∧ Below w.heap.size w W ∧ Box W w.heap.size #[.int .i64 b.roots, .slice a1 b.nodes.length c1, .slice a2 b.sites.length c2, .int .i64 b.edges, .slice a3 b.outer.length c3, .slice a4 b.inner.length c4] 43 ∧ IntsOwn (w.heap.size + 1) W (.slice (some ⟨g, 0, none⟩) b.nodes.length cv) o) (fun i _ => b.nodes.length - (intOf i).toNat)
            case atStart => exact ⟨0, Nat.zero_le _, rfl, o0, ⟨HR.out.1, Below'.refl, fun i' k' _ _ hc => by omega⟩, hb, BA, own⟩
            case round =>
              clear hb BA own
              obtain ⟨i0, hi, rfl, o1, HS, hb, BA, own⟩ := hrel
              by_cases hil : i0 < b.nodes.length
              · go_wp2_with fail
                go_loopw [11] (fun i W => ∃ k0 : Nat, k0 ≤ b.nodes.length ∧ i = .int .i64 k0 ∧ ∃ o, Hid (SpecSt (meetB b) b.nodes.length o0 o i0 k0) ∧ Below w.heap.size w W ∧ Box W w.heap.size #[.int .i64 b.roots, .slice a1 b.nodes.length c1, .slice a2 b.sites.length c2, .int .i64 b.edges, .slice a3 b.outer.length c3, .slice a4 b.inner.length c4] 43 ∧ IntsOwn (w.heap.size + 1) W (.slice (some ⟨g, 0, none⟩) b.nodes.length cv) o) (fun i _ => b.nodes.length - (intOf i).toNat)
                case atStart => exact ⟨0, Nat.zero_le _, rfl, o1, HS, hb, BA, own⟩
                case round =>
                  clear hb BA own HS
                  obtain ⟨k0, hk0, rfl, o, HS, hb, BA, own⟩ := hrel
                  by_cases hkl : k0 < b.nodes.length
                  · obtain ⟨xi, hxi, exi, lxi⟩ := HS.out.1.ints i0 hil
                    obtain ⟨xk, hxk, exk, lxk⟩ := HS.out.1.ints k0 hkl
                    obtain ⟨m, hm⟩ := getElem?_of_lt hil
                    obtain ⟨n, hn⟩ := getElem?_of_lt hkl
                    have hN0 : 0 < b.nodes.length := by omega
                    have hol : o.length = b.nodes.length := HS.out.1.1
                    have hcall : ∀ W, Below w.heap.size w W → ∀ r, meetL m.links n.links = r → Calls Tryd.prog 63 #[.agg #[.int .i64 b.roots, .slice a1 b.nodes.length c1, .slice a2 b.sites.length c2, .int .i64 b.edges, .slice a3 b.outer.length c3, .slice a4 b.inner.length c4], .int .i64 i0, .int .i64 k0] W fun e w' => e = .returned (.bool r) ∧ Below W.heap.size W w' := fun W hW r hr => l2Meet_ct _ b i0 k0 m n r W (HBG.out.below hW) hm hn h8 hr
                    have HCL := Lib.hid hcall
                    have HMT : Hid (meetB b i0 k0 = meetL m.links n.links) := meetB_eq hm hn
                    have gk := own.cellAt hxk
                    have gi := own.cellAt hxi
                    have gK := fun z => gr_cell (w := wr) gk z
                    have gI := fun z => gr_cell (w := wr) gi z
                    have EI : Hid (atI o i0 = (xi : Int)) := exi
                    have EK : Hid (atI o k0 = (xk : Int)) := exk
                    have HOL : Hid (o.length = b.nodes.length) := hol
                    have gA0 := fun y => gr_cell (w := wr) (BA.cell 0) y
                    have gA1 := fun y => gr_cell (w := wr) (BA.cell 1) y
                    have gA2 := fun y => gr_cell (w := wr) (BA.cell 2) y
                    have gA3 := fun y => gr_cell (w := wr) (BA.cell 3) y
                    have gA4 := fun y => gr_cell (w := wr) (BA.cell 4) y
                    have gA5 := fun y => gr_cell (w := wr) (BA.cell 5) y
                    clear hm hn hxi hxk gk gi exi exk hcall hol
                    cases hme : meetL m.links n.links with
                    | false =>
                      have HS2 : Hid (SpecSt (meetB b) b.nodes.length o0 o i0 (k0 + 1)) := HS.out.skip hkl (fun hm => by rw [HMT.out, hme] at hm; cases hm)
                      go_wp2_with fail
                      refine wp_region_gr (by kernel_rfl) (by kernel_rfl) ?_
                      repeat (go_big_quiet_step ((go_at_call 63; exact Calls.gr_of (HCL.out _ (bthen hb (gr_below _ _)) false hme))))
                      refine wpQuiet_nil ?_
                      intro w2 hb2
                      have BA := BA.below hb2
                      have own := own.keep (keep_below hb2 (fun p hp => (own.lt p hp).2))
                      have hb := bthen hb hb2
                      clear gA0 gA1 gA2 gA3 gA4 gA5 gK gI hb2 HS
                      go_wp2_with fail
                      go_roundw
                      case rel => exact ⟨k0 + 1, by omega, by go_num, _, HS2, hb, BA, own⟩
                      case measure => simp [intOf]; omega
                    | true =>
                      by_cases hlt2 : (xk : Int) < (xi : Int)
                      · have HS2 : Hid (SpecSt (meetB b) b.nodes.length o0 (o.set i0 (xk : Int)) i0 (k0 + 1)) := by have := HS.out.put hil hkl (by rw [HMT.out, hme]) (by rw [EI.out, EK.out]; omega); rwa [EK.out] at this
                        go_wp2_with fail
                        refine wp_region_gr (by kernel_rfl) (by kernel_rfl) ?_
                        repeat (go_big_quiet_step ((go_at_call 63; exact Calls.gr_of (HCL.out _ (bthen hb (gr_below _ _)) true hme))))
                        refine wpQuiet_nil ?_
                        intro w2 hb2
                        have BA := BA.below hb2
                        have own := own.keep (keep_below hb2 (fun p hp => (own.lt p hp).2))
                        have hb := bthen hb hb2
                        clear gA0 gA1 gA2 gA3 gA4 gA5 gK gI hb2 HS
                        have hxk : o[k0]? = some (xk : Int) := by obtain ⟨z, hz⟩ := getElem?_of_lt (show k0 < o.length by rw [HOL.out]; exact hkl); rw [hz]; have := atI_of hz; rw [EK.out] at this; rw [← this]
                        have hxi : o[i0]? = some (xi : Int) := by obtain ⟨z, hz⟩ := getElem?_of_lt (show i0 < o.length by rw [HOL.out]; exact hil); rw [hz]; have := atI_of hz; rw [EI.out] at this; rw [← this]
                        have gk := own.cellAt hxk
                        have gi := own.cellAt hxi
                        have gf := own.1.free hN0 i0
                        clear hxk hxi
                        go_wp2_with fail
                        go_roundw
                        case rel => exact ⟨k0 + 1, by omega, by go_num, _, HS2, hb.setCell (by show _ ≤ g; omega) _, BA.other _ (by show w.heap.size ≠ g; omega), own.put (by rw [HOL.out]; exact hil) (by unfold I64; omega)⟩
                        case measure => simp [intOf]; omega
                      · have HS2 : Hid (SpecSt (meetB b) b.nodes.length o0 o i0 (k0 + 1)) := HS.out.skip hkl (fun _ => by rw [EI.out, EK.out]; omega)
                        go_wp2_with fail
                        refine wp_region_gr (by kernel_rfl) (by kernel_rfl) ?_
                        repeat (go_big_quiet_step ((go_at_call 63; exact Calls.gr_of (HCL.out _ (bthen hb (gr_below _ _)) true hme))))
                        refine wpQuiet_nil ?_
                        intro w2 hb2
                        have BA := BA.below hb2
                        have own := own.keep (keep_below hb2 (fun p hp => (own.lt p hp).2))
                        have hb := bthen hb hb2
                        clear gA0 gA1 gA2 gA3 gA4 gA5 gK gI hb2 HS
                        go_wp2_with fail
                        go_roundw
                        case rel => exact ⟨k0 + 1, by omega, by go_num, _, HS2, hb, BA, own⟩
                        case measure => simp [intOf]; omega
                  · have e : k0 = b.nodes.length := by omega
                    subst e
                    have HS2 : Hid (SpecSt (meetB b) b.nodes.length o0 o (i0 + 1) 0) := ⟨HS.out.1, HS.out.2.1, HS.out.2.2.row⟩
                    clear HS
                    go_wp2_with fail
                    go_roundw
                    case rel => exact ⟨i0 + 1, by omega, by go_num, _, HS2, hb, BA, own⟩
                    case measure => simp [intOf]; omega
              · have e : i0 = b.nodes.length := by omega
                subst e
                have HR2 : Hid (PartOk (meetB b) b.nodes.length o1 ∧ bad mm b.nodes.length o1 ≤ b.nodes.length - (r + 1)) := ⟨HS.out.1, by
                  have h1 := bad_round (meetB_symm b) HM.out HR.out.1 HS.out.1 HS.out.2.1 HS.out.2.2
                  have h2 := HR.out.2
                  omega⟩
                clear HS HR
                go_wp2_with fail
                go_roundw
                case rel => exact ⟨r + 1, by omega, by go_num, _, HR2, hb, BA, own⟩
                case measure => simp [intOf]; omega
          · have e : r = b.nodes.length := by omega
            subst e
            have HE : Hid (o0 = partsOf b) := by
              have h1 := HR.out.2
              exact partsOf_eq (isParts_of_bad HM.out HR.out.1 (by omega))
            go_wp2_with fail
            go_ret2
            exact ⟨_, rfl, by rw [← HE.out]; exact own.mono (by omega), hb⟩

theorem sContI_ct (v : Value) (l : List Int) (x : Int) (w : World) (h : IntsAt w v l) : Calls Tryd.prog 66 #[v, .int .i64 x] w fun e w' => e = .returned (.bool (l.contains x)) ∧ w' = w := by
  obtain ⟨a, c, rfl, _, hl, h3⟩ := h.open
  cases hl0 : l with
  | nil => exact Tryd.slices_Contains_int_empty a c x w
  | cons s l' =>
    rw [← hl0]
    obtain ⟨_, b, o, rfl, _⟩ := h3 0 s (by rw [hl0]; rfl)
    refine (Tryd.slices_Contains_int b o l.length c l x w (Nat.le_refl _) (by omega) (fun j hj => ?_)).mono ?_
    · obtain ⟨y, hy⟩ := getElem?_of_lt hj
      obtain ⟨_, b', o', e', hc⟩ := h3 j y hy
      obtain ⟨rfl, rfl⟩ : b = b' ∧ o = o' := by simpa using e'
      rw [hc, List.getD_eq_getElem?_getD, hy]; rfl
    · rintro e w ⟨rfl, rfl⟩
      rw [List.take_length]; exact ⟨rfl, rfl⟩
set_option maxHeartbeats 1000000 in
theorem partCl_ct (G : Nat) (lv : Value) (l : List Int) (x : Int) (r : Bool) (hr : l.contains x = r) (w : World) (hc : w.cell? ⟨G, 2, none⟩ = some lv) (h : IntsAt w lv l) : Calls Tryd.prog 65 #[.int .i64 x, .pointer (some ⟨G, 0, none⟩)] w fun e w' => e = .returned (.bool r) ∧ Below w.heap.size w w' := by
  have HV : Hid (IntsAt w lv l) := h
  have HR : Hid (l.contains x = r) := hr
  clear h hr
  go_enter Tryd.func65, Tryd.ntmps65
  go_wp2_with fail
  refine (sContI_ct _ l x _ HV.out).mono ?_
  rintro e w2 ⟨rfl, rfl⟩
  rw [HR.out]
  go_wp2_with fail
  go_ret
  exact ⟨rfl, Below.refl _ _⟩

set_option maxRecDepth 100000 in
set_option maxHeartbeats 8000000 in
theorem implLinkParts_ct (vs v : Value) (sig : List Ctl) (b : Big) (w : World) (h : Ctx w vs v sig b) : Calls Tryd.prog 23 #[vs, v] w (GivesInts (partR sig b) (goodB sig b) w) := by
  obtain ⟨a1, c1, a2, c2, a3, c3, a4, c4, rfl⟩ := h.big.shape
  have hA := balloc w (.cells #[.int .i64 b.roots, .slice a1 b.nodes.length c1, .slice a2 b.sites.length c2, .int .i64 b.edges, .slice a3 b.outer.length c3, .slice a4 b.inner.length c4] 43)
  have hx := h.below hA
  obtain ⟨W0, hW0⟩ : ∃ W, W = w.alloc (.cells #[.int .i64 b.roots, .slice a1 b.nodes.length c1, .slice a2 b.sites.length c2, .int .i64 b.edges, .slice a3 b.outer.length c3, .slice a4 b.inner.length c4] 43) := ⟨_, rfl⟩
  have BA : Box W0 w.heap.size #[.int .i64 b.roots, .slice a1 b.nodes.length c1, .slice a2 b.sites.length c2, .int .i64 b.edges, .slice a3 b.outer.length c3, .slice a4 b.inner.length c4] 43 := by rw [hW0]; exact Box.new _ _ _
  rw [← hW0] at hA hx
  cases hg : goodB sig b with
  | false =>
    have HN : Hid (partR sig b = []) := by show _ = _; unfold partR; rw [hg]; rfl
    rw [HN.out]
    go_enter Tryd.func23, Tryd.ntmps23
    go_wp2_with fail
    rw [← hW0]
    clear hW0
    refine (implIsBigraph_ct _ _ sig b false _ hx hg).mono ?_
    rintro e w2 ⟨rfl, hb⟩
    have hb := bthen hA hb
    go_wp2_with fail
    go_ret2
    exact ⟨_, rfl, ints_none _ _, hb⟩
  | true =>
    have hG := good_of hg
    have h8 := hG.nodes
    have HN : Hid (partR sig b = partsOf b) := by show _ = _; unfold partR; rw [hg]; rfl
    have HBG : Hid (BigAt w (.agg #[.int .i64 b.roots, .slice a1 b.nodes.length c1, .slice a2 b.sites.length c2, .int .i64 b.edges, .slice a3 b.outer.length c3, .slice a4 b.inner.length c4]) b) := h.big
    rw [HN.out]
    clear hG
    go_enter Tryd.func23, Tryd.ntmps23
    go_wp2_with fail
    rw [← hW0]
    clear hW0
    refine (implIsBigraph_ct _ _ sig b true _ hx hg).mono ?_
    rintro e w2 ⟨rfl, hb⟩
    have BA := BA.below hb
    have hb := bthen hA hb
    obtain ⟨_, _, _, _, _, _, _, _, e0, hnds, _, _, _, _, _⟩ := HBG.out.parts
    simp only [Value.agg.injEq, Array.mk.injEq, List.cons.injEq, and_true, true_and, Value.slice.injEq] at e0
    obtain ⟨⟨rfl, rfl⟩, _⟩ := e0
    obtain ⟨_, _, e1, _, _, n3⟩ := hnds.open
    obtain ⟨rfl, rfl⟩ := (by simpa using e1 : a1 = _ ∧ c1 = _)
    have N3 : Hid _ := n3
    have E1 : Hid (∀ args w, (callFunc 65 args).run Tryd.prog w = .ok (.enter 65 args) w) := fun _ _ => rfl
    have hz2 : w.heap.size + 1 ≤ w2.heap.size := BA.lt
    have BA := BA.alloc (.cells #[] 3)
    have q := BA.cell
    clear hA hx hg h hnds e1 n3
    go_wp2_with fail
    obtain ⟨W1, hW1⟩ : ∃ W, W = w2.alloc (.cells #[] 3) := ⟨_, rfl⟩
    have acc : Acc W1 (w.heap.size + 1) 3 1 (.slice (some ⟨w2.heap.size, 0, none⟩) 0 0) (intRows (idxZ 0)) := by
      rw [hW1]; simpa [intRows, idxZ] using Acc.lit0 w2 (w.heap.size + 1) 3 1 hz2
    have hb := bthen hb (balloc w2 (.cells #[] 3))
    have hs : w.heap.size + 1 ≤ W1.heap.size := by rw [hW1]; exact BA.lt
    rw [← hW1] at hb BA ⊢
    clear hW1 q
    go_loopw [6, 7, 21] (fun o _ i W => ∃ k : Nat, k ≤ b.nodes.length ∧ i = .int .i64 k ∧ Below w.heap.size w W ∧ w.heap.size + 1 ≤ W.heap.size ∧ Box W w.heap.size #[.int .i64 b.roots, .slice a1 b.nodes.length c1, .slice a2 b.sites.length c2, .int .i64 b.edges, .slice a3 b.outer.length c3, .slice a4 b.inner.length c4] 43 ∧ ∃ g cv, o = .slice (some ⟨g, 0, none⟩) k cv ∧ Acc W (w.heap.size + 1) 3 1 o (intRows (idxZ k))) (fun _ _ i _ => b.nodes.length - (intOf i).toNat)
    case atStart => exact ⟨0, Nat.zero_le _, rfl, hb, hs, BA, _, _, rfl, acc⟩
    case round =>
      clear hb hs BA acc
      obtain ⟨k, hk, rfl, hb, hs, BA, g, cv, rfl, acc⟩ := hrel
      have HL : Hid ((intRows (idxZ k)).length = k) := by show _ = _; simp [intRows, idxZ]
      by_cases hlt : k < b.nodes.length
      · have HT : Hid (intRows (idxZ (k + 1)) = intRows (idxZ k) ++ [[.int .i64 k]]) := by show _ = _; rw [idxZ_snoc]; simp [intRows]
        have q := BA.cell
        go_wp2_with (at_builtin; refine app1g _ _ rfl (.tmp 24) (.tmp 26) 30 rfl (w.heap.size + 1) 3 1 8 (.int .i64 0) Tryd.underlying30 inf_int rfl (by decide) (by decide) _ (intRows (idxZ k)) (by rfl) acc [.int .i64 k] _ rfl (by simp [Value.oneCell']) (by rfl) (by first | rfl | simp) (by rw [HL.out]; omega) hs ?_)
        intro g2 cc w3 acc2 hg
        rw [HL.out, ← HT.out] at acc2
        rw [HL.out]
        have hb2 := grown_below hb acc hg (by omega) (by omega)
        have hs2 : w.heap.size + 1 ≤ w3.heap.size := Nat.le_trans hs hg.size
        have BA2 := BA.keep (grown_block acc hg (by omega) BA.lt)
        clear acc hg BA hb hs q
        go_wp2_with fail
        go_roundw
        case rel => exact ⟨k + 1, by omega, by go_num, hb2, hs2, BA2, g2, cc, rfl, acc2⟩
        case measure => simp [intOf]; omega
      · have e : k = b.nodes.length := by omega
        subst e
        have hgB : w.heap.size + 1 ≤ g := (acc.1.lt g rfl).1
        have own : IntsOwn (w.heap.size + 1) wr (.slice (some ⟨g, 0, none⟩) b.nodes.length cv) (idxZ b.nodes.length) := ⟨acc.own, by rw [idxZ_len]; omega, fun x hx => by unfold idxZ at hx; obtain ⟨j, hj, rfl⟩ := List.mem_map.1 hx; have := List.mem_range.1 hj; unfold I64; omega⟩
        have HP0 : Hid (PartOk (meetB b) b.nodes.length (idxZ b.nodes.length)) := PartOk.idx
        clear acc HL
        have q := BA.cell
        go_wp2_with fail
        clear q
        go_loopw [8] (fun c W => ∃ (cb : Bool), ∃ o, c = .bool cb ∧ Hid (PartOk (meetB b) b.nodes.length o ∧ (cb = false → IsParts (meetB b) b.nodes.length o)) ∧ Below w.heap.size w W ∧ Box W w.heap.size #[.int .i64 b.roots, .slice a1 b.nodes.length c1, .slice a2 b.sites.length c2, .int .i64 b.edges, .slice a3 b.outer.length c3, .slice a4 b.inner.length c4] 43 ∧ IntsOwn (w.heap.size + 1) W (.slice (some ⟨g, 0, none⟩) b.nodes.length cv) o) (fun c W => 2 * sumI (readI W g b.nodes.length) + (match c with | .bool true => 1 | _ => 0))
        case atStart => exact ⟨true, _, rfl, ⟨HP0.out, fun h => (by cases h)⟩, hb, BA, own⟩
        case round =>
          clear hb BA own HP0
          obtain ⟨cb, o0, rfl, HR, hb, BA, own⟩ := hrel
          cases cb with
          | false =>
            have HE : Hid (o0 = partsOf b) := partsOf_eq (HR.out.2 rfl)
            go_wp2_with fail
            go_ret2
            exact ⟨_, rfl, by rw [← HE.out]; exact own.mono (by omega), hb⟩
          | true =>
            have HRD : Hid (readI wr g b.nodes.length = o0) := readI_own own HR.out.1.1
            have q := BA.cell
            go_wp2_with fail
            clear q
            go_loopw [8, 33] (fun c i W => ∃ (cb : Bool) (i0 : Nat), ∃ o, i0 ≤ b.nodes.length ∧ i = .int .i64 i0 ∧ c = .bool cb ∧ Hid (ImplSt (meetB b) b.nodes.length o0 cb o i0 0) ∧ Below w.heap.size w W ∧ Box W w.heap.size #[.int .i64 b.roots, .slice a1 b.nodes.length c1, .slice a2 b.sites.length c2, .int .i64 b.edges, .slice a3 b.outer.length c3, .slice a4 b.inner.length c4] 43 ∧ IntsOwn (w.heap.size + 1) W (.slice (some ⟨g, 0, none⟩) b.nodes.length cv) o) (fun _ i _ => b.nodes.length - (intOf i).toNat)
            case atStart => exact ⟨false, 0, o0, Nat.zero_le _, rfl, rfl, ImplSt.start HR.out.1, hb, BA, own⟩
            case round =>
              clear hb BA own
              obtain ⟨c1b, i0, o1, hi, rfl, rfl, HS, hb, BA, own⟩ := hrel
              by_cases hil : i0 < b.nodes.length
              · obtain ⟨m, hm⟩ := getElem?_of_lt hil
                obtain ⟨_, _, bk, om, um, e2, hum, hc0, hc1, hc2⟩ := N3.out i0 m hm
                obtain ⟨am, cm, rfl, _, _, _⟩ := id hum.open
                have HUM : Hid (IntsAt w (.slice am m.links.length cm) m.links) := hum
                obtain rfl : a1 = some ⟨bk, om, none⟩ := e2
                have HM' : Hid (b.nodes[i0]? = some m) := hm
                have m0 := (hb.cell (World.block_lt_of_cell? w _ hc0)).trans hc0
                have m1 := (hb.cell (World.block_lt_of_cell? w _ hc1)).trans hc1
                have m2 := (hb.cell (World.block_lt_of_cell? w _ hc2)).trans hc2
                have ball := balloc wr (.cells #[.int .i64 m.ctl, .int .i64 m.par, .slice am m.links.length cm] 78)
                have BA1 := BA.below ball
                have q := BA.cell
                have q1 := BA1.cell
                clear hm hum hc0 hc1 hc2
                go_wp2_with fail
                clear q q1 m0 m1 m2
                obtain ⟨G1, hG1⟩ : ∃ G, G = wr.heap.size := ⟨_, rfl⟩
                obtain ⟨W2, hW2⟩ : ∃ W, W = wr.alloc (.cells #[.int .i64 m.ctl, .int .i64 m.par, .slice am m.links.length cm] 78) := ⟨_, rfl⟩
                have BM : Box W2 G1 #[.int .i64 m.ctl, .int .i64 m.par, .slice am m.links.length cm] 78 := by rw [hW2, hG1]; exact Box.new _ _ _
                have hb := bthen hb ball
                have hgG : g < G1 := by rw [hG1]; exact own0lt own (by omega)
                have own := own.keep (keep_below ball (fun p hp => (own.lt p hp).2))
                rw [← hW2] at BA1 hb own
                rw [← hW2, ← hG1]
                clear hW2 hG1 ball BA
                go_loopw [8, 41] (fun c i W => ∃ (cb : Bool) (k0 : Nat), ∃ o, k0 ≤ b.nodes.length ∧ i = .int .i64 k0 ∧ c = .bool cb ∧ Hid (ImplSt (meetB b) b.nodes.length o0 cb o i0 k0) ∧ Box W G1 #[.int .i64 m.ctl, .int .i64 m.par, .slice am m.links.length cm] 78 ∧ Below w.heap.size w W ∧ Box W w.heap.size #[.int .i64 b.roots, .slice (some ⟨bk, om, none⟩) b.nodes.length c1, .slice a2 b.sites.length c2, .int .i64 b.edges, .slice a3 b.outer.length c3, .slice a4 b.inner.length c4] 43 ∧ IntsOwn (w.heap.size + 1) W (.slice (some ⟨g, 0, none⟩) b.nodes.length cv) o) (fun _ i _ => b.nodes.length - (intOf i).toNat)
                case atStart => exact ⟨c1b, 0, o1, Nat.zero_le _, rfl, rfl, HS, BM, hb, BA1, own⟩
                case round =>
                  clear hb BA1 own BM HS
                  obtain ⟨c2b, k0, o, hk0, rfl, rfl, HS, BM, hb, BA, own⟩ := hrel
                  by_cases hkl : k0 < b.nodes.length
                  · obtain ⟨xi, hxi, exi, lxi⟩ := HS.out.1.ints i0 hil
                    obtain ⟨xk, hxk, exk, lxk⟩ := HS.out.1.ints k0 hkl
                    obtain ⟨n, hn⟩ := getElem?_of_lt hkl
                    obtain ⟨_, _, bk2, on, un, e2, hun, hc0, hc1, hc2⟩ := N3.out k0 n hn
                    obtain ⟨rfl, rfl⟩ : bk = bk2 ∧ om = on := by simpa using e2
                    obtain ⟨an, cn, rfl, _, _, _⟩ := id hun.open
                    have HUN : Hid (IntsAt w (.slice an n.links.length cn) n.links) := hun
                    have hN0 : 0 < b.nodes.length := by omega
                    have hol : o.length = b.nodes.length := HS.out.1.1
                    have HOL : Hid (o.length = b.nodes.length) := hol
                    have HMT : Hid (meetB b i0 k0 = meetL m.links n.links) := meetB_eq HM'.out hn
                    have EI : Hid (atI o i0 = (xi : Int)) := exi
                    have EK : Hid (atI o k0 = (xk : Int)) := exk
                    have m0 := (hb.cell (World.block_lt_of_cell? w _ hc0)).trans hc0
                    have m1 := (hb.cell (World.block_lt_of_cell? w _ hc1)).trans hc1
                    have m2 := (hb.cell (World.block_lt_of_cell? w _ hc2)).trans hc2
                    have ball := balloc wr (.cells #[.int .i64 n.ctl, .int .i64 n.par, .slice an n.links.length cn] 78)
                    have BA1 := BA.below ball
                    have BM1 := BM.below ball
                    have q := BA.cell
                    clear hn hun hc0 hc1 hc2 hol exi exk e2
                    go_wp2_with fail
                    clear q m0 m1 m2
                    obtain ⟨G2, hG2⟩ : ∃ G, G = wr.heap.size := ⟨_, rfl⟩
                    obtain ⟨W3, hW3⟩ : ∃ W, W = wr.alloc (.cells #[.int .i64 n.ctl, .int .i64 n.par, .slice an n.links.length cn] 78) := ⟨_, rfl⟩
                    have BN : Box W3 G2 #[.int .i64 n.ctl, .int .i64 n.par, .slice an n.links.length cn] 78 := by rw [hW3, hG2]; exact Box.new _ _ _
                    have hb := bthen hb ball
                    have own := own.keep (keep_below ball (fun p hp => (own.lt p hp).2))
                    rw [← hW3] at BA1 BM1 hb own
                    rw [← hW3, ← hG2]
                    clear hW3 hG2 ball BA BM
                    have gK := fun z => gr_cell (w := W3) (own.cellAt hxk) z
                    have gI := fun z => gr_cell (w := W3) (own.cellAt hxi) z
                    have gM := fun z => gr_cell (w := W3) (BM1.cell 2) z
                    clear hxi hxk
                    by_cases hlt2 : (xi : Int) < (xk : Int)
                    · cases hme : meetL m.links n.links with
                      | false =>
                        have HS2 : Hid (ImplSt (meetB b) b.nodes.length o0 c2b o i0 (k0 + 1)) := HS.out.skip (fun hm => by rw [HMT.out, hme] at hm; cases hm)
                        refine wp_region_gr (by kernel_rfl) (by kernel_rfl) ?_
                        repeat (go_big_quiet_step ((go_at_call 64; exact Calls.gr_of (contInt_ct 65 #[.pointer (some ⟨G2, 0, none⟩)] E1.out (fun x => n.links.contains x) _ m.links false _ (HUM.out.below (bthen hb (gr_below _ _))) (fun x _ W hW => by rw [app2]; exact partCl_ct G2 (.slice an n.links.length cn) n.links x _ rfl W (((BN.gr _).below hW).cell 2) (HUN.out.below (bthen (bthen hb (gr_below _ _)) hW))) hme))))
                        refine wpQuiet_nil ?_
                        intro w4 hb4
                        have BA := BA1.below hb4
                        have BM := BM1.below hb4
                        have own := own.keep (keep_below hb4 (fun p hp => (own.lt p hp).2))
                        have hb := bthen hb hb4
                        clear gK gI gM hb4 HS BN BA1 BM1
                        go_wp2_with fail
                        go_roundw
                        case rel => exact ⟨c2b, k0 + 1, _, by omega, by go_num, rfl, HS2, BM, hb, BA, own⟩
                        case measure => simp [intOf]; omega
                      | true =>
                        have HS2 : Hid (ImplSt (meetB b) b.nodes.length o0 true (o.set k0 (xi : Int)) i0 (k0 + 1)) := by have := HS.out.put (meetB_symm b) hil hkl (by rw [HMT.out, hme]) (by rw [EI.out, EK.out]; omega); rwa [EI.out] at this
                        refine wp_region_gr (by kernel_rfl) (by kernel_rfl) ?_
                        repeat (go_big_quiet_step ((go_at_call 64; exact Calls.gr_of (contInt_ct 65 #[.pointer (some ⟨G2, 0, none⟩)] E1.out (fun x => n.links.contains x) _ m.links true _ (HUM.out.below (bthen hb (gr_below _ _))) (fun x _ W hW => by rw [app2]; exact partCl_ct G2 (.slice an n.links.length cn) n.links x _ rfl W (((BN.gr _).below hW).cell 2) (HUN.out.below (bthen (bthen hb (gr_below _ _)) hW))) hme))))
                        refine wpQuiet_nil ?_
                        intro w4 hb4
                        have BA := BA1.below hb4
                        have BM := BM1.below hb4
                        have own := own.keep (keep_below hb4 (fun p hp => (own.lt p hp).2))
                        have hb := bthen hb hb4
                        clear gK gI gM hb4 HS BN BA1 BM1
                        have hxk : o[k0]? = some (xk : Int) := by obtain ⟨z, hz⟩ := getElem?_of_lt (show k0 < o.length by rw [HOL.out]; exact hkl); rw [hz]; have := atI_of hz; rw [EK.out] at this; rw [← this]
                        have hxi : o[i0]? = some (xi : Int) := by obtain ⟨z, hz⟩ := getElem?_of_lt (show i0 < o.length by rw [HOL.out]; exact hil); rw [hz]; have := atI_of hz; rw [EI.out] at this; rw [← this]
                        have gk := own.cellAt hxk
                        have gi := own.cellAt hxi
                        have gf := own.1.free hN0 k0
                        clear hxk hxi
                        go_wp2_with fail
                        go_roundw
                        case rel => exact ⟨true, k0 + 1, _, by omega, by go_num, rfl, HS2, BM.other _ (by show G1 ≠ g; omega), hb.setCell (by show _ ≤ g; omega) _, BA.other _ (by show w.heap.size ≠ g; omega), own.put (by rw [HOL.out]; exact hkl) (by unfold I64; omega)⟩
                        case measure => simp [intOf]; omega
                    · have HS2 : Hid (ImplSt (meetB b) b.nodes.length o0 c2b o i0 (k0 + 1)) := HS.out.skip (fun _ => by rw [EI.out, EK.out]; omega)
                      refine wp_region_gr (by kernel_rfl) (by kernel_rfl) ?_
                      repeat (go_big_quiet_step (fail))
                      refine wpQuiet_nil ?_
                      intro w4 hb4
                      have BA := BA1.below hb4
                      have BM := BM1.below hb4
                      have own := own.keep (keep_below hb4 (fun p hp => (own.lt p hp).2))
                      have hb := bthen hb hb4
                      clear gK gI gM hb4 HS BN BA1 BM1
                      go_wp2_with fail
                      go_roundw
                      case rel => exact ⟨c2b, k0 + 1, _, by omega, by go_num, rfl, HS2, BM, hb, BA, own⟩
                      case measure => simp [intOf]; omega
                  · have e : k0 = b.nodes.length := by omega
                    subst e
                    have HS2 : Hid (ImplSt (meetB b) b.nodes.length o0 c2b o (i0 + 1) 0) := HS.out.row
                    clear HS
                    have q := BA.cell
                    go_wp2_with fail
                    go_roundw
                    case rel => exact ⟨c2b, i0 + 1, o, by omega, by go_num, rfl, HS2, hb, BA, own⟩
                    case measure => simp [intOf]; omega
              · have e : i0 = b.nodes.length := by omega
                subst e
                have HRW : Hid (readI wr g b.nodes.length = o1) := readI_own own HS.out.1.1
                cases c1b with
                | true =>
                  have HQ : Hid (PartOk (meetB b) b.nodes.length o1 ∧ (true = false → IsParts (meetB b) b.nodes.length o1)) := ⟨HS.out.1, fun h => (by cases h)⟩
                  have hlt := HS.out.2.2 rfl
                  clear HS
                  go_wp2_with fail
                  go_roundw
                  case rel => exact ⟨true, o1, rfl, HQ, hb, BA, own⟩
                  case measure => rw [HRD.out, HRW.out]; simp; omega
                | false =>
                  have HQ : Hid (PartOk (meetB b) b.nodes.length o1 ∧ (false = false → IsParts (meetB b) b.nodes.length o1)) := ⟨HS.out.1, fun _ => HS.out.parts (meetB_symm b)⟩
                  have heq := (HS.out.2.1 rfl).1
                  clear HS
                  go_wp2_with fail
                  go_roundw
                  case rel => exact ⟨false, o1, rfl, HQ, hb, BA, own⟩
                  case measure => rw [HRD.out, HRW.out, heq]; simp
end Go.Proofs.YtjkebiodabheiaaDoor
