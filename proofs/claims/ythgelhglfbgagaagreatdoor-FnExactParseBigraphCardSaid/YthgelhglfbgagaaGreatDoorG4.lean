/- Several texts in one: Find Sig Under Law0 Law1 Inner. -/
import Derived.Test.YthgelhglfbgagaaGreatDoorG2
import Derived.Shelf.Abstract
import Derived.Test.YthgelhglfbgagaaGreatDoorG1
set_option linter.unusedVariables false
/- slices.IndexFunc and slices.ContainsFunc at a function value that reads and may lay blocks of its own. -/
namespace Go.Proofs.YthgelhglfbgagaaGreatDoor
open Go Go.RowKit Go.BigFrame

theorem app2 (a b : Value) : (#[a] ++ #[b] : Array Value) = #[a, b] := rfl
theorem app3 (a b c : Value) : (#[a] ++ #[b, c] : Array Value) = #[a, b, c] := rfl
def idxI {α : Type} (p : α → Bool) (l : List α) : Int := if l.any p then (l.findIdx p : Int) else -1
theorem idxI_hit {α : Type} {p : α → Bool} {l : List α} {k : Nat} {x : α} (ha : (l.take k).any p = false) (hx : l[k]? = some x) (hp : p x = true) : idxI p l = k := by
  obtain ⟨hk, rfl⟩ := List.getElem?_eq_some_iff.1 hx
  unfold idxI
  rw [if_pos (List.any_eq_true.2 ⟨_, List.getElem_mem hk, hp⟩)]
  congr 1
  rw [List.findIdx_eq hk]
  refine ⟨hp, fun j hj => ?_⟩
  rw [List.any_eq_false] at ha
  have hjl : j < (l.take k).length := by simp; omega
  have := ha _ (List.getElem_mem hjl)
  simpa using this
theorem idxI_miss {α : Type} {p : α → Bool} {l : List α} (ha : l.any p = false) : idxI p l = -1 := by unfold idxI; rw [if_neg (by simp [ha])]
theorem any_snoc {α : Type} {p : α → Bool} {l : List α} {k : Nat} {x : α} (ha : (l.take k).any p = false) (hx : l[k]? = some x) (hp : p x = false) : (l.take (k + 1)).any p = false := by
  rw [take_snoc_l hx, List.any_append, ha]; simp [hp]
theorem any_full {α : Type} {p : α → Bool} {l : List α} {k : Nat} (hk : l.length ≤ k) (h : (l.take k).any p = false) : l.any p = false := by rwa [List.take_of_length_le hk] at h
theorem idxI_ge {α : Type} (p : α → Bool) (l : List α) : decide (idxI p l ≥ 0) = l.any p := by
  unfold idxI
  cases h : l.any p with
  | true => rw [if_pos rfl]; exact decide_eq_true (by omega)
  | false => simp

set_option maxHeartbeats 1000000 in
theorem idxCtl_ct (g : Nat) (lb : Array Value) (eg : ∀ args w, (callFunc g args).run Tryz.prog w = .ok (.enter g args) w) (p : Ctl → Bool) (v : Value) (l : List Ctl) (r : Int) (w : World) (h : CtlsAt w v l)
    (hp : ∀ x ∈ l, ∀ W, Below w.heap.size w W → Calls Tryz.prog g (#[.agg #[.string x.name, .int .i64 x.ports, .int .i64 x.kind]] ++ lb) W fun e w' => e = .returned (.bool (p x)) ∧ Below W.heap.size W w') (hr : idxI p l = r) :
    Calls Tryz.prog 118 #[v, .func (.func g) #[] lb] w fun e w' => e = .returned (.int .i64 r) ∧ Below w.heap.size w w' := by
  have HR : Hid (idxI p l = r) := hr
  have HP : Hid _ := hp
  clear hr hp
  obtain ⟨a, c, rfl, h1, h2, h3⟩ := h.open
  clear h
  go_enter Tryz.func118, Tryz.ntmps118
  go_wp2_with fail
  go_loopw [5, 8] (fun _ i W => ∃ k : Nat, k ≤ l.length ∧ i = .int .i64 k ∧ Below w.heap.size w W ∧ Hid ((l.take k).any p = false)) (fun _ i _ => l.length - (intOf i).toNat)
  case atStart => exact ⟨0, Nat.zero_le _, rfl, Below.refl _ _, (by show _ = _; simp)⟩
  case round =>
    obtain ⟨k, hk, rfl, hb, HA⟩ := hrel
    by_cases hlt : k < l.length
    · obtain ⟨x, hx⟩ := getElem?_of_lt hlt
      obtain ⟨_, _, _, b, o, rfl, hc0, hc1, hc2⟩ := h3 k x hx
      have g0 := (hb.cell (World.block_lt_of_cell? w _ hc0)).trans hc0
      have g1 := (hb.cell (World.block_lt_of_cell? w _ hc1)).trans hc1
      have g2 := (hb.cell (World.block_lt_of_cell? w _ hc2)).trans hc2
      have hcall := HP.out x (List.mem_of_getElem? hx) wr hb
      have HX : Hid (l[k]? = some x) := hx
      clear hc0 hc1 hc2 h3 hx
      cases hq : p x with
      | true =>
        rw [hq] at hcall
        have HN : Hid (r = k) := by rw [← HR.out]; exact idxI_hit HA.out HX.out hq
        clear hq
        go_wp2_with (go_at_fn g; refine hcall.mono ?_; rintro e w2 ⟨rfl, hb2⟩)
        have hb := bthen hb hb2
        go_ret
        exact ⟨ret_int HN.out.symm, hb⟩
      | false =>
        rw [hq] at hcall
        have HT : Hid ((l.take (k + 1)).any p = false) := any_snoc HA.out HX.out hq
        clear hq
        go_wp2_with (go_at_fn g; refine hcall.mono ?_; rintro e w2 ⟨rfl, hb2⟩)
        have hb := bthen hb hb2
        go_roundw
        case rel => exact ⟨k + 1, by omega, by go_num, hb, HT⟩
        case measure => simp [intOf]; omega
    · have HN : Hid (r = -1) := by rw [← HR.out]; exact idxI_miss (any_full (by omega) HA.out)
      clear h3
      go_wp2_with fail
      go_ret
      exact ⟨ret_int HN.out.symm, hb⟩
set_option maxHeartbeats 1000000 in
theorem contCtl_ct (g : Nat) (lb : Array Value) (eg : ∀ args w, (callFunc g args).run Tryz.prog w = .ok (.enter g args) w) (p : Ctl → Bool) (v : Value) (l : List Ctl) (r : Bool) (w : World) (h : CtlsAt w v l)
    (hp : ∀ x ∈ l, ∀ W, Below w.heap.size w W → Calls Tryz.prog g (#[.agg #[.string x.name, .int .i64 x.ports, .int .i64 x.kind]] ++ lb) W fun e w' => e = .returned (.bool (p x)) ∧ Below W.heap.size W w') (hr : l.any p = r) :
    Calls Tryz.prog 84 #[v, .func (.func g) #[] lb] w fun e w' => e = .returned (.bool r) ∧ Below w.heap.size w w' := by
  have hge := idxI_ge p l
  rw [hr] at hge
  have hc := fun W hb (h : CtlsAt W v l) => idxCtl_ct g lb eg p v l (idxI p l) W h (fun x hx W' hb' => hp x hx W' (Below.trans (a := w) hb (hb'.mono hb.size))) rfl
  have HC : Hid _ := hc
  obtain ⟨n, hn⟩ : ∃ n, n = idxI p l := ⟨_, rfl⟩
  rw [← hn] at hge
  have HN : Hid (n = idxI p l) := hn
  clear hr hc hp hn
  have HG : Hid (decide (n ≥ 0) = r) := hge
  clear hge
  go_enter Tryz.func84, Tryz.ntmps84
  go_wp2_with (go_at_call 118; refine (HC.out _ (Below.refl _ _) h).mono ?_; rintro e w2 ⟨rfl, hb⟩; rw [← HN.out])
  go_ret
  exact ⟨ret_bool (by rw [← HG.out]), hb⟩

set_option maxHeartbeats 1000000 in
theorem idxInt_ct (g : Nat) (lb : Array Value) (eg : ∀ args w, (callFunc g args).run Tryz.prog w = .ok (.enter g args) w) (p : Int → Bool) (v : Value) (l : List Int) (r : Int) (w : World) (h : IntsAt w v l)
    (hp : ∀ x ∈ l, ∀ W, Below w.heap.size w W → Calls Tryz.prog g (#[.int .i64 x] ++ lb) W fun e w' => e = .returned (.bool (p x)) ∧ Below W.heap.size W w') (hr : idxI p l = r) :
    Calls Tryz.prog 124 #[v, .func (.func g) #[] lb] w fun e w' => e = .returned (.int .i64 r) ∧ Below w.heap.size w w' := by
  have HR : Hid (idxI p l = r) := hr
  have HP : Hid _ := hp
  clear hr hp
  obtain ⟨a, c, rfl, h1, h2, h3⟩ := h.open
  clear h
  go_enter Tryz.func124, Tryz.ntmps124
  go_wp2_with fail
  go_loopw [5, 8] (fun _ i W => ∃ k : Nat, k ≤ l.length ∧ i = .int .i64 k ∧ Below w.heap.size w W ∧ Hid ((l.take k).any p = false)) (fun _ i _ => l.length - (intOf i).toNat)
  case atStart => exact ⟨0, Nat.zero_le _, rfl, Below.refl _ _, (by show _ = _; simp)⟩
  case round =>
    obtain ⟨k, hk, rfl, hb, HA⟩ := hrel
    by_cases hlt : k < l.length
    · obtain ⟨x, hx⟩ := getElem?_of_lt hlt
      obtain ⟨_, b, o, rfl, hc0⟩ := h3 k x hx
      have g0 := (hb.cell (World.block_lt_of_cell? w _ hc0)).trans hc0
      have hcall := HP.out x (List.mem_of_getElem? hx) wr hb
      have HX : Hid (l[k]? = some x) := hx
      clear hc0 h3 hx
      cases hq : p x with
      | true =>
        rw [hq] at hcall
        have HN : Hid (r = k) := by rw [← HR.out]; exact idxI_hit HA.out HX.out hq
        clear hq
        go_wp2_with (go_at_fn g; refine hcall.mono ?_; rintro e w2 ⟨rfl, hb2⟩)
        have hb := bthen hb hb2
        go_ret
        exact ⟨ret_int HN.out.symm, hb⟩
      | false =>
        rw [hq] at hcall
        have HT : Hid ((l.take (k + 1)).any p = false) := any_snoc HA.out HX.out hq
        clear hq
        go_wp2_with (go_at_fn g; refine hcall.mono ?_; rintro e w2 ⟨rfl, hb2⟩)
        have hb := bthen hb hb2
        go_roundw
        case rel => exact ⟨k + 1, by omega, by go_num, hb, HT⟩
        case measure => simp [intOf]; omega
    · have HN : Hid (r = -1) := by rw [← HR.out]; exact idxI_miss (any_full (by omega) HA.out)
      clear h3
      go_wp2_with fail
      go_ret
      exact ⟨ret_int HN.out.symm, hb⟩
set_option maxHeartbeats 1000000 in
theorem contInt_ct (g : Nat) (lb : Array Value) (eg : ∀ args w, (callFunc g args).run Tryz.prog w = .ok (.enter g args) w) (p : Int → Bool) (v : Value) (l : List Int) (r : Bool) (w : World) (h : IntsAt w v l)
    (hp : ∀ x ∈ l, ∀ W, Below w.heap.size w W → Calls Tryz.prog g (#[.int .i64 x] ++ lb) W fun e w' => e = .returned (.bool (p x)) ∧ Below W.heap.size W w') (hr : l.any p = r) :
    Calls Tryz.prog 92 #[v, .func (.func g) #[] lb] w fun e w' => e = .returned (.bool r) ∧ Below w.heap.size w w' := by
  have hge := idxI_ge p l
  rw [hr] at hge
  have hc := fun W hb (h : IntsAt W v l) => idxInt_ct g lb eg p v l (idxI p l) W h (fun x hx W' hb' => hp x hx W' (Below.trans (a := w) hb (hb'.mono hb.size))) rfl
  have HC : Hid _ := hc
  obtain ⟨n, hn⟩ : ∃ n, n = idxI p l := ⟨_, rfl⟩
  rw [← hn] at hge
  have HN : Hid (n = idxI p l) := hn
  clear hr hc hp hn
  have HG : Hid (decide (n ≥ 0) = r) := hge
  clear hge
  go_enter Tryz.func92, Tryz.ntmps92
  go_wp2_with (go_at_call 124; refine (HC.out _ (Below.refl _ _) h).mono ?_; rintro e w2 ⟨rfl, hb⟩; rw [← HN.out])
  go_ret
  exact ⟨ret_bool (by rw [← HG.out]), hb⟩


set_option maxHeartbeats 1000000 in
theorem idxWr_ct (g : Nat) (lb : Array Value) (eg : ∀ args w, (callFunc g args).run Tryz.prog w = .ok (.enter g args) w) (p : Wr → Bool) (v : Value) (l : List Wr) (r : Int) (w : World) (h : WrsAt w v l)
    (hp : ∀ x ∈ l, ∀ W, Below w.heap.size w W → Calls Tryz.prog g (#[.agg #[.string x.name, .int .i64 x.link]] ++ lb) W fun e w' => e = .returned (.bool (p x)) ∧ Below W.heap.size W w') (hr : idxI p l = r) :
    Calls Tryz.prog 125 #[v, .func (.func g) #[] lb] w fun e w' => e = .returned (.int .i64 r) ∧ Below w.heap.size w w' := by
  have HR : Hid (idxI p l = r) := hr
  have HP : Hid _ := hp
  clear hr hp
  obtain ⟨a, c, rfl, h1, h2, h3⟩ := h.open
  clear h
  go_enter Tryz.func125, Tryz.ntmps125
  go_wp2_with fail
  go_loopw [5, 8] (fun _ i W => ∃ k : Nat, k ≤ l.length ∧ i = .int .i64 k ∧ Below w.heap.size w W ∧ Hid ((l.take k).any p = false)) (fun _ i _ => l.length - (intOf i).toNat)
  case atStart => exact ⟨0, Nat.zero_le _, rfl, Below.refl _ _, (by show _ = _; simp)⟩
  case round =>
    obtain ⟨k, hk, rfl, hb, HA⟩ := hrel
    by_cases hlt : k < l.length
    · obtain ⟨x, hx⟩ := getElem?_of_lt hlt
      obtain ⟨_, _, b, o, rfl, hc0, hc1⟩ := h3 k x hx
      have g0 := (hb.cell (World.block_lt_of_cell? w _ hc0)).trans hc0
      have g1 := (hb.cell (World.block_lt_of_cell? w _ hc1)).trans hc1
      have hcall := HP.out x (List.mem_of_getElem? hx) wr hb
      have HX : Hid (l[k]? = some x) := hx
      clear hc0 hc1 h3 hx
      cases hq : p x with
      | true =>
        rw [hq] at hcall
        have HN : Hid (r = k) := by rw [← HR.out]; exact idxI_hit HA.out HX.out hq
        clear hq
        go_wp2_with (go_at_fn g; refine hcall.mono ?_; rintro e w2 ⟨rfl, hb2⟩)
        have hb := bthen hb hb2
        go_ret
        exact ⟨ret_int HN.out.symm, hb⟩
      | false =>
        rw [hq] at hcall
        have HT : Hid ((l.take (k + 1)).any p = false) := any_snoc HA.out HX.out hq
        clear hq
        go_wp2_with (go_at_fn g; refine hcall.mono ?_; rintro e w2 ⟨rfl, hb2⟩)
        have hb := bthen hb hb2
        go_roundw
        case rel => exact ⟨k + 1, by omega, by go_num, hb, HT⟩
        case measure => simp [intOf]; omega
    · have HN : Hid (r = -1) := by rw [← HR.out]; exact idxI_miss (any_full (by omega) HA.out)
      clear h3
      go_wp2_with fail
      go_ret
      exact ⟨ret_int HN.out.symm, hb⟩
set_option maxHeartbeats 1000000 in
theorem contWr_ct (g : Nat) (lb : Array Value) (eg : ∀ args w, (callFunc g args).run Tryz.prog w = .ok (.enter g args) w) (p : Wr → Bool) (v : Value) (l : List Wr) (r : Bool) (w : World) (h : WrsAt w v l)
    (hp : ∀ x ∈ l, ∀ W, Below w.heap.size w W → Calls Tryz.prog g (#[.agg #[.string x.name, .int .i64 x.link]] ++ lb) W fun e w' => e = .returned (.bool (p x)) ∧ Below W.heap.size W w') (hr : l.any p = r) :
    Calls Tryz.prog 96 #[v, .func (.func g) #[] lb] w fun e w' => e = .returned (.bool r) ∧ Below w.heap.size w w' := by
  have hge := idxI_ge p l
  rw [hr] at hge
  have hc := fun W hb (h : WrsAt W v l) => idxWr_ct g lb eg p v l (idxI p l) W h (fun x hx W' hb' => hp x hx W' (Below.trans (a := w) hb (hb'.mono hb.size))) rfl
  have HC : Hid _ := hc
  obtain ⟨n, hn⟩ : ∃ n, n = idxI p l := ⟨_, rfl⟩
  rw [← hn] at hge
  have HN : Hid (n = idxI p l) := hn
  clear hr hc hp hn
  have HG : Hid (decide (n ≥ 0) = r) := hge
  clear hge
  go_enter Tryz.func96, Tryz.ntmps96
  go_wp2_with (go_at_call 125; refine (HC.out _ (Below.refl _ _) h).mono ?_; rintro e w2 ⟨rfl, hb⟩; rw [← HN.out])
  go_ret
  exact ⟨ret_bool (by rw [← HG.out]), hb⟩

end Go.Proofs.YthgelhglfbgagaaGreatDoor

/- Signatures: the reference's test and the program's. -/
namespace Go.Proofs.YthgelhglfbgagaaGreatDoor
open Go Go.RowKit Go.BigFrame

theorem other_not {l : List Ctl} {k j : Nat} {c d : Ctl} (hc : l[k]? = some c) (hj : j < k) (hd : l[j]? = some d) (he : otherB c d = false) : sigStep l k = false := by
  rw [sigStep_eq hc, all_not (l := l.take k) (k := j) (x := d) (by rw [List.getElem?_take, if_pos hj]; exact hd) he, Bool.and_false]
theorem sig_step_ctl {l : List Ctl} {k : Nat} {c : Ctl} (hc : l[k]? = some c) (h : ctlB c = false) : sigStep l k = false := by rw [sigStep_eq hc, h]; rfl

set_option maxHeartbeats 1000000 in
theorem l2Sig_ct (v : Value) (l : List Ctl) (r : Bool) (w : World) (h : CtlsAt w v l) (hr : sigB l = r) : Calls Tryz.prog 20 #[v] w fun e w' => e = .returned (.bool r) ∧ Below w.heap.size w w' := by
  have HR : Hid (sigB l = r) := hr
  clear hr
  obtain ⟨a, c, rfl, h1, h2, h3⟩ := h.open
  clear h
  go_enter Tryz.func20, Tryz.ntmps20
  go_wp2_with fail
  go_loopw [3] (fun i W => ∃ k : Nat, k ≤ l.length ∧ i = .int .i64 k ∧ Below w.heap.size w W ∧ Hid ((List.range k).all (sigStep l) = true)) (fun i _ => l.length - (intOf i).toNat)
  case atStart => exact ⟨0, Nat.zero_le _, rfl, Below.refl _ _, rfl⟩
  case round =>
    obtain ⟨k, hk, rfl, hb, HA⟩ := hrel
    by_cases hlt : k < l.length
    · obtain ⟨x, hx⟩ := getElem?_of_lt hlt
      obtain ⟨hs0, hs1, hs2, b, o, rfl, hc0, hc1, hc2⟩ := h3 k x hx
      have g0 := (hb.cell (World.block_lt_of_cell? w _ hc0)).trans hc0
      have g1 := (hb.cell (World.block_lt_of_cell? w _ hc1)).trans hc1
      have g2 := (hb.cell (World.block_lt_of_cell? w _ hc2)).trans hc2
      unfold I64 at hs1 hs2
      clear hc0 hc1 hc2
      have HX : Hid (l[k]? = some x) := hx
      have H3 : Hid _ := h3
      clear h3 hx
      cases hnm : nameB x.name with
      | false =>
        have HN : Hid (r = false) := by rw [← HR.out]; exact sig_not hlt (sig_step_ctl HX.out (by unfold ctlB; rw [hnm]; rfl))
        go_wp2_with (go_at_call 71; refine (l2Name_ct x.name hs0 false hnm _).mono ?_; rintro e w2 ⟨rfl, rfl⟩)
        go_ret
        exact ⟨by rw [HN.out]; rfl, hb⟩
      | true =>
        by_cases hp : 0 ≤ x.ports ∧ x.ports ≤ 3
        case neg =>
          have HN : Hid (r = false) := by rw [← HR.out]; exact sig_not hlt (sig_step_ctl HX.out (by unfold ctlB; rw [decide_eq_false hp]; simp))
          go_wp2_with (first | (go_at_call 71; refine (l2Name_ct x.name hs0 true hnm _).mono ?_; rintro e w2 ⟨rfl, rfl⟩) | (go_at_call 21; refine (l1In_ct _ _ _ false (by simp only [Bool.false_eq_true, false_iff]; exact hp) _).mono ?_; rintro e w2 ⟨rfl, rfl⟩))
          go_ret
          exact ⟨by rw [HN.out]; rfl, hb⟩
        by_cases hq : 0 ≤ x.kind ∧ x.kind ≤ 2
        case neg =>
          have HN : Hid (r = false) := by rw [← HR.out]; exact sig_not hlt (sig_step_ctl HX.out (by unfold ctlB; rw [decide_eq_false hq]; simp))
          go_wp2_with fail
          refine (l2Name_ct x.name hs0 true hnm _).mono ?_
          rintro e w2 ⟨rfl, rfl⟩
          go_wp2_with fail
          refine (l1In_ct _ _ _ true (by simpa using hp) _).mono ?_
          rintro e w2 ⟨rfl, rfl⟩
          go_wp2_with fail
          refine (l1In_ct _ _ _ false (by simp only [Bool.false_eq_true, false_iff]; exact hq) _).mono ?_
          rintro e w2 ⟨rfl, rfl⟩
          go_wp2_with fail
          go_ret
          exact ⟨by rw [HN.out]; rfl, hb⟩
        have HC : Hid (ctlB x = true) := by show _ = _; unfold ctlB; rw [hnm, decide_eq_true hp, decide_eq_true hq]; rfl
        go_wp2_with fail
        refine (l2Name_ct x.name hs0 true hnm _).mono ?_
        rintro e w2 ⟨rfl, rfl⟩
        go_wp2_with fail
        refine (l1In_ct _ _ _ true (by simpa using hp) _).mono ?_
        rintro e w2 ⟨rfl, rfl⟩
        go_wp2_with fail
        refine (l1In_ct _ _ _ true (by simpa using hq) _).mono ?_
        rintro e w2 ⟨rfl, rfl⟩
        clear hp hq hnm
        go_wp2_with fail
        go_loopw [4] (fun i W => ∃ j : Nat, j ≤ k ∧ i = .int .i64 j ∧ Below w2.heap.size w2 W ∧ Hid ((l.take j).all (otherB x) = true)) (fun i _ => k - (intOf i).toNat)
        case atStart => exact ⟨0, Nat.zero_le _, rfl, Below.refl _ _, (by show _ = _; simp)⟩
        case round =>
          obtain ⟨j, hj, rfl, hb3, HB⟩ := hrel
          have hb := bthen hb hb3
          have g0 := (hb3.cell (World.block_lt_of_cell? _ _ g0)).trans g0
          by_cases hjk : j < k
          · obtain ⟨y, hy⟩ := getElem?_of_lt (show j < l.length by omega)
            obtain ⟨hy0, _, _, b', o', he, hd0, _, _⟩ := H3.out j y hy
            obtain ⟨rfl, rfl⟩ : b = b' ∧ o = o' := by simpa using he
            clear he
            have q0 := (hb.cell (World.block_lt_of_cell? w _ hd0)).trans hd0
            have HY : Hid (l[j]? = some y) := hy
            have gg0 := fun z => gr_cell (w := wr) g0 z
            have gq0 := fun z => gr_cell (w := wr) q0 z
            clear hd0 hy
            cases hyx : (y.name.toList == x.name.toList) with
            | true =>
              have HN : Hid (r = false) := by rw [← HR.out]; exact sig_not hlt (other_not HX.out hjk HY.out (by unfold otherB; rw [hyx]; rfl))
              go_wp2_with fail
              refine wp_region_gr (by kernel_rfl) (by kernel_rfl) ?_
              repeat (go_big_quiet_step (fail))
              refine wpQuiet_nil ?_
              intro w2 hb2
              have hb := bthen hb hb2
              go_wp2_with fail
              go_ret
              exact ⟨by rw [HN.out]; rfl, hb⟩
            | false =>
              have HT : Hid ((l.take (j + 1)).all (otherB x) = true) := all_take_snoc HB.out HY.out (by unfold otherB; rw [hyx]; rfl)
              go_wp2_with fail
              refine wp_region_gr (by kernel_rfl) (by kernel_rfl) ?_
              repeat (go_big_quiet_step (fail))
              refine wpQuiet_nil ?_
              intro w2 hb2
              have hb := bthen hb hb2
              go_wp2_with fail
              go_roundw
              case rel => exact ⟨j + 1, by omega, by go_num, bthen hb3 hb2, HT⟩
              case measure => simp [intOf]; omega
          · have e : j = k := by omega
            subst e
            have HT : Hid ((List.range (j + 1)).all (sigStep l) = true) := all_range_snoc HA.out (by rw [sigStep_eq HX.out, HC.out, HB.out]; rfl)
            go_wp2_with fail
            go_roundw
            case rel => exact ⟨j + 1, by omega, by go_num, hb, HT⟩
            case measure => simp [intOf]; omega
    · have HN : Hid (decide (1 ≤ l.length ∧ l.length ≤ 6) = r) := by
        have e : l.length = k := by omega
        have := HA.out
        rw [← e] at this
        rw [← HR.out]; unfold sigB
        show _ = _; rw [this, Bool.true_and]
      clear h3
      go_wp2_with fail
      refine (l1In_ct _ _ _ r (by rw [← HN.out, decide_eq_true_iff]; omega) _).mono ?_
      rintro e w2 ⟨rfl, rfl⟩
      go_wp2_with fail
      go_ret
      exact ⟨rfl, hb⟩

set_option maxHeartbeats 1000000 in
theorem isSigCl_ct (g : Nat) (x y : Ctl) (w : World) (r : Bool) (hg : w.cell? ⟨g, 0, none⟩ = some (.string x.name)) (hr : (y.name.toList == x.name.toList) = r) :
    Calls Tryz.prog 85 #[.agg #[.string y.name, .int .i64 y.ports, .int .i64 y.kind], .pointer (some ⟨g, 0, none⟩)] w fun e w' => e = .returned (.bool r) ∧ Below w.heap.size w w' := by
  have hA := balloc w (.cells #[.string y.name, .int .i64 y.ports, .int .i64 y.kind] 62)
  have hg2 := (hA.cell (World.block_lt_of_cell? w _ hg)).trans hg
  have hne : ¬ g = w.heap.size := by have := World.block_lt_of_cell? w _ hg; simp at this; omega
  have HR : Hid ((y.name.toList == x.name.toList) = r) := hr
  clear hr hg
  go_enter Tryz.func85, Tryz.ntmps85
  go_wp2
  go_ret
  exact ⟨ret_bool HR.out, hA⟩
theorem other_any (x : Ctl) (l : List Ctl) : l.any (fun y => y.name.toList == x.name.toList) = !(l.all (otherB x)) := by
  induction l with
  | nil => rfl
  | cons y l ih => simp only [List.any_cons, List.all_cons, ih, otherB, Bool.not_and, Bool.not_not]
theorem CtlsM.take {M : Nat} {w : World} {a : Option Addr} {n c : Nat} {l : List Ctl} (h : CtlsM M w (.slice a n c) l) (k : Nat) (hk : k ≤ l.length) : CtlsM M w (.slice a k c) (l.take k) := by
  obtain ⟨⟨a', c', e, h2, h3, h4, h5⟩, h6⟩ := h
  simp only [Value.slice.injEq, List.length_map] at e h2 h3
  obtain ⟨rfl, rfl, rfl⟩ := e
  refine ⟨⟨a, c, by simp [Nat.min_eq_left hk], by simp; omega, by simp; omega, fun r hr => h4 r ?_, fun i r hr => ?_⟩, fun x hx => h6 x (List.mem_of_mem_take hx)⟩
  · rw [List.map_take] at hr; exact List.mem_of_mem_take hr
  · rw [List.map_take, List.getElem?_take] at hr
    split at hr
    · exact h5 i r hr
    · cases hr
set_option maxRecDepth 100000 in
set_option maxHeartbeats 1000000 in
theorem implIsSignature_ct (v : Value) (l : List Ctl) (r : Bool) (w : World) (h : CtlsAt w v l) (hr : sigB l = r) : Calls Tryz.prog 29 #[v] w fun e w' => e = .returned (.bool r) ∧ Below w.heap.size w w' := by
  have HR : Hid (sigB l = r) := hr
  clear hr
  obtain ⟨a, c, rfl, h1, h2, h3⟩ := h.open
  have eg : ∀ args w, (callFunc 85 args).run Tryz.prog w = .ok (.enter 85 args) w := enters_of Tryz.func85 (by kernel_rfl) rfl
  have EG : Hid _ := eg
  clear eg
  by_cases hlen : 1 ≤ l.length ∧ l.length ≤ 6
  case neg =>
    have HN : Hid (r = false) := by rw [← HR.out]; exact sig_len_not hlen
    clear h h3
    go_enter Tryz.func29, Tryz.ntmps29
    go_wp2_with fail
    refine (within_ct _ _ _ false (by simp only [Bool.false_eq_true, false_iff]; omega) _).mono ?_
    rintro e w2 ⟨rfl, rfl⟩
    go_wp2_with fail
    go_ret
    exact ⟨by rw [HN.out]; rfl, Below.refl _ _⟩
  go_enter Tryz.func29, Tryz.ntmps29
  go_wp2_with fail
  refine (within_ct _ _ _ true (by simp only [true_iff]; omega) _).mono ?_
  rintro e w2 ⟨rfl, rfl⟩
  go_wp2_with fail
  go_loopw [3, 4, 11] (fun _ _ i W => ∃ k : Nat, k ≤ l.length ∧ i = .int .i64 k ∧ Below w2.heap.size w2 W ∧ Hid ((List.range k).all (sigStep l) = true)) (fun _ _ i _ => l.length - (intOf i).toNat)
  case atStart => exact ⟨0, Nat.zero_le _, rfl, Below.refl _ _, rfl⟩
  case round =>
    obtain ⟨k, hk, rfl, hb, HA⟩ := hrel
    by_cases hlt : k < l.length
    · obtain ⟨x, hx⟩ := getElem?_of_lt hlt
      obtain ⟨hs0, hs1, hs2, b, o, rfl, hc0, hc1, hc2⟩ := h3 k x hx
      have g0 := (hb.cell (World.block_lt_of_cell? w2 _ hc0)).trans hc0
      have g1 := (hb.cell (World.block_lt_of_cell? w2 _ hc1)).trans hc1
      have g2 := (hb.cell (World.block_lt_of_cell? w2 _ hc2)).trans hc2
      have hB := balloc wr (.cells #[.string x.name, .int .i64 x.ports, .int .i64 x.kind] 62)
      have hbB := bthen hb hB
      unfold I64 at hs1 hs2
      clear hc0 hc1 hc2
      have HX : Hid (l[k]? = some x) := hx
      clear h3 hx
      have hq : ∀ W, Below (wr.alloc (.cells #[.string x.name, .int .i64 x.ports, .int .i64 x.kind] 62)).heap.size (wr.alloc (.cells #[.string x.name, .int .i64 x.ports, .int .i64 x.kind] 62)) W → ∀ j, W.cell? ⟨wr.heap.size, j, none⟩ = (#[.string x.name, .int .i64 x.ports, .int .i64 x.kind] : Array Value)[j]? := fun W hW j => ((Box.new wr _ _).below hW).cell j
      have HQ : Hid _ := hq
      clear hq
      cases hnm : nameB x.name with
      | false =>
        have HN : Hid (r = false) := by rw [← HR.out]; exact sig_not hlt (sig_step_ctl HX.out (by unfold ctlB; rw [hnm]; rfl))
        go_wp2_with (go_at_call 83; refine (isName_ct x.name hs0 false hnm _).mono ?_; rintro e w3 ⟨rfl, hb3⟩)
        go_ret
        exact ⟨by rw [HN.out]; rfl, bthen hbB hb3⟩
      | true =>
        by_cases hp : 0 ≤ x.ports ∧ x.ports ≤ 3
        case neg =>
          have HN : Hid (r = false) := by rw [← HR.out]; exact sig_not hlt (sig_step_ctl HX.out (by unfold ctlB; rw [decide_eq_false hp]; simp))
          go_wp2_with fail
          refine (isName_ct x.name hs0 true hnm _).mono ?_
          rintro e w3 ⟨rfl, hb3⟩
          have q3 := HQ.out _ hb3
          go_wp2_with fail
          refine (within_ct _ _ _ false (by simp only [Bool.false_eq_true, false_iff]; exact hp) _).mono ?_
          rintro e w4 ⟨rfl, rfl⟩
          go_wp2_with fail
          go_ret
          exact ⟨by rw [HN.out]; rfl, bthen hbB hb3⟩
        by_cases hq : 0 ≤ x.kind ∧ x.kind ≤ 2
        case neg =>
          have HN : Hid (r = false) := by rw [← HR.out]; exact sig_not hlt (sig_step_ctl HX.out (by unfold ctlB; rw [decide_eq_false hq]; simp))
          go_wp2_with fail
          refine (isName_ct x.name hs0 true hnm _).mono ?_
          rintro e w3 ⟨rfl, hb3⟩
          have q3 := HQ.out _ hb3
          go_wp2_with fail
          refine (within_ct _ _ _ true (by simpa using hp) _).mono ?_
          rintro e w4 ⟨rfl, rfl⟩
          go_wp2_with fail
          refine (within_ct _ _ _ false (by simp only [Bool.false_eq_true, false_iff]; exact hq) _).mono ?_
          rintro e w5 ⟨rfl, rfl⟩
          go_wp2_with fail
          go_ret
          exact ⟨by rw [HN.out]; rfl, bthen hbB hb3⟩
        have HC : Hid (ctlB x = true) := by show _ = _; unfold ctlB; rw [hnm, decide_eq_true hp, decide_eq_true hq]; rfl
        obtain ⟨m, hm⟩ : ∃ m, m = (l.take k).all (otherB x) := ⟨_, rfl⟩
        have HM : Hid (m = (l.take k).all (otherB x)) := hm
        clear hm
        go_wp2_with fail
        refine (isName_ct x.name hs0 true hnm _).mono ?_
        rintro e w3 ⟨rfl, hb3⟩
        have q3 := HQ.out _ hb3
        have ht := (h.below (bthen hbB hb3)).take k (by omega)
        go_wp2_with fail
        refine (within_ct _ _ _ true (by simpa using hp) _).mono ?_
        rintro e w4 ⟨rfl, rfl⟩
        go_wp2_with fail
        refine (within_ct _ _ _ true (by simpa using hq) _).mono ?_
        rintro e w5 ⟨rfl, rfl⟩
        clear hp hq hnm
        go_wp2_with fail
        have hcap := q3 0
        have hcap : _ = some (Value.string x.name) := hcap
        refine (contCtl_ct 85 _ EG.out (fun y => y.name.toList == x.name.toList) _ (l.take k) (!m) _ ht (fun y _ W hW => by rw [app2]; exact isSigCl_ct _ x y W _ ((hW.cell (World.block_lt_of_cell? _ _ hcap)).trans hcap) rfl) (by rw [other_any, HM.out])).mono ?_
        clear hcap
        rintro e w6 ⟨rfl, hb6⟩
        cases m with
        | false =>
          have HN : Hid (r = false) := by rw [← HR.out]; exact sig_not hlt (by rw [sigStep_eq HX.out, ← HM.out, Bool.and_false])
          go_wp2_with fail
          go_ret
          exact ⟨by rw [HN.out]; rfl, bthen (bthen hbB hb3) hb6⟩
        | true =>
          have HT : Hid ((List.range (k + 1)).all (sigStep l) = true) := all_range_snoc HA.out (by rw [sigStep_eq HX.out, HC.out, ← HM.out]; rfl)
          go_wp2_with fail
          go_roundw
          case rel => exact ⟨k + 1, by omega, by go_num, bthen (bthen hbB hb3) hb6, HT⟩
          case measure => simp [intOf]; omega
    · have HN : Hid (true = r) := by
        have e : l.length = k := by omega
        have := HA.out
        rw [← e] at this
        rw [← HR.out]; unfold sigB
        show _ = _; rw [this, decide_eq_true hlen]; rfl
      clear h3
      go_wp2_with fail
      go_ret
      exact ⟨ret_bool HN.out, hb⟩
end Go.Proofs.YthgelhglfbgagaaGreatDoor

/- Links and parents: the reference's tests and the program's. -/
namespace Go.Proofs.YthgelhglfbgagaaGreatDoor
open Go Go.RowKit Go.BigFrame

/-- The first n nodes are there, and their controls. -/
def okN (sig : List Ctl) (b : Big) (n : Nat) : Prop := ∀ k, k < n → ∃ nd c, b.nodes[k]? = some nd ∧ 0 ≤ nd.ctl ∧ sig[nd.ctl.toNat]? = some c
theorem okN_of {sig : List Ctl} {b : Big} {n : Nat} (hn : n ≤ b.nodes.length) (h : (List.range n).all (nodeStep sig b) = true) : okN sig b n := by
  intro k hk
  obtain ⟨nd, hnd⟩ := getElem?_of_lt (show k < b.nodes.length by omega)
  have := List.all_eq_true.1 h k (List.mem_range.2 hk)
  rw [nodeStep_eq hnd] at this
  have := node_ctl this
  obtain ⟨c, hc⟩ := getElem?_of_lt (l := sig) (i := nd.ctl.toNat) (by omega)
  exact ⟨nd, c, hnd, this.1, hc⟩
theorem BigAt.outer_len {w : World} {v : Value} {b : Big} (h : BigAt w v b) : b.outer.length ≤ 1073741824 := by
  obtain ⟨vn, vq, vo, vi, rfl, _, _, h3, _⟩ := h
  obtain ⟨_, _, _, _, h, _⟩ := h3.open
  exact h
theorem BigAt.parts {w : World} {v : Value} {b : Big} (h : BigAt w v b) : ∃ a1 c1 a2 c2 a3 c3 a4 c4, v = .agg #[.int .i64 b.roots, .slice a1 b.nodes.length c1, .slice a2 b.sites.length c2, .int .i64 b.edges, .slice a3 b.outer.length c3, .slice a4 b.inner.length c4] ∧
    NdsAt w (.slice a1 b.nodes.length c1) b.nodes ∧ IntsAt w (.slice a2 b.sites.length c2) b.sites ∧ StrsAt w (.slice a3 b.outer.length c3) b.outer ∧ WrsAt w (.slice a4 b.inner.length c4) b.inner ∧ I64 b.roots ∧ I64 b.edges := by
  obtain ⟨vn, vs, vo, vi, rfl, h1, h2, h3, h4, h5, h6⟩ := h
  obtain ⟨a1, c1, rfl, _⟩ := h1.open
  obtain ⟨a2, c2, rfl, _⟩ := h2.open
  obtain ⟨a3, c3, rfl, _⟩ := h3.open
  obtain ⟨a4, c4, rfl, _⟩ := h4.open
  exact ⟨a1, c1, a2, c2, a3, c3, a4, c4, rfl, h1, h2, h3, h4, h5, h6⟩

set_option maxHeartbeats 1000000 in
theorem l2Link_ct (v : Value) (b : Big) (x : Int) (r : Bool) (w : World) (h : BigAt w v b) (he : 0 ≤ b.edges ∧ b.edges ≤ 8) (hr : linkB b x = r) :
    Calls Tryz.prog 79 #[v, .int .i64 x] w fun e w' => e = .returned (.bool r) ∧ Below w.heap.size w w' := by
  have HR : Hid (linkB b x = r) := hr
  have hl := h.outer_len
  clear hr
  obtain ⟨a1, c1, a2, c2, a3, c3, a4, c4, rfl⟩ := h.shape
  clear h
  go_enter Tryz.func79, Tryz.ntmps79
  go_wp2_with fail
  refine (l1In_ct _ _ _ r (by rw [← HR.out]; unfold linkB; rw [decide_eq_true_iff]) _).mono ?_
  rintro e w2 ⟨rfl, rfl⟩
  go_wp2_with fail
  go_ret
  exact ⟨rfl, balloc _ _⟩

set_option maxHeartbeats 1000000 in
theorem isLink_ct (v : Value) (b : Big) (x : Int) (r : Bool) (w : World) (h : BigAt w v b) (he : 0 ≤ b.edges ∧ b.edges ≤ 8) (hr : linkB b x = r) :
    Calls Tryz.prog 94 #[v, .int .i64 x] w fun e w' => e = .returned (.bool r) ∧ Below w.heap.size w w' := by
  have HR : Hid (linkB b x = r) := hr
  have hl := h.outer_len
  clear hr
  obtain ⟨a1, c1, a2, c2, a3, c3, a4, c4, rfl⟩ := h.shape
  clear h
  go_enter Tryz.func94, Tryz.ntmps94
  go_wp2_with fail
  refine (within_ct _ _ _ r (by rw [← HR.out]; unfold linkB; rw [decide_eq_true_iff]) _).mono ?_
  rintro e w2 ⟨rfl, rfl⟩
  go_wp2_with fail
  go_ret
  exact ⟨rfl, balloc _ _⟩

set_option maxHeartbeats 2000000 in
theorem l2Under_ct (vs v : Value) (sig : List Ctl) (b : Big) (p : Int) (n : Nat) (r : Bool) (w : World) (hs : CtlsAt w vs sig) (h : BigAt w v b) (hp : I64 p) (hro : 0 ≤ b.roots ∧ b.roots ≤ 4) (_ : n ≤ 1073741824)
    (hok : okN sig b n) (hr : underB sig b n p = r) : Calls Tryz.prog 78 #[vs, v, .int .i64 p, .int .i64 n] w fun e w' => e = .returned (.bool r) ∧ Below w.heap.size w w' := by
  have HR : Hid (underB sig b n p = r) := hr
  clear hr
  unfold I64 at hp
  obtain ⟨vn, vq, vo, vi, rfl, hnd, -⟩ := h
  obtain ⟨a, c, rfl, k1, k2, k3⟩ := hs.open
  obtain ⟨a', c', rfl, m1, m2, m3⟩ := hnd.open
  clear hs hnd
  have hA := balloc w (.cells #[.int .i64 b.roots, .slice a' b.nodes.length c', vq, .int .i64 b.edges, vo, vi] 29)
  by_cases h0 : p < 0
  · have HN : Hid (decide (-b.roots ≤ p) = r) := by show _ = _; rw [← HR.out]; unfold underB; rw [if_pos h0]
    clear k3 m3 hok
    go_enter Tryz.func78, Tryz.ntmps78
    go_wp2_with fail
    refine (l1In_ct _ _ _ r (by rw [← HN.out, decide_eq_true_iff]; omega) _).mono ?_
    rintro e w2 ⟨rfl, rfl⟩
    go_wp2_with fail
    go_ret
    exact ⟨rfl, hA⟩
  · obtain ⟨k, rfl⟩ : ∃ k : Nat, p = k := ⟨p.toNat, by omega⟩
    by_cases h1 : k < n
    · obtain ⟨nd, ct, hnd, hc0, hct⟩ := hok k h1
      obtain ⟨j, hj⟩ : ∃ j : Nat, nd.ctl = j := ⟨nd.ctl.toNat, by omega⟩
      rw [hj] at hct
      simp only [Int.toNat_natCast] at hct
      have HN : Hid ((!decide (ct.kind = 2)) = r) := by
        show _ = _; rw [← HR.out]; unfold underB solidB
        rw [if_neg h0, decide_eq_true (show (k : Int) < (n : Int) by omega), Int.toNat_natCast, hnd]
        simp only [hj, Int.toNat_natCast, hct, Bool.true_and]
      have hkl := (List.getElem?_eq_some_iff.1 hnd).1
      have hjl := (List.getElem?_eq_some_iff.1 hct).1
      obtain ⟨_, hpar, b1, o1, u1, rfl, _, e0, e1, e2⟩ := m3 k nd hnd
      obtain ⟨_, _, _, b2, o2, rfl, f0, f1, f2⟩ := k3 j ct hct
      rw [hj] at e0
      have e0 := (hA.cell (World.block_lt_of_cell? w _ e0)).trans e0
      have f2 := (hA.cell (World.block_lt_of_cell? w _ f2)).trans f2
      clear e1 e2 f0 f1 k3 m3 hok hnd hct hj hc0
      have hkl' : (k : Int) < (b.nodes.length : Int) := by omega
      have hjl' : (j : Int) < (sig.length : Int) := by omega
      by_cases hk2 : ct.kind = 2
      · have HN : Hid (r = false) := by rw [← HN.out, decide_eq_true hk2]; rfl
        rw [hk2] at f2
        clear hk2
        go_enter Tryz.func78, Tryz.ntmps78
        go_wp2_with fail
        go_ret
        exact ⟨by rw [HN.out]; rfl, hA⟩
      · have HN : Hid (r = true) := by rw [← HN.out, decide_eq_false hk2]; rfl
        have hk3 : (ct.kind != 2) = true := by simpa using hk2
        go_enter Tryz.func78, Tryz.ntmps78
        go_wp2_with fail
        go_ret
        exact ⟨by rw [HN.out]; (try rfl); (try simp [hk3]), hA⟩
    · have HN : Hid (r = false) := by
        rw [← HR.out]; unfold underB
        rw [if_neg h0, decide_eq_false (show ¬ (k : Int) < (n : Int) by omega)]; rfl
      clear k3 m3 hok
      go_enter Tryz.func78, Tryz.ntmps78
      go_wp2_with fail
      go_ret
      exact ⟨by rw [HN.out]; rfl, hA⟩

set_option maxHeartbeats 2000000 in
theorem isParent_ct (vs v : Value) (sig : List Ctl) (b : Big) (p : Int) (n : Nat) (r : Bool) (w : World) (hs : CtlsAt w vs sig) (h : BigAt w v b) (hp : I64 p) (hro : 0 ≤ b.roots ∧ b.roots ≤ 4) (_ : n ≤ 1073741824)
    (hok : okN sig b n) (hr : underB sig b n p = r) : Calls Tryz.prog 91 #[v, vs, .int .i64 p, .int .i64 n] w fun e w' => e = .returned (.bool r) ∧ Below w.heap.size w w' := by
  have HR : Hid (underB sig b n p = r) := hr
  clear hr
  unfold I64 at hp
  obtain ⟨vn, vq, vo, vi, rfl, hnd, -⟩ := h
  obtain ⟨a, c, rfl, k1, k2, k3⟩ := hs.open
  obtain ⟨a', c', rfl, m1, m2, m3⟩ := hnd.open
  clear hs hnd
  have hA := balloc w (.cells #[.int .i64 b.roots, .slice a' b.nodes.length c', vq, .int .i64 b.edges, vo, vi] 29)
  by_cases h0 : p < 0
  · have HN : Hid (decide (-b.roots ≤ p) = r) := by show _ = _; rw [← HR.out]; unfold underB; rw [if_pos h0]
    clear k3 m3 hok
    go_enter Tryz.func91, Tryz.ntmps91
    go_wp2_with fail
    go_ret
    exact ⟨ret_bool (by rw [← HN.out]; (try simp); (try omega)), hA⟩
  · obtain ⟨k, rfl⟩ : ∃ k : Nat, p = k := ⟨p.toNat, by omega⟩
    by_cases h1 : k < n
    · obtain ⟨nd, ct, hnd, hc0, hct⟩ := hok k h1
      obtain ⟨j, hj⟩ : ∃ j : Nat, nd.ctl = j := ⟨nd.ctl.toNat, by omega⟩
      rw [hj] at hct
      simp only [Int.toNat_natCast] at hct
      have HN : Hid ((!decide (ct.kind = 2)) = r) := by
        show _ = _; rw [← HR.out]; unfold underB solidB
        rw [if_neg h0, decide_eq_true (show (k : Int) < (n : Int) by omega), Int.toNat_natCast, hnd]
        simp only [hj, Int.toNat_natCast, hct, Bool.true_and]
      have hkl := (List.getElem?_eq_some_iff.1 hnd).1
      have hjl := (List.getElem?_eq_some_iff.1 hct).1
      obtain ⟨_, hpar, b1, o1, u1, rfl, _, e0, e1, e2⟩ := m3 k nd hnd
      obtain ⟨_, _, _, b2, o2, rfl, f0, f1, f2⟩ := k3 j ct hct
      rw [hj] at e0
      have e0 := (hA.cell (World.block_lt_of_cell? w _ e0)).trans e0
      have f2 := (hA.cell (World.block_lt_of_cell? w _ f2)).trans f2
      clear e1 e2 f0 f1 k3 m3 hok hnd hct hj hc0
      have hkl' : (k : Int) < (b.nodes.length : Int) := by omega
      have hjl' : (j : Int) < (sig.length : Int) := by omega
      by_cases hk2 : ct.kind = 2
      · have HN : Hid (r = false) := by rw [← HN.out, decide_eq_true hk2]; rfl
        rw [hk2] at f2
        clear hk2
        go_enter Tryz.func91, Tryz.ntmps91
        go_wp2_with fail
        go_ret
        exact ⟨by rw [HN.out]; rfl, hA⟩
      · have HN : Hid (r = true) := by rw [← HN.out, decide_eq_false hk2]; rfl
        have hk3 : (ct.kind != 2) = true := by simpa using hk2
        go_enter Tryz.func91, Tryz.ntmps91
        go_wp2_with fail
        go_ret
        exact ⟨by rw [HN.out]; (try rfl); (try simp [hk3]), hA⟩
    · have HN : Hid (r = false) := by
        rw [← HR.out]; unfold underB
        rw [if_neg h0, decide_eq_false (show ¬ (k : Int) < (n : Int) by omega)]; rfl
      clear k3 m3 hok
      go_enter Tryz.func91, Tryz.ntmps91
      go_wp2_with fail
      go_ret
      exact ⟨by rw [HN.out]; rfl, hA⟩

end Go.Proofs.YthgelhglfbgagaaGreatDoor

/- Words for the laws' walks over bigraphs. -/
namespace Go.Proofs.YthgelhglfbgagaaGreatDoor
open Go Go.RowKit

theorem Box.drew {w : World} {g : Nat} {cs : Array Value} {t : TypeId} (h : Box w g cs t) : Box w.drew g cs t := h
theorem BigM.mshape {M : Nat} {w : World} {v : Value} {b : Big} (h : BigM M w v b) : ∃ a1 c1 a2 c2 a3 c3 a4 c4, v = .agg #[.int .i64 b.roots, .slice a1 b.nodes.length c1, .slice a2 b.sites.length c2, .int .i64 b.edges, .slice a3 b.outer.length c3, .slice a4 b.inner.length c4] := by
  obtain ⟨vn, vs, vo, vi, rfl, h1, h2, h3, h4, _⟩ := h
  obtain ⟨a1, c1, rfl, _⟩ := h1.open
  obtain ⟨a2, c2, rfl, _⟩ := h2.open
  obtain ⟨a3, c3, rfl, _⟩ := h3.open
  obtain ⟨a4, c4, rfl, _⟩ := h4.open
  exact ⟨a1, c1, a2, c2, a3, c3, a4, c4, rfl⟩
end Go.Proofs.YthgelhglfbgagaaGreatDoor

/- What functions hand back that lies in memory of the call's own. No program in sight but the layouts. -/
namespace Go.Proofs.YthgelhglfbgagaaGreatDoor
open Go Go.RowKit

def GivesStrs (R : List ByteArray) (ok : Bool) (w : World) (e : Ending) (w' : World) : Prop :=
  ∃ v, e = .returned (.tuple #[v, .bool ok]) ∧ StrsOwn w.heap.size w' v R ∧ Below w.heap.size w w'
def GivesInts (R : List Int) (ok : Bool) (w : World) (e : Ending) (w' : World) : Prop :=
  ∃ v, e = .returned (.tuple #[v, .bool ok]) ∧ IntsOwn w.heap.size w' v R ∧ Below w.heap.size w w'
def GivesInts2 (R0 R1 : List Int) (ok : Bool) (w : World) (e : Ending) (w' : World) : Prop :=
  ∃ v0 v1, e = .returned (.tuple #[v0, v1, .bool ok]) ∧ IntsOwn w.heap.size w' v0 R0 ∧ IntsOwn w.heap.size w' v1 R1 ∧ (∀ g ∈ blks v0, g ∉ blks v1) ∧ Below w.heap.size w w'
def GivesBig2 (R0 R1 : Big) (ok : Bool) (w : World) (e : Ending) (w' : World) : Prop :=
  ∃ v0 bs0 v1 bs1, e = .returned (.tuple #[v0, v1, .bool ok]) ∧ BigOwn w.heap.size w' v0 R0 bs0 ∧ bs0.Nodup ∧ BigOwn w.heap.size w' v1 R1 bs1 ∧ bs1.Nodup ∧ (∀ g ∈ bs0, g ∉ bs1) ∧ Below w.heap.size w w'
theorem cntN_le (l : List Nd) : cntN l ≤ 2 * totN l := by
  induction l with
  | nil => simp [cntN, totN, sumOf]
  | cons n l ih =>
    rw [cntN_cons]
    unfold totN at ih ⊢
    rw [sumOf_cons]
    simp only [List.length_cons]
    omega
theorem cntB_le (b : Big) : cntB b ≤ 2 * totB b := by
  have := cntN_le b.nodes
  unfold cntB totB totI totS totW
  omega
theorem totC_ge (l : List Ctl) : l.length ≤ totC l := by unfold totC; omega
theorem totS_ge (l : List ByteArray) : l.length ≤ totS l := by unfold totS; omega
theorem totI_ge (l : List Int) : l.length ≤ totI l := by unfold totI; omega
theorem StrsOwn.shp {B : Nat} {w : World} {v : Value} {l : List ByteArray} (h : StrsOwn B w v l) : ∃ a c, v = .slice a l.length c := by simpa [strRows] using h.1.shape
theorem IntsOwn.shp {B : Nat} {w : World} {v : Value} {l : List Int} (h : IntsOwn B w v l) : ∃ a c, v = .slice a l.length c := by simpa [intRows] using h.1.shape
theorem CtlsOwn.shp {B : Nat} {w : World} {v : Value} {l : List Ctl} (h : CtlsOwn B w v l) : ∃ a c, v = .slice a l.length c := by simpa using h.1.shape
end Go.Proofs.YthgelhglfbgagaaGreatDoor

/- Inner names, in a list of the call's own. -/
namespace Go.Proofs.YthgelhglfbgagaaGreatDoor
open Go Go.RowKit Go.BigFrame

def innerN (b : Big) : List ByteArray := b.inner.map Wr.name
theorem innerN_get {b : Big} {k : Nat} {x : Wr} (h : b.inner[k]? = some x) : (innerN b)[k]? = some x.name := by unfold innerN; rw [List.getElem?_map, h]; rfl
theorem BigAt.inner_size {w : World} {v : Value} {b : Big} (h : BigAt w v b) : ∀ x ∈ b.inner, x.name.size ≤ 1073741824 := by
  obtain ⟨vn, vq, vo, vi, rfl, _, _, _, h4, _⟩ := h
  exact fun x hx => (h4.2 x hx).1

set_option maxRecDepth 100000 in
set_option maxHeartbeats 2000000 in
theorem l2Inner_ct (v : Value) (b : Big) (w : World) (h : BigAt w v b) (hl : b.inner.length ≤ 1073741824) :
    Calls Tryz.prog 58 #[v] w fun e w' => ∃ u, e = .returned u ∧ StrsOwn w.heap.size w' u (innerN b) ∧ Below w.heap.size w w' := by
  have hsz := h.inner_size
  obtain ⟨a1, c1, a2, c2, a3, c3, a, c, rfl, _, _, _, hin, _, _⟩ := h.parts
  obtain ⟨a', c', e', h1, h2, h3⟩ := hin.open
  obtain ⟨rfl, rfl⟩ : a = a' ∧ c = c' := by simpa using e'
  clear e' hin h
  go_enter Tryz.func58, Tryz.ntmps58
  go_wp2_with fail
  obtain ⟨W0, hW0⟩ : ∃ W, W = (w.alloc (.cells #[.int .i64 b.roots, .slice a1 b.nodes.length c1, .slice a2 b.sites.length c2, .int .i64 b.edges, .slice a3 b.outer.length c3, .slice a b.inner.length c] 29)).alloc (.cells #[] 9) := ⟨_, rfl⟩
  rw [← hW0]
  have BA : Box W0 w.heap.size #[.int .i64 b.roots, .slice a1 b.nodes.length c1, .slice a2 b.sites.length c2, .int .i64 b.edges, .slice a3 b.outer.length c3, .slice a b.inner.length c] 29 := by rw [hW0]; exact (Box.new _ _ _).alloc _
  have acc : Acc W0 (w.heap.size + 1) 9 1 (.slice (some ⟨w.heap.size + 1, 0, none⟩) 0 0) (strRows ((innerN b).take 0)) := by
    rw [hW0]; simpa [strRows] using Acc.lit0 (w.alloc (.cells #[.int .i64 b.roots, .slice a1 b.nodes.length c1, .slice a2 b.sites.length c2, .int .i64 b.edges, .slice a3 b.outer.length c3, .slice a b.inner.length c] 29)) (w.heap.size + 1) 9 1 (by simp)
  have hb : Below w.heap.size w W0 := by rw [hW0]; exact bthen (balloc _ _) (balloc _ _)
  have hs : w.heap.size + 1 ≤ W0.heap.size := by rw [hW0]; simp
  clear hW0

  go_loopw [3, 4] (fun o i W => ∃ k : Nat, k ≤ b.inner.length ∧ i = .int .i64 k ∧ Below w.heap.size w W ∧ w.heap.size + 1 ≤ W.heap.size ∧ Box W w.heap.size #[.int .i64 b.roots, .slice a1 b.nodes.length c1, .slice a2 b.sites.length c2, .int .i64 b.edges, .slice a3 b.outer.length c3, .slice a b.inner.length c] 29 ∧ Acc W (w.heap.size + 1) 9 1 o (strRows ((innerN b).take k))) (fun _ i _ => b.inner.length - (intOf i).toNat)
  case atStart => exact ⟨0, Nat.zero_le _, rfl, hb, hs, BA, acc⟩
  case round =>
    clear hb hs BA acc W0
    obtain ⟨k, hk, rfl, hb, hs, BA, acc⟩ := hrel
    obtain ⟨av, cv, rfl⟩ := acc.shape
    have HL : Hid ((strRows ((innerN b).take k)).length = k) := by show _ = _; simp [strRows, innerN]; omega
    rw [HL.out] at acc ⊢
    by_cases hlt : k < b.inner.length
    · obtain ⟨x, hx⟩ := getElem?_of_lt hlt
      obtain ⟨_, _, bk, o', rfl, hc0, hc1⟩ := h3 k x hx
      have g0 := (hb.cell (World.block_lt_of_cell? w _ hc0)).trans hc0
      have g1 := (hb.cell (World.block_lt_of_cell? w _ hc1)).trans hc1
      have HT : Hid (strRows ((innerN b).take (k + 1)) = strRows ((innerN b).take k) ++ [[.string x.name]]) := by show _ = _; rw [take_snoc_l (innerN_get hx)]; simp [strRows]
      have q := BA.cell
      have nb : bk < wr.heap.size := World.block_lt_of_cell? wr _ g0
      clear hc0 hc1 h3 hx
      go_wp2_with (at_builtin; refine app1g _ _ rfl (.tmp 13) (.tmp 20) 26 rfl (w.heap.size + 1) 9 1 16 (.string ⟨#[]⟩) Tryz.underlying26 inf_str rfl (by decide) (by decide) _ (strRows ((innerN b).take k)) (by rfl) acc [.string x.name] _ rfl (by simp [Value.oneCell']) (by rfl) (by first | rfl | simp) (by rw [HL.out]; omega) hs ?_)
      intro g c2 w2 acc2 hg
      rw [HL.out, ← HT.out] at acc2
      rw [HL.out]
      have hb2 := grown_below hb acc hg (by omega) (by omega)
      have hs2 : w.heap.size + 1 ≤ w2.heap.size := Nat.le_trans hs hg.size
      have BA2 := BA.keep (grown_block acc hg (by omega) BA.lt)
      clear acc hg BA q hb hs
      go_wp2_with fail
      go_roundw
      case rel => exact ⟨k + 1, by omega, by go_num, hb2, hs2, BA2, acc2⟩
      case measure => simp [intOf]; omega
    · have e : k = b.inner.length := by omega
      subst e
      have hT : (innerN b).take b.inner.length = innerN b := List.take_of_length_le (by simp [innerN])
      rw [hT] at acc
      clear hT h3
      have q := BA.cell
      go_wp2_with fail
      go_ret
      exact ⟨_, rfl, ⟨acc.own.mono (by omega), by simp [innerN]; omega, fun s hs => by simp only [innerN, List.mem_map] at hs; obtain ⟨y, hy, rfl⟩ := hs; exact hsz y hy⟩, hb⟩

set_option maxRecDepth 100000 in
set_option maxHeartbeats 2000000 in
theorem innerNames_ct (v : Value) (b : Big) (w : World) (h : BigAt w v b) (hl : b.inner.length ≤ 1073741824) :
    Calls Tryz.prog 67 #[v] w fun e w' => ∃ u, e = .returned u ∧ StrsOwn w.heap.size w' u (innerN b) ∧ Below w.heap.size w w' := by
  have hsz := h.inner_size
  obtain ⟨a1, c1, a2, c2, a3, c3, a, c, rfl, _, _, _, hin, _, _⟩ := h.parts
  obtain ⟨a', c', e', h1, h2, h3⟩ := hin.open
  obtain ⟨rfl, rfl⟩ : a = a' ∧ c = c' := by simpa using e'
  clear e' hin h
  go_enter Tryz.func67, Tryz.ntmps67
  go_wp2_with fail
  obtain ⟨W0, hW0⟩ : ∃ W, W = (w.alloc (.cells #[.int .i64 b.roots, .slice a1 b.nodes.length c1, .slice a2 b.sites.length c2, .int .i64 b.edges, .slice a3 b.outer.length c3, .slice a b.inner.length c] 29)).alloc (.cells #[] 9) := ⟨_, rfl⟩
  rw [← hW0]
  have BA : Box W0 w.heap.size #[.int .i64 b.roots, .slice a1 b.nodes.length c1, .slice a2 b.sites.length c2, .int .i64 b.edges, .slice a3 b.outer.length c3, .slice a b.inner.length c] 29 := by rw [hW0]; exact (Box.new _ _ _).alloc _
  have acc : Acc W0 (w.heap.size + 1) 9 1 (.slice (some ⟨w.heap.size + 1, 0, none⟩) 0 0) (strRows ((innerN b).take 0)) := by
    rw [hW0]; simpa [strRows] using Acc.lit0 (w.alloc (.cells #[.int .i64 b.roots, .slice a1 b.nodes.length c1, .slice a2 b.sites.length c2, .int .i64 b.edges, .slice a3 b.outer.length c3, .slice a b.inner.length c] 29)) (w.heap.size + 1) 9 1 (by simp)
  have hb : Below w.heap.size w W0 := by rw [hW0]; exact bthen (balloc _ _) (balloc _ _)
  have hs : w.heap.size + 1 ≤ W0.heap.size := by rw [hW0]; simp
  clear hW0

  go_loopw [3, 5, 10] (fun o _ i W => ∃ k : Nat, k ≤ b.inner.length ∧ i = .int .i64 k ∧ Below w.heap.size w W ∧ w.heap.size + 1 ≤ W.heap.size ∧ Box W w.heap.size #[.int .i64 b.roots, .slice a1 b.nodes.length c1, .slice a2 b.sites.length c2, .int .i64 b.edges, .slice a3 b.outer.length c3, .slice a b.inner.length c] 29 ∧ Acc W (w.heap.size + 1) 9 1 o (strRows ((innerN b).take k))) (fun _ _ i _ => b.inner.length - (intOf i).toNat)
  case atStart => exact ⟨0, Nat.zero_le _, rfl, hb, hs, BA, acc⟩
  case round =>
    clear hb hs BA acc W0
    obtain ⟨k, hk, rfl, hb, hs, BA, acc⟩ := hrel
    obtain ⟨av, cv, rfl⟩ := acc.shape
    have HL : Hid ((strRows ((innerN b).take k)).length = k) := by show _ = _; simp [strRows, innerN]; omega
    rw [HL.out] at acc ⊢
    by_cases hlt : k < b.inner.length
    · obtain ⟨x, hx⟩ := getElem?_of_lt hlt
      obtain ⟨_, _, bk, o', rfl, hc0, hc1⟩ := h3 k x hx
      have g0 := (hb.cell (World.block_lt_of_cell? w _ hc0)).trans hc0
      have g1 := (hb.cell (World.block_lt_of_cell? w _ hc1)).trans hc1
      have HT : Hid (strRows ((innerN b).take (k + 1)) = strRows ((innerN b).take k) ++ [[.string x.name]]) := by show _ = _; rw [take_snoc_l (innerN_get hx)]; simp [strRows]
      have q := BA.cell
      have nb : bk < wr.heap.size := World.block_lt_of_cell? wr _ g0
      clear hc0 hc1 h3 hx
      have hB := balloc wr (.cells #[.string x.name, .int .i64 x.link] 87)
      have acc := acc.below hB
      have BA := BA.below hB
      have hb := bthen hb hB
      have hs : w.heap.size + 1 ≤ (wr.alloc (.cells #[.string x.name, .int .i64 x.link] 87)).heap.size := Nat.le_trans hs hB.size
      have q := BA.cell
      go_wp2_with (at_builtin; refine app1g _ _ rfl (.tmp 14) (.tmp 17) 26 rfl (w.heap.size + 1) 9 1 16 (.string ⟨#[]⟩) Tryz.underlying26 inf_str rfl (by decide) (by decide) _ (strRows ((innerN b).take k)) (by rfl) acc [.string x.name] _ rfl (by simp [Value.oneCell']) (by rfl) (by first | rfl | simp) (by rw [HL.out]; omega) hs ?_)
      intro g c2 w2 acc2 hg
      rw [HL.out, ← HT.out] at acc2
      rw [HL.out]
      have hb2 := grown_below hb acc hg (by omega) (by omega)
      have hs2 : w.heap.size + 1 ≤ w2.heap.size := Nat.le_trans hs hg.size
      have BA2 := BA.keep (grown_block acc hg (by omega) BA.lt)
      clear acc hg BA q hb hs
      go_wp2_with fail
      go_roundw
      case rel => exact ⟨k + 1, by omega, by go_num, hb2, hs2, BA2, acc2⟩
      case measure => simp [intOf]; omega
    · have e : k = b.inner.length := by omega
      subst e
      have hT : (innerN b).take b.inner.length = innerN b := List.take_of_length_le (by simp [innerN])
      rw [hT] at acc
      clear hT h3
      have q := BA.cell
      go_wp2_with fail
      go_ret
      exact ⟨_, rfl, ⟨acc.own.mono (by omega), by simp [innerN]; omega, fun s hs => by simp only [innerN, List.mem_map] at hs; obtain ⟨y, hy, rfl⟩ := hs; exact hsz y hy⟩, hb⟩

end Go.Proofs.YthgelhglfbgagaaGreatDoor
