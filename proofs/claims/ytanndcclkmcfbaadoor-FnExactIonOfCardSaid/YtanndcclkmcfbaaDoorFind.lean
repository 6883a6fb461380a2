/- slices.IndexFunc and slices.ContainsFunc at a function value that reads and may lay blocks of its own. -/
import Derived.Test.YtanndcclkmcfbaaDoorTypes
import Derived.Test.YtanndcclkmcfbaaDoorGood
import Derived.Shelf.Abstract
namespace Go.Proofs.YtanndcclkmcfbaaDoor
open Go Go.RowKit Go.BigFrame

theorem app2 (a b : Value) : (#[a] ++ #[b] : Array Value) = #[a, b] := rfl
theorem app3 (a b c : Value) : (#[a] ++ #[b, c] : Array Value) = #[a, b, c] := rfl
def idxI {α : Type} (p : α → Bool) (l : List α) : Int := if l.any p then (l.findIdx p : Int) else -1
theorem idxI_hit {α : Type} {p : α → Bool} {l : List α} {k : Nat} {x : α} (ha : (l.take k).any p = false) (hx : l[k]? = some x) (hp : p x = true) : idxI p l = k := by
  obtain ⟨hk, rfl⟩ := List.getElem?_eq_some_iff.1 hx
  unfold idxI
  rw [if_pos (List.any_eq_true.2 ⟨_, List.getElem_mem hk, hp⟩)]
  congr 1
  rw [List.findIdx_eq hk]
  refine ⟨hp, fun j hj => ?_⟩
  rw [List.any_eq_false] at ha
  have hjl : j < (l.take k).length := by simp; omega
  have := ha _ (List.getElem_mem hjl)
  simpa using this
theorem idxI_miss {α : Type} {p : α → Bool} {l : List α} (ha : l.any p = false) : idxI p l = -1 := by unfold idxI; rw [if_neg (by simp [ha])]
theorem any_snoc {α : Type} {p : α → Bool} {l : List α} {k : Nat} {x : α} (ha : (l.take k).any p = false) (hx : l[k]? = some x) (hp : p x = false) : (l.take (k + 1)).any p = false := by
  rw [take_snoc_l hx, List.any_append, ha]; simp [hp]
theorem any_full {α : Type} {p : α → Bool} {l : List α} {k : Nat} (hk : l.length ≤ k) (h : (l.take k).any p = false) : l.any p = false := by rwa [List.take_of_length_le hk] at h
theorem idxI_ge {α : Type} (p : α → Bool) (l : List α) : decide (idxI p l ≥ 0) = l.any p := by
  unfold idxI
  cases h : l.any p with
  | true => rw [if_pos rfl]; exact decide_eq_true (by omega)
  | false => simp

set_option maxHeartbeats 1000000 in
theorem idxCtl_ct (g : Nat) (lb : Array Value) (eg : ∀ args w, (callFunc g args).run Tryd.prog w = .ok (.enter g args) w) (p : Ctl → Bool) (v : Value) (l : List Ctl) (r : Int) (w : World) (h : CtlsAt w v l)
    (hp : ∀ x ∈ l, ∀ W, Below w.heap.size w W → Calls Tryd.prog g (#[.agg #[.string x.name, .int .i64 x.ports, .int .i64 x.kind]] ++ lb) W fun e w' => e = .returned (.bool (p x)) ∧ Below W.heap.size W w') (hr : idxI p l = r) :
    Calls Tryd.prog 59 #[v, .func (.func g) #[] lb] w fun e w' => e = .returned (.int .i64 r) ∧ Below w.heap.size w w' := by
  have HR : Hid (idxI p l = r) := hr
  have HP : Hid _ := hp
  clear hr hp
  obtain ⟨a, c, rfl, h1, h2, h3⟩ := h.open
  clear h
  go_enter Tryd.func59, Tryd.ntmps59
  go_wp2_with fail
  go_loopw [5, 8] (fun _ i W => ∃ k : Nat, k ≤ l.length ∧ i = .int .i64 k ∧ Below w.heap.size w W ∧ Hid ((l.take k).any p = false)) (fun _ i _ => l.length - (intOf i).toNat)
  case atStart => exact ⟨0, Nat.zero_le _, rfl, Below.refl _ _, (by show _ = _; simp)⟩
  case round =>
    obtain ⟨k, hk, rfl, hb, HA⟩ := hrel
    by_cases hlt : k < l.length
    · obtain ⟨x, hx⟩ := getElem?_of_lt hlt
      obtain ⟨_, _, _, b, o, rfl, hc0, hc1, hc2⟩ := h3 k x hx
      have g0 := (hb.cell (World.block_lt_of_cell? w _ hc0)).trans hc0
      have g1 := (hb.cell (World.block_lt_of_cell? w _ hc1)).trans hc1
      have g2 := (hb.cell (World.block_lt_of_cell? w _ hc2)).trans hc2
      have hcall := HP.out x (List.mem_of_getElem? hx) wr hb
      have HX : Hid (l[k]? = some x) := hx
      clear hc0 hc1 hc2 h3 hx
      cases hq : p x with
      | true =>
        rw [hq] at hcall
        have HN : Hid (r = k) := by rw [← HR.out]; exact idxI_hit HA.out HX.out hq
        clear hq
        go_wp2_with (go_at_fn g; refine hcall.mono ?_; rintro e w2 ⟨rfl, hb2⟩)
        have hb := bthen hb hb2
        go_ret
        exact ⟨ret_int HN.out.symm, hb⟩
      | false =>
        rw [hq] at hcall
        have HT : Hid ((l.take (k + 1)).any p = false) := any_snoc HA.out HX.out hq
        clear hq
        go_wp2_with (go_at_fn g; refine hcall.mono ?_; rintro e w2 ⟨rfl, hb2⟩)
        have hb := bthen hb hb2
        go_roundw
        case rel => exact ⟨k + 1, by omega, by go_num, hb, HT⟩
        case measure => simp [intOf]; omega
    · have HN : Hid (r = -1) := by rw [← HR.out]; exact idxI_miss (any_full (by omega) HA.out)
      clear h3
      go_wp2_with fail
      go_ret
      exact ⟨ret_int HN.out.symm, hb⟩
set_option maxHeartbeats 1000000 in
theorem contCtl_ct (g : Nat) (lb : Array Value) (eg : ∀ args w, (callFunc g args).run Tryd.prog w = .ok (.enter g args) w) (p : Ctl → Bool) (v : Value) (l : List Ctl) (r : Bool) (w : World) (h : CtlsAt w v l)
    (hp : ∀ x ∈ l, ∀ W, Below w.heap.size w W → Calls Tryd.prog g (#[.agg #[.string x.name, .int .i64 x.ports, .int .i64 x.kind]] ++ lb) W fun e w' => e = .returned (.bool (p x)) ∧ Below W.heap.size W w') (hr : l.any p = r) :
    Calls Tryd.prog 52 #[v, .func (.func g) #[] lb] w fun e w' => e = .returned (.bool r) ∧ Below w.heap.size w w' := by
  have hge := idxI_ge p l
  rw [hr] at hge
  have hc := fun W hb (h : CtlsAt W v l) => idxCtl_ct g lb eg p v l (idxI p l) W h (fun x hx W' hb' => hp x hx W' (Below.trans (a := w) hb (hb'.mono hb.size))) rfl
  have HC : Hid _ := hc
  obtain ⟨n, hn⟩ : ∃ n, n = idxI p l := ⟨_, rfl⟩
  rw [← hn] at hge
  have HN : Hid (n = idxI p l) := hn
  clear hr hc hp hn
  have HG : Hid (decide (n ≥ 0) = r) := hge
  clear hge
  go_enter Tryd.func52, Tryd.ntmps52
  go_wp2_with (go_at_call 59; refine (HC.out _ (Below.refl _ _) h).mono ?_; rintro e w2 ⟨rfl, hb⟩; rw [← HN.out])
  go_ret
  exact ⟨ret_bool (by rw [← HG.out]), hb⟩


set_option maxHeartbeats 1000000 in
theorem idxStr_ct (g : Nat) (lb : Array Value) (eg : ∀ args w, (callFunc g args).run Tryd.prog w = .ok (.enter g args) w) (p : ByteArray → Bool) (v : Value) (l : List ByteArray) (r : Int) (w : World) (h : StrsAt w v l)
    (hp : ∀ x ∈ l, ∀ W, Below w.heap.size w W → Calls Tryd.prog g (#[.string x] ++ lb) W fun e w' => e = .returned (.bool (p x)) ∧ Below W.heap.size W w') (hr : idxI p l = r) :
    Calls Tryd.prog 54 #[v, .func (.func g) #[] lb] w fun e w' => e = .returned (.int .i64 r) ∧ Below w.heap.size w w' := by
  have HR : Hid (idxI p l = r) := hr
  have HP : Hid _ := hp
  clear hr hp
  obtain ⟨a, c, rfl, h1, h2, h3⟩ := h.open
  clear h
  go_enter Tryd.func54, Tryd.ntmps54
  go_wp2_with fail
  go_loopw [5, 8] (fun _ i W => ∃ k : Nat, k ≤ l.length ∧ i = .int .i64 k ∧ Below w.heap.size w W ∧ Hid ((l.take k).any p = false)) (fun _ i _ => l.length - (intOf i).toNat)
  case atStart => exact ⟨0, Nat.zero_le _, rfl, Below.refl _ _, (by show _ = _; simp)⟩
  case round =>
    obtain ⟨k, hk, rfl, hb, HA⟩ := hrel
    by_cases hlt : k < l.length
    · obtain ⟨x, hx⟩ := getElem?_of_lt hlt
      obtain ⟨_, b, o, rfl, hc0⟩ := h3 k x hx
      have g0 := (hb.cell (World.block_lt_of_cell? w _ hc0)).trans hc0
      have hcall := HP.out x (List.mem_of_getElem? hx) wr hb
      have HX : Hid (l[k]? = some x) := hx
      clear hc0 h3 hx
      cases hq : p x with
      | true =>
        rw [hq] at hcall
        have HN : Hid (r = k) := by rw [← HR.out]; exact idxI_hit HA.out HX.out hq
        clear hq
        go_wp2_with (go_at_fn g; refine hcall.mono ?_; rintro e w2 ⟨rfl, hb2⟩)
        have hb := bthen hb hb2
        go_ret
        exact ⟨ret_int HN.out.symm, hb⟩
      | false =>
        rw [hq] at hcall
        have HT : Hid ((l.take (k + 1)).any p = false) := any_snoc HA.out HX.out hq
        clear hq
        go_wp2_with (go_at_fn g; refine hcall.mono ?_; rintro e w2 ⟨rfl, hb2⟩)
        have hb := bthen hb hb2
        go_roundw
        case rel => exact ⟨k + 1, by omega, by go_num, hb, HT⟩
        case measure => simp [intOf]; omega
    · have HN : Hid (r = -1) := by rw [← HR.out]; exact idxI_miss (any_full (by omega) HA.out)
      clear h3
      go_wp2_with fail
      go_ret
      exact ⟨ret_int HN.out.symm, hb⟩
set_option maxHeartbeats 1000000 in
theorem contStr_ct (g : Nat) (lb : Array Value) (eg : ∀ args w, (callFunc g args).run Tryd.prog w = .ok (.enter g args) w) (p : ByteArray → Bool) (v : Value) (l : List ByteArray) (r : Bool) (w : World) (h : StrsAt w v l)
    (hp : ∀ x ∈ l, ∀ W, Below w.heap.size w W → Calls Tryd.prog g (#[.string x] ++ lb) W fun e w' => e = .returned (.bool (p x)) ∧ Below W.heap.size W w') (hr : l.any p = r) :
    Calls Tryd.prog 44 #[v, .func (.func g) #[] lb] w fun e w' => e = .returned (.bool r) ∧ Below w.heap.size w w' := by
  have hge := idxI_ge p l
  rw [hr] at hge
  have hc := fun W hb (h : StrsAt W v l) => idxStr_ct g lb eg p v l (idxI p l) W h (fun x hx W' hb' => hp x hx W' (Below.trans (a := w) hb (hb'.mono hb.size))) rfl
  have HC : Hid _ := hc
  obtain ⟨n, hn⟩ : ∃ n, n = idxI p l := ⟨_, rfl⟩
  rw [← hn] at hge
  have HN : Hid (n = idxI p l) := hn
  clear hr hc hp hn
  have HG : Hid (decide (n ≥ 0) = r) := hge
  clear hge
  go_enter Tryd.func44, Tryd.ntmps44
  go_wp2_with (go_at_call 54; refine (HC.out _ (Below.refl _ _) h).mono ?_; rintro e w2 ⟨rfl, hb⟩; rw [← HN.out])
  go_ret
  exact ⟨ret_bool (by rw [← HG.out]), hb⟩


end Go.Proofs.YtanndcclkmcfbaaDoor
