/- Merges: slices.Repeat of one number. -/
import Derived.Test.YtlkadcmicjencaaPerm
import Derived.Test.YtlkadcmicjencaaShelf
import Derived.Deep.RegionHeld3
import Derived.Laws.CopyOwn
namespace Go.Proofs.Ytlkadcmicjencaa
open Go Go.RowKit Go.BigFrame

def rep (n j : Nat) : List Value := List.replicate j (.int .i64 (-1)) ++ List.replicate (n - j) (.int .i64 0)
theorem made_rep (z : Value) (n : Nat) : (madeCells #[z] n).toList = List.replicate n z := by
  unfold madeCells
  rw [List.eq_replicate_iff]
  refine ⟨by simp, fun b hb => ?_⟩
  simp only [Array.toList_map, List.mem_map] at hb
  obtain ⟨k, _, rfl⟩ := hb
  simp [Nat.mod_one]
theorem rep_len {n j : Nat} (h : j ≤ n) : (rep n j).length = n := by simp [rep]; omega
theorem rep_splice {n j m : Nat} (h : j + m ≤ n) : splice (rep n j) j (List.replicate m (.int .i64 (-1))) = rep n (j + m) := by
  have e1 : (rep n j).take j = List.replicate j (.int .i64 (-1)) := by unfold rep; rw [List.take_left' (by simp)]
  have e2 : (rep n j).drop (j + m) = List.replicate (n - (j + m)) (.int .i64 0) := by
    unfold rep
    rw [List.drop_append, List.drop_of_length_le (by simp)]
    simp only [List.nil_append, List.length_replicate, List.drop_replicate]
    congr 1; omega
  unfold splice
  rw [List.length_replicate, e1, e2]
  unfold rep
  rw [← List.append_assoc, List.replicate_append_replicate]

set_option maxHeartbeats 2000000 in
theorem repeat_ct (n : Nat) (hn : n ≤ 4) (b : Nat) (w : World) (hc : w.cell? ⟨b, 0, none⟩ = some (.int .i64 (-1))) : Calls Try.prog 35 #[.slice (some ⟨b, 0, none⟩) 1 1, .int .i64 n] w fun e w' => ∃ u, e = .returned u ∧ RowOwn w.heap.size w' u 1 (intRows (List.replicate n (-1))) ∧ Below w.heap.size w w' := by
  obtain ⟨i0, hi, hz0, hz1, hz2⟩ := info_parts inf_int
  have hcc : ∀ j v, ([.int .i64 (-1)] : List Value)[j]? = some v → w.cell? ((⟨b, 0, none⟩ : Addr).add j) = some v := by
    intro j v h
    cases j with
    | zero => simp at h; subst h; exact hc
    | succ j => simp at h
  go_enter Try.func35, Try.ntmps35
  go_wp2_with fail
  refine (Try.bits_Mul 1 n (by omega) (by omega) _).mono ?_
  rintro e w2 ⟨rfl, hw2⟩
  rw [hw2]
  clear hw2
  rw [show (1 * n / 18446744073709551616 : Nat) = 0 by omega, show (1 * n % 18446744073709551616 : Nat) = n by omega]
  go_wp2_with (at_make; refine wpList_make_full _ rfl _ _ 23 rfl w.heap.size 3 i0 (.int .i64 0) 1 Try.underlying23 hi hz0 hz1 _ _ _ _ n rfl rfl rfl rfl ?b1 ?b2 ?b3 ?_)
  case b1 => rw [hz2]; omega
  case b2 => unfold maxLen; omega
  case b3 => exact Nat.le_refl _
  intro w1 hown hgrow
  have hb1 : Below w.heap.size w w1 := (Below.refl _ _).grown hgrow (Nat.le_refl _) (fun _ h => by cases h)
  clear hi hz0 hz1 hz2
  obtain ⟨cur, hg, hcur⟩ : ∃ cur : Array Value, w1.heap[w.heap.size]? = some (.cells cur 3 (0, 0)) ∧ cur.toList = rep n 0 := by
    rcases hown.2 with ⟨h, _⟩ | ⟨g, c, cur, h, hB, hg, h4⟩
    · cases h
    · simp only [Value.slice.injEq, Option.some.injEq, Addr.mk.injEq] at h
      obtain ⟨⟨rfl, _⟩, _, rfl⟩ := h
      refine ⟨cur, hg, ?_⟩
      have h5 := h4.2.2.2
      rw [Nat.mul_one, List.take_of_length_le (by simp; omega)] at h5
      rw [h5]
      have e := made_rep (.int .i64 0) n
      rw [e]; simp [rep]
  have HG : Hid (w1.heap[w.heap.size]? = some (.cells (rep n 0).toArray 3 (0, 0))) := by show _ = _; rw [hg, ← hcur]
  have hs1 : w.heap.size < w1.heap.size := (Array.getElem?_eq_some_iff.1 hg).1
  clear hg hcur cur hown hgrow
  have hcc1 : ∀ j v, ([.int .i64 (-1)] : List Value)[j]? = some v → w1.cell? ((⟨b, 0, none⟩ : Addr).add j) = some v := fun j v h => (hb1.cell (World.block_lt_of_cell? _ _ (hcc j v h))).trans (hcc j v h)
  obtain ⟨m0, hm0⟩ : ∃ m, m = Nat.min 1 n := ⟨_, rfl⟩
  have hm1 : m0 ≤ n ∧ m0 ≤ 1 ∧ (n = 0 ∨ 1 ≤ m0) := by rw [hm0]; show min 1 n ≤ n ∧ min 1 n ≤ 1 ∧ (n = 0 ∨ 1 ≤ min 1 n); omega
  have HM0 : Hid (m0 = Nat.min 1 n) := hm0
  clear hm0
  go_wp2_with (refine wpList_copy_splice rfl (.tmp 31) (.tmp 32) 23 23 rfl 3 Try.underlying23 (by kernel_rfl) (some ⟨w.heap.size, 0, none⟩) (some ⟨b, 0, none⟩) n n 1 1 rfl rfl w.heap.size 0 (rep n 0) 3 HG.out (List.replicate m0 (.int .i64 (-1))) (by rw [List.length_replicate]; exact HM0.out) (fun _ => ⟨rfl, _, rfl, fun j v h => hcc1 j v (by rw [List.getElem?_replicate] at h; split at h; (have : j = 0 := by omega); subst this; simpa using h; cases h)⟩) (by rw [List.length_replicate, rep_len (by omega)]; omega) (by intro v hv; rw [List.eq_of_mem_replicate hv]; rfl) w.heap.size w hb1 (Nat.le_refl _) ?_)
  intro w3 H3 hb3
  have e3 : splice (rep n 0) 0 (List.replicate m0 (.int .i64 (-1))) = rep n m0 := by have := rep_splice (n := n) (j := 0) (m := m0) (by omega); rwa [Nat.zero_add] at this
  rw [e3] at H3
  have hs3 : w.heap.size < w3.heap.size := (Array.getElem?_eq_some_iff.1 H3.out).1
  try rw [List.length_replicate]
  try rw [← HM0.out]
  clear HG hcc1 e3 HM0 hb1
  go_wp2_with fail
  go_loopw [8] (fun i W => ∃ j : Nat, j ≤ n ∧ (n = 0 ∨ 1 ≤ j) ∧ i = .int .i64 j ∧ Below w.heap.size w W ∧ Hid (W.heap[w.heap.size]? = some (.cells (rep n j).toArray 3 (0, 0)))) (fun i _ => n - (intOf i).toNat)
  case atStart => exact ⟨m0, hm1.1, hm1.2.2, rfl, hb3, H3⟩
  case round =>
    clear hb3 H3 hs3
    obtain ⟨j, hj, hj1, rfl, hb, HG⟩ := hrel
    by_cases hlt : j < n
    · have hne : ¬ n = j := by omega
      go_wp2_with fail
      obtain ⟨wd, hWd⟩ : ∃ W, W = wr.drew := ⟨_, rfl⟩
      have HGd : Hid (wd.heap[w.heap.size]? = some (.cells (rep n j).toArray 3 (0, 0))) := by show _ = _; rw [hWd]; exact HG.out
      have hbd : Below w.heap.size w wd := by rw [hWd]; exact hb.trans ⟨rfl, rfl, rfl, Nat.le_refl _, fun _ _ => rfl⟩
      clear HG hb
      have HWD : Hid (wd = wr.drew) := hWd
      clear hWd
      obtain ⟨m, hm⟩ : ∃ m, m = Nat.min j (n - j) := ⟨_, rfl⟩
      have HM : Hid (m = Nat.min j (n - j)) := hm
      have hmb : m ≤ j ∧ m ≤ n - j ∧ 1 ≤ m := by rw [hm]; show min j (n - j) ≤ j ∧ min j (n - j) ≤ n - j ∧ 1 ≤ min j (n - j); omega
      clear hm
      have hcs : ∀ i v, (List.replicate m (Value.int .i64 (-1)))[i]? = some v → wd.cell? ((⟨w.heap.size, 0, none⟩ : Addr).add i) = some v := by
        intro i v h
        rw [List.getElem?_replicate] at h
        split at h
        · rename_i hi
          have hadd : (⟨w.heap.size, 0, none⟩ : Addr).add i = ⟨w.heap.size, i, none⟩ := by unfold Addr.add; split <;> simp_all
          rw [hadd, cell_of_row wd w.heap.size i _ _ (0, 0) HGd.out, List.getElem?_toArray]
          unfold rep
          rw [List.getElem?_append_left (by simp; omega), List.getElem?_replicate, if_pos (by omega)]
          exact h
        · cases h
      have hwr : IntKind.i64.wrap ((j : Int) + (m : Int)) = (j : Int) + (m : Int) := Go.IntWalk.i64_in _ (by omega)
      go_region_held3 (fun _ => True) (trivial) ((rw [← HWD.out]; refine step_copy_splice (by rfl) (.tmp 41) (.tmp 44) 23 23 (by rfl) 3 Try.underlying23 (by kernel_rfl) (some ⟨w.heap.size, j, none⟩) (some ⟨w.heap.size, 0, none⟩) (n - j) (n - j) j n (by rfl) (by rfl) w.heap.size j (rep n j) 3 HGd.out (List.replicate m (.int .i64 (-1))) (by rw [List.length_replicate]; exact HM.out) (fun _ => ⟨rfl, _, rfl, hcs⟩) (by rw [List.length_replicate, rep_len hj]; omega) (by intro v hv; rw [List.eq_of_mem_replicate hv]; rfl) w.heap.size w hbd (Nat.le_refl _) ?_; intro w5 H5 hb5; rw [rep_splice (by omega)] at H5; (try rw [List.length_replicate]); (try rw [← HM.out]); clear HGd hbd hcs HM HWD))
      all_goals (
        go_wp2_with fail
        go_roundw
        case rel => exact ⟨j + m, by omega, by omega, by go_num, hb5, H5⟩
        case measure => simp [intOf]; omega)
    · have e : j = n := by omega
      subst e
      have own : RowOwn w.heap.size wr (.slice (some ⟨w.heap.size, 0, none⟩) j j) 1 (intRows (List.replicate j (-1))) := ⟨by simp [intRows], .inr ⟨w.heap.size, j, _, _, by simp [intRows], Nat.le_refl _, HG.out, by simp [intRows], by simp [rep, intRows]⟩⟩
      go_wp2_with fail
      go_ret
      exact ⟨_, rfl, own, hb⟩
end Go.Proofs.Ytlkadcmicjencaa
