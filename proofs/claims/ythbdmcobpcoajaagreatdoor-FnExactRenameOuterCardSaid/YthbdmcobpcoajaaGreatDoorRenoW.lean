/- Names without one. -/
import Derived.Test.YthbdmcobpcoajaaGreatDoorShelf
import Derived.Test.YthbdmcobpcoajaaGreatDoorRenoP
import Derived.Test.YthbdmcobpcoajaaGreatDoorG2
import Derived.Shelf.SlicesE.DeleteFunc
import Derived.Lib.OwnBridge
namespace Go.Proofs.YthbdmcobpcoajaaGreatDoor
open Go Go.RowKit Go.BigFrame Go.Lib Go.Sort
theorem wnCl_ct (fr x : ByteArray) (B : Nat) (W : World) (hc : W.cell? ⟨B, 0, none⟩ = some (.string fr)) : FnGives Tryz.prog 224 #[.pointer (some ⟨B, 0, none⟩)] #[.string x] (.bool (decide (x = fr))) W := by
  show Calls Tryz.prog 224 #[.string x, .pointer (some ⟨B, 0, none⟩)] W _
  rw [← beq_data]
  go_enter Tryz.func224, Tryz.ntmps224
  go_wp2_with fail
  go_ret
  exact ⟨rfl, 0, rfl⟩
theorem zero_str (w : World) : (zeroValue 9).run Tryz.prog w = .ok (.string ⟨#[]⟩) w := by
  exact Tryz.zeroValue9 w
set_option maxRecDepth 100000 in
set_option maxHeartbeats 4000000 in
theorem withoutName_ct (v : Value) (l : List ByteArray) (fr : ByteArray) (w : World) (h : StrsAt w v l) (h16 : l.length ≤ 1000) (hm : fr ∈ l) : Calls Tryz.prog 191 #[v, .string fr] w fun e w' => ∃ a c, e = .returned (.slice a (without l fr).length c) ∧ Acc w' w.heap.size 9 1 (.slice a (without l fr).length c) (strRows (without l fr)) ∧ Below w.heap.size w w' := by
  obtain ⟨a, c, rfl, _⟩ := id h.open
  have HL := Lib.hid h
  have HM := Lib.hid hm
  clear h hm
  have hlp : 0 < l.length := List.length_pos_of_mem HM.out
  have BF : Box (w.alloc (.cells #[.string fr] 9)) w.heap.size #[.string fr] 9 := Box.new _ _ _
  have hb0 := balloc w (.cells #[.string fr] 9)
  go_enter Tryz.func191, Tryz.ntmps191
  go_wp2_with fail
  obtain ⟨w0, hw0⟩ : ∃ W, W = w.alloc (.cells #[.string fr] 9) := ⟨_, rfl⟩
  rw [← hw0] at hb0 BF ⊢
  have hs0 : w.heap.size + 1 ≤ w0.heap.size := by rw [hw0]; simp
  clear hw0
  refine (cloneA_ct _ l _ (HL.out.below hb0) h16).mono ?_
  rintro e w1 ⟨ca, cc, rfl, acc, hb1⟩
  have BF := BF.below hb1
  have hb := bthen hb0 hb1
  have hcell := BF.cell 0
  have ho : w1.ownsRow w0.heap.size 9 1 (.slice ca l.length cc) l.length (l.map Value.string) := by have := acc.1; rwa [len_strRows, strs_flat] at this
  obtain ⟨g, cap, e0, hbg, hgl, hnc, hcm, _, hH⟩ := holds_of_ownsRow ho (by intro e; injection e; omega)
  injection e0 with e1 _ e2
  subst e1; subst e2
  have hwl : w.heap.size < w1.heap.size := BF.lt
  have hp : PredAt Tryz.prog 224 #[.pointer (some ⟨w.heap.size, 0, none⟩)] Value.string (fun x => decide (x = fr)) w1 :=
    fun W x hbx => wnCl_ct fr x w.heap.size W ((hbx.cell (p := ⟨w.heap.size, 0, none⟩) hwl).trans hcell)
  have hpo : PredOver Tryz.prog 224 #[.pointer (some ⟨w.heap.size, 0, none⟩)] Value.string (fun x => decide (x = fr)) g 0 l.toArray.size w1 :=
    fun n os dk x _ => wnCl_ct fr x w.heap.size _ (by
      unfold sortWorld
      rw [cell?_grow _ _ _ (by show w.heap.size < (putRow _ _ _ _ _).heap.size; rw [size_putRow]; exact hwl), cell?_putRow_other _ _ g 0 _ _ (Or.inl (by show w.heap.size ≠ g; omega))]
      exact hcell)
  have hcon := Tryz.slices_DeleteFunc Value.string (fun _ => rfl) (fun x => decide (x = fr)) 224 #[.pointer (some ⟨w.heap.size, 0, none⟩)] (by intros; rfl) ⟨#[]⟩ zero_str g 0 cc l.toArray w1 hp hpo hH (by simp; omega) (by simpa using hnc)
  have HC : Hid (Calls Tryz.prog 223 #[.slice (some ⟨g, 0, none⟩) l.length cc, .func (.func 224) #[] #[.pointer (some ⟨w.heap.size, 0, none⟩)]] w1 fun e w' => e = .returned (.slice (some ⟨g, 0, none⟩) (without l fr).length cc) ∧ ∃ q, w' = putRow Value.string (Sort.ahead w1 q) g 0 (without l fr ++ List.replicate (l.length - (without l fr).length) (⟨#[]⟩ : ByteArray)).toArray) := by
    show Calls _ _ _ _ _
    have := hcon
    rw [List.size_toArray] at this
    exact this
  have hkl : (without l fr).length ≤ l.length := List.length_filter_le _ _
  clear hcon hp hpo hH hcell hcm
  go_wp2_with fail
  refine HC.out.mono ?_
  rintro e w2 ⟨rfl, q, rfl⟩
  go_wp2_with fail
  go_ret
  have h3 := ownsRow_putRow (ys := without l fr ++ List.replicate (l.length - (without l fr).length) (⟨#[]⟩ : ByteArray)) (k := (without l fr).length) (q := q) ho (by simp; omega) hkl
  rw [List.take_left' rfl] at h3
  have acc2 : Acc _ w0.heap.size 9 1 (.slice (some ⟨g, 0, none⟩) (without l fr).length cc) (strRows (without l fr)) := ⟨by rw [strs_flat, len_strRows]; exact h3, by simp [strRows]⟩
  exact ⟨_, _, rfl, acc2.le (by omega), below_putRow hb (by omega)⟩
end Go.Proofs.YthbdmcobpcoajaaGreatDoor
