/- What functions hand back that lies in memory of the call's own. No program in sight but the layouts. -/
import Derived.Test.YtanndcclkmcfbaaDoorLaw0
import Derived.Test.YtanndcclkmcfbaaDoorElem1
import Derived.Test.YtanndcclkmcfbaaDoorMarkP
namespace Go.Proofs.YtanndcclkmcfbaaDoor
open Go Go.RowKit

def GivesStrs (R : List ByteArray) (ok : Bool) (w : World) (e : Ending) (w' : World) : Prop :=
  ∃ v, e = .returned (.tuple #[v, .bool ok]) ∧ StrsOwn w.heap.size w' v R ∧ Below w.heap.size w w'
def GivesInts (R : List Int) (ok : Bool) (w : World) (e : Ending) (w' : World) : Prop :=
  ∃ v, e = .returned (.tuple #[v, .bool ok]) ∧ IntsOwn w.heap.size w' v R ∧ Below w.heap.size w w'
def GivesInts2 (R0 R1 : List Int) (ok : Bool) (w : World) (e : Ending) (w' : World) : Prop :=
  ∃ v0 v1, e = .returned (.tuple #[v0, v1, .bool ok]) ∧ IntsOwn w.heap.size w' v0 R0 ∧ IntsOwn w.heap.size w' v1 R1 ∧ (∀ g ∈ blks v0, g ∉ blks v1) ∧ Below w.heap.size w w'
def GivesBig2 (R0 R1 : Big) (ok : Bool) (w : World) (e : Ending) (w' : World) : Prop :=
  ∃ v0 bs0 v1 bs1, e = .returned (.tuple #[v0, v1, .bool ok]) ∧ BigOwn w.heap.size w' v0 R0 bs0 ∧ bs0.Nodup ∧ BigOwn w.heap.size w' v1 R1 bs1 ∧ bs1.Nodup ∧ (∀ g ∈ bs0, g ∉ bs1) ∧ Below w.heap.size w w'
theorem cntN_le (l : List Nd) : cntN l ≤ 2 * totN l := by
  induction l with
  | nil => simp [cntN, totN, sumOf]
  | cons n l ih =>
    rw [cntN_cons]
    unfold totN at ih ⊢
    rw [sumOf_cons]
    simp only [List.length_cons]
    omega
theorem cntB_le (b : Big) : cntB b ≤ 2 * totB b := by
  have := cntN_le b.nodes
  unfold cntB totB totI totS totW
  omega
theorem totC_ge (l : List Ctl) : l.length ≤ totC l := by unfold totC; omega
theorem totS_ge (l : List ByteArray) : l.length ≤ totS l := by unfold totS; omega
theorem totI_ge (l : List Int) : l.length ≤ totI l := by unfold totI; omega
theorem StrsOwn.shp {B : Nat} {w : World} {v : Value} {l : List ByteArray} (h : StrsOwn B w v l) : ∃ a c, v = .slice a l.length c := by simpa [strRows] using h.1.shape
theorem IntsOwn.shp {B : Nat} {w : World} {v : Value} {l : List Int} (h : IntsOwn B w v l) : ∃ a c, v = .slice a l.length c := by simpa [intRows] using h.1.shape
theorem CtlsOwn.shp {B : Nat} {w : World} {v : Value} {l : List Ctl} (h : CtlsOwn B w v l) : ∃ a c, v = .slice a l.length c := by simpa using h.1.shape
end Go.Proofs.YtanndcclkmcfbaaDoor
