/- The frame of FnExactBigraphText: its row lists tables. -/
import Derived.Test.YthbdmcobpcoajaaGreatDoorCards
import Derived.Test.YthbdmcobpcoajaaGreatDoorTie
import Derived.WalkKit
import Derived.ProofKit
import Derived.OpenShut
import Derived.ShutString
import Derived.Deep.DeepHandedRow
import Derived.Test.YthbdmcobpcoajaaGreatDoorG7
import Derived.Test.YthbdmcobpcoajaaGreatDoorLBigraphText
import Derived.Test.YthbdmcobpcoajaaGreatDoorKBBigraphText
import Derived.Lib.LaidTab
import Derived.Stop.LaidErr
import Derived.MakeChecks
namespace Go.Proofs.YthbdmcobpcoajaaGreatDoor.fnExactBigraphText
open Go.ChangeShapes Go.WideShapes Go.ChangeAt Go.RowKit
open Go.ChangeMaps (open_string shut_string)
set_option linter.unusedVariables false

theorem own : ownKnob Tryz.prog.godebug = none := k_own
set_option maxRecDepth 100000 in
theorem contract (H : Type) (enc : TypeId × Value → H) (W : World) (base : Nat) (args : Array Value) (ds gs : List (DataW H)) (before : List MemPlace)
    (hval0 : ∀ (j : Nat) t v, Tryz.f8.params[j]? = some t → args[j]? = some v → Value.okWide Tryz.prog W .any base t v)
    (hW : DataW.Whole enc Tryz.prog Tryz.f8.params.toList Rows.fnExactBigraphTextSpec.vars false W args.toList ds gs before) (hL : laidMetH Tryz.prog Rows.fnExactBigraphTextRow.laid W) :
    Calls Tryz.prog 8 args W fun e W' => ∃ v, e = .returned v ∧ Rows.fnExactBigraphTextSpec.post enc Tryz.prog Tryz.f8 false true false false W args v W' := by
  have hval : ∀ (j : Nat) t v, Tryz.f8.params[j]? = some t → args[j]? = some v → Value.okWide Tryz.prog W .any base t v := hval0
  have hW' := hW
  obtain ⟨p, q, hA0, hV, rfl, hfz, hnd⟩ := hW
  have hA : DataW.TrodAll enc Tryz.prog W 0 (fun _ => true) true Tryz.f8.params.toList args.toList ds p := hA0
  rw [Tryz.params8] at hA hval
  obtain ⟨v0, vs0, d0, ds0, p0, q0, hargs, rfl, rfl, h0, r0⟩ := trodAll_cons hA
  obtain ⟨v1, vs1, d1, ds1, p1, q1, rfl, rfl, rfl, h1, r1⟩ := trodAll_cons r0
  obtain ⟨rfl, rfl, rfl⟩ := trodAll_nil r1
  obtain rfl : args = #[v0, v1] := by cases args; simp_all
  obtain ⟨k0, n0, c0, rfl, rfl⟩ := okWide_slice Tryz.underlying22 (hval 0 22 v0 rfl rfl)
  obtain ⟨u0, h0⟩ := h0
  obtain ⟨a0, w0⟩ := ctls_of h0
  obtain ⟨a1, w1⟩ := big_of (hval 1 28 v1 rfl rfl) h1
  clear hval0
  have hL' : laidMet Tryz.prog Rows.fnExactBigraphTextRow.laid W := hL
  have htab : Lib.TabIs Tryz.prog W "internal/strconv.uint64pow10" .u64 Lib.pow10Tab := Lib.tabIs_of_head (g := 5) (by kernel_rfl) (by kernel_rfl) Tryz.underlying274 Tryz.underlying225 (by kernel_rfl) (by kernel_rfl) (laidMet.tail (laidMet.tail hL'))
  refine (lawBigraphText _ a0 _ a1 W w0 w1 htab).mono fun e W' ⟨he, hg⟩ => ?_
  subst he
  exact ⟨_, rfl, law_post hW' rfl rfl Tryz.underlying4 ⟨rfl, rfl, rfl⟩ k_laidOut (by rw [Tryz.params8]; decide +kernel) hg⟩

def valOf (d : DataW Unit) : Value := match d with | .lit (.int k n) => .int k n | _ => .bool false
def cellsIn (d : DataW Unit) : List Value := match d with | .agg l => l.map valOf | d => [valOf d]
def cellsIn2 (d : DataW Unit) : List Value := match d with | .agg l => l.flatMap cellsIn | d => [valOf d]
def putCells (l : List Value) : Obj → Obj
  | .cells _ t fr => .cells l.toArray t fr
  | o => o
noncomputable def laidWorld (os : Os) : World :=
  { World.holding Tryz.prog os ⟨#[], #[], []⟩ with heap := ((((((World.holding Tryz.prog os ⟨#[], #[], []⟩).heap.modify 6 (putCells (cellsIn Rows.laid_math_bits_deBruijn32tab))).modify 7 (putCells (cellsIn Rows.laid_math_bits_deBruijn64tab))).modify 5 (putCells (cellsIn Rows.laid_internal_strconv_uint64pow10))).modify 4 (putCells (cellsIn2 Rows.laid_unicode_utf8_acceptRanges))).modify 3 (putCells (cellsIn Rows.laid_unicode_utf8_first))) }
theorem laid_met (os : Os) : laidMet Tryz.prog Rows.fnExactBigraphTextRow.laid ((laidWorld os).forCall (fun _ _ => 0) ⟨#[], #[.slice none 0 0, .agg #[.int .i64 0, .slice none 0 0, .slice none 0 0, .int .i64 0, .slice none 0 0, .slice none 0 0]], []⟩).memory :=
  laidMet_of_run' 8 (by kernel_rfl) (by kernel_rfl)
theorem reads (os : Os) {H : Type} (enc : TypeId × Value → H) : ∃ places, DataW.whole enc Tryz.prog ((laidWorld os).forCall (fun _ _ => 0) ⟨#[], #[.slice none 0 0, .agg #[.int .i64 0, .slice none 0 0, .slice none 0 0, .int .i64 0, .slice none 0 0, .slice none 0 0]], []⟩).memory Tryz.f8.params.toList Rows.fnExactBigraphTextSpec.vars false (#[Value.slice none 0 0, Value.agg #[.int .i64 0, .slice none 0 0, .slice none 0 0, .int .i64 0, .slice none 0 0, .slice none 0 0]] : Array Value).toList 8 = some ([.nil, .agg [.lit (.int .i64 0), .nil, .nil, .lit (.int .i64 0), .nil, .nil]], [], places) :=
  ⟨[], by kernel_rfl⟩

set_option maxRecDepth 100000 in
theorem lifted (os : Os) (started : os.Started) (H : Type) (enc : TypeId × Value → H) (F : Stop.Interp) :
    ReturnsInHanded {} Tryz.checked os 8 .any ((OpenSpec.ofChange Rows.fnExactBigraphTextSpec).preRow enc Tryz.prog Tryz.f8 Rows.fnExactBigraphTextRow.domain false Rows.fnExactBigraphTextRow.laid) (((OpenSpec.ofChange Rows.fnExactBigraphTextSpec).at F).post enc Tryz.prog Tryz.f8 false true false false) := by
  obtain ⟨places, hx⟩ := reads os enc
  refine returnsInHanded_of_row (C := Tryz.checked) (s := OpenSpec.ofChange Rows.fnExactBigraphTextSpec) own started (by kernel_rfl) Tryz.func8
    (witness_row_at (enc := enc) (C := Tryz.checked) false (laidWorld os) #[.slice none 0 0, .agg #[.int .i64 0, .slice none 0 0, .slice none 0 0, .int .i64 0, .slice none 0 0, .slice none 0 0]] rfl (by kernel_rfl) (by kernel_rfl) (by kernel_rfl)
      (OpenSpec.preRow_of_cond 8 hx (by kernel_rfl) (fun k hk => by cases hk) (by kernel_rfl) (laid_met os))) ?_
  intro W base args ds gs before hval hW _ _ _ hL _ _
  exact contract H enc W base args ds gs before hval hW hL

theorem said : Rows.FnExactBigraphTextSaid :=
  OpenClaim.holds_of_cond 8 Tryz.f8 rfl rfl rfl rfl rfl rfl rfl ⟨rfl, rfl, rfl, rfl, rfl⟩ rfl rfl rfl rfl rfl k_fn Tryz.func8 k_closed
    (of_decide_eq_true (by kernel_rfl)) (by unfold Func.isWrapper; first | (rw [if_pos (by decide +kernel)]; kernel_rfl) | (rw [if_neg (by decide +kernel)]; exact ⟨rfl, rfl⟩))
    (fun os started H enc _ F => by rw [OpenClaim.pre_eq_preRow]; exact lifted os started H enc F)

theorem plain (f : FuncId) (fn : Func) (hf : Tryz.pinned.checked.prog.funcNamed "loop.example/g01082/laws.FnExactBigraphText" = some f) (hfn : Tryz.pinned.checked.prog.funcs[f]? = some fn) :
    true = Tryz.pinned.checked.prog.looks [] ∧ ∀ (j : Nat) t, fn.params[j]? = some t → Tryz.pinned.checked.prog.wantsStandIn t = false := by
  obtain rfl : f = 8 := Option.some.inj ((show Tryz.prog.funcNamed "loop.example/g01082/laws.FnExactBigraphText" = some 8 from k_fn).symm.trans hf) |>.symm
  obtain rfl : fn = Tryz.f8 := (Option.some.inj (Tryz.func8.symm.trans hfn)).symm
  refine ⟨k_looks, fun j t ht => ?_⟩
  rw [Tryz.params8] at ht
  have hm : ∀ t ∈ (#[22, 28] : Array Nat), Tryz.prog.wantsStandIn t = false := by decide +kernel
  exact hm t (Array.mem_of_getElem? ht)

theorem card : Rows.FnExactBigraphTextCardSaid :=
  Claim7.holds_tied_plain_at .later [] _ _ _ _ said (fun _ h => by cases h) k_wf (fun _ h => by cases h) fnExactBigraphText_row_tie rfl ⟨rfl, rfl⟩ (by as_aux_lemma => kernel_rfl) rfl plain k_goes
#print axioms card
end Go.Proofs.YthbdmcobpcoajaaGreatDoor.fnExactBigraphText
