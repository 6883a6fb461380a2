/- The frame of FnExactParseBigraph: its row lists tables. -/
import Derived.Test.YthgelhglfbgagaaGreatDoorCards
import Derived.Test.YthgelhglfbgagaaGreatDoorTie
import Derived.WalkKit
import Derived.ProofKit
import Derived.OpenShut
import Derived.ShutString
import Derived.Deep.DeepHandedRow
import Derived.Test.YthgelhglfbgagaaGreatDoorG7
import Derived.Test.YthgelhglfbgagaaGreatDoorLParseBigraph
import Derived.Test.YthgelhglfbgagaaGreatDoorKBParseBigraph
import Derived.Lib.LaidTab
import Derived.Stop.LaidErr
import Derived.MakeChecks
namespace Go.Proofs.YthgelhglfbgagaaGreatDoor.fnExactParseBigraph
open Go.ChangeShapes Go.WideShapes Go.ChangeAt Go.RowKit
open Go.ChangeMaps (open_string shut_string)
set_option linter.unusedVariables false

theorem gR : Tryz.prog.globalNamed "strconv.ErrRange" = some 2 := by kernel_rfl
theorem gRType : (Tryz.prog.globals[2]?).map (·.type) = some 109 := by kernel_rfl
theorem gS : Tryz.prog.globalNamed "strconv.ErrSyntax" = some 1 := by kernel_rfl
theorem gSType : (Tryz.prog.globals[1]?).map (·.type) = some 109 := by kernel_rfl
theorem starE : "*" ++ "errors.errorString" = "*errors.errorString" := by decide
theorem rowE (u : TypeId) (h : Tryz.prog.typeName? 3 u = some "*errors.errorString") : u = 195 :=
  typeName_ptr_named (nm := "errors.errorString") (by rw [starE]; kernel_rfl) (by kernel_rfl) (by decide) u (by rw [starE]; exact h)

theorem own : ownKnob Tryz.prog.godebug = none := k_own
set_option maxRecDepth 100000 in
theorem contract (H : Type) (enc : TypeId × Value → H) (W : World) (base : Nat) (args : Array Value) (ds gs : List (DataW H)) (before : List MemPlace)
    (hval0 : ∀ (j : Nat) t v, Tryz.f3.params[j]? = some t → args[j]? = some v → Value.okWide Tryz.prog W .any base t v)
    (hW : DataW.Whole enc Tryz.prog Tryz.f3.params.toList Rows.fnExactParseBigraphSpec.vars false W args.toList ds gs before) (hL : laidMetH Tryz.prog Rows.fnExactParseBigraphRow.laid W) (hsh : W.ShapedOpen Tryz.prog) :
    Calls Tryz.prog 3 args W fun e W' => ∃ v, e = .returned v ∧ Rows.fnExactParseBigraphSpec.post enc Tryz.prog Tryz.f3 false true false false W args v W' := by
  have hval : ∀ (j : Nat) t v, Tryz.f3.params[j]? = some t → args[j]? = some v → Value.okWide Tryz.prog W .any base t v := hval0
  have hW' := hW
  obtain ⟨p, q, hA0, hV, rfl, hfz, hnd⟩ := hW
  have hA : DataW.TrodAll enc Tryz.prog W 0 (fun _ => true) true Tryz.f3.params.toList args.toList ds p := hA0
  rw [Tryz.params3] at hA hval
  obtain ⟨v0, vs0, d0, ds0, p0, q0, hargs, rfl, rfl, h0, r0⟩ := trodAll_cons hA
  obtain ⟨v1, vs1, d1, ds1, p1, q1, rfl, rfl, rfl, h1, r1⟩ := trodAll_cons r0
  obtain ⟨rfl, rfl, rfl⟩ := trodAll_nil r1
  obtain rfl : args = #[v0, v1] := by cases args; simp_all
  obtain ⟨k0, n0, c0, rfl, rfl⟩ := okWide_slice Tryz.underlying22 (hval 0 22 v0 rfl rfl)
  obtain ⟨u0, h0⟩ := h0
  obtain ⟨a0, w0⟩ := ctls_of h0
  obtain ⟨a1, rfl, rfl, rfl, w1⟩ := open_string Tryz.underlying9 (hval 1 9 v1 rfl rfl) h1
  clear hval0
  have hL' : laidMet Tryz.prog Rows.fnExactParseBigraphRow.laid W := hL
  have htab : Lib.TabIs Tryz.prog W "internal/strconv.uint64pow10" .u64 Lib.pow10Tab := Lib.tabIs_of_head (g := 5) (by kernel_rfl) (by kernel_rfl) Tryz.underlying207 Tryz.underlying174 (by kernel_rfl) (by kernel_rfl) (laidMet.tail (laidMet.tail hL'))
  have hL4 := laidMet.tail (laidMet.tail (laidMet.tail (laidMet.tail hL')))
  obtain ⟨aR, sR, hR, -, -, -⟩ := laid_sentinel hL4 gR gRType Tryz.underlying109 rowE Tryz.underlying195 Tryz.underlying197 rfl rfl Tryz.underlying9 (by kernel_rfl) (by kernel_rfl)
  obtain ⟨aS, sS, hS, -, -, -⟩ := laid_sentinel (laidMet.tail hL4) gS gSType Tryz.underlying109 rowE Tryz.underlying195 Tryz.underlying197 rfl rfl Tryz.underlying9 (by kernel_rfl) (by kernel_rfl)
  have hm : ∃ m, W.cell? ⟨0, 0, none⟩ = some (.int .i64 m) := Tryz.laysM145.s1_3 W hsh
  refine (lawParseBigraph _ a0 a1 W w0 w1 ⟨htab, ⟨_, _, hS⟩, ⟨_, _, hR⟩, hm⟩).mono fun e W' ⟨he, hg⟩ => ?_
  subst he
  exact ⟨_, rfl, law_post hW' rfl rfl Tryz.underlying4 ⟨rfl, rfl, rfl⟩ k_laidOut (by rw [Tryz.params3]; decide +kernel) hg⟩

def valOf (d : DataW Unit) : Value := match d with | .lit (.int k n) => .int k n | _ => .bool false
def cellsIn (d : DataW Unit) : List Value := match d with | .agg l => l.map valOf | d => [valOf d]
def cellsIn2 (d : DataW Unit) : List Value := match d with | .agg l => l.flatMap cellsIn | d => [valOf d]
def putCells (l : List Value) : Obj → Obj
  | .cells _ t fr => .cells l.toArray t fr
  | o => o
def putAt (t : TypeId) (b : Nat) : Obj → Obj
  | .cells _ t' fr => .cells #[.iface t (.pointer (some ⟨b, 0, none⟩))] t' fr
  | o => o
abbrev rangeS : ByteArray := ⟨#[118, 97, 108, 117, 101, 32, 111, 117, 116, 32, 111, 102, 32, 114, 97, 110, 103, 101]⟩
abbrev syntaxS : ByteArray := ⟨#[105, 110, 118, 97, 108, 105, 100, 32, 115, 121, 110, 116, 97, 120]⟩
noncomputable def low : Nat := (World.holding Tryz.prog default ⟨#[], #[], []⟩).heap.size
noncomputable def laidWorld (os : Os) : World :=
  { World.holding Tryz.prog os ⟨#[.cells #[.string rangeS] 197, .cells #[.string syntaxS] 197], #[], []⟩ with heap := ((((((((World.holding Tryz.prog os ⟨#[.cells #[.string rangeS] 197, .cells #[.string syntaxS] 197], #[], []⟩).heap.modify 6 (putCells (cellsIn Rows.laid_math_bits_deBruijn32tab))).modify 7 (putCells (cellsIn Rows.laid_math_bits_deBruijn64tab))).modify 5 (putCells (cellsIn Rows.laid_internal_strconv_uint64pow10))).modify 4 (putCells (cellsIn2 Rows.laid_unicode_utf8_acceptRanges))).modify 3 (putCells (cellsIn Rows.laid_unicode_utf8_first))).modify 2 (putAt 195 low)).modify 1 (putAt 195 (low + 1))) }
theorem laid_met (os : Os) : laidMet Tryz.prog Rows.fnExactParseBigraphRow.laid ((laidWorld os).forCall (fun _ _ => 0) ⟨#[], #[.slice none 0 0, .string ByteArray.empty], []⟩).memory :=
  laidMet_of_run' 8 (by kernel_rfl) (by kernel_rfl)
theorem reads (os : Os) {H : Type} (enc : TypeId × Value → H) : ∃ places, DataW.whole enc Tryz.prog ((laidWorld os).forCall (fun _ _ => 0) ⟨#[], #[.slice none 0 0, .string ByteArray.empty], []⟩).memory Tryz.f3.params.toList Rows.fnExactParseBigraphSpec.vars false (#[Value.slice none 0 0, Value.string ByteArray.empty] : Array Value).toList 8 = some ([.nil, .lit (.string [])], [], places) :=
  ⟨[], by kernel_rfl⟩

set_option maxRecDepth 100000 in
theorem lifted (os : Os) (started : os.Started) (H : Type) (enc : TypeId × Value → H) (F : Stop.Interp) :
    ReturnsInHanded {} Tryz.checked os 3 .any ((OpenSpec.ofChange Rows.fnExactParseBigraphSpec).preRow enc Tryz.prog Tryz.f3 Rows.fnExactParseBigraphRow.domain false Rows.fnExactParseBigraphRow.laid) (((OpenSpec.ofChange Rows.fnExactParseBigraphSpec).at F).post enc Tryz.prog Tryz.f3 false true false false) := by
  obtain ⟨places, hx⟩ := reads os enc
  refine returnsInHanded_of_row (C := Tryz.checked) (s := OpenSpec.ofChange Rows.fnExactParseBigraphSpec) own started (by kernel_rfl) Tryz.func3
    (witness_row_at (enc := enc) (C := Tryz.checked) false (laidWorld os) #[.slice none 0 0, .string ByteArray.empty] rfl (by kernel_rfl) (by kernel_rfl) (by kernel_rfl)
      (OpenSpec.preRow_of_cond 8 hx (by kernel_rfl) (fun k hk => by cases hk) (by kernel_rfl) (laid_met os))) ?_
  intro W base args ds gs before hval hW _ _ _ hL hsh _
  exact contract H enc W base args ds gs before hval hW hL hsh

theorem said : Rows.FnExactParseBigraphSaid :=
  OpenClaim.holds_of_cond 3 Tryz.f3 rfl rfl rfl rfl rfl rfl rfl ⟨rfl, rfl, rfl, rfl, rfl⟩ rfl rfl rfl rfl rfl k_fn Tryz.func3 k_closed
    (of_decide_eq_true (by kernel_rfl)) (by unfold Func.isWrapper; first | (rw [if_pos (by decide +kernel)]; kernel_rfl) | (rw [if_neg (by decide +kernel)]; exact ⟨rfl, rfl⟩))
    (fun os started H enc _ F => by rw [OpenClaim.pre_eq_preRow]; exact lifted os started H enc F)

theorem plain (f : FuncId) (fn : Func) (hf : Tryz.pinned.checked.prog.funcNamed "loop.example/g01082/laws.FnExactParseBigraph" = some f) (hfn : Tryz.pinned.checked.prog.funcs[f]? = some fn) :
    true = Tryz.pinned.checked.prog.looks [] ∧ ∀ (j : Nat) t, fn.params[j]? = some t → Tryz.pinned.checked.prog.wantsStandIn t = false := by
  obtain rfl : f = 3 := Option.some.inj ((show Tryz.prog.funcNamed "loop.example/g01082/laws.FnExactParseBigraph" = some 3 from k_fn).symm.trans hf) |>.symm
  obtain rfl : fn = Tryz.f3 := (Option.some.inj (Tryz.func3.symm.trans hfn)).symm
  refine ⟨k_looks, fun j t ht => ?_⟩
  rw [Tryz.params3] at ht
  have hm : ∀ t ∈ (#[22, 9] : Array Nat), Tryz.prog.wantsStandIn t = false := by decide +kernel
  exact hm t (Array.mem_of_getElem? ht)

theorem card : Rows.FnExactParseBigraphCardSaid :=
  Claim7.holds_tied_plain_at .later [] _ _ _ _ said (fun _ h => by cases h) k_wf (fun _ h => by cases h) fnExactParseBigraph_row_tie rfl ⟨rfl, rfl⟩ (by as_aux_lemma => kernel_rfl) rfl plain k_goes
#print axioms card
end Go.Proofs.YthgelhglfbgagaaGreatDoor.fnExactParseBigraph
