/- Regions that draw their order, whose operations read and whose calls only extend the memory: one walk in the order of the text. The class of worlds: those that extend the world. -/
import Derived.Test.YtjbiphaeinbgbaaDoorCore
namespace Go.Proofs.YtjbiphaeinbgbaaDoor
open Go Go.RowKit

/-- The world with more blocks behind its own, and some count of draws. -/
structure Gx where
  blocks : Array Obj
  drawn : Nat
instance : Inhabited Gx := ⟨⟨#[], 0⟩⟩
def gr (w : World) (x : Gx) : World := { w with heap := w.heap ++ x.blocks, drawn := x.drawn }

theorem gr_below (w : World) (x : Gx) : Below w.heap.size w (gr w x) :=
  ⟨rfl, rfl, rfl, by simp [gr], fun k hk => by simp [gr, Array.getElem?_append_left hk]⟩

theorem below_gr {w w' : World} (h : Below w.heap.size w w') : ∃ x, w' = gr w x := by
  refine ⟨⟨w'.heap.extract w.heap.size w'.heap.size, w'.drawn⟩, ?_⟩
  obtain ⟨h1, h2, h3, h4, h5⟩ := h
  cases w' with
  | mk heap tape drawn os output =>
    simp only at h1 h2 h3 h4 h5
    subst h1 h2 h3
    simp only [gr, World.mk.injEq, and_true]
    apply Array.ext_getElem?
    intro i
    rcases Nat.lt_or_ge i w.heap.size with hi | hi
    · rw [Array.getElem?_append_left hi]; exact h5 i hi
    · rw [Array.getElem?_append_right hi]
      simp only [Array.getElem?_extract]
      by_cases hj : i < heap.size
      · rw [if_pos (by omega)]; congr 1; omega
      · rw [if_neg (by omega), Array.getElem?_eq_none (by omega)]

theorem gr_cell {w : World} {a : Addr} {v : Value} (h : w.cell? a = some v) (x : Gx) : (gr w x).cell? a = some v :=
  ((gr_below w x).cell (World.block_lt_of_cell? w a h)).trans h

theorem gr_below_of {w w' : World} {x : Gx} (h : Below (gr w x).heap.size (gr w x) w') : ∃ y, w' = gr w y :=
  below_gr ((gr_below w x).trans (h.mono (gr_below w x).size))

theorem Calls.gr_of {P : Program} {f : FuncId} {args : Array Value} {w : World} {x : Gx} {v : Value}
    (h : Calls P f args (gr w x) fun e w' => e = .returned v ∧ Below (gr w x).heap.size (gr w x) w') : Calls P f args (gr w x) fun e w'' => e = .returned v ∧ ∃ y, w'' = gr w y :=
  h.mono fun _ _ ⟨he, hm⟩ => ⟨he, gr_below_of hm⟩

theorem Calls.gr_same {P : Program} {f : FuncId} {args : Array Value} {w : World} {x : Gx} {v : Value}
    (h : Calls P f args (gr w x) fun e w' => e = .returned v ∧ w' = gr w x) : Calls P f args (gr w x) fun e w'' => e = .returned v ∧ ∃ y, w'' = gr w y :=
  h.mono fun _ _ ⟨he, hm⟩ => ⟨he, x, hm⟩

theorem wp_region_gr {P : Program} {id : Nat} {Q : Exit → Act → World → Prop} {a : Act} {w : World} {l : List Oper} (hm : P.follows .mixedOrders = true) (hB : Region.lexB .any l.toArray = true)
    (h : wpQuiet P l.toArray (fun w' => ∃ x, w' = gr w x) (fun a' => ∀ w', Below w.heap.size w w' → Q .normal a' w') l a) : (Code.region id l.toArray true).wp P Q a w := by
  refine wp_region_quiet (C := fun w' => ∃ x, w' = gr w x) hm hB ⟨⟨#[], w.drawn + 1⟩, by simp [gr]⟩ ?_
  have e : (fun a' : Act => ∀ w', (∃ x, w' = gr w x) → Q .normal a' w') = (fun a' => ∀ w', Below w.heap.size w w' → Q .normal a' w') := by
    funext a'
    apply propext
    constructor
    · intro h w' hb; exact h w' (below_gr hb)
    · rintro h w' ⟨x, rfl⟩; exact h _ (gr_below w x)
  rw [e]
  simpa using h

end Go.Proofs.YtjbiphaeinbgbaaDoor
