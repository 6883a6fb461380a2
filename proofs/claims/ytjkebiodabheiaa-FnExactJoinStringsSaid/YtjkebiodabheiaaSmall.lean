/- Small functions of numbers. -/
import Derived.Test.YtjkebiodabheiaaTypes
namespace Go.Proofs.Ytjkebiodabheiaa
open Go Go.RowKit Go.BigFrame

theorem dec_of {b : Bool} {p : Prop} [Decidable p] (h : b = true ↔ p) : b = decide p := by
  cases b <;> simp_all


end Go.Proofs.Ytjkebiodabheiaa
