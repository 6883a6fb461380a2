/- The laws' measures: how much an argument holds. -/
import Derived.Test.YtlkadcmicjencaaProg
import Derived.Test.YtlkadcmicjencaaData
namespace Go.Proofs.Ytlkadcmicjencaa
open Go Go.RowKit Go.BigFrame

theorem left_yes {n : Int} {t : Nat} (h : (t : Int) ≤ n) : left n t = n - t := by unfold left; rw [if_neg (by omega)]
theorem left_no {n : Int} {t : Nat} (h : n < (t : Int)) : left n t = -1 := by unfold left; rw [if_pos h]










end Go.Proofs.Ytlkadcmicjencaa
