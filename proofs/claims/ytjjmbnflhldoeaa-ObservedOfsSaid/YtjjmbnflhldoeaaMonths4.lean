/- Contract of the reference's MonthsError. -/
import Derived.Test.YtjjmbnflhldoeaaMonths3
namespace Go.Proofs.Ytjjmbnflhldoeaa
set_option linter.unusedVariables false
set_option maxRecDepth 100000
open Go.RowKit

theorem pos_more {a f : Int} (h : 0 < a) (hf : 0 ≤ f) : decide (0 < a + f) = true := decide_eq_true (by omega)
theorem pos_first {a f : Int} (h0 : 0 ≤ a) (h : ¬ 0 < a) : decide (0 < a + f) = decide (0 < f) := by
  have : a = 0 := by omega
  subst this; simp
end Go.Proofs.Ytjjmbnflhldoeaa
