/- Contracts of cycle.Full and of the reference's SetAt. -/
import Derived.Test.YtkeicdimkmmnfaaCycle2
import Derived.Test.YtkeicdimkmmnfaaMoon
namespace Go.Proofs.Ytkeicdimkmmnfaa
set_option linter.unusedVariables false
set_option maxRecDepth 100000
open Go.RowKit

/-- The least common multiple of a list, as far as it is not above a milliard. -/
def fullGo : Int → List Int → Int
  | a, [] => a
  | a, x :: l => fullGo (if a ≤ 1000000000 then lcmI a x else a) l
theorem fullGo_cons (a x : Int) (l : List Int) : fullGo a (x :: l) = fullGo (if a ≤ 1000000000 then lcmI a x else a) l := by rw [fullGo.eq_def]
theorem fullGo_big : ∀ (l : List Int) (a : Int), 1000000000 < a → fullGo a l = a
  | [], a, _ => by rw [fullGo]
  | x :: l, a, h => by rw [fullGo_cons, if_neg (by omega)]; exact fullGo_big l a h
def fullOut (xs : List Int) : Value := if fullGo 1 xs ≤ 1000000000 then .tuple #[.int .i64 (fullGo 1 xs), .int .i64 0] else .tuple #[.int .i64 0, .int .i64 14]
theorem lcmI_bound' (a b : Int) (h1 : 1 ≤ a) (h2 : a ≤ 1000000000) (h3 : 1 ≤ b) (h4 : b ≤ 1000) : 1 ≤ lcmI a b ∧ lcmI a b ≤ 1000000000000 := by
  obtain ⟨q1, q2, q3, q4⟩ := quot_pos a b h1 h3
  have g := lcmI_ge a b h1 h3
  refine ⟨by omega, ?_⟩
  unfold lcmI
  have := Int.mul_le_mul h2 (show b / (Int.gcd a b : Int) ≤ 1000 by omega) (by omega) (by omega)
  omega
end Go.Proofs.Ytkeicdimkmmnfaa
