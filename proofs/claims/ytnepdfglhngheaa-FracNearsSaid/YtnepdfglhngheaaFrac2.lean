/- Contracts of package frac, second part: both, order, Cmp, Floor. -/
import Derived.Test.YtnepdfglhngheaaFrac

namespace Go.Proofs.Ytnepdfglhngheaa
set_option linter.unusedVariables false
set_option maxRecDepth 100000
open Go.RowKit

def F31 (n d : Int) : Prop := 1 ≤ d ∧ d ≤ 2147483647 ∧ -2147483647 ≤ n ∧ n ≤ 2147483647 ∧ Int.gcd n d = 1
theorem fracOk_true {n d : Int} (h : fracOk n d = true) : F31 n d := by
  unfold fracOk at h
  have := of_decide_eq_true h
  exact this
def bothErr (a b c d : Int) : Int := if fracOk a b then fracErr c d else 8

def ordI (a b : Int) : Int := if a < b then -1 else if b < a then 1 else 0
theorem mul31 {x y : Int} (hx : -2147483647 ≤ x) (hx' : x ≤ 2147483647) (hy : -2147483647 ≤ y) (hy' : y ≤ 2147483647) : -4611686014132420609 ≤ x * y ∧ x * y ≤ 4611686014132420609 := by
  have h := Int.natAbs_mul x y
  have : x.natAbs * y.natAbs ≤ 2147483647 * 2147483647 := Nat.mul_le_mul (by omega) (by omega)
  omega
def cmpOut (a b c d : Int) : Value := .tuple #[.int .i64 (if fracOk a b && fracOk c d then ordI (a * d) (c * b) else 0), .int .i64 (bothErr a b c d)]
def floorOut (a b : Int) : Value := .tuple #[.int .i64 (if fracOk a b then a / b else 0), .int .i64 (fracErr a b)]
end Go.Proofs.Ytnepdfglhngheaa
