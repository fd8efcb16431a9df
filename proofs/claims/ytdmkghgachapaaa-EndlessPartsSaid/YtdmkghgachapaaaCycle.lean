/- Contracts of cycle.Check and of the reference's SetError. -/
import Derived.Test.YtdmkghgachapaaaMem
import Derived.Test.YtdmkghgachapaaaRef
namespace Go.Proofs.Ytdmkghgachapaaa
set_option linter.unusedVariables false
set_option maxRecDepth 100000
open Go.RowKit

/-- The i-th cycle is in order. -/
def cycOk (x y : Int) : Bool := decide (1 ≤ x ∧ x ≤ 1000 ∧ 0 ≤ y ∧ y < x)
def cycAll : List Int → List Int → Bool
  | x :: xs, y :: ys => cycOk x y && cycAll xs ys
  | _, _ => true
/-- The error of a set of cycles. -/
def setErr (xs ys : List Int) : Int := if ¬ (1 ≤ xs.length ∧ xs.length ≤ 8) then 2 else if ys.length ≠ xs.length then 8 else if cycAll xs ys then 0 else 3

theorem cycAll_bad : ∀ (k : Nat) (xs ys : List Int) {x y : Int}, xs[k]? = some x → ys[k]? = some y → cycOk x y = false → cycAll xs ys = false
  | 0, x' :: xs, y' :: ys, x, y, hx, hy, h => by
    simp at hx hy; subst hx hy; simp [cycAll, h]
  | k + 1, x' :: xs, y' :: ys, x, y, hx, hy, h => by
    simp at hx hy; simp [cycAll, cycAll_bad k xs ys hx hy h]
theorem cycAll_good : ∀ (xs ys : List Int), xs.length = ys.length → (∀ (k : Nat) (x y : Int), xs[k]? = some x → ys[k]? = some y → cycOk x y = true) → cycAll xs ys = true
  | [], _, _, _ => rfl
  | x :: xs, [], h, _ => by simp at h
  | x :: xs, y :: ys, h, hk => by
    simp only [cycAll, Bool.and_eq_true]
    exact ⟨hk 0 x y rfl rfl, cycAll_good xs ys (by simpa using h) fun k a b ha hb => hk (k + 1) a b (by simpa using ha) (by simpa using hb)⟩

end Go.Proofs.Ytdmkghgachapaaa
