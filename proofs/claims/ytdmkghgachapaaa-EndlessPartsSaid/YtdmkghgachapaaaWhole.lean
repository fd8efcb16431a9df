/- Contracts of package whole. -/
import Derived.Test.YtdmkghgachapaaaBase
namespace Go.Proofs.Ytdmkghgachapaaa
set_option linter.unusedVariables false
set_option maxRecDepth 100000
open Go.RowKit

theorem neg_wrap (a : Int) (h1 : -9223372036854775808 ≤ a) (h : a < 0) : IntKind.u64.wrap (-IntKind.u64.wrap a) = (a.natAbs : Int) := by
  rw [IntKind.wrap_u64, IntKind.wrap_u64]; omega
theorem tmod_neg_eq (a b : Int) (ha : a < 0) (hb : 1 ≤ b) : (a.tmod b = 0 ∧ a.tdiv b = a / b ∧ a % b = 0) ∨ (a.tmod b < 0 ∧ a.tdiv b - 1 = a / b ∧ a.tmod b + b = a % b) := by
  have h1 := Int.mul_tdiv_add_tmod a b
  have h2 := Int.emod_add_mul_ediv a b
  have h3 := Int.emod_nonneg a (show b ≠ 0 by omega)
  have h4 := Int.emod_lt_of_pos a (show 0 < b by omega)
  have h5 : a.tmod b ≤ 0 := by have := Int.tmod_nonneg (a := -a) b (by omega); rw [Int.neg_tmod] at this; omega
  have h6 : -b < a.tmod b := by
    have := Int.tmod_lt_of_pos (-a) (b := b) (by omega); rw [Int.neg_tmod] at this; omega
  generalize a.tmod b = r at *
  generalize a.tdiv b = q at *
  generalize a / b = q' at *
  generalize a % b = r' at *
  have h7 : b * (q - q') = r' - r := by rw [Int.mul_sub]; omega
  by_cases hr : r = 0
  · left
    have : q - q' = 0 := by
      rcases Int.lt_trichotomy (q - q') 0 with h | h | h
      · have := Int.mul_le_mul_of_nonneg_left (show q - q' ≤ -1 by omega) (show 0 ≤ b by omega); omega
      · exact h
      · have := Int.mul_le_mul_of_nonneg_left (show 1 ≤ q - q' by omega) (show 0 ≤ b by omega); omega
    rw [this] at h7; omega
  · right
    have : q - q' = 1 := by
      rcases Int.lt_trichotomy (q - q') 1 with h | h | h
      · have := Int.mul_le_mul_of_nonneg_left (show q - q' ≤ 0 by omega) (show 0 ≤ b by omega); omega
      · exact h
      · have := Int.mul_le_mul_of_nonneg_left (show 2 ≤ q - q' by omega) (show 0 ≤ b by omega); omega
    rw [this] at h7; omega
theorem tdiv_bounds (a b : Int) (h1 : -9223372036854775808 ≤ a) (h2 : a < 0) (hb : 1 ≤ b) : -9223372036854775808 ≤ a.tdiv b ∧ a.tdiv b ≤ 0 := by
  have h := Int.neg_tdiv a b
  rw [Int.tdiv_eq_ediv_of_nonneg (show 0 ≤ -a by omega)] at h
  have h3 := Int.ediv_nonneg (show 0 ≤ -a by omega) (show 0 ≤ b by omega)
  have h4 := Int.ediv_le_self b (show 0 ≤ -a by omega)
  omega
theorem tmod_bounds (a b : Int) (h2 : a < 0) (hb : 1 ≤ b) : -b < a.tmod b ∧ a.tmod b ≤ 0 := by
  have h5 : a.tmod b ≤ 0 := by have := Int.tmod_nonneg (a := -a) b (by omega); rw [Int.neg_tmod] at this; omega
  have h6 : -b < a.tmod b := by
    have := Int.tmod_lt_of_pos (-a) (b := b) (by omega); rw [Int.neg_tmod] at this; omega
  exact ⟨h6, h5⟩

/-- Gcd: the greatest common divisor, or an error where it is 2^63. -/
def gcdOut (a b : Int) : Value := if Int.gcd a b ≤ 9223372036854775807 then .tuple #[.int .i64 (Int.gcd a b), .int .i64 0] else .tuple #[.int .i64 0, .int .i64 14]
theorem gcd_mod_step (m n : Nat) : Nat.gcd n (m % n) = Nat.gcd m n := by
  rw [Nat.gcd_comm m n, Nat.gcd_rec n m, Nat.gcd_comm]
end Go.Proofs.Ytdmkghgachapaaa
