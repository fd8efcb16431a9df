/- Contracts of package whole. -/
import Derived.Test.YthpiiocncdpimabDoorBase
namespace Go.Proofs.YthpiiocncdpimabDoor
set_option linter.unusedVariables false
set_option maxRecDepth 100000
open Go.RowKit

theorem neg_wrap (a : Int) (h1 : -9223372036854775808 ≤ a) (h : a < 0) : IntKind.u64.wrap (-IntKind.u64.wrap a) = (a.natAbs : Int) := by
  rw [IntKind.wrap_u64, IntKind.wrap_u64]; omega
theorem whole_Div_zero (a : Int) (w : World) :
    Calls Tryd.prog 71 #[.int .i64 a, .int .i64 0] w fun e w' => e = .returned (.tuple #[.int .i64 0, .int .i64 0, .int .i64 1]) ∧ w = w' := by
  go_enter Tryd.func71, Tryd.ntmps71
  go_wp2
  go_ret3
  exact ⟨rfl, rfl⟩

theorem tmod_neg_eq (a b : Int) (ha : a < 0) (hb : 1 ≤ b) : (a.tmod b = 0 ∧ a.tdiv b = a / b ∧ a % b = 0) ∨ (a.tmod b < 0 ∧ a.tdiv b - 1 = a / b ∧ a.tmod b + b = a % b) := by
  have h1 := Int.mul_tdiv_add_tmod a b
  have h2 := Int.emod_add_mul_ediv a b
  have h3 := Int.emod_nonneg a (show b ≠ 0 by omega)
  have h4 := Int.emod_lt_of_pos a (show 0 < b by omega)
  have h5 : a.tmod b ≤ 0 := by have := Int.tmod_nonneg (a := -a) b (by omega); rw [Int.neg_tmod] at this; omega
  have h6 : -b < a.tmod b := by
    have := Int.tmod_lt_of_pos (-a) (b := b) (by omega); rw [Int.neg_tmod] at this; omega
  generalize a.tmod b = r at *
  generalize a.tdiv b = q at *
  generalize a / b = q' at *
  generalize a % b = r' at *
  have h7 : b * (q - q') = r' - r := by rw [Int.mul_sub]; omega
  by_cases hr : r = 0
  · left
    have : q - q' = 0 := by
      rcases Int.lt_trichotomy (q - q') 0 with h | h | h
      · have := Int.mul_le_mul_of_nonneg_left (show q - q' ≤ -1 by omega) (show 0 ≤ b by omega); omega
      · exact h
      · have := Int.mul_le_mul_of_nonneg_left (show 1 ≤ q - q' by omega) (show 0 ≤ b by omega); omega
    rw [this] at h7; omega
  · right
    have : q - q' = 1 := by
      rcases Int.lt_trichotomy (q - q') 1 with h | h | h
      · have := Int.mul_le_mul_of_nonneg_left (show q - q' ≤ 0 by omega) (show 0 ≤ b by omega); omega
      · exact h
      · have := Int.mul_le_mul_of_nonneg_left (show 2 ≤ q - q' by omega) (show 0 ≤ b by omega); omega
    rw [this] at h7; omega
theorem tdiv_bounds (a b : Int) (h1 : -9223372036854775808 ≤ a) (h2 : a < 0) (hb : 1 ≤ b) : -9223372036854775808 ≤ a.tdiv b ∧ a.tdiv b ≤ 0 := by
  have h := Int.neg_tdiv a b
  rw [Int.tdiv_eq_ediv_of_nonneg (show 0 ≤ -a by omega)] at h
  have h3 := Int.ediv_nonneg (show 0 ≤ -a by omega) (show 0 ≤ b by omega)
  have h4 := Int.ediv_le_self b (show 0 ≤ -a by omega)
  omega
theorem tmod_bounds (a b : Int) (h2 : a < 0) (hb : 1 ≤ b) : -b < a.tmod b ∧ a.tmod b ≤ 0 := by
  have h5 : a.tmod b ≤ 0 := by have := Int.tmod_nonneg (a := -a) b (by omega); rw [Int.neg_tmod] at this; omega
  have h6 : -b < a.tmod b := by
    have := Int.tmod_lt_of_pos (-a) (b := b) (by omega); rw [Int.neg_tmod] at this; omega
  exact ⟨h6, h5⟩

theorem whole_Div_pos (a b : Int) (w : World) (h1 : -9223372036854775808 ≤ a) (h2 : a ≤ 9223372036854775807) (hb : 1 ≤ b) (hb2 : b ≤ 9223372036854775807) :
    Calls Tryd.prog 71 #[.int .i64 a, .int .i64 b] w fun e w' => e = .returned (.tuple #[.int .i64 (a / b), .int .i64 (a % b), .int .i64 0]) ∧ Drawn w w' := by
  have hb0 : (b == 0) = false := by simp; omega
  have hb1 : (b == -1) = false := by simp; omega
  have hbn : decide (b < 0) = false := by simp; omega
  by_cases ha : 0 ≤ a
  · have hr := Int.emod_nonneg a (show b ≠ 0 by omega)
    have hrn : decide (a % b < 0) = false := by simp; omega
    have hm : (a == -9223372036854775808) = false := by simp; omega
    by_cases hz : a % b = 0
    · have hz1 : (a % b != 0) = false := by simp [hz]
      have H := Lib.hid hz; clear hz
      go_enter Tryd.func71, Tryd.ntmps71
      go_wp2
      go_quiet (fail)
      go_wp2
      go_ret3
      exact ⟨rfl, ⟨_, rfl⟩⟩
    · have hz1 : (a % b != 0) = true := by simp [hz]
      go_enter Tryd.func71, Tryd.ntmps71
      go_wp2
      go_quiet (fail)
      go_wp2
      go_ret3
      exact ⟨rfl, ⟨_, rfl⟩⟩
  · have hk := Lib.hid (tmod_neg_eq a b (by omega) hb)
    have hq := tdiv_bounds a b h1 (by omega) hb
    have hr := tmod_bounds a b (by omega) hb
    by_cases hz : a.tmod b = 0
    · have hz1 : (a.tmod b != 0) = false := by simp [hz]
      have H := Lib.hid hz; clear hz
      by_cases hm : a = -9223372036854775808
      all_goals
        first
        | have hm' : (a == -9223372036854775808) = false := by simp [hm]
        | have hm' : (a == -9223372036854775808) = true := by simp [hm]
        have HM := Lib.hid hm; clear hm
        go_enter Tryd.func71, Tryd.ntmps71
        go_wp2
        go_quiet (fail)
        go_wp2
        go_ret3
        exact ⟨ret_ints3 (by have := hk.out; have := H.out; omega) (by have := hk.out; have := H.out; omega) rfl, ⟨_, rfl⟩⟩
    · have hz1 : (a.tmod b != 0) = true := by simp [hz]
      have hz2 : decide (a.tmod b < 0) = true := by simp; omega
      have hq2 : -9223372036854775808 ≤ a.tdiv b - 1 := by
        have h5 : a ≤ a / b := by
          have h6 := Int.le_ediv_of_mul_le (a := a) (b := a) (c := b) (by omega) (by
            have := Int.mul_le_mul_of_nonpos_left (show a ≤ 0 by omega) hb; omega)
          exact h6
        have := hk.out; omega
      have H := Lib.hid hz; clear hz
      by_cases hm : a = -9223372036854775808
      all_goals
        first
        | have hm' : (a == -9223372036854775808) = false := by simp [hm]
        | have hm' : (a == -9223372036854775808) = true := by simp [hm]
        have HM := Lib.hid hm; clear hm
        go_enter Tryd.func71, Tryd.ntmps71
        go_wp2
        go_quiet (fail)
        go_wp2
        go_ret3
        exact ⟨ret_ints3 (by have := hk.out; have := H.out; omega) (by have := hk.out; have := H.out; omega) rfl, ⟨_, rfl⟩⟩

theorem whole_Down (a b : Int) (w : World) (h1 : -9223372036854775808 ≤ a) (h2 : a ≤ 9223372036854775807) (hb : 1 ≤ b) (hb2 : b ≤ 9223372036854775807) :
    Calls Tryd.prog 48 #[.int .i64 a, .int .i64 b] w fun e w' => e = .returned (.int .i64 (a / b)) ∧ Drawn w w' := by
  go_enter Tryd.func48, Tryd.ntmps48
  go_wp2_with (go_at_call 71; refine (whole_Div_pos _ _ _ h1 h2 hb hb2).mono ?_; rintro e w' ⟨rfl, hd⟩)
  go_ret
  exact ⟨rfl, hd⟩
/-- Gcd: the greatest common divisor, or an error where it is 2^63. -/
def gcdOut (a b : Int) : Value := if Int.gcd a b ≤ 9223372036854775807 then .tuple #[.int .i64 (Int.gcd a b), .int .i64 0] else .tuple #[.int .i64 0, .int .i64 14]
theorem gcd_mod_step (m n : Nat) : Nat.gcd n (m % n) = Nat.gcd m n := by
  rw [Nat.gcd_comm m n, Nat.gcd_rec n m, Nat.gcd_comm]
end Go.Proofs.YthpiiocncdpimabDoor
