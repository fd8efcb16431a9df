/- Several texts in one: Whole, Ref, Line, Mul. -/
import Derived.Test.YtdmkghgachapaabGreatDoorBase
set_option linter.unusedSimpArgs false
namespace Go.Proofs.YtdmkghgachapaabGreatDoor
set_option linter.unusedVariables false
set_option maxRecDepth 100000
open Go.RowKit
theorem whole_Div_zero (a : Int) (w : World) :
    Calls Tryz.prog 158 #[.int .i64 a, .int .i64 0] w fun e w' => e = .returned (.tuple #[.int .i64 0, .int .i64 0, .int .i64 1]) ∧ w = w' := by
  go_enter Tryz.func158, Tryz.ntmps158
  go_wp2
  go_ret3
  exact ⟨rfl, rfl⟩
theorem tmod_neg_eq (a b : Int) (ha : a < 0) (hb : 1 ≤ b) : (a.tmod b = 0 ∧ a.tdiv b = a / b ∧ a % b = 0) ∨ (a.tmod b < 0 ∧ a.tdiv b - 1 = a / b ∧ a.tmod b + b = a % b) := by
  have h1 := Int.mul_tdiv_add_tmod a b
  have h2 := Int.emod_add_mul_ediv a b
  have h3 := Int.emod_nonneg a (show b ≠ 0 by omega)
  have h4 := Int.emod_lt_of_pos a (show 0 < b by omega)
  have h5 : a.tmod b ≤ 0 := by have := Int.tmod_nonneg (a := -a) b (by omega); rw [Int.neg_tmod] at this; omega
  have h6 : -b < a.tmod b := by
    have := Int.tmod_lt_of_pos (-a) (b := b) (by omega); rw [Int.neg_tmod] at this; omega
  generalize a.tmod b = r at *
  generalize a.tdiv b = q at *
  generalize a / b = q' at *
  generalize a % b = r' at *
  have h7 : b * (q - q') = r' - r := by rw [Int.mul_sub]; omega
  by_cases hr : r = 0
  · left
    have : q - q' = 0 := by
      rcases Int.lt_trichotomy (q - q') 0 with h | h | h
      · have := Int.mul_le_mul_of_nonneg_left (show q - q' ≤ -1 by omega) (show 0 ≤ b by omega); omega
      · exact h
      · have := Int.mul_le_mul_of_nonneg_left (show 1 ≤ q - q' by omega) (show 0 ≤ b by omega); omega
    rw [this] at h7; omega
  · right
    have : q - q' = 1 := by
      rcases Int.lt_trichotomy (q - q') 1 with h | h | h
      · have := Int.mul_le_mul_of_nonneg_left (show q - q' ≤ 0 by omega) (show 0 ≤ b by omega); omega
      · exact h
      · have := Int.mul_le_mul_of_nonneg_left (show 2 ≤ q - q' by omega) (show 0 ≤ b by omega); omega
    rw [this] at h7; omega
theorem tdiv_bounds (a b : Int) (h1 : -9223372036854775808 ≤ a) (h2 : a < 0) (hb : 1 ≤ b) : -9223372036854775808 ≤ a.tdiv b ∧ a.tdiv b ≤ 0 := by
  have h := Int.neg_tdiv a b
  rw [Int.tdiv_eq_ediv_of_nonneg (show 0 ≤ -a by omega)] at h
  have h3 := Int.ediv_nonneg (show 0 ≤ -a by omega) (show 0 ≤ b by omega)
  have h4 := Int.ediv_le_self b (show 0 ≤ -a by omega)
  omega
theorem tmod_bounds (a b : Int) (h2 : a < 0) (hb : 1 ≤ b) : -b < a.tmod b ∧ a.tmod b ≤ 0 := by
  have h5 : a.tmod b ≤ 0 := by have := Int.tmod_nonneg (a := -a) b (by omega); rw [Int.neg_tmod] at this; omega
  have h6 : -b < a.tmod b := by
    have := Int.tmod_lt_of_pos (-a) (b := b) (by omega); rw [Int.neg_tmod] at this; omega
  exact ⟨h6, h5⟩
theorem whole_Div_pos (a b : Int) (w : World) (h1 : -9223372036854775808 ≤ a) (h2 : a ≤ 9223372036854775807) (hb : 1 ≤ b) (hb2 : b ≤ 9223372036854775807) :
    Calls Tryz.prog 158 #[.int .i64 a, .int .i64 b] w fun e w' => e = .returned (.tuple #[.int .i64 (a / b), .int .i64 (a % b), .int .i64 0]) ∧ Drawn w w' := by
  have hb0 : (b == 0) = false := by simp; omega
  have hb1 : (b == -1) = false := by simp; omega
  have hbn : decide (b < 0) = false := by simp; omega
  by_cases ha : 0 ≤ a
  · have hr := Int.emod_nonneg a (show b ≠ 0 by omega)
    have hrn : decide (a % b < 0) = false := by simp; omega
    have hm : (a == -9223372036854775808) = false := by simp; omega
    by_cases hz : a % b = 0
    · have hz1 : (a % b != 0) = false := by simp [hz]
      have H := Lib.hid hz; clear hz
      go_enter Tryz.func158, Tryz.ntmps158
      go_wp2
      go_quiet (fail)
      go_wp2
      go_ret3
      exact ⟨rfl, ⟨_, rfl⟩⟩
    · have hz1 : (a % b != 0) = true := by simp [hz]
      go_enter Tryz.func158, Tryz.ntmps158
      go_wp2
      go_quiet (fail)
      go_wp2
      go_ret3
      exact ⟨rfl, ⟨_, rfl⟩⟩
  · have hk := Lib.hid (tmod_neg_eq a b (by omega) hb)
    have hq := tdiv_bounds a b h1 (by omega) hb
    have hr := tmod_bounds a b (by omega) hb
    by_cases hz : a.tmod b = 0
    · have hz1 : (a.tmod b != 0) = false := by simp [hz]
      have H := Lib.hid hz; clear hz
      by_cases hm : a = -9223372036854775808
      all_goals
        first
        | have hm' : (a == -9223372036854775808) = false := by simp [hm]
        | have hm' : (a == -9223372036854775808) = true := by simp [hm]
        have HM := Lib.hid hm; clear hm
        go_enter Tryz.func158, Tryz.ntmps158
        go_wp2
        go_quiet (fail)
        go_wp2
        go_ret3
        exact ⟨ret_ints3 (by have := hk.out; have := H.out; omega) (by have := hk.out; have := H.out; omega) rfl, ⟨_, rfl⟩⟩
    · have hz1 : (a.tmod b != 0) = true := by simp [hz]
      have hz2 : decide (a.tmod b < 0) = true := by simp; omega
      have hq2 : -9223372036854775808 ≤ a.tdiv b - 1 := by
        have h5 : a ≤ a / b := by
          have h6 := Int.le_ediv_of_mul_le (a := a) (b := a) (c := b) (by omega) (by
            have := Int.mul_le_mul_of_nonpos_left (show a ≤ 0 by omega) hb; omega)
          exact h6
        have := hk.out; omega
      have H := Lib.hid hz; clear hz
      by_cases hm : a = -9223372036854775808
      all_goals
        first
        | have hm' : (a == -9223372036854775808) = false := by simp [hm]
        | have hm' : (a == -9223372036854775808) = true := by simp [hm]
        have HM := Lib.hid hm; clear hm
        go_enter Tryz.func158, Tryz.ntmps158
        go_wp2
        go_quiet (fail)
        go_wp2
        go_ret3
        exact ⟨ret_ints3 (by have := hk.out; have := H.out; omega) (by have := hk.out; have := H.out; omega) rfl, ⟨_, rfl⟩⟩
end Go.Proofs.YtdmkghgachapaabGreatDoor

set_option linter.unusedSimpArgs false
namespace Go.Proofs.YtdmkghgachapaabGreatDoor
set_option linter.unusedVariables false
set_option maxRecDepth 100000
open Go.RowKit
def inB (l h x : Int) : Bool := decide (l ≤ x ∧ x ≤ h)
theorem inB_yes {l h x : Int} (h1 : l ≤ x) (h2 : x ≤ h) : inB l h x = true := decide_eq_true ⟨h1, h2⟩
theorem inB_no {l h x : Int} (h1 : ¬ (l ≤ x ∧ x ≤ h)) : inB l h x = false := decide_eq_false h1
theorem inB_iff {l h x : Int} : inB l h x = true ↔ l ≤ x ∧ x ≤ h := decide_eq_true_iff
theorem inB_cases (l h x : Int) : (inB l h x = true ∧ l ≤ x ∧ x ≤ h) ∨ (inB l h x = false ∧ ¬ (l ≤ x ∧ x ≤ h)) := by
  by_cases c : l ≤ x ∧ x ≤ h
  · exact .inl ⟨decide_eq_true c, c⟩
  · exact .inr ⟨decide_eq_false c, c⟩
theorem ref_In (x l h : Int) (w : World) :
    Calls Tryz.prog 39 #[.int .i64 x, .int .i64 l, .int .i64 h] w fun e w' => e = .returned (.bool (inB l h x)) ∧ w = w' := by
  by_cases h1 : l ≤ x
  · by_cases h2 : x ≤ h
    · go_enter Tryz.func39, Tryz.ntmps39
      go_wp2
      go_ret
      exact ⟨ret_bool (inB_yes h1 h2).symm, rfl⟩
    · go_enter Tryz.func39, Tryz.ntmps39
      go_wp2
      go_ret
      exact ⟨ret_bool (inB_no (by omega)).symm, rfl⟩
  · go_enter Tryz.func39, Tryz.ntmps39
    go_wp2
    go_ret
    exact ⟨ret_bool (inB_no (by omega)).symm, rfl⟩
theorem ref_Num (x : Int) (w : World) :
    Calls Tryz.prog 120 #[.int .i64 x] w fun e w' => e = .returned (.bool (inB (-2147483647) 2147483647 x)) ∧ w = w' := by
  go_enter Tryz.func120, Tryz.ntmps120
  go_wp2_with (go_at_call 39; refine (ref_In _ _ _ _).mono ?_; rintro e w' ⟨rfl, rfl⟩)
  go_ret
  exact ⟨rfl, rfl⟩
theorem ref_Day (x : Int) (w : World) :
    Calls Tryz.prog 40 #[.int .i64 x] w fun e w' => e = .returned (.bool (inB (-4000000) 4000000 x)) ∧ w = w' := by
  go_enter Tryz.func40, Tryz.ntmps40
  go_wp2_with (go_at_call 39; refine (ref_In _ _ _ _).mono ?_; rintro e w' ⟨rfl, rfl⟩)
  go_ret
  exact ⟨rfl, rfl⟩
theorem ref_Size (a : Int) (w : World) (h1 : -9223372036854775808 ≤ a) (h2 : a ≤ 9223372036854775807) :
    Calls Tryz.prog 143 #[.int .i64 a] w fun e w' => e = .returned (.int .u64 (a.natAbs : Int)) ∧ w = w' := by
  by_cases h : a < 0
  · go_enter Tryz.func143, Tryz.ntmps143
    go_wp2
    go_ret
    exact ⟨ret_int (by omega), rfl⟩
  · go_enter Tryz.func143, Tryz.ntmps143
    go_wp2
    go_ret
    exact ⟨ret_int (by omega), rfl⟩
def dq (a b : Int) : Int := if 0 < b then a / b else (-a) / (-b)
def dr (a b : Int) : Int := if 0 < b then a % b else -((-a) % (-b))
theorem nat_up (a : Int) (y : Nat) (h : 0 ≤ a) : a / y = ((a.natAbs / y : Nat) : Int) ∧ a % y = ((a.natAbs % y : Nat) : Int) := by
  obtain ⟨x, rfl⟩ := Int.eq_ofNat_of_zero_le h
  simp
theorem nat_down (a : Int) (y : Nat) (hy : 1 ≤ y) (h : a ≤ 0) :
    (a.natAbs % y = 0 → a / y = -((a.natAbs / y : Nat) : Int) ∧ a % y = 0) ∧ (a.natAbs % y ≠ 0 → a / y = -((a.natAbs / y : Nat) : Int) - 1 ∧ a % y = y - ((a.natAbs % y : Nat) : Int)) := by
  obtain ⟨x, hx⟩ := Int.eq_ofNat_of_zero_le (show 0 ≤ -a by omega)
  obtain rfl : a = -(x : Int) := by omega
  have h1 := Nat.div_add_mod x y
  have h2 := Nat.mod_lt x (show 0 < y by omega)
  have h3 := Int.emod_add_mul_ediv (-(x : Int)) y
  have h4 := Int.emod_nonneg (-(x : Int)) (show (y : Int) ≠ 0 by omega)
  have h5 := Int.emod_lt_of_pos (-(x : Int)) (show 0 < (y : Int) by omega)
  simp only [Int.natAbs_neg, Int.natAbs_natCast]
  have h1' : (y : Int) * ((x / y : Nat) : Int) + ((x % y : Nat) : Int) = x := by rw [← Int.natCast_mul]; omega
  generalize x / y = q at *
  generalize x % y = r at *
  generalize -(x : Int) / (y : Int) = q' at *
  generalize -(x : Int) % (y : Int) = r' at *
  have h7 : (y : Int) * (q + q') = - r' - r := by rw [Int.mul_add]; omega
  constructor
  · intro hr
    have : (q : Int) + q' = 0 := by
      rcases Int.lt_trichotomy ((q : Int) + q') 0 with h | h | h
      · have := Int.mul_le_mul_of_nonneg_left (show (q : Int) + q' ≤ -1 by omega) (show 0 ≤ (y : Int) by omega); omega
      · exact h
      · have := Int.mul_le_mul_of_nonneg_left (show 1 ≤ (q : Int) + q' by omega) (show 0 ≤ (y : Int) by omega); omega
    rw [this] at h7; omega
  · intro hr
    have : (q : Int) + q' = -1 := by
      rcases Int.lt_trichotomy ((q : Int) + q') (-1) with h | h | h
      · have := Int.mul_le_mul_of_nonneg_left (show (q : Int) + q' ≤ -2 by omega) (show 0 ≤ (y : Int) by omega); omega
      · exact h
      · have := Int.mul_le_mul_of_nonneg_left (show 0 ≤ (q : Int) + q' by omega) (show 0 ≤ (y : Int) by omega); omega
    rw [this] at h7; omega
theorem bit_in (x k : Nat) (hx : x ≤ 18446744073709551615) : bits .and .u64 ((x : Int) / 2 ^ k) 1 = ((x / 2 ^ k % 2 : Nat) : Int) := by
  have h : ((x : Int) / 2 ^ k) = ((x / 2 ^ k : Nat) : Int) := by simp
  have h2 : x / 2 ^ k ≤ x := Nat.div_le_self _ _
  rw [h, show (1 : Int) = ((1 : Nat) : Int) from rfl, u64_and_nat _ _ (by omega) (by omega), nat_mask1]
theorem or_bit (r c : Nat) (hr : r ≤ 9223372036854775807) (hc : c ≤ 1) : bits .or .u64 ((r : Int) * 2) (c : Int) = ((2 * r + c : Nat) : Int) := by
  rw [show (r : Int) * 2 = ((2 * r : Nat) : Int) by omega, u64_or_nat _ _ (by omega) (by omega), nat_join 1 (2 * r) c (by omega) (by omega)]
theorem or_pow (q k : Nat) (hk : k ≤ 63) (hq : q ≤ 18446744073709551615) (hm : q % 2 ^ (k + 1) = 0) : bits .or .u64 (q : Int) (2 ^ k) = ((q + 2 ^ k : Nat) : Int) := by
  have h1 : 2 ^ k ≤ 2 ^ 63 := Nat.pow_le_pow_right (by omega) hk
  rw [show ((2 : Int) ^ k) = ((2 ^ k : Nat) : Int) by simp, u64_or_nat _ _ (by omega) (by omega), nat_join (k + 1) q (2 ^ k) hm (by rw [Nat.pow_succ]; have := Nat.two_pow_pos k; omega)]
theorem wrap_pow (k : Nat) (hk : k ≤ 63) : IntKind.u64.wrap (2 ^ k) = 2 ^ k := by
  have h1 : 2 ^ k ≤ 2 ^ 63 := Nat.pow_le_pow_right (by omega) hk
  have h2 : ((2 : Int) ^ k) = ((2 ^ k : Nat) : Int) := by simp
  rw [h2]
  generalize 2 ^ k = n at h1
  exact IntWalk.u64_in _ (by omega)
theorem long_step (x y j : Nat) (hy : 1 ≤ y) :
    (2 * (x / 2 ^ (j + 1) % y) + x / 2 ^ j % 2 < y → x / 2 ^ j / y = 2 * (x / 2 ^ (j + 1) / y) ∧ x / 2 ^ j % y = 2 * (x / 2 ^ (j + 1) % y) + x / 2 ^ j % 2) ∧
    (y ≤ 2 * (x / 2 ^ (j + 1) % y) + x / 2 ^ j % 2 → x / 2 ^ j / y = 2 * (x / 2 ^ (j + 1) / y) + 1 ∧ x / 2 ^ j % y = 2 * (x / 2 ^ (j + 1) % y) + x / 2 ^ j % 2 - y) := by
  have h0 : x / 2 ^ (j + 1) = x / 2 ^ j / 2 := by rw [Nat.pow_succ, Nat.div_div_eq_div_mul]
  rw [h0]
  generalize x / 2 ^ j = X
  have h1 := Nat.div_add_mod (X / 2) y
  have h2 := Nat.mod_lt (X / 2) (show 0 < y by omega)
  generalize X / 2 / y = q at *
  generalize X / 2 % y = r at *
  constructor
  · intro h
    have : X = y * (2 * q) + (2 * r + X % 2) := by
      have : y * (2 * q) = 2 * (y * q) := by rw [Nat.mul_left_comm]
      omega
    constructor
    · rw [this, Nat.mul_add_div (by omega), Nat.div_eq_of_lt (by omega)]; omega
    · rw [this, Nat.mul_add_mod, Nat.mod_eq_of_lt (by omega)]; omega
  · intro h
    have : X = y * (2 * q + 1) + (2 * r + X % 2 - y) := by
      have : y * (2 * q + 1) = 2 * (y * q) + y := by rw [Nat.mul_add, Nat.mul_left_comm, Nat.mul_one]
      omega
    constructor
    · rw [this, Nat.mul_add_div (by omega), Nat.div_eq_of_lt (by omega)]
    · rw [this, Nat.mul_add_mod, Nat.mod_eq_of_lt (by omega)]; omega
theorem neg_back (q : Int) (h0 : 0 ≤ q) (h : q ≤ 9223372036854775808) : wrap64 (IntKind.u64.wrap (-q)) = -q := by
  rw [IntKind.wrap_u64]; unfold wrap64; omega
def divOut (a b : Int) : Value := if b = 0 then .tuple #[.int .i64 0, .int .i64 0, .int .i64 1] else if a = -9223372036854775808 ∧ b = -1 then .tuple #[.int .i64 0, .int .i64 0, .int .i64 14] else .tuple #[.int .i64 (dq a b), .int .i64 (dr a b), .int .i64 0]
theorem divOut_pos (a b : Int) (h : 1 ≤ b) : divOut a b = .tuple #[.int .i64 (a / b), .int .i64 (a % b), .int .i64 0] := by
  rw [divOut, if_neg (by omega), if_neg (by omega), dq, dr, if_pos (by omega), if_pos (by omega)]
theorem divOut_over (a b : Int) (x y : Nat) (hx : x = a.natAbs) (hy : y = b.natAbs) (h1 : -9223372036854775808 ≤ a) (h2 : a ≤ 9223372036854775807) (hb : b ≠ 0) (hs : a < 0 ↔ b < 0) (hq : 9223372036854775807 < x / y) : divOut a b = .tuple #[.int .i64 0, .int .i64 0, .int .i64 14] := by
  have h3 := Nat.div_le_self x y
  have h4 : x = 9223372036854775808 := by omega
  have h5 : y = 1 := by
    rcases Nat.lt_or_ge y 2 with h | h
    · omega
    · have := Nat.div_le_div_left (a := x) h (by omega); omega
  rw [divOut, if_neg hb, if_pos (by omega)]
theorem divOut_up (a b : Int) (x y : Nat) (hx : x = a.natAbs) (hy : y = b.natAbs) (hb : b ≠ 0) (hs : a < 0 ↔ b < 0) (hq : x / y ≤ 9223372036854775807) : divOut a b = .tuple #[.int .i64 ((x / y : Nat) : Int), .int .i64 (if b < 0 then -((x % y : Nat) : Int) else ((x % y : Nat) : Int)), .int .i64 0] := by
  rw [divOut, if_neg hb, if_neg (by rintro ⟨rfl, rfl⟩; subst hx hy; simp at hq)]
  subst hx hy
  by_cases h : b < 0
  · have e := nat_up (-a) b.natAbs (by omega)
    rw [show ((b.natAbs : Nat) : Int) = -b by omega, Int.natAbs_neg] at e
    rw [dq, dr, if_neg (by omega), if_neg (by omega), if_pos h, e.1, e.2]
  · have e := nat_up a b.natAbs (by omega)
    rw [show ((b.natAbs : Nat) : Int) = b by omega] at e
    rw [dq, dr, if_pos (by omega), if_pos (by omega), if_neg h, e.1, e.2]
theorem divOut_down (a b : Int) (x y : Nat) (hx : x = a.natAbs) (hy : y = b.natAbs) (hb : b ≠ 0) (hs : a < 0 ↔ ¬ b < 0) :
    (x % y = 0 → divOut a b = .tuple #[.int .i64 (-((x / y : Nat) : Int)), .int .i64 0, .int .i64 0]) ∧
    (x % y ≠ 0 → divOut a b = .tuple #[.int .i64 (-((x / y : Nat) : Int) - 1), .int .i64 (if b < 0 then -((y : Int) - ((x % y : Nat) : Int)) else (y : Int) - ((x % y : Nat) : Int)), .int .i64 0]) := by
  rw [divOut, if_neg hb, if_neg (by omega)]
  subst hx hy
  by_cases h : b < 0
  · have e := nat_down (-a) b.natAbs (by omega) (by omega)
    rw [show ((b.natAbs : Nat) : Int) = -b by omega, Int.natAbs_neg] at e
    rw [dq, dr, if_neg (by omega), if_neg (by omega), if_pos h, show ((b.natAbs : Nat) : Int) = -b by omega]
    exact ⟨fun h => by rw [(e.1 h).1, (e.1 h).2]; simp, fun h => by rw [(e.2 h).1, (e.2 h).2]⟩
  · have e := nat_down a b.natAbs (by omega) (by omega)
    rw [show ((b.natAbs : Nat) : Int) = b by omega] at e
    rw [dq, dr, if_pos (by omega), if_pos (by omega), if_neg h, show ((b.natAbs : Nat) : Int) = b by omega]
    exact ⟨fun h => by rw [(e.1 h).1, (e.1 h).2], fun h => by rw [(e.2 h).1, (e.2 h).2]⟩
theorem div_plus_le (x y : Nat) (hx : x ≤ 9223372036854775808) (h : x % y ≠ 0) : x / y + 1 ≤ 9223372036854775808 := by
  have h1 := Nat.div_add_mod x y
  rcases Nat.lt_or_ge y 1 with h0 | h0
  · obtain rfl : y = 0 := by omega
    simp
  · have := Nat.mul_le_mul_right (x / y) h0
    omega
set_option maxHeartbeats 1000000 in
theorem ref_Div (a b : Int) (w : World) (h1 : -9223372036854775808 ≤ a) (h2 : a ≤ 9223372036854775807) (h3 : -9223372036854775808 ≤ b) (h4 : b ≤ 9223372036854775807) :
    Calls Tryz.prog 119 #[.int .i64 a, .int .i64 b] w fun e w' => e = .returned (divOut a b) ∧ w = w' := by
  by_cases hb' : b = 0
  · subst hb'
    go_enter Tryz.func119, Tryz.ntmps119
    go_wp2_with fail
    go_ret3
    exact ⟨ret_of (by rw [divOut, if_pos rfl]; rfl), rfl⟩
  have hb : (b == 0) = false := by simpa using hb'
  go_enter Tryz.func119, Tryz.ntmps119
  go_wp2_with fail
  refine (ref_Size _ _ h1 h2).mono ?_; rintro e w' ⟨rfl, rfl⟩
  go_wp2_with fail
  refine (ref_Size _ _ h3 h4).mono ?_; rintro e w' ⟨rfl, rfl⟩
  go_wp2_with fail
  obtain ⟨x, hx⟩ : ∃ x, x = a.natAbs := ⟨_, rfl⟩
  obtain ⟨y, hy⟩ : ∃ y, y = b.natAbs := ⟨_, rfl⟩
  have hx1 : x ≤ 9223372036854775808 := by omega
  have hy1 : 1 ≤ y := by omega
  have hy2 : y ≤ 9223372036854775808 := by omega
  rw [← hx, ← hy]
  have HX := Lib.hid hx; have HY := Lib.hid hy; clear hx hy
  go_loop [9, 10, 11, 12] (fun q r k c => ∃ (j : Nat), j ≤ 64 ∧ q = .int .u64 ((x / 2 ^ j / y * 2 ^ j : Nat) : Int) ∧ r = .int .u64 ((x / 2 ^ j % y : Nat) : Int) ∧ k = .int .i64 ((j : Int) - 1)) (fun _ _ k _ => (intOf k + 1).toNat)
  case atStart =>
    have e : x / 2 ^ 64 = 0 := Nat.div_eq_of_lt (by omega)
    exact ⟨64, by omega, by rw [e]; simp, by rw [e]; simp, rfl⟩
  case round =>
    obtain ⟨j, hj, rfl, rfl, rfl⟩ := hrel
    by_cases hz : j = 0
    · subst hz
      have hov := Lib.hid (divOut_over a b x y HX.out HY.out h1 h2 hb')
      have hup := Lib.hid (divOut_up a b x y HX.out HY.out hb')
      have hdn := Lib.hid (divOut_down a b x y HX.out HY.out hb')
      have hpl := Lib.hid (div_plus_le x y hx1)
      have hq : x / y ≤ 9223372036854775808 := Nat.le_trans (Nat.div_le_self x y) hx1
      have hr : x % y < y := Nat.mod_lt x (by omega)
      have eq0 : ((x / 2 ^ 0 / y * 2 ^ 0 : Nat) : Int) = ((x / y : Nat) : Int) := by simp
      have er0 : ((x / 2 ^ 0 % y : Nat) : Int) = ((x % y : Nat) : Int) := by simp
      rw [eq0, er0]
      clear eq0 er0 hj HX HY
      generalize x / y = q at *
      generalize x % y = r at *
      have nb := neg_back (q : Int) (by omega) (by omega)
      by_cases ha : a < 0 <;> by_cases hbn : b < 0
      · have nr := neg_back (r : Int) (by omega) (by omega)
        by_cases hqq : q ≤ 9223372036854775807
        · go_wp2_with fail
          go_ret3
          exact ⟨by rw [hup.out (by omega) hqq, if_pos hbn]; exact ret_ints3 rfl rfl rfl, rfl⟩
        · go_wp2_with fail
          go_ret3
          exact ⟨ret_of (by rw [hov.out (by omega) (by omega)]; rfl), rfl⟩
      · by_cases hrz : r = 0
        · have hr0 : ((r : Int) != 0) = false := by simp [hrz]
          have HR := Lib.hid hrz; clear hrz
          go_wp2_with fail
          go_ret3
          exact ⟨by rw [(hdn.out (by omega)).1 HR.out]; exact ret_ints3 rfl (by have := HR.out; omega) rfl, rfl⟩
        · have hr0 : ((r : Int) != 0) = true := by simp [hrz]
          have hq1 := hpl.out hrz
          have hr1 : 1 ≤ r := by omega
          have HR := Lib.hid hrz; clear hrz
          have nb1 := neg_back ((q : Int) + 1) (by omega) (by omega)
          go_wp2_with fail
          go_ret3
          exact ⟨by rw [(hdn.out (by omega)).2 HR.out, if_neg (by omega)]; exact ret_ints3 (by omega) (by omega) rfl, rfl⟩
      · by_cases hrz : r = 0
        · have hr0 : ((r : Int) != 0) = false := by simp [hrz]
          have nr := neg_back (r : Int) (by omega) (by omega)
          have HR := Lib.hid hrz; clear hrz
          go_wp2_with fail
          go_ret3
          exact ⟨by rw [(hdn.out (by omega)).1 HR.out]; exact ret_ints3 rfl (by have := HR.out; omega) rfl, rfl⟩
        · have hr0 : ((r : Int) != 0) = true := by simp [hrz]
          have hq1 := hpl.out hrz
          have hr1 : 1 ≤ r := by omega
          have HR := Lib.hid hrz; clear hrz
          have nb1 := neg_back ((q : Int) + 1) (by omega) (by omega)
          have nr := neg_back ((y : Int) - r) (by omega) (by omega)
          go_wp2_with fail
          go_ret3
          exact ⟨by rw [(hdn.out (by omega)).2 HR.out, if_pos (by omega)]; exact ret_ints3 (by omega) (by omega) rfl, rfl⟩
      · by_cases hqq : q ≤ 9223372036854775807
        · go_wp2_with fail
          go_ret3
          exact ⟨by rw [hup.out (by omega) hqq, if_neg (by omega)]; exact ret_ints3 rfl rfl rfl, rfl⟩
        · go_wp2_with fail
          go_ret3
          exact ⟨ret_of (by rw [hov.out (by omega) (by omega)]; rfl), rfl⟩
    · obtain ⟨i, rfl⟩ : ∃ i, j = i + 1 := ⟨j - 1, by omega⟩
      have hst := Lib.hid (long_step x y i hy1)
      have hr := Nat.mod_lt (x / 2 ^ (i + 1)) (show 0 < y by omega)
      have hq : x / 2 ^ (i + 1) / y * 2 ^ (i + 1) ≤ 9223372036854775808 := by
        have e1 := Nat.div_mul_le_self x (2 ^ (i + 1))
        have e2 := Nat.mul_le_mul_right (2 ^ (i + 1)) (Nat.div_le_self (x / 2 ^ (i + 1)) y)
        omega
      have hc : x / 2 ^ i % 2 ≤ 1 := by omega
      have hca : (((x / 2 ^ (i + 1) % y : Nat) : Int) / 9223372036854775808 == 1) = false := by
        generalize x / 2 ^ (i + 1) % y = r at *
        simp; omega
      have b1 := bit_in x i (by omega)
      have b2 := or_bit (x / 2 ^ (i + 1) % y) (x / 2 ^ i % 2) (by omega) hc
      have b4 := wrap_pow i (by omega)
      have b3 := or_pow (x / 2 ^ (i + 1) / y * 2 ^ (i + 1)) i (by omega) (by omega) (Nat.mul_mod_left _ _)
      generalize x / 2 ^ (i + 1) % y = r at *
      generalize x / 2 ^ i % 2 = c at *
      generalize hqd : x / 2 ^ (i + 1) / y * 2 ^ (i + 1) = q at *
      have HQ := Lib.hid hqd; clear hqd
      by_cases hlt : 2 * r + c < y
      · go_wp2_with fail
        go_round
        case rel =>
          obtain ⟨e1, e2⟩ := hst.out.1 hlt
          refine ⟨i, by omega, ?_, ?_, rfl⟩
          · rw [e1, ← HQ.out, Nat.pow_succ, Nat.mul_comm 2, Nat.mul_assoc, Nat.mul_comm 2]
          · rw [e2]; rfl
        case measure => simp [intOf]
      · go_wp2_with fail
        go_round
        case rel =>
          obtain ⟨e1, e2⟩ := hst.out.2 (by omega)
          refine ⟨i, by omega, ?_, ?_, rfl⟩
          · refine congrArg _ ?_
            rw [e1, ← HQ.out, Nat.pow_succ, Nat.add_mul, Nat.mul_comm 2 (x / _ / y), Nat.mul_assoc, Nat.mul_comm 2]; simp
          · refine congrArg _ ?_
            rw [e2]; omega
        case measure => simp [intOf]
end Go.Proofs.YtdmkghgachapaabGreatDoor

set_option linter.unusedSimpArgs false
namespace Go.Proofs.YtdmkghgachapaabGreatDoor
set_option linter.unusedVariables false
set_option maxRecDepth 100000
open Go.RowKit
theorem line_Is (x : Int) (w : World) :
    Calls Tryz.prog 71 #[.int .i64 x] w fun e w' => e = .returned (.bool (inB (-4000000) 4000000 x)) ∧ w = w' := by
  by_cases h1 : -4000000 ≤ x
  · by_cases h2 : x ≤ 4000000
    · go_enter Tryz.func71, Tryz.ntmps71
      go_wp2
      go_ret
      exact ⟨ret_bool (inB_yes h1 h2).symm, rfl⟩
    · go_enter Tryz.func71, Tryz.ntmps71
      go_wp2
      go_ret
      exact ⟨ret_bool (inB_no (by omega)).symm, rfl⟩
  · go_enter Tryz.func71, Tryz.ntmps71
    go_wp2
    go_ret
    exact ⟨ret_bool (inB_no (by omega)).symm, rfl⟩
end Go.Proofs.YtdmkghgachapaabGreatDoor

set_option linter.unusedSimpArgs false
namespace Go.Proofs.YtdmkghgachapaabGreatDoor
set_option linter.unusedVariables false
set_option maxRecDepth 100000
open Go.RowKit
theorem low32 (x : Nat) (h : x ≤ 18446744073709551615) : bits .and .u64 (x : Int) 4294967295 = ((x % 4294967296 : Nat) : Int) := by
  rw [show (4294967295 : Int) = ((4294967295 : Nat) : Int) from rfl, u64_and_nat _ _ (by omega) (by omega)]
  have := Nat.and_two_pow_sub_one_eq_mod x 32
  rw [show (2 ^ 32 - 1 : Nat) = 4294967295 from rfl] at this
  rw [this]
theorem mul_parts (x y : Nat) : x * y = (x / 4294967296 * (y / 4294967296)) * 18446744073709551616 + (x / 4294967296 * (y % 4294967296) + x % 4294967296 * (y / 4294967296)) * 4294967296 + x % 4294967296 * (y % 4294967296) := by
  have h1 : x = 4294967296 * (x / 4294967296) + x % 4294967296 := by omega
  have h2 : y = 4294967296 * (y / 4294967296) + y % 4294967296 := by omega
  generalize x / 4294967296 = a at *
  generalize x % 4294967296 = b at *
  generalize y / 4294967296 = c at *
  generalize y % 4294967296 = d at *
  subst h1 h2
  rw [Nat.add_mul, Nat.mul_add, Nat.mul_add, show 4294967296 * a * (4294967296 * c) = a * c * 18446744073709551616 by rw [Nat.mul_assoc, Nat.mul_left_comm a]; omega,
    show 4294967296 * a * d = a * d * 4294967296 by rw [Nat.mul_assoc, Nat.mul_comm], show b * (4294967296 * c) = b * c * 4294967296 by rw [Nat.mul_left_comm, Nat.mul_comm], Nat.add_mul]
  omega
theorem prod_le {a b : Nat} (ha : a ≤ 4294967295) (hb : b ≤ 4294967295) : a * b ≤ 18446744065119617025 := Nat.mul_le_mul ha hb
theorem halves (x y : Nat) (hx : x ≤ 18446744073709551615) (hy : y ≤ 18446744073709551615) : ∃ p00 p10 p01 p11 : Nat, p00 ≤ 18446744065119617025 ∧ p10 ≤ 18446744065119617025 ∧ p01 ≤ 18446744065119617025 ∧ p11 ≤ 18446744065119617025 ∧
    (x : Int) % 4294967296 * ((y : Int) % 4294967296) = p00 ∧ (x : Int) / 4294967296 * ((y : Int) % 4294967296) = p10 ∧ (x : Int) % 4294967296 * ((y : Int) / 4294967296) = p01 ∧ (x : Int) / 4294967296 * ((y : Int) / 4294967296) = p11 ∧
    x * y = p11 * 18446744073709551616 + (p10 + p01) * 4294967296 + p00 :=
  ⟨_, _, _, _, prod_le (a := x % 4294967296) (b := y % 4294967296) (by omega) (by omega), prod_le (a := x / 4294967296) (b := y % 4294967296) (by omega) (by omega), prod_le (a := x % 4294967296) (b := y / 4294967296) (by omega) (by omega), prod_le (a := x / 4294967296) (b := y / 4294967296) (by omega) (by omega),
    by simp, by simp, by simp, by simp, mul_parts x y⟩
theorem ref_wide (x y : Nat) (w : World) (hx : x ≤ 18446744073709551615) (hy : y ≤ 18446744073709551615) :
    Calls Tryz.prog 142 #[.int .u64 x, .int .u64 y] w fun e w' => e = .returned (.tuple #[.int .u64 ((x * y / 18446744073709551616 : Nat) : Int), .int .u64 ((x * y % 18446744073709551616 : Nat) : Int)]) ∧ w = w' := by
  have b1 := low32 x hx
  have b2 := low32 y hy
  go_enter Tryz.func142, Tryz.ntmps142
  go_wp2
  go_ret2
  obtain ⟨p00, p10, p01, p11, h1, h2, h3, h4, e1, e2, e3, e4, e⟩ := halves x y hx hy
  refine ⟨ret_ints2 ?_ ?_, rfl⟩
  · rw [e1, e2, e3, e4, e, IntWalk.u64_in (p00 : Int) (by omega), IntWalk.u64_in (p10 : Int) (by omega), IntWalk.u64_in (p01 : Int) (by omega), IntWalk.u64_in (p11 : Int) (by omega),
      IntWalk.u64_in ((p10 : Int) + (p00 : Int) / 4294967296) (by omega), show (p10 : Int) + (p00 : Int) / 4294967296 = ((p10 + p00 / 4294967296 : Nat) : Int) by omega, low32 _ (by omega)]
    clear e1 e2 e3 e4 e b1 b2 hx hy
    simp only [IntKind.wrap_u64]
    omega
  · rw [e1, e2, e3, e, IntWalk.u64_in (p00 : Int) (by omega), IntWalk.u64_in (p10 : Int) (by omega), IntWalk.u64_in (p01 : Int) (by omega),
      IntWalk.u64_in ((p10 : Int) + (p00 : Int) / 4294967296) (by omega), show (p10 : Int) + (p00 : Int) / 4294967296 = ((p10 + p00 / 4294967296 : Nat) : Int) by omega, low32 _ (by omega), low32 _ (by omega)]
    clear e1 e2 e3 e4 e b1 b2 hx hy
    rw [show IntKind.u64.wrap (IntKind.u64.wrap ((p01 : Int) + (((p10 + p00 / 4294967296) % 4294967296 : Nat) : Int)) * 4294967296) = (((p01 + (p10 + p00 / 4294967296) % 4294967296) % 4294967296 * 4294967296 : Nat) : Int) by
      simp only [IntKind.wrap_u64]; omega]
    rw [u64_or_nat _ _ (by omega) (by omega), nat_join 32 _ _ (by omega) (by omega)]
    omega
def mulOut (a b : Int) : Value := if -9223372036854775808 ≤ a * b ∧ a * b ≤ 9223372036854775807 then .tuple #[.int .i64 (a * b), .int .i64 0] else .tuple #[.int .i64 0, .int .i64 14]
theorem abs_mul (a b : Int) : (a.natAbs * b.natAbs : Nat) = (a * b).natAbs := (Int.natAbs_mul a b).symm
theorem sign_mul (a b : Int) : ((a < 0 ↔ b < 0) → 0 ≤ a * b) ∧ (¬ (a < 0 ↔ b < 0) → a * b ≤ 0) := by
  constructor
  · intro h
    by_cases ha : a < 0
    · exact Int.mul_nonneg_of_nonpos_of_nonpos (by omega) (by have := h.1 ha; omega)
    · exact Int.mul_nonneg (by omega) (by by_cases hb : b < 0; exact absurd (h.2 hb) ha; omega)
  · intro h
    by_cases ha : a < 0
    · exact Int.mul_nonpos_of_nonpos_of_nonneg (by omega) (by by_cases hb : b < 0; exact absurd (by simp [ha, hb]) h; omega)
    · exact Int.mul_nonpos_of_nonneg_of_nonpos (by omega) (by by_cases hb : b < 0; omega; exact absurd (by simp [ha, hb]) h)
theorem mul_abs_le (a b : Int) (h1 : -9223372036854775808 ≤ a) (h2 : a ≤ 9223372036854775807) (h3 : -9223372036854775808 ≤ b) (h4 : b ≤ 9223372036854775807) : (a * b).natAbs ≤ 85070591730234615865843651857942052864 := by
  rw [Int.natAbs_mul]
  exact Nat.mul_le_mul (show a.natAbs ≤ 9223372036854775808 by omega) (show b.natAbs ≤ 9223372036854775808 by omega)
theorem back_neg (q : Int) (h0 : 0 ≤ q) (h : q ≤ 9223372036854775808) : wrap64 (IntKind.u64.wrap (-q)) = -q := by
  rw [IntKind.wrap_u64]; unfold wrap64; omega
theorem ref_Mul (a b : Int) (w : World) (h1 : -9223372036854775808 ≤ a) (h2 : a ≤ 9223372036854775807) (h3 : -9223372036854775808 ≤ b) (h4 : b ≤ 9223372036854775807) :
    Calls Tryz.prog 118 #[.int .i64 a, .int .i64 b] w fun e w' => e = .returned (mulOut a b) ∧ w = w' := by
  have hs := sign_mul a b
  have hm := mul_abs_le a b h1 h2 h3 h4
  have hab := abs_mul a b
  go_enter Tryz.func118, Tryz.ntmps118
  have HS := Lib.hid hs; have HAB := Lib.hid hab; clear hs hab
  go_wp2_with fail
  refine (ref_Size _ _ h1 h2).mono ?_; rintro e w' ⟨rfl, rfl⟩
  go_wp2_with fail
  refine (ref_Size _ _ h3 h4).mono ?_; rintro e w' ⟨rfl, rfl⟩
  go_wp2_with fail
  refine (ref_wide _ _ _ (by omega) (by omega)).mono ?_; rintro e w' ⟨rfl, rfl⟩
  rw [HAB.out]
  have HO := Lib.hid (show mulOut a b = if -9223372036854775808 ≤ a * b ∧ a * b ≤ 9223372036854775807 then .tuple #[.int .i64 (a * b), .int .i64 0] else .tuple #[.int .i64 0, .int .i64 14] from rfl)
  generalize a * b = p at *
  obtain ⟨hi, hhi⟩ : ∃ hi, hi = p.natAbs / 18446744073709551616 := ⟨_, rfl⟩
  obtain ⟨lo, hlo⟩ : ∃ lo, lo = p.natAbs % 18446744073709551616 := ⟨_, rfl⟩
  rw [← hhi, ← hlo]
  have hp : p.natAbs = hi * 18446744073709551616 + lo := by omega
  have hlo2 : lo ≤ 18446744073709551615 := by omega
  have hhi2 : hi ≤ 18446744073709551615 := by omega
  have HP := Lib.hid hp; clear hhi hlo hp hm
  by_cases hz : hi = 0
  case neg =>
    have hz1 : ((hi : Int) != 0) = true := by simp; omega
    have HF := Lib.hid (show mulOut a b = .tuple #[.int .i64 0, .int .i64 14] by rw [HO.out, if_neg (by have := HP.out; omega)])
    clear hz HO
    go_wp2_with fail
    go_ret2
    exact ⟨ret_of (by rw [HF.out]; rfl), rfl⟩
  subst hz
  by_cases hov : 9223372036854775808 < lo
  · have HF := Lib.hid (show mulOut a b = .tuple #[.int .i64 0, .int .i64 14] by rw [HO.out, if_neg (by have := HP.out; omega)])
    clear HO
    go_wp2_with fail
    go_ret2
    exact ⟨ret_of (by rw [HF.out]; rfl), rfl⟩
  by_cases ha : a < 0 <;> by_cases hb : b < 0
  · have hda : decide (a < 0) = true := by simp; omega
    have hdb : decide (b < 0) = true := by simp; omega
    have hpos : 0 ≤ p := HS.out.1 (by simp [ha, hb])
    by_cases he : lo = 9223372036854775808
    · have hbq : ((lo : Int) == 9223372036854775808) = true := by simp; omega
      have HF := Lib.hid (show mulOut a b = .tuple #[.int .i64 0, .int .i64 14] by rw [HO.out, if_neg (by have := HP.out; omega)])
      clear HO he
      go_wp2_with fail
      go_ret2
      exact ⟨ret_of (by rw [HF.out]; rfl), rfl⟩
    · have hbq : ((lo : Int) == 9223372036854775808) = false := by simp; omega
      have HF := Lib.hid (show mulOut a b = .tuple #[.int .i64 (lo : Int), .int .i64 0] by rw [HO.out, if_pos (by have := HP.out; omega), show p = (lo : Int) by have := HP.out; omega])
      have hlt : lo ≤ 9223372036854775807 := by omega
      clear HO he
      go_wp2_with fail
      go_ret2
      exact ⟨ret_of (by rw [HF.out]; rfl), rfl⟩
  · have hda : decide (a < 0) = true := by simp; omega
    have hdb : decide (b < 0) = false := by simp; omega
    have hneg : p ≤ 0 := HS.out.2 (by simp [ha, hb])
    have HF := Lib.hid (show mulOut a b = .tuple #[.int .i64 (-(lo : Int)), .int .i64 0] by rw [HO.out, if_pos (by have := HP.out; omega), show p = -(lo : Int) by have := HP.out; omega])
    have nb := back_neg (lo : Int) (by omega) (by omega)
    clear HO
    go_wp2_with fail
    go_ret2
    exact ⟨by rw [HF.out]; exact ret_ints2 (back_neg _ (by omega) (by omega)) rfl, rfl⟩
  · have hda : decide (a < 0) = false := by simp; omega
    have hdb : decide (b < 0) = true := by simp; omega
    have hneg : p ≤ 0 := HS.out.2 (by simp [ha, hb])
    have HF := Lib.hid (show mulOut a b = .tuple #[.int .i64 (-(lo : Int)), .int .i64 0] by rw [HO.out, if_pos (by have := HP.out; omega), show p = -(lo : Int) by have := HP.out; omega])
    have nb := back_neg (lo : Int) (by omega) (by omega)
    clear HO
    go_wp2_with fail
    go_ret2
    exact ⟨by rw [HF.out]; exact ret_ints2 (back_neg _ (by omega) (by omega)) rfl, rfl⟩
  · have hda : decide (a < 0) = false := by simp; omega
    have hdb : decide (b < 0) = false := by simp; omega
    have hpos : 0 ≤ p := HS.out.1 (by simp [ha, hb])
    by_cases he : lo = 9223372036854775808
    · have hbq : ((lo : Int) == 9223372036854775808) = true := by simp; omega
      have HF := Lib.hid (show mulOut a b = .tuple #[.int .i64 0, .int .i64 14] by rw [HO.out, if_neg (by have := HP.out; omega)])
      clear HO he
      go_wp2_with fail
      go_ret2
      exact ⟨ret_of (by rw [HF.out]; rfl), rfl⟩
    · have hbq : ((lo : Int) == 9223372036854775808) = false := by simp; omega
      have HF := Lib.hid (show mulOut a b = .tuple #[.int .i64 (lo : Int), .int .i64 0] by rw [HO.out, if_pos (by have := HP.out; omega), show p = (lo : Int) by have := HP.out; omega])
      have hlt : lo ≤ 9223372036854775807 := by omega
      clear HO he
      go_wp2_with fail
      go_ret2
      exact ⟨ret_of (by rw [HF.out]; rfl), rfl⟩
theorem neg_pos (a c : Int) (hc : 1 ≤ c) (ha : 0 < a) : (a % (-c) = 0 ∧ a.tdiv (-c) = -a / c ∧ -a % c = 0) ∨ (0 < a % (-c) ∧ a.tdiv (-c) - 1 = -a / c ∧ a % (-c) + -c = -(-a % c)) := by
  have h := tmod_neg_eq (-a) c (by omega) hc
  rw [Int.neg_tmod, Int.tmod_eq_emod_of_nonneg (by omega)] at h
  rw [Int.emod_neg, Int.tdiv_neg, ← Int.neg_tdiv]
  omega
theorem neg_neg' (a c : Int) (hc : 1 ≤ c) (ha : a < 0) : a.tmod (-c) = -(-a % c) ∧ a.tdiv (-c) = -a / c ∧ 0 ≤ -a % c := by
  have h1 := Int.tmod_eq_emod_of_nonneg (a := -a) (b := c) (by omega)
  have h2 := Int.tdiv_eq_ediv_of_nonneg (a := -a) (b := c) (by omega)
  rw [Int.neg_tmod] at h1
  rw [Int.tmod_neg, Int.tdiv_neg, ← Int.neg_tdiv, h2]
  exact ⟨by omega, rfl, Int.emod_nonneg _ (by omega)⟩
theorem div_in (a c : Int) (hc : 1 ≤ c) (h1 : -9223372036854775807 ≤ a) (h2 : a ≤ 9223372036854775808) : -9223372036854775807 ≤ a / c ∧ (a / c ≤ 9223372036854775807 ∨ c = 1 ∧ a / c = a) := by
  constructor
  · have := Int.le_ediv_of_mul_le (a := -9223372036854775807) (b := a) (c := c) (by omega) (by have := Int.mul_le_mul_of_nonpos_left (show (-9223372036854775807 : Int) ≤ 0 by omega) hc; omega)
    exact this
  · by_cases h : c = 1
    · right; subst h; simp
    · left
      have := Int.ediv_le_of_le_mul (a := a) (b := 9223372036854775807) (c := c) (by omega) (by have := Int.mul_le_mul_of_nonneg_left (show 2 ≤ c by omega) (show (0 : Int) ≤ 9223372036854775807 by omega); omega)
      exact this
theorem neg_pos'' (a b : Int) (hb : b < 0) (ha : 0 < a) : (a % b = 0 ∧ a.tdiv b = -a / -b ∧ -a % -b = 0) ∨ (0 < a % b ∧ a.tdiv b - 1 = -a / -b ∧ a % b + b = -(-a % -b)) := by
  have := neg_pos a (-b) (by omega) ha
  rwa [Int.neg_neg] at this
theorem neg_neg'' (a b : Int) (hb : b < 0) (ha : a < 0) : a.tmod b = -(-a % -b) ∧ a.tdiv b = -a / -b ∧ 0 ≤ -a % -b := by
  have := neg_neg' a (-b) (by omega) ha
  rwa [Int.neg_neg] at this
theorem whole_Div_neg (a b : Int) (w : World) (h1 : -9223372036854775808 ≤ a) (h2 : a ≤ 9223372036854775807) (h3 : -9223372036854775808 ≤ b) (hb : b < 0) (hm : ¬ (a = -9223372036854775808 ∧ b = -1)) :
    Calls Tryz.prog 158 #[.int .i64 a, .int .i64 b] w fun e w' => e = .returned (.tuple #[.int .i64 (-a / -b), .int .i64 (-(-a % -b)), .int .i64 0]) ∧ Drawn w w' := by
  have hb0 : (b == 0) = false := by simp; omega
  have hbn : decide (b < 0) = true := by simp; omega
  have hd := div_in (-a) (-b) (by omega) (by omega) (by omega)
  have hr := Int.emod_lt_of_pos (-a) (show 0 < -b by omega)
  have hr0 := Int.emod_nonneg (-a) (show -b ≠ 0 by omega)
  have N1 := neg_neg'' a b hb
  have N2 := neg_pos'' a b hb
  have N0 : a = 0 → -a / -b = 0 ∧ -a % -b = 0 := by intro h; subst h; simp
  have N3 : 0 < a → -a / -b < 1 := fun h => Int.ediv_lt_of_lt_mul (by omega) (by omega)
  generalize -a / -b = Q at *
  generalize -a % -b = R at *
  have HN1 := Lib.hid N1; have HN2 := Lib.hid N2; have HN0 := Lib.hid N0; clear N1 N2 N0
  have hcm : ((a == -9223372036854775808) = false) ∨ ((a == -9223372036854775808) = true ∧ (b == -1) = false) := by
    by_cases h : a = -9223372036854775808
    · right; exact ⟨by simp [h], by simp; omega⟩
    · left; simp [h]
  have hdd : -9223372036854775807 ≤ Q ∧ Q ≤ 9223372036854775807 := by
    refine ⟨hd.1, ?_⟩
    rcases hd.2 with h | ⟨h, h'⟩
    · exact h
    · rw [h']; omega
  obtain ⟨dd1, dd2⟩ := hdd
  clear hd hm
  rcases Int.lt_trichotomy a 0 with ha | ha | ha
  · clear N3
    obtain ⟨e1, e2, e3⟩ := HN1.out ha
    have hq1 : -9223372036854775808 ≤ a.tdiv b ∧ a.tdiv b ≤ 9223372036854775807 := by omega
    obtain ⟨q1, q2⟩ := hq1
    by_cases hz : R = 0
    · have hz1 : (a.tmod b != 0) = false := by rw [e1, hz]; rfl
      have E1 := Lib.hid e1; have E2 := Lib.hid e2; have HZ := Lib.hid hz
      clear e1 e2 hz
      rcases hcm with hc1 | ⟨hc1, hc2⟩
      all_goals
        go_enter Tryz.func158, Tryz.ntmps158
        go_wp2
        go_quiet (fail)
        go_wp2
        go_ret3
        exact ⟨ret_ints3 E2.out E1.out rfl, ⟨_, rfl⟩⟩
    · have hz1 : (a.tmod b != 0) = true := by rw [e1]; simp; omega
      have hz2 : decide (a.tmod b < 0) = true := by rw [e1]; simp; omega
      have E1 := Lib.hid e1; have E2 := Lib.hid e2; have HZ := Lib.hid hz
      clear e1 e2 hz
      rcases hcm with hc1 | ⟨hc1, hc2⟩
      all_goals
        go_enter Tryz.func158, Tryz.ntmps158
        go_wp2
        go_quiet (fail)
        go_wp2
        go_ret3
        exact ⟨ret_ints3 E2.out E1.out rfl, ⟨_, rfl⟩⟩
  · clear N3
    obtain ⟨hQ, hR⟩ := HN0.out ha
    subst ha hQ hR
    go_enter Tryz.func158, Tryz.ntmps158
    go_wp2
    go_quiet (fail)
    go_wp2
    go_ret3
    exact ⟨ret_ints3 (by simp) (by simp) rfl, ⟨_, rfl⟩⟩
  · have hn := HN2.out ha
    have hq1 : -9223372036854775808 ≤ a.tdiv b ∧ a.tdiv b ≤ 9223372036854775807 := by have := N3 ha; omega
    obtain ⟨q1, q2⟩ := hq1
    clear N3
    have ha0 : (a == -9223372036854775808) = false := by simp; omega
    have HN := Lib.hid hn
    rcases hn with ⟨e1, e2, e3⟩ | ⟨e1, e2, e3⟩
    · have hz1 : (a % b != 0) = false := by simp [e1]
      have E1 := Lib.hid e1; have E2 := Lib.hid e2; have E3 := Lib.hid e3
      clear e1 e2 e3 hcm
      go_enter Tryz.func158, Tryz.ntmps158
      go_wp2
      go_quiet (fail)
      go_wp2
      go_ret3
      exact ⟨ret_ints3 E2.out (by rw [E3.out]; exact E1.out) rfl, ⟨_, rfl⟩⟩
    · have hz1 : (a % b != 0) = true := by simp; omega
      have hz2 : decide (a % b < 0) = false := by simp; omega
      have q3 : -9223372036854775808 ≤ a.tdiv b - 1 := by omega
      have E2 := Lib.hid e2; have E3 := Lib.hid e3
      have q4 : -9223372036854775808 ≤ a % b + b ∧ a % b + b ≤ 0 := by omega
      obtain ⟨q4, q5⟩ := q4
      clear e2 e3 hcm
      go_enter Tryz.func158, Tryz.ntmps158
      go_wp2
      go_quiet (fail)
      go_wp2
      go_ret3
      exact ⟨ret_ints3 E2.out E3.out rfl, ⟨_, rfl⟩⟩
theorem whole_Div_over (w : World) :
    Calls Tryz.prog 158 #[.int .i64 (-9223372036854775808), .int .i64 (-1)] w fun e w' => e = .returned (.tuple #[.int .i64 0, .int .i64 0, .int .i64 14]) ∧ Drawn w w' := by
  go_enter Tryz.func158, Tryz.ntmps158
  go_wp2
  go_ret3
  exact ⟨rfl, Drawn.refl _⟩
theorem whole_Div (a b : Int) (w : World) (h1 : -9223372036854775808 ≤ a) (h2 : a ≤ 9223372036854775807) (h3 : -9223372036854775808 ≤ b) (h4 : b ≤ 9223372036854775807) :
    Calls Tryz.prog 158 #[.int .i64 a, .int .i64 b] w fun e w' => e = .returned (divOut a b) ∧ Drawn w w' := by
  by_cases hb : 1 ≤ b
  · rw [divOut_pos a b hb]; exact whole_Div_pos a b w h1 h2 hb h4
  · by_cases h0 : b = 0
    · subst h0
      rw [divOut, if_pos rfl]
      exact (whole_Div_zero a w).mono fun e w' ⟨he, hw⟩ => ⟨he, hw ▸ Drawn.refl _⟩
    · by_cases hm : a = -9223372036854775808 ∧ b = -1
      · rw [divOut, if_neg h0, if_pos hm, hm.1, hm.2]; exact whole_Div_over w
      · rw [divOut, if_neg h0, if_neg hm, dq, dr, if_neg (by omega), if_neg (by omega)]
        exact whole_Div_neg a b w h1 h2 h3 (by omega) hm
end Go.Proofs.YtdmkghgachapaabGreatDoor
