/- Several texts in one: Whole, Ref, Line. -/
import Derived.Test.YtdmkghgachapaaaGreatDoorBase
/- Contracts of package whole. -/
namespace Go.Proofs.YtdmkghgachapaaaGreatDoor
set_option linter.unusedVariables false
set_option maxRecDepth 100000
open Go.RowKit

theorem neg_wrap (a : Int) (h1 : -9223372036854775808 ≤ a) (h : a < 0) : IntKind.u64.wrap (-IntKind.u64.wrap a) = (a.natAbs : Int) := by
  rw [IntKind.wrap_u64, IntKind.wrap_u64]; omega
theorem whole_Div_zero (a : Int) (w : World) :
    Calls Tryz.prog 59 #[.int .i64 a, .int .i64 0] w fun e w' => e = .returned (.tuple #[.int .i64 0, .int .i64 0, .int .i64 1]) ∧ w = w' := by
  go_enter Tryz.func59, Tryz.ntmps59
  go_wp2
  go_ret3
  exact ⟨rfl, rfl⟩

theorem tmod_neg_eq (a b : Int) (ha : a < 0) (hb : 1 ≤ b) : (a.tmod b = 0 ∧ a.tdiv b = a / b ∧ a % b = 0) ∨ (a.tmod b < 0 ∧ a.tdiv b - 1 = a / b ∧ a.tmod b + b = a % b) := by
  have h1 := Int.mul_tdiv_add_tmod a b
  have h2 := Int.emod_add_mul_ediv a b
  have h3 := Int.emod_nonneg a (show b ≠ 0 by omega)
  have h4 := Int.emod_lt_of_pos a (show 0 < b by omega)
  have h5 : a.tmod b ≤ 0 := by have := Int.tmod_nonneg (a := -a) b (by omega); rw [Int.neg_tmod] at this; omega
  have h6 : -b < a.tmod b := by
    have := Int.tmod_lt_of_pos (-a) (b := b) (by omega); rw [Int.neg_tmod] at this; omega
  generalize a.tmod b = r at *
  generalize a.tdiv b = q at *
  generalize a / b = q' at *
  generalize a % b = r' at *
  have h7 : b * (q - q') = r' - r := by rw [Int.mul_sub]; omega
  by_cases hr : r = 0
  · left
    have : q - q' = 0 := by
      rcases Int.lt_trichotomy (q - q') 0 with h | h | h
      · have := Int.mul_le_mul_of_nonneg_left (show q - q' ≤ -1 by omega) (show 0 ≤ b by omega); omega
      · exact h
      · have := Int.mul_le_mul_of_nonneg_left (show 1 ≤ q - q' by omega) (show 0 ≤ b by omega); omega
    rw [this] at h7; omega
  · right
    have : q - q' = 1 := by
      rcases Int.lt_trichotomy (q - q') 1 with h | h | h
      · have := Int.mul_le_mul_of_nonneg_left (show q - q' ≤ 0 by omega) (show 0 ≤ b by omega); omega
      · exact h
      · have := Int.mul_le_mul_of_nonneg_left (show 2 ≤ q - q' by omega) (show 0 ≤ b by omega); omega
    rw [this] at h7; omega
theorem tdiv_bounds (a b : Int) (h1 : -9223372036854775808 ≤ a) (h2 : a < 0) (hb : 1 ≤ b) : -9223372036854775808 ≤ a.tdiv b ∧ a.tdiv b ≤ 0 := by
  have h := Int.neg_tdiv a b
  rw [Int.tdiv_eq_ediv_of_nonneg (show 0 ≤ -a by omega)] at h
  have h3 := Int.ediv_nonneg (show 0 ≤ -a by omega) (show 0 ≤ b by omega)
  have h4 := Int.ediv_le_self b (show 0 ≤ -a by omega)
  omega
theorem tmod_bounds (a b : Int) (h2 : a < 0) (hb : 1 ≤ b) : -b < a.tmod b ∧ a.tmod b ≤ 0 := by
  have h5 : a.tmod b ≤ 0 := by have := Int.tmod_nonneg (a := -a) b (by omega); rw [Int.neg_tmod] at this; omega
  have h6 : -b < a.tmod b := by
    have := Int.tmod_lt_of_pos (-a) (b := b) (by omega); rw [Int.neg_tmod] at this; omega
  exact ⟨h6, h5⟩

theorem whole_Div_pos (a b : Int) (w : World) (h1 : -9223372036854775808 ≤ a) (h2 : a ≤ 9223372036854775807) (hb : 1 ≤ b) (hb2 : b ≤ 9223372036854775807) :
    Calls Tryz.prog 59 #[.int .i64 a, .int .i64 b] w fun e w' => e = .returned (.tuple #[.int .i64 (a / b), .int .i64 (a % b), .int .i64 0]) ∧ Drawn w w' := by
  have hb0 : (b == 0) = false := by simp; omega
  have hb1 : (b == -1) = false := by simp; omega
  have hbn : decide (b < 0) = false := by simp; omega
  by_cases ha : 0 ≤ a
  · have hr := Int.emod_nonneg a (show b ≠ 0 by omega)
    have hrn : decide (a % b < 0) = false := by simp; omega
    have hm : (a == -9223372036854775808) = false := by simp; omega
    by_cases hz : a % b = 0
    · have hz1 : (a % b != 0) = false := by simp [hz]
      have H := Lib.hid hz; clear hz
      go_enter Tryz.func59, Tryz.ntmps59
      go_wp2
      go_quiet (fail)
      go_wp2
      go_ret3
      exact ⟨rfl, ⟨_, rfl⟩⟩
    · have hz1 : (a % b != 0) = true := by simp [hz]
      go_enter Tryz.func59, Tryz.ntmps59
      go_wp2
      go_quiet (fail)
      go_wp2
      go_ret3
      exact ⟨rfl, ⟨_, rfl⟩⟩
  · have hk := Lib.hid (tmod_neg_eq a b (by omega) hb)
    have hq := tdiv_bounds a b h1 (by omega) hb
    have hr := tmod_bounds a b (by omega) hb
    by_cases hz : a.tmod b = 0
    · have hz1 : (a.tmod b != 0) = false := by simp [hz]
      have H := Lib.hid hz; clear hz
      by_cases hm : a = -9223372036854775808
      all_goals
        first
        | have hm' : (a == -9223372036854775808) = false := by simp [hm]
        | have hm' : (a == -9223372036854775808) = true := by simp [hm]
        have HM := Lib.hid hm; clear hm
        go_enter Tryz.func59, Tryz.ntmps59
        go_wp2
        go_quiet (fail)
        go_wp2
        go_ret3
        exact ⟨ret_ints3 (by have := hk.out; have := H.out; omega) (by have := hk.out; have := H.out; omega) rfl, ⟨_, rfl⟩⟩
    · have hz1 : (a.tmod b != 0) = true := by simp [hz]
      have hz2 : decide (a.tmod b < 0) = true := by simp; omega
      have hq2 : -9223372036854775808 ≤ a.tdiv b - 1 := by
        have h5 : a ≤ a / b := by
          have h6 := Int.le_ediv_of_mul_le (a := a) (b := a) (c := b) (by omega) (by
            have := Int.mul_le_mul_of_nonpos_left (show a ≤ 0 by omega) hb; omega)
          exact h6
        have := hk.out; omega
      have H := Lib.hid hz; clear hz
      by_cases hm : a = -9223372036854775808
      all_goals
        first
        | have hm' : (a == -9223372036854775808) = false := by simp [hm]
        | have hm' : (a == -9223372036854775808) = true := by simp [hm]
        have HM := Lib.hid hm; clear hm
        go_enter Tryz.func59, Tryz.ntmps59
        go_wp2
        go_quiet (fail)
        go_wp2
        go_ret3
        exact ⟨ret_ints3 (by have := hk.out; have := H.out; omega) (by have := hk.out; have := H.out; omega) rfl, ⟨_, rfl⟩⟩

theorem whole_Down (a b : Int) (w : World) (h1 : -9223372036854775808 ≤ a) (h2 : a ≤ 9223372036854775807) (hb : 1 ≤ b) (hb2 : b ≤ 9223372036854775807) :
    Calls Tryz.prog 57 #[.int .i64 a, .int .i64 b] w fun e w' => e = .returned (.int .i64 (a / b)) ∧ Drawn w w' := by
  go_enter Tryz.func57, Tryz.ntmps57
  go_wp2_with (go_at_call 59; refine (whole_Div_pos _ _ _ h1 h2 hb hb2).mono ?_; rintro e w' ⟨rfl, hd⟩)
  go_ret
  exact ⟨rfl, hd⟩
theorem whole_Mod (a b : Int) (w : World) (h1 : -9223372036854775808 ≤ a) (h2 : a ≤ 9223372036854775807) (hb : 1 ≤ b) (hb2 : b ≤ 9223372036854775807) :
    Calls Tryz.prog 33 #[.int .i64 a, .int .i64 b] w fun e w' => e = .returned (.int .i64 (a % b)) ∧ Drawn w w' := by
  go_enter Tryz.func33, Tryz.ntmps33
  go_wp2_with (go_at_call 59; refine (whole_Div_pos _ _ _ h1 h2 hb hb2).mono ?_; rintro e w' ⟨rfl, hd⟩)
  go_ret
  exact ⟨rfl, hd⟩

/-- Gcd: the greatest common divisor, or an error where it is 2^63. -/
def gcdOut (a b : Int) : Value := if Int.gcd a b ≤ 9223372036854775807 then .tuple #[.int .i64 (Int.gcd a b), .int .i64 0] else .tuple #[.int .i64 0, .int .i64 14]
theorem gcd_mod_step (m n : Nat) : Nat.gcd n (m % n) = Nat.gcd m n := by
  rw [Nat.gcd_comm m n, Nat.gcd_rec n m, Nat.gcd_comm]
end Go.Proofs.YtdmkghgachapaaaGreatDoor

/- Contracts of the reference's numbers. -/
namespace Go.Proofs.YtdmkghgachapaaaGreatDoor
set_option linter.unusedVariables false
set_option maxRecDepth 100000
open Go.RowKit

/-- Whether a number lies in a range. -/
def inB (l h x : Int) : Bool := decide (l ≤ x ∧ x ≤ h)
theorem inB_yes {l h x : Int} (h1 : l ≤ x) (h2 : x ≤ h) : inB l h x = true := decide_eq_true ⟨h1, h2⟩
theorem inB_no {l h x : Int} (h1 : ¬ (l ≤ x ∧ x ≤ h)) : inB l h x = false := decide_eq_false h1
theorem inB_iff {l h x : Int} : inB l h x = true ↔ l ≤ x ∧ x ≤ h := decide_eq_true_iff
theorem inB_cases (l h x : Int) : (inB l h x = true ∧ l ≤ x ∧ x ≤ h) ∨ (inB l h x = false ∧ ¬ (l ≤ x ∧ x ≤ h)) := by
  by_cases c : l ≤ x ∧ x ≤ h
  · exact .inl ⟨decide_eq_true c, c⟩
  · exact .inr ⟨decide_eq_false c, c⟩
/-- Floor division, and its remainder, for every divisor but 0. -/
def dq (a b : Int) : Int := if 0 < b then a / b else (-a) / (-b)
def dr (a b : Int) : Int := if 0 < b then a % b else -((-a) % (-b))

theorem nat_up (a : Int) (y : Nat) (h : 0 ≤ a) : a / y = ((a.natAbs / y : Nat) : Int) ∧ a % y = ((a.natAbs % y : Nat) : Int) := by
  obtain ⟨x, rfl⟩ := Int.eq_ofNat_of_zero_le h
  simp
theorem nat_down (a : Int) (y : Nat) (hy : 1 ≤ y) (h : a ≤ 0) :
    (a.natAbs % y = 0 → a / y = -((a.natAbs / y : Nat) : Int) ∧ a % y = 0) ∧ (a.natAbs % y ≠ 0 → a / y = -((a.natAbs / y : Nat) : Int) - 1 ∧ a % y = y - ((a.natAbs % y : Nat) : Int)) := by
  obtain ⟨x, hx⟩ := Int.eq_ofNat_of_zero_le (show 0 ≤ -a by omega)
  obtain rfl : a = -(x : Int) := by omega
  have h1 := Nat.div_add_mod x y
  have h2 := Nat.mod_lt x (show 0 < y by omega)
  have h3 := Int.emod_add_mul_ediv (-(x : Int)) y
  have h4 := Int.emod_nonneg (-(x : Int)) (show (y : Int) ≠ 0 by omega)
  have h5 := Int.emod_lt_of_pos (-(x : Int)) (show 0 < (y : Int) by omega)
  simp only [Int.natAbs_neg, Int.natAbs_natCast]
  have h1' : (y : Int) * ((x / y : Nat) : Int) + ((x % y : Nat) : Int) = x := by rw [← Int.natCast_mul]; omega
  generalize x / y = q at *
  generalize x % y = r at *
  generalize -(x : Int) / (y : Int) = q' at *
  generalize -(x : Int) % (y : Int) = r' at *
  have h7 : (y : Int) * (q + q') = - r' - r := by rw [Int.mul_add]; omega
  constructor
  · intro hr
    have : (q : Int) + q' = 0 := by
      rcases Int.lt_trichotomy ((q : Int) + q') 0 with h | h | h
      · have := Int.mul_le_mul_of_nonneg_left (show (q : Int) + q' ≤ -1 by omega) (show 0 ≤ (y : Int) by omega); omega
      · exact h
      · have := Int.mul_le_mul_of_nonneg_left (show 1 ≤ (q : Int) + q' by omega) (show 0 ≤ (y : Int) by omega); omega
    rw [this] at h7; omega
  · intro hr
    have : (q : Int) + q' = -1 := by
      rcases Int.lt_trichotomy ((q : Int) + q') (-1) with h | h | h
      · have := Int.mul_le_mul_of_nonneg_left (show (q : Int) + q' ≤ -2 by omega) (show 0 ≤ (y : Int) by omega); omega
      · exact h
      · have := Int.mul_le_mul_of_nonneg_left (show 0 ≤ (q : Int) + q' by omega) (show 0 ≤ (y : Int) by omega); omega
    rw [this] at h7; omega

theorem bit_in (x k : Nat) (hx : x ≤ 18446744073709551615) : bits .and .u64 ((x : Int) / 2 ^ k) 1 = ((x / 2 ^ k % 2 : Nat) : Int) := by
  have h : ((x : Int) / 2 ^ k) = ((x / 2 ^ k : Nat) : Int) := by simp
  have h2 : x / 2 ^ k ≤ x := Nat.div_le_self _ _
  rw [h, show (1 : Int) = ((1 : Nat) : Int) from rfl, u64_and_nat _ _ (by omega) (by omega), nat_mask1]
theorem or_bit (r c : Nat) (hr : r ≤ 9223372036854775807) (hc : c ≤ 1) : bits .or .u64 ((r : Int) * 2) (c : Int) = ((2 * r + c : Nat) : Int) := by
  rw [show (r : Int) * 2 = ((2 * r : Nat) : Int) by omega, u64_or_nat _ _ (by omega) (by omega), nat_join 1 (2 * r) c (by omega) (by omega)]
theorem or_pow (q k : Nat) (hk : k ≤ 63) (hq : q ≤ 18446744073709551615) (hm : q % 2 ^ (k + 1) = 0) : bits .or .u64 (q : Int) (2 ^ k) = ((q + 2 ^ k : Nat) : Int) := by
  have h1 : 2 ^ k ≤ 2 ^ 63 := Nat.pow_le_pow_right (by omega) hk
  rw [show ((2 : Int) ^ k) = ((2 ^ k : Nat) : Int) by simp, u64_or_nat _ _ (by omega) (by omega), nat_join (k + 1) q (2 ^ k) hm (by rw [Nat.pow_succ]; have := Nat.two_pow_pos k; omega)]

theorem wrap_pow (k : Nat) (hk : k ≤ 63) : IntKind.u64.wrap (2 ^ k) = 2 ^ k := by
  have h1 : 2 ^ k ≤ 2 ^ 63 := Nat.pow_le_pow_right (by omega) hk
  have h2 : ((2 : Int) ^ k) = ((2 ^ k : Nat) : Int) := by simp
  rw [h2]
  generalize 2 ^ k = n at h1
  exact IntWalk.u64_in _ (by omega)
theorem long_step (x y j : Nat) (hy : 1 ≤ y) :
    (2 * (x / 2 ^ (j + 1) % y) + x / 2 ^ j % 2 < y → x / 2 ^ j / y = 2 * (x / 2 ^ (j + 1) / y) ∧ x / 2 ^ j % y = 2 * (x / 2 ^ (j + 1) % y) + x / 2 ^ j % 2) ∧
    (y ≤ 2 * (x / 2 ^ (j + 1) % y) + x / 2 ^ j % 2 → x / 2 ^ j / y = 2 * (x / 2 ^ (j + 1) / y) + 1 ∧ x / 2 ^ j % y = 2 * (x / 2 ^ (j + 1) % y) + x / 2 ^ j % 2 - y) := by
  have h0 : x / 2 ^ (j + 1) = x / 2 ^ j / 2 := by rw [Nat.pow_succ, Nat.div_div_eq_div_mul]
  rw [h0]
  generalize x / 2 ^ j = X
  have h1 := Nat.div_add_mod (X / 2) y
  have h2 := Nat.mod_lt (X / 2) (show 0 < y by omega)
  generalize X / 2 / y = q at *
  generalize X / 2 % y = r at *
  constructor
  · intro h
    have : X = y * (2 * q) + (2 * r + X % 2) := by
      have : y * (2 * q) = 2 * (y * q) := by rw [Nat.mul_left_comm]
      omega
    constructor
    · rw [this, Nat.mul_add_div (by omega), Nat.div_eq_of_lt (by omega)]; omega
    · rw [this, Nat.mul_add_mod, Nat.mod_eq_of_lt (by omega)]; omega
  · intro h
    have : X = y * (2 * q + 1) + (2 * r + X % 2 - y) := by
      have : y * (2 * q + 1) = 2 * (y * q) + y := by rw [Nat.mul_add, Nat.mul_left_comm, Nat.mul_one]
      omega
    constructor
    · rw [this, Nat.mul_add_div (by omega), Nat.div_eq_of_lt (by omega)]
    · rw [this, Nat.mul_add_mod, Nat.mod_eq_of_lt (by omega)]; omega

theorem neg_back (q : Int) (h0 : 0 ≤ q) (h : q ≤ 9223372036854775808) : wrap64 (IntKind.u64.wrap (-q)) = -q := by
  rw [IntKind.wrap_u64]; unfold wrap64; omega
/-- What the two functions Div return. -/
def divOut (a b : Int) : Value := if b = 0 then .tuple #[.int .i64 0, .int .i64 0, .int .i64 1] else if a = -9223372036854775808 ∧ b = -1 then .tuple #[.int .i64 0, .int .i64 0, .int .i64 14] else .tuple #[.int .i64 (dq a b), .int .i64 (dr a b), .int .i64 0]
theorem divOut_pos (a b : Int) (h : 1 ≤ b) : divOut a b = .tuple #[.int .i64 (a / b), .int .i64 (a % b), .int .i64 0] := by
  rw [divOut, if_neg (by omega), if_neg (by omega), dq, dr, if_pos (by omega), if_pos (by omega)]
theorem divOut_over (a b : Int) (x y : Nat) (hx : x = a.natAbs) (hy : y = b.natAbs) (h1 : -9223372036854775808 ≤ a) (h2 : a ≤ 9223372036854775807) (hb : b ≠ 0) (hs : a < 0 ↔ b < 0) (hq : 9223372036854775807 < x / y) : divOut a b = .tuple #[.int .i64 0, .int .i64 0, .int .i64 14] := by
  have h3 := Nat.div_le_self x y
  have h4 : x = 9223372036854775808 := by omega
  have h5 : y = 1 := by
    rcases Nat.lt_or_ge y 2 with h | h
    · omega
    · have := Nat.div_le_div_left (a := x) h (by omega); omega
  rw [divOut, if_neg hb, if_pos (by omega)]
theorem divOut_up (a b : Int) (x y : Nat) (hx : x = a.natAbs) (hy : y = b.natAbs) (hb : b ≠ 0) (hs : a < 0 ↔ b < 0) (hq : x / y ≤ 9223372036854775807) : divOut a b = .tuple #[.int .i64 ((x / y : Nat) : Int), .int .i64 (if b < 0 then -((x % y : Nat) : Int) else ((x % y : Nat) : Int)), .int .i64 0] := by
  rw [divOut, if_neg hb, if_neg (by rintro ⟨rfl, rfl⟩; subst hx hy; simp at hq)]
  subst hx hy
  by_cases h : b < 0
  · have e := nat_up (-a) b.natAbs (by omega)
    rw [show ((b.natAbs : Nat) : Int) = -b by omega, Int.natAbs_neg] at e
    rw [dq, dr, if_neg (by omega), if_neg (by omega), if_pos h, e.1, e.2]
  · have e := nat_up a b.natAbs (by omega)
    rw [show ((b.natAbs : Nat) : Int) = b by omega] at e
    rw [dq, dr, if_pos (by omega), if_pos (by omega), if_neg h, e.1, e.2]
theorem divOut_down (a b : Int) (x y : Nat) (hx : x = a.natAbs) (hy : y = b.natAbs) (hb : b ≠ 0) (hs : a < 0 ↔ ¬ b < 0) :
    (x % y = 0 → divOut a b = .tuple #[.int .i64 (-((x / y : Nat) : Int)), .int .i64 0, .int .i64 0]) ∧
    (x % y ≠ 0 → divOut a b = .tuple #[.int .i64 (-((x / y : Nat) : Int) - 1), .int .i64 (if b < 0 then -((y : Int) - ((x % y : Nat) : Int)) else (y : Int) - ((x % y : Nat) : Int)), .int .i64 0]) := by
  rw [divOut, if_neg hb, if_neg (by omega)]
  subst hx hy
  by_cases h : b < 0
  · have e := nat_down (-a) b.natAbs (by omega) (by omega)
    rw [show ((b.natAbs : Nat) : Int) = -b by omega, Int.natAbs_neg] at e
    rw [dq, dr, if_neg (by omega), if_neg (by omega), if_pos h, show ((b.natAbs : Nat) : Int) = -b by omega]
    exact ⟨fun h => by rw [(e.1 h).1, (e.1 h).2]; simp, fun h => by rw [(e.2 h).1, (e.2 h).2]⟩
  · have e := nat_down a b.natAbs (by omega) (by omega)
    rw [show ((b.natAbs : Nat) : Int) = b by omega] at e
    rw [dq, dr, if_pos (by omega), if_pos (by omega), if_neg h, show ((b.natAbs : Nat) : Int) = b by omega]
    exact ⟨fun h => by rw [(e.1 h).1, (e.1 h).2], fun h => by rw [(e.2 h).1, (e.2 h).2]⟩
theorem div_plus_le (x y : Nat) (hx : x ≤ 9223372036854775808) (h : x % y ≠ 0) : x / y + 1 ≤ 9223372036854775808 := by
  have h1 := Nat.div_add_mod x y
  rcases Nat.lt_or_ge y 1 with h0 | h0
  · obtain rfl : y = 0 := by omega
    simp
  · have := Nat.mul_le_mul_right (x / y) h0
    omega

theorem and_one (m : Nat) (h : m ≤ 18446744073709551615) : bits .and .u64 (m : Int) 1 = ((m % 2 : Nat) : Int) := by
  rw [show (1 : Int) = ((1 : Nat) : Int) from rfl, u64_and_nat _ _ (by omega) (by omega), nat_mask1]
theorem gcd_half (x y : Nat) (hx : x % 2 = 0) (hy : y % 2 = 1) : Nat.gcd (x / 2) y = Nat.gcd x y := by
  obtain ⟨k, rfl⟩ : ∃ k, x = 2 * k := ⟨x / 2, by omega⟩
  rw [Nat.mul_div_cancel_left _ (by omega)]
  have h : Nat.Coprime 2 y := by
    unfold Nat.Coprime
    rw [Nat.gcd_rec, hy, Nat.gcd_one_left]
  exact (Nat.Coprime.gcd_mul_left_cancel k h).symm
theorem gcd_halves (x y : Nat) (hx : x % 2 = 0) (hy : y % 2 = 0) : 2 * Nat.gcd (x / 2) (y / 2) = Nat.gcd x y := by
  obtain ⟨k, rfl⟩ : ∃ k, x = 2 * k := ⟨x / 2, by omega⟩
  obtain ⟨l, rfl⟩ : ∃ k, y = 2 * k := ⟨y / 2, by omega⟩
  rw [Nat.mul_div_cancel_left _ (by omega), Nat.mul_div_cancel_left _ (by omega), Nat.gcd_mul_left]
theorem gcd_less (x y : Nat) (h : y ≤ x) : Nat.gcd (x - y) y = Nat.gcd x y := by
  obtain ⟨k, rfl⟩ : ∃ k, x = k + y := ⟨x - y, by omega⟩
  rw [Nat.add_sub_cancel, Nat.gcd_add_self_left]

end Go.Proofs.YtdmkghgachapaaaGreatDoor

/- Contracts of package line, first part, and of the reference's days. -/
namespace Go.Proofs.YtdmkghgachapaaaGreatDoor
set_option linter.unusedVariables false
set_option maxRecDepth 100000
open Go.RowKit

theorem line_Is (x : Int) (w : World) :
    Calls Tryz.prog 30 #[.int .i64 x] w fun e w' => e = .returned (.bool (inB (-4000000) 4000000 x)) ∧ w = w' := by
  by_cases h1 : -4000000 ≤ x
  · by_cases h2 : x ≤ 4000000
    · go_enter Tryz.func30, Tryz.ntmps30
      go_wp2
      go_ret
      exact ⟨ret_bool (inB_yes h1 h2).symm, rfl⟩
    · go_enter Tryz.func30, Tryz.ntmps30
      go_wp2
      go_ret
      exact ⟨ret_bool (inB_no (by omega)).symm, rfl⟩
  · go_enter Tryz.func30, Tryz.ntmps30
    go_wp2
    go_ret
    exact ⟨ret_bool (inB_no (by omega)).symm, rfl⟩
/-- The error of a day. -/
def chk (x : Int) : Int := if -4000000 ≤ x ∧ x ≤ 4000000 then 0 else 3
theorem chk_yes {x : Int} (h1 : -4000000 ≤ x) (h2 : x ≤ 4000000) : chk x = 0 := if_pos ⟨h1, h2⟩
theorem chk_no {x : Int} (h : ¬ (-4000000 ≤ x ∧ x ≤ 4000000)) : chk x = 3 := if_neg h
theorem line_Check (x : Int) (w : World) :
    Calls Tryz.prog 56 #[.int .i64 x] w fun e w' => e = .returned (.int .i64 (chk x)) ∧ w = w' := by
  rcases inB_cases (-4000000) 4000000 x with ⟨hb, h1, h2⟩ | ⟨hb, h⟩
  · go_enter Tryz.func56, Tryz.ntmps56
    go_wp2_with (go_at_call 30; refine (line_Is _ _).mono ?_; rintro e w' ⟨rfl, rfl⟩)
    go_ret
    exact ⟨ret_int (chk_yes h1 h2).symm, rfl⟩
  · go_enter Tryz.func56, Tryz.ntmps56
    go_wp2_with (go_at_call 30; refine (line_Is _ _).mono ?_; rintro e w' ⟨rfl, rfl⟩)
    go_ret
    exact ⟨ret_int (chk_no h).symm, rfl⟩
end Go.Proofs.YtdmkghgachapaaaGreatDoor
