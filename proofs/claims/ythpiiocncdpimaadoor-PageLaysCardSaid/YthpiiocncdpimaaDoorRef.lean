/- Contracts of the reference's numbers. -/
import Derived.Test.YthpiiocncdpimaaDoorBase
namespace Go.Proofs.YthpiiocncdpimaaDoor
set_option linter.unusedVariables false
set_option maxRecDepth 100000
open Go.RowKit

/-- Whether a number lies in a range. -/
def inB (l h x : Int) : Bool := decide (l ≤ x ∧ x ≤ h)
theorem inB_yes {l h x : Int} (h1 : l ≤ x) (h2 : x ≤ h) : inB l h x = true := decide_eq_true ⟨h1, h2⟩
theorem inB_no {l h x : Int} (h1 : ¬ (l ≤ x ∧ x ≤ h)) : inB l h x = false := decide_eq_false h1
theorem inB_iff {l h x : Int} : inB l h x = true ↔ l ≤ x ∧ x ≤ h := decide_eq_true_iff
theorem inB_cases (l h x : Int) : (inB l h x = true ∧ l ≤ x ∧ x ≤ h) ∨ (inB l h x = false ∧ ¬ (l ≤ x ∧ x ≤ h)) := by
  by_cases c : l ≤ x ∧ x ≤ h
  · exact .inl ⟨decide_eq_true c, c⟩
  · exact .inr ⟨decide_eq_false c, c⟩
theorem ref_In (x l h : Int) (w : World) :
    Calls Tryd.prog 10 #[.int .i64 x, .int .i64 l, .int .i64 h] w fun e w' => e = .returned (.bool (inB l h x)) ∧ w = w' := by
  by_cases h1 : l ≤ x
  · by_cases h2 : x ≤ h
    · go_enter Tryd.func10, Tryd.ntmps10
      go_wp2
      go_ret
      exact ⟨ret_bool (inB_yes h1 h2).symm, rfl⟩
    · go_enter Tryd.func10, Tryd.ntmps10
      go_wp2
      go_ret
      exact ⟨ret_bool (inB_no (by omega)).symm, rfl⟩
  · go_enter Tryd.func10, Tryd.ntmps10
    go_wp2
    go_ret
    exact ⟨ret_bool (inB_no (by omega)).symm, rfl⟩
theorem ref_Size (a : Int) (w : World) (h1 : -9223372036854775808 ≤ a) (h2 : a ≤ 9223372036854775807) :
    Calls Tryd.prog 68 #[.int .i64 a] w fun e w' => e = .returned (.int .u64 (a.natAbs : Int)) ∧ w = w' := by
  by_cases h : a < 0
  · go_enter Tryd.func68, Tryd.ntmps68
    go_wp2
    go_ret
    exact ⟨ret_int (by omega), rfl⟩
  · go_enter Tryd.func68, Tryd.ntmps68
    go_wp2
    go_ret
    exact ⟨ret_int (by omega), rfl⟩

/-- Floor division, and its remainder, for every divisor but 0. -/
def dq (a b : Int) : Int := if 0 < b then a / b else (-a) / (-b)
def dr (a b : Int) : Int := if 0 < b then a % b else -((-a) % (-b))

theorem nat_up (a : Int) (y : Nat) (h : 0 ≤ a) : a / y = ((a.natAbs / y : Nat) : Int) ∧ a % y = ((a.natAbs % y : Nat) : Int) := by
  obtain ⟨x, rfl⟩ := Int.eq_ofNat_of_zero_le h
  simp
theorem nat_down (a : Int) (y : Nat) (hy : 1 ≤ y) (h : a ≤ 0) :
    (a.natAbs % y = 0 → a / y = -((a.natAbs / y : Nat) : Int) ∧ a % y = 0) ∧ (a.natAbs % y ≠ 0 → a / y = -((a.natAbs / y : Nat) : Int) - 1 ∧ a % y = y - ((a.natAbs % y : Nat) : Int)) := by
  obtain ⟨x, hx⟩ := Int.eq_ofNat_of_zero_le (show 0 ≤ -a by omega)
  obtain rfl : a = -(x : Int) := by omega
  have h1 := Nat.div_add_mod x y
  have h2 := Nat.mod_lt x (show 0 < y by omega)
  have h3 := Int.emod_add_mul_ediv (-(x : Int)) y
  have h4 := Int.emod_nonneg (-(x : Int)) (show (y : Int) ≠ 0 by omega)
  have h5 := Int.emod_lt_of_pos (-(x : Int)) (show 0 < (y : Int) by omega)
  simp only [Int.natAbs_neg, Int.natAbs_natCast]
  have h1' : (y : Int) * ((x / y : Nat) : Int) + ((x % y : Nat) : Int) = x := by rw [← Int.natCast_mul]; omega
  generalize x / y = q at *
  generalize x % y = r at *
  generalize -(x : Int) / (y : Int) = q' at *
  generalize -(x : Int) % (y : Int) = r' at *
  have h7 : (y : Int) * (q + q') = - r' - r := by rw [Int.mul_add]; omega
  constructor
  · intro hr
    have : (q : Int) + q' = 0 := by
      rcases Int.lt_trichotomy ((q : Int) + q') 0 with h | h | h
      · have := Int.mul_le_mul_of_nonneg_left (show (q : Int) + q' ≤ -1 by omega) (show 0 ≤ (y : Int) by omega); omega
      · exact h
      · have := Int.mul_le_mul_of_nonneg_left (show 1 ≤ (q : Int) + q' by omega) (show 0 ≤ (y : Int) by omega); omega
    rw [this] at h7; omega
  · intro hr
    have : (q : Int) + q' = -1 := by
      rcases Int.lt_trichotomy ((q : Int) + q') (-1) with h | h | h
      · have := Int.mul_le_mul_of_nonneg_left (show (q : Int) + q' ≤ -2 by omega) (show 0 ≤ (y : Int) by omega); omega
      · exact h
      · have := Int.mul_le_mul_of_nonneg_left (show 0 ≤ (q : Int) + q' by omega) (show 0 ≤ (y : Int) by omega); omega
    rw [this] at h7; omega

theorem bit_in (x k : Nat) (hx : x ≤ 18446744073709551615) : bits .and .u64 ((x : Int) / 2 ^ k) 1 = ((x / 2 ^ k % 2 : Nat) : Int) := by
  have h : ((x : Int) / 2 ^ k) = ((x / 2 ^ k : Nat) : Int) := by simp
  have h2 : x / 2 ^ k ≤ x := Nat.div_le_self _ _
  rw [h, show (1 : Int) = ((1 : Nat) : Int) from rfl, u64_and_nat _ _ (by omega) (by omega), nat_mask1]
theorem or_bit (r c : Nat) (hr : r ≤ 9223372036854775807) (hc : c ≤ 1) : bits .or .u64 ((r : Int) * 2) (c : Int) = ((2 * r + c : Nat) : Int) := by
  rw [show (r : Int) * 2 = ((2 * r : Nat) : Int) by omega, u64_or_nat _ _ (by omega) (by omega), nat_join 1 (2 * r) c (by omega) (by omega)]
theorem or_pow (q k : Nat) (hk : k ≤ 63) (hq : q ≤ 18446744073709551615) (hm : q % 2 ^ (k + 1) = 0) : bits .or .u64 (q : Int) (2 ^ k) = ((q + 2 ^ k : Nat) : Int) := by
  have h1 : 2 ^ k ≤ 2 ^ 63 := Nat.pow_le_pow_right (by omega) hk
  rw [show ((2 : Int) ^ k) = ((2 ^ k : Nat) : Int) by simp, u64_or_nat _ _ (by omega) (by omega), nat_join (k + 1) q (2 ^ k) hm (by rw [Nat.pow_succ]; have := Nat.two_pow_pos k; omega)]

theorem wrap_pow (k : Nat) (hk : k ≤ 63) : IntKind.u64.wrap (2 ^ k) = 2 ^ k := by
  have h1 : 2 ^ k ≤ 2 ^ 63 := Nat.pow_le_pow_right (by omega) hk
  have h2 : ((2 : Int) ^ k) = ((2 ^ k : Nat) : Int) := by simp
  rw [h2]
  generalize 2 ^ k = n at h1
  exact IntWalk.u64_in _ (by omega)
theorem long_step (x y j : Nat) (hy : 1 ≤ y) :
    (2 * (x / 2 ^ (j + 1) % y) + x / 2 ^ j % 2 < y → x / 2 ^ j / y = 2 * (x / 2 ^ (j + 1) / y) ∧ x / 2 ^ j % y = 2 * (x / 2 ^ (j + 1) % y) + x / 2 ^ j % 2) ∧
    (y ≤ 2 * (x / 2 ^ (j + 1) % y) + x / 2 ^ j % 2 → x / 2 ^ j / y = 2 * (x / 2 ^ (j + 1) / y) + 1 ∧ x / 2 ^ j % y = 2 * (x / 2 ^ (j + 1) % y) + x / 2 ^ j % 2 - y) := by
  have h0 : x / 2 ^ (j + 1) = x / 2 ^ j / 2 := by rw [Nat.pow_succ, Nat.div_div_eq_div_mul]
  rw [h0]
  generalize x / 2 ^ j = X
  have h1 := Nat.div_add_mod (X / 2) y
  have h2 := Nat.mod_lt (X / 2) (show 0 < y by omega)
  generalize X / 2 / y = q at *
  generalize X / 2 % y = r at *
  constructor
  · intro h
    have : X = y * (2 * q) + (2 * r + X % 2) := by
      have : y * (2 * q) = 2 * (y * q) := by rw [Nat.mul_left_comm]
      omega
    constructor
    · rw [this, Nat.mul_add_div (by omega), Nat.div_eq_of_lt (by omega)]; omega
    · rw [this, Nat.mul_add_mod, Nat.mod_eq_of_lt (by omega)]; omega
  · intro h
    have : X = y * (2 * q + 1) + (2 * r + X % 2 - y) := by
      have : y * (2 * q + 1) = 2 * (y * q) + y := by rw [Nat.mul_add, Nat.mul_left_comm, Nat.mul_one]
      omega
    constructor
    · rw [this, Nat.mul_add_div (by omega), Nat.div_eq_of_lt (by omega)]
    · rw [this, Nat.mul_add_mod, Nat.mod_eq_of_lt (by omega)]; omega

theorem neg_back (q : Int) (h0 : 0 ≤ q) (h : q ≤ 9223372036854775808) : wrap64 (IntKind.u64.wrap (-q)) = -q := by
  rw [IntKind.wrap_u64]; unfold wrap64; omega
/-- What the two functions Div return. -/
def divOut (a b : Int) : Value := if b = 0 then .tuple #[.int .i64 0, .int .i64 0, .int .i64 1] else if a = -9223372036854775808 ∧ b = -1 then .tuple #[.int .i64 0, .int .i64 0, .int .i64 14] else .tuple #[.int .i64 (dq a b), .int .i64 (dr a b), .int .i64 0]
theorem divOut_pos (a b : Int) (h : 1 ≤ b) : divOut a b = .tuple #[.int .i64 (a / b), .int .i64 (a % b), .int .i64 0] := by
  rw [divOut, if_neg (by omega), if_neg (by omega), dq, dr, if_pos (by omega), if_pos (by omega)]
theorem divOut_over (a b : Int) (x y : Nat) (hx : x = a.natAbs) (hy : y = b.natAbs) (h1 : -9223372036854775808 ≤ a) (h2 : a ≤ 9223372036854775807) (hb : b ≠ 0) (hs : a < 0 ↔ b < 0) (hq : 9223372036854775807 < x / y) : divOut a b = .tuple #[.int .i64 0, .int .i64 0, .int .i64 14] := by
  have h3 := Nat.div_le_self x y
  have h4 : x = 9223372036854775808 := by omega
  have h5 : y = 1 := by
    rcases Nat.lt_or_ge y 2 with h | h
    · omega
    · have := Nat.div_le_div_left (a := x) h (by omega); omega
  rw [divOut, if_neg hb, if_pos (by omega)]
theorem divOut_up (a b : Int) (x y : Nat) (hx : x = a.natAbs) (hy : y = b.natAbs) (hb : b ≠ 0) (hs : a < 0 ↔ b < 0) (hq : x / y ≤ 9223372036854775807) : divOut a b = .tuple #[.int .i64 ((x / y : Nat) : Int), .int .i64 (if b < 0 then -((x % y : Nat) : Int) else ((x % y : Nat) : Int)), .int .i64 0] := by
  rw [divOut, if_neg hb, if_neg (by rintro ⟨rfl, rfl⟩; subst hx hy; simp at hq)]
  subst hx hy
  by_cases h : b < 0
  · have e := nat_up (-a) b.natAbs (by omega)
    rw [show ((b.natAbs : Nat) : Int) = -b by omega, Int.natAbs_neg] at e
    rw [dq, dr, if_neg (by omega), if_neg (by omega), if_pos h, e.1, e.2]
  · have e := nat_up a b.natAbs (by omega)
    rw [show ((b.natAbs : Nat) : Int) = b by omega] at e
    rw [dq, dr, if_pos (by omega), if_pos (by omega), if_neg h, e.1, e.2]
theorem divOut_down (a b : Int) (x y : Nat) (hx : x = a.natAbs) (hy : y = b.natAbs) (hb : b ≠ 0) (hs : a < 0 ↔ ¬ b < 0) :
    (x % y = 0 → divOut a b = .tuple #[.int .i64 (-((x / y : Nat) : Int)), .int .i64 0, .int .i64 0]) ∧
    (x % y ≠ 0 → divOut a b = .tuple #[.int .i64 (-((x / y : Nat) : Int) - 1), .int .i64 (if b < 0 then -((y : Int) - ((x % y : Nat) : Int)) else (y : Int) - ((x % y : Nat) : Int)), .int .i64 0]) := by
  rw [divOut, if_neg hb, if_neg (by omega)]
  subst hx hy
  by_cases h : b < 0
  · have e := nat_down (-a) b.natAbs (by omega) (by omega)
    rw [show ((b.natAbs : Nat) : Int) = -b by omega, Int.natAbs_neg] at e
    rw [dq, dr, if_neg (by omega), if_neg (by omega), if_pos h, show ((b.natAbs : Nat) : Int) = -b by omega]
    exact ⟨fun h => by rw [(e.1 h).1, (e.1 h).2]; simp, fun h => by rw [(e.2 h).1, (e.2 h).2]⟩
  · have e := nat_down a b.natAbs (by omega) (by omega)
    rw [show ((b.natAbs : Nat) : Int) = b by omega] at e
    rw [dq, dr, if_pos (by omega), if_pos (by omega), if_neg h, show ((b.natAbs : Nat) : Int) = b by omega]
    exact ⟨fun h => by rw [(e.1 h).1, (e.1 h).2], fun h => by rw [(e.2 h).1, (e.2 h).2]⟩
theorem div_plus_le (x y : Nat) (hx : x ≤ 9223372036854775808) (h : x % y ≠ 0) : x / y + 1 ≤ 9223372036854775808 := by
  have h1 := Nat.div_add_mod x y
  rcases Nat.lt_or_ge y 1 with h0 | h0
  · obtain rfl : y = 0 := by omega
    simp
  · have := Nat.mul_le_mul_right (x / y) h0
    omega

set_option maxHeartbeats 1000000 in
theorem ref_Div (a b : Int) (w : World) (h1 : -9223372036854775808 ≤ a) (h2 : a ≤ 9223372036854775807) (h3 : -9223372036854775808 ≤ b) (h4 : b ≤ 9223372036854775807) :
    Calls Tryd.prog 44 #[.int .i64 a, .int .i64 b] w fun e w' => e = .returned (divOut a b) ∧ w = w' := by
  by_cases hb' : b = 0
  · subst hb'
    go_enter Tryd.func44, Tryd.ntmps44
    go_wp2_with fail
    go_ret3
    exact ⟨ret_of (by rw [divOut, if_pos rfl]; rfl), rfl⟩
  have hb : (b == 0) = false := by simpa using hb'
  go_enter Tryd.func44, Tryd.ntmps44
  go_wp2_with fail
  refine (ref_Size _ _ h1 h2).mono ?_; rintro e w' ⟨rfl, rfl⟩
  go_wp2_with fail
  refine (ref_Size _ _ h3 h4).mono ?_; rintro e w' ⟨rfl, rfl⟩
  go_wp2_with fail
  obtain ⟨x, hx⟩ : ∃ x, x = a.natAbs := ⟨_, rfl⟩
  obtain ⟨y, hy⟩ : ∃ y, y = b.natAbs := ⟨_, rfl⟩
  have hx1 : x ≤ 9223372036854775808 := by omega
  have hy1 : 1 ≤ y := by omega
  have hy2 : y ≤ 9223372036854775808 := by omega
  rw [← hx, ← hy]
  have HX := Lib.hid hx; have HY := Lib.hid hy; clear hx hy
  go_loop [9, 10, 11, 12] (fun q r k c => ∃ (j : Nat), j ≤ 64 ∧ q = .int .u64 ((x / 2 ^ j / y * 2 ^ j : Nat) : Int) ∧ r = .int .u64 ((x / 2 ^ j % y : Nat) : Int) ∧ k = .int .i64 ((j : Int) - 1)) (fun _ _ k _ => (intOf k + 1).toNat)
  case atStart =>
    have e : x / 2 ^ 64 = 0 := Nat.div_eq_of_lt (by omega)
    exact ⟨64, by omega, by rw [e]; simp, by rw [e]; simp, rfl⟩
  case round =>
    obtain ⟨j, hj, rfl, rfl, rfl⟩ := hrel
    by_cases hz : j = 0
    · subst hz
      have hov := Lib.hid (divOut_over a b x y HX.out HY.out h1 h2 hb')
      have hup := Lib.hid (divOut_up a b x y HX.out HY.out hb')
      have hdn := Lib.hid (divOut_down a b x y HX.out HY.out hb')
      have hpl := Lib.hid (div_plus_le x y hx1)
      have hq : x / y ≤ 9223372036854775808 := Nat.le_trans (Nat.div_le_self x y) hx1
      have hr : x % y < y := Nat.mod_lt x (by omega)
      have eq0 : ((x / 2 ^ 0 / y * 2 ^ 0 : Nat) : Int) = ((x / y : Nat) : Int) := by simp
      have er0 : ((x / 2 ^ 0 % y : Nat) : Int) = ((x % y : Nat) : Int) := by simp
      rw [eq0, er0]
      clear eq0 er0 hj HX HY
      generalize x / y = q at *
      generalize x % y = r at *
      have nb := neg_back (q : Int) (by omega) (by omega)
      by_cases ha : a < 0 <;> by_cases hbn : b < 0
      · have nr := neg_back (r : Int) (by omega) (by omega)
        by_cases hqq : q ≤ 9223372036854775807
        · go_wp2_with fail
          go_ret3
          exact ⟨by rw [hup.out (by omega) hqq, if_pos hbn]; exact ret_ints3 rfl rfl rfl, rfl⟩
        · go_wp2_with fail
          go_ret3
          exact ⟨ret_of (by rw [hov.out (by omega) (by omega)]; rfl), rfl⟩
      · by_cases hrz : r = 0
        · have hr0 : ((r : Int) != 0) = false := by simp [hrz]
          have HR := Lib.hid hrz; clear hrz
          go_wp2_with fail
          go_ret3
          exact ⟨by rw [(hdn.out (by omega)).1 HR.out]; exact ret_ints3 rfl (by have := HR.out; omega) rfl, rfl⟩
        · have hr0 : ((r : Int) != 0) = true := by simp [hrz]
          have hq1 := hpl.out hrz
          have hr1 : 1 ≤ r := by omega
          have HR := Lib.hid hrz; clear hrz
          have nb1 := neg_back ((q : Int) + 1) (by omega) (by omega)
          go_wp2_with fail
          go_ret3
          exact ⟨by rw [(hdn.out (by omega)).2 HR.out, if_neg (by omega)]; exact ret_ints3 (by omega) (by omega) rfl, rfl⟩
      · by_cases hrz : r = 0
        · have hr0 : ((r : Int) != 0) = false := by simp [hrz]
          have nr := neg_back (r : Int) (by omega) (by omega)
          have HR := Lib.hid hrz; clear hrz
          go_wp2_with fail
          go_ret3
          exact ⟨by rw [(hdn.out (by omega)).1 HR.out]; exact ret_ints3 rfl (by have := HR.out; omega) rfl, rfl⟩
        · have hr0 : ((r : Int) != 0) = true := by simp [hrz]
          have hq1 := hpl.out hrz
          have hr1 : 1 ≤ r := by omega
          have HR := Lib.hid hrz; clear hrz
          have nb1 := neg_back ((q : Int) + 1) (by omega) (by omega)
          have nr := neg_back ((y : Int) - r) (by omega) (by omega)
          go_wp2_with fail
          go_ret3
          exact ⟨by rw [(hdn.out (by omega)).2 HR.out, if_pos (by omega)]; exact ret_ints3 (by omega) (by omega) rfl, rfl⟩
      · by_cases hqq : q ≤ 9223372036854775807
        · go_wp2_with fail
          go_ret3
          exact ⟨by rw [hup.out (by omega) hqq, if_neg (by omega)]; exact ret_ints3 rfl rfl rfl, rfl⟩
        · go_wp2_with fail
          go_ret3
          exact ⟨ret_of (by rw [hov.out (by omega) (by omega)]; rfl), rfl⟩
    · obtain ⟨i, rfl⟩ : ∃ i, j = i + 1 := ⟨j - 1, by omega⟩
      have hst := Lib.hid (long_step x y i hy1)
      have hr := Nat.mod_lt (x / 2 ^ (i + 1)) (show 0 < y by omega)
      have hq : x / 2 ^ (i + 1) / y * 2 ^ (i + 1) ≤ 9223372036854775808 := by
        have e1 := Nat.div_mul_le_self x (2 ^ (i + 1))
        have e2 := Nat.mul_le_mul_right (2 ^ (i + 1)) (Nat.div_le_self (x / 2 ^ (i + 1)) y)
        omega
      have hc : x / 2 ^ i % 2 ≤ 1 := by omega
      have hca : (((x / 2 ^ (i + 1) % y : Nat) : Int) / 9223372036854775808 == 1) = false := by
        generalize x / 2 ^ (i + 1) % y = r at *
        simp; omega
      have b1 := bit_in x i (by omega)
      have b2 := or_bit (x / 2 ^ (i + 1) % y) (x / 2 ^ i % 2) (by omega) hc
      have b4 := wrap_pow i (by omega)
      have b3 := or_pow (x / 2 ^ (i + 1) / y * 2 ^ (i + 1)) i (by omega) (by omega) (Nat.mul_mod_left _ _)
      generalize x / 2 ^ (i + 1) % y = r at *
      generalize x / 2 ^ i % 2 = c at *
      generalize hqd : x / 2 ^ (i + 1) / y * 2 ^ (i + 1) = q at *
      have HQ := Lib.hid hqd; clear hqd
      by_cases hlt : 2 * r + c < y
      · go_wp2_with fail
        go_round
        case rel =>
          obtain ⟨e1, e2⟩ := hst.out.1 hlt
          refine ⟨i, by omega, ?_, ?_, rfl⟩
          · rw [e1, ← HQ.out, Nat.pow_succ, Nat.mul_comm 2, Nat.mul_assoc, Nat.mul_comm 2]
          · rw [e2]; rfl
        case measure => simp [intOf]
      · go_wp2_with fail
        go_round
        case rel =>
          obtain ⟨e1, e2⟩ := hst.out.2 (by omega)
          refine ⟨i, by omega, ?_, ?_, rfl⟩
          · refine congrArg _ ?_
            rw [e1, ← HQ.out, Nat.pow_succ, Nat.add_mul, Nat.mul_comm 2 (x / _ / y), Nat.mul_assoc, Nat.mul_comm 2]; simp
          · refine congrArg _ ?_
            rw [e2]; omega
        case measure => simp [intOf]

theorem ref_Floor (a b : Int) (w : World) (h1 : -9223372036854775808 ≤ a) (h2 : a ≤ 9223372036854775807) (h3 : 1 ≤ b) (h4 : b ≤ 9223372036854775807) :
    Calls Tryd.prog 52 #[.int .i64 a, .int .i64 b] w fun e w' => e = .returned (.int .i64 (a / b)) ∧ w = w' := by
  go_enter Tryd.func52, Tryd.ntmps52
  go_wp2_with (go_at_call 44; refine (ref_Div _ _ _ h1 h2 (by omega) h4).mono ?_; rw [divOut_pos _ _ h3]; rintro e w' ⟨rfl, rfl⟩)
  go_ret
  exact ⟨rfl, rfl⟩
theorem ref_Mod (a b : Int) (w : World) (h1 : -9223372036854775808 ≤ a) (h2 : a ≤ 9223372036854775807) (h3 : 1 ≤ b) (h4 : b ≤ 9223372036854775807) :
    Calls Tryd.prog 14 #[.int .i64 a, .int .i64 b] w fun e w' => e = .returned (.int .i64 (a % b)) ∧ w = w' := by
  go_enter Tryd.func14, Tryd.ntmps14
  go_wp2_with (go_at_call 44; refine (ref_Div _ _ _ h1 h2 (by omega) h4).mono ?_; rw [divOut_pos _ _ h3]; rintro e w' ⟨rfl, rfl⟩)
  go_ret
  exact ⟨rfl, rfl⟩

theorem and_one (m : Nat) (h : m ≤ 18446744073709551615) : bits .and .u64 (m : Int) 1 = ((m % 2 : Nat) : Int) := by
  rw [show (1 : Int) = ((1 : Nat) : Int) from rfl, u64_and_nat _ _ (by omega) (by omega), nat_mask1]
theorem gcd_half (x y : Nat) (hx : x % 2 = 0) (hy : y % 2 = 1) : Nat.gcd (x / 2) y = Nat.gcd x y := by
  obtain ⟨k, rfl⟩ : ∃ k, x = 2 * k := ⟨x / 2, by omega⟩
  rw [Nat.mul_div_cancel_left _ (by omega)]
  have h : Nat.Coprime 2 y := by
    unfold Nat.Coprime
    rw [Nat.gcd_rec, hy, Nat.gcd_one_left]
  exact (Nat.Coprime.gcd_mul_left_cancel k h).symm
theorem gcd_halves (x y : Nat) (hx : x % 2 = 0) (hy : y % 2 = 0) : 2 * Nat.gcd (x / 2) (y / 2) = Nat.gcd x y := by
  obtain ⟨k, rfl⟩ : ∃ k, x = 2 * k := ⟨x / 2, by omega⟩
  obtain ⟨l, rfl⟩ : ∃ k, y = 2 * k := ⟨y / 2, by omega⟩
  rw [Nat.mul_div_cancel_left _ (by omega), Nat.mul_div_cancel_left _ (by omega), Nat.gcd_mul_left]
theorem gcd_less (x y : Nat) (h : y ≤ x) : Nat.gcd (x - y) y = Nat.gcd x y := by
  obtain ⟨k, rfl⟩ : ∃ k, x = k + y := ⟨x - y, by omega⟩
  rw [Nat.add_sub_cancel, Nat.gcd_add_self_left]

end Go.Proofs.YthpiiocncdpimaaDoor
