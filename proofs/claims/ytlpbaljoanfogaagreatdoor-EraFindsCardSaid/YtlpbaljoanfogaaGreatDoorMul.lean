import Derived.Test.YtlpbaljoanfogaaGreatDoorMgW
set_option linter.unusedSimpArgs false
namespace Go.Proofs.YtlpbaljoanfogaaGreatDoor
set_option linter.unusedVariables false
set_option maxRecDepth 100000
open Go.RowKit
theorem low32 (x : Nat) (h : x ≤ 18446744073709551615) : bits .and .u64 (x : Int) 4294967295 = ((x % 4294967296 : Nat) : Int) := by
  rw [show (4294967295 : Int) = ((4294967295 : Nat) : Int) from rfl, u64_and_nat _ _ (by omega) (by omega)]
  have := Nat.and_two_pow_sub_one_eq_mod x 32
  rw [show (2 ^ 32 - 1 : Nat) = 4294967295 from rfl] at this
  rw [this]
theorem mul_parts (x y : Nat) : x * y = (x / 4294967296 * (y / 4294967296)) * 18446744073709551616 + (x / 4294967296 * (y % 4294967296) + x % 4294967296 * (y / 4294967296)) * 4294967296 + x % 4294967296 * (y % 4294967296) := by
  have h1 : x = 4294967296 * (x / 4294967296) + x % 4294967296 := by omega
  have h2 : y = 4294967296 * (y / 4294967296) + y % 4294967296 := by omega
  generalize x / 4294967296 = a at *
  generalize x % 4294967296 = b at *
  generalize y / 4294967296 = c at *
  generalize y % 4294967296 = d at *
  subst h1 h2
  rw [Nat.add_mul, Nat.mul_add, Nat.mul_add, show 4294967296 * a * (4294967296 * c) = a * c * 18446744073709551616 by rw [Nat.mul_assoc, Nat.mul_left_comm a]; omega,
    show 4294967296 * a * d = a * d * 4294967296 by rw [Nat.mul_assoc, Nat.mul_comm], show b * (4294967296 * c) = b * c * 4294967296 by rw [Nat.mul_left_comm, Nat.mul_comm], Nat.add_mul]
  omega
theorem prod_le {a b : Nat} (ha : a ≤ 4294967295) (hb : b ≤ 4294967295) : a * b ≤ 18446744065119617025 := Nat.mul_le_mul ha hb
theorem halves (x y : Nat) (hx : x ≤ 18446744073709551615) (hy : y ≤ 18446744073709551615) : ∃ p00 p10 p01 p11 : Nat, p00 ≤ 18446744065119617025 ∧ p10 ≤ 18446744065119617025 ∧ p01 ≤ 18446744065119617025 ∧ p11 ≤ 18446744065119617025 ∧
    (x : Int) % 4294967296 * ((y : Int) % 4294967296) = p00 ∧ (x : Int) / 4294967296 * ((y : Int) % 4294967296) = p10 ∧ (x : Int) % 4294967296 * ((y : Int) / 4294967296) = p01 ∧ (x : Int) / 4294967296 * ((y : Int) / 4294967296) = p11 ∧
    x * y = p11 * 18446744073709551616 + (p10 + p01) * 4294967296 + p00 :=
  ⟨_, _, _, _, prod_le (a := x % 4294967296) (b := y % 4294967296) (by omega) (by omega), prod_le (a := x / 4294967296) (b := y % 4294967296) (by omega) (by omega), prod_le (a := x % 4294967296) (b := y / 4294967296) (by omega) (by omega), prod_le (a := x / 4294967296) (b := y / 4294967296) (by omega) (by omega),
    by simp, by simp, by simp, by simp, mul_parts x y⟩
theorem ref_wide (x y : Nat) (w : World) (hx : x ≤ 18446744073709551615) (hy : y ≤ 18446744073709551615) :
    Calls Tryz.prog 125 #[.int .u64 x, .int .u64 y] w fun e w' => e = .returned (.tuple #[.int .u64 ((x * y / 18446744073709551616 : Nat) : Int), .int .u64 ((x * y % 18446744073709551616 : Nat) : Int)]) ∧ w = w' := by
  have b1 := low32 x hx
  have b2 := low32 y hy
  go_enter Tryz.func125, Tryz.ntmps125
  go_wp2
  go_ret2
  obtain ⟨p00, p10, p01, p11, h1, h2, h3, h4, e1, e2, e3, e4, e⟩ := halves x y hx hy
  refine ⟨ret_ints2 ?_ ?_, rfl⟩
  · rw [e1, e2, e3, e4, e, IntWalk.u64_in (p00 : Int) (by omega), IntWalk.u64_in (p10 : Int) (by omega), IntWalk.u64_in (p01 : Int) (by omega), IntWalk.u64_in (p11 : Int) (by omega),
      IntWalk.u64_in ((p10 : Int) + (p00 : Int) / 4294967296) (by omega), show (p10 : Int) + (p00 : Int) / 4294967296 = ((p10 + p00 / 4294967296 : Nat) : Int) by omega, low32 _ (by omega)]
    clear e1 e2 e3 e4 e b1 b2 hx hy
    simp only [IntKind.wrap_u64]
    omega
  · rw [e1, e2, e3, e, IntWalk.u64_in (p00 : Int) (by omega), IntWalk.u64_in (p10 : Int) (by omega), IntWalk.u64_in (p01 : Int) (by omega),
      IntWalk.u64_in ((p10 : Int) + (p00 : Int) / 4294967296) (by omega), show (p10 : Int) + (p00 : Int) / 4294967296 = ((p10 + p00 / 4294967296 : Nat) : Int) by omega, low32 _ (by omega), low32 _ (by omega)]
    clear e1 e2 e3 e4 e b1 b2 hx hy
    rw [show IntKind.u64.wrap (IntKind.u64.wrap ((p01 : Int) + (((p10 + p00 / 4294967296) % 4294967296 : Nat) : Int)) * 4294967296) = (((p01 + (p10 + p00 / 4294967296) % 4294967296) % 4294967296 * 4294967296 : Nat) : Int) by
      simp only [IntKind.wrap_u64]; omega]
    rw [u64_or_nat _ _ (by omega) (by omega), nat_join 32 _ _ (by omega) (by omega)]
    omega
def mulOut (a b : Int) : Value := if -9223372036854775808 ≤ a * b ∧ a * b ≤ 9223372036854775807 then .tuple #[.int .i64 (a * b), .int .i64 0] else .tuple #[.int .i64 0, .int .i64 14]
theorem abs_mul (a b : Int) : (a.natAbs * b.natAbs : Nat) = (a * b).natAbs := (Int.natAbs_mul a b).symm
theorem sign_mul (a b : Int) : ((a < 0 ↔ b < 0) → 0 ≤ a * b) ∧ (¬ (a < 0 ↔ b < 0) → a * b ≤ 0) := by
  constructor
  · intro h
    by_cases ha : a < 0
    · exact Int.mul_nonneg_of_nonpos_of_nonpos (by omega) (by have := h.1 ha; omega)
    · exact Int.mul_nonneg (by omega) (by by_cases hb : b < 0; exact absurd (h.2 hb) ha; omega)
  · intro h
    by_cases ha : a < 0
    · exact Int.mul_nonpos_of_nonpos_of_nonneg (by omega) (by by_cases hb : b < 0; exact absurd (by simp [ha, hb]) h; omega)
    · exact Int.mul_nonpos_of_nonneg_of_nonpos (by omega) (by by_cases hb : b < 0; omega; exact absurd (by simp [ha, hb]) h)
theorem mul_abs_le (a b : Int) (h1 : -9223372036854775808 ≤ a) (h2 : a ≤ 9223372036854775807) (h3 : -9223372036854775808 ≤ b) (h4 : b ≤ 9223372036854775807) : (a * b).natAbs ≤ 85070591730234615865843651857942052864 := by
  rw [Int.natAbs_mul]
  exact Nat.mul_le_mul (show a.natAbs ≤ 9223372036854775808 by omega) (show b.natAbs ≤ 9223372036854775808 by omega)
theorem back_neg (q : Int) (h0 : 0 ≤ q) (h : q ≤ 9223372036854775808) : wrap64 (IntKind.u64.wrap (-q)) = -q := by
  rw [IntKind.wrap_u64]; unfold wrap64; omega
theorem ref_Mul (a b : Int) (w : World) (h1 : -9223372036854775808 ≤ a) (h2 : a ≤ 9223372036854775807) (h3 : -9223372036854775808 ≤ b) (h4 : b ≤ 9223372036854775807) :
    Calls Tryz.prog 101 #[.int .i64 a, .int .i64 b] w fun e w' => e = .returned (mulOut a b) ∧ w = w' := by
  have hs := sign_mul a b
  have hm := mul_abs_le a b h1 h2 h3 h4
  have hab := abs_mul a b
  go_enter Tryz.func101, Tryz.ntmps101
  have HS := Lib.hid hs; have HAB := Lib.hid hab; clear hs hab
  go_wp2_with fail
  refine (ref_Size _ _ h1 h2).mono ?_; rintro e w' ⟨rfl, rfl⟩
  go_wp2_with fail
  refine (ref_Size _ _ h3 h4).mono ?_; rintro e w' ⟨rfl, rfl⟩
  go_wp2_with fail
  refine (ref_wide _ _ _ (by omega) (by omega)).mono ?_; rintro e w' ⟨rfl, rfl⟩
  rw [HAB.out]
  have HO := Lib.hid (show mulOut a b = if -9223372036854775808 ≤ a * b ∧ a * b ≤ 9223372036854775807 then .tuple #[.int .i64 (a * b), .int .i64 0] else .tuple #[.int .i64 0, .int .i64 14] from rfl)
  generalize a * b = p at *
  obtain ⟨hi, hhi⟩ : ∃ hi, hi = p.natAbs / 18446744073709551616 := ⟨_, rfl⟩
  obtain ⟨lo, hlo⟩ : ∃ lo, lo = p.natAbs % 18446744073709551616 := ⟨_, rfl⟩
  rw [← hhi, ← hlo]
  have hp : p.natAbs = hi * 18446744073709551616 + lo := by omega
  have hlo2 : lo ≤ 18446744073709551615 := by omega
  have hhi2 : hi ≤ 18446744073709551615 := by omega
  have HP := Lib.hid hp; clear hhi hlo hp hm
  by_cases hz : hi = 0
  case neg =>
    have hz1 : ((hi : Int) != 0) = true := by simp; omega
    have HF := Lib.hid (show mulOut a b = .tuple #[.int .i64 0, .int .i64 14] by rw [HO.out, if_neg (by have := HP.out; omega)])
    clear hz HO
    go_wp2_with fail
    go_ret2
    exact ⟨ret_of (by rw [HF.out]; rfl), rfl⟩
  subst hz
  by_cases hov : 9223372036854775808 < lo
  · have HF := Lib.hid (show mulOut a b = .tuple #[.int .i64 0, .int .i64 14] by rw [HO.out, if_neg (by have := HP.out; omega)])
    clear HO
    go_wp2_with fail
    go_ret2
    exact ⟨ret_of (by rw [HF.out]; rfl), rfl⟩
  by_cases ha : a < 0 <;> by_cases hb : b < 0
  · have hda : decide (a < 0) = true := by simp; omega
    have hdb : decide (b < 0) = true := by simp; omega
    have hpos : 0 ≤ p := HS.out.1 (by simp [ha, hb])
    by_cases he : lo = 9223372036854775808
    · have hbq : ((lo : Int) == 9223372036854775808) = true := by simp; omega
      have HF := Lib.hid (show mulOut a b = .tuple #[.int .i64 0, .int .i64 14] by rw [HO.out, if_neg (by have := HP.out; omega)])
      clear HO he
      go_wp2_with fail
      go_ret2
      exact ⟨ret_of (by rw [HF.out]; rfl), rfl⟩
    · have hbq : ((lo : Int) == 9223372036854775808) = false := by simp; omega
      have HF := Lib.hid (show mulOut a b = .tuple #[.int .i64 (lo : Int), .int .i64 0] by rw [HO.out, if_pos (by have := HP.out; omega), show p = (lo : Int) by have := HP.out; omega])
      have hlt : lo ≤ 9223372036854775807 := by omega
      clear HO he
      go_wp2_with fail
      go_ret2
      exact ⟨ret_of (by rw [HF.out]; rfl), rfl⟩
  · have hda : decide (a < 0) = true := by simp; omega
    have hdb : decide (b < 0) = false := by simp; omega
    have hneg : p ≤ 0 := HS.out.2 (by simp [ha, hb])
    have HF := Lib.hid (show mulOut a b = .tuple #[.int .i64 (-(lo : Int)), .int .i64 0] by rw [HO.out, if_pos (by have := HP.out; omega), show p = -(lo : Int) by have := HP.out; omega])
    have nb := back_neg (lo : Int) (by omega) (by omega)
    clear HO
    go_wp2_with fail
    go_ret2
    exact ⟨by rw [HF.out]; exact ret_ints2 (back_neg _ (by omega) (by omega)) rfl, rfl⟩
  · have hda : decide (a < 0) = false := by simp; omega
    have hdb : decide (b < 0) = true := by simp; omega
    have hneg : p ≤ 0 := HS.out.2 (by simp [ha, hb])
    have HF := Lib.hid (show mulOut a b = .tuple #[.int .i64 (-(lo : Int)), .int .i64 0] by rw [HO.out, if_pos (by have := HP.out; omega), show p = -(lo : Int) by have := HP.out; omega])
    have nb := back_neg (lo : Int) (by omega) (by omega)
    clear HO
    go_wp2_with fail
    go_ret2
    exact ⟨by rw [HF.out]; exact ret_ints2 (back_neg _ (by omega) (by omega)) rfl, rfl⟩
  · have hda : decide (a < 0) = false := by simp; omega
    have hdb : decide (b < 0) = false := by simp; omega
    have hpos : 0 ≤ p := HS.out.1 (by simp [ha, hb])
    by_cases he : lo = 9223372036854775808
    · have hbq : ((lo : Int) == 9223372036854775808) = true := by simp; omega
      have HF := Lib.hid (show mulOut a b = .tuple #[.int .i64 0, .int .i64 14] by rw [HO.out, if_neg (by have := HP.out; omega)])
      clear HO he
      go_wp2_with fail
      go_ret2
      exact ⟨ret_of (by rw [HF.out]; rfl), rfl⟩
    · have hbq : ((lo : Int) == 9223372036854775808) = false := by simp; omega
      have HF := Lib.hid (show mulOut a b = .tuple #[.int .i64 (lo : Int), .int .i64 0] by rw [HO.out, if_pos (by have := HP.out; omega), show p = (lo : Int) by have := HP.out; omega])
      have hlt : lo ≤ 9223372036854775807 := by omega
      clear HO he
      go_wp2_with fail
      go_ret2
      exact ⟨ret_of (by rw [HF.out]; rfl), rfl⟩
theorem neg_pos (a c : Int) (hc : 1 ≤ c) (ha : 0 < a) : (a % (-c) = 0 ∧ a.tdiv (-c) = -a / c ∧ -a % c = 0) ∨ (0 < a % (-c) ∧ a.tdiv (-c) - 1 = -a / c ∧ a % (-c) + -c = -(-a % c)) := by
  have h := tmod_neg_eq (-a) c (by omega) hc
  rw [Int.neg_tmod, Int.tmod_eq_emod_of_nonneg (by omega)] at h
  rw [Int.emod_neg, Int.tdiv_neg, ← Int.neg_tdiv]
  omega
theorem neg_neg' (a c : Int) (hc : 1 ≤ c) (ha : a < 0) : a.tmod (-c) = -(-a % c) ∧ a.tdiv (-c) = -a / c ∧ 0 ≤ -a % c := by
  have h1 := Int.tmod_eq_emod_of_nonneg (a := -a) (b := c) (by omega)
  have h2 := Int.tdiv_eq_ediv_of_nonneg (a := -a) (b := c) (by omega)
  rw [Int.neg_tmod] at h1
  rw [Int.tmod_neg, Int.tdiv_neg, ← Int.neg_tdiv, h2]
  exact ⟨by omega, rfl, Int.emod_nonneg _ (by omega)⟩
theorem div_in (a c : Int) (hc : 1 ≤ c) (h1 : -9223372036854775807 ≤ a) (h2 : a ≤ 9223372036854775808) : -9223372036854775807 ≤ a / c ∧ (a / c ≤ 9223372036854775807 ∨ c = 1 ∧ a / c = a) := by
  constructor
  · have := Int.le_ediv_of_mul_le (a := -9223372036854775807) (b := a) (c := c) (by omega) (by have := Int.mul_le_mul_of_nonpos_left (show (-9223372036854775807 : Int) ≤ 0 by omega) hc; omega)
    exact this
  · by_cases h : c = 1
    · right; subst h; simp
    · left
      have := Int.ediv_le_of_le_mul (a := a) (b := 9223372036854775807) (c := c) (by omega) (by have := Int.mul_le_mul_of_nonneg_left (show 2 ≤ c by omega) (show (0 : Int) ≤ 9223372036854775807 by omega); omega)
      exact this
theorem neg_pos'' (a b : Int) (hb : b < 0) (ha : 0 < a) : (a % b = 0 ∧ a.tdiv b = -a / -b ∧ -a % -b = 0) ∨ (0 < a % b ∧ a.tdiv b - 1 = -a / -b ∧ a % b + b = -(-a % -b)) := by
  have := neg_pos a (-b) (by omega) ha
  rwa [Int.neg_neg] at this
theorem neg_neg'' (a b : Int) (hb : b < 0) (ha : a < 0) : a.tmod b = -(-a % -b) ∧ a.tdiv b = -a / -b ∧ 0 ≤ -a % -b := by
  have := neg_neg' a (-b) (by omega) ha
  rwa [Int.neg_neg] at this
theorem whole_Div_neg (a b : Int) (w : World) (h1 : -9223372036854775808 ≤ a) (h2 : a ≤ 9223372036854775807) (h3 : -9223372036854775808 ≤ b) (hb : b < 0) (hm : ¬ (a = -9223372036854775808 ∧ b = -1)) :
    Calls Tryz.prog 117 #[.int .i64 a, .int .i64 b] w fun e w' => e = .returned (.tuple #[.int .i64 (-a / -b), .int .i64 (-(-a % -b)), .int .i64 0]) ∧ Drawn w w' := by
  have hb0 : (b == 0) = false := by simp; omega
  have hbn : decide (b < 0) = true := by simp; omega
  have hd := div_in (-a) (-b) (by omega) (by omega) (by omega)
  have hr := Int.emod_lt_of_pos (-a) (show 0 < -b by omega)
  have hr0 := Int.emod_nonneg (-a) (show -b ≠ 0 by omega)
  have N1 := neg_neg'' a b hb
  have N2 := neg_pos'' a b hb
  have N0 : a = 0 → -a / -b = 0 ∧ -a % -b = 0 := by intro h; subst h; simp
  have N3 : 0 < a → -a / -b < 1 := fun h => Int.ediv_lt_of_lt_mul (by omega) (by omega)
  generalize -a / -b = Q at *
  generalize -a % -b = R at *
  have HN1 := Lib.hid N1; have HN2 := Lib.hid N2; have HN0 := Lib.hid N0; clear N1 N2 N0
  have hcm : ((a == -9223372036854775808) = false) ∨ ((a == -9223372036854775808) = true ∧ (b == -1) = false) := by
    by_cases h : a = -9223372036854775808
    · right; exact ⟨by simp [h], by simp; omega⟩
    · left; simp [h]
  have hdd : -9223372036854775807 ≤ Q ∧ Q ≤ 9223372036854775807 := by
    refine ⟨hd.1, ?_⟩
    rcases hd.2 with h | ⟨h, h'⟩
    · exact h
    · rw [h']; omega
  obtain ⟨dd1, dd2⟩ := hdd
  clear hd hm
  rcases Int.lt_trichotomy a 0 with ha | ha | ha
  · clear N3
    obtain ⟨e1, e2, e3⟩ := HN1.out ha
    have hq1 : -9223372036854775808 ≤ a.tdiv b ∧ a.tdiv b ≤ 9223372036854775807 := by omega
    obtain ⟨q1, q2⟩ := hq1
    by_cases hz : R = 0
    · have hz1 : (a.tmod b != 0) = false := by rw [e1, hz]; rfl
      have E1 := Lib.hid e1; have E2 := Lib.hid e2; have HZ := Lib.hid hz
      clear e1 e2 hz
      rcases hcm with hc1 | ⟨hc1, hc2⟩
      all_goals
        go_enter Tryz.func117, Tryz.ntmps117
        go_wp2
        go_quiet (fail)
        go_wp2
        go_ret3
        exact ⟨ret_ints3 E2.out E1.out rfl, ⟨_, rfl⟩⟩
    · have hz1 : (a.tmod b != 0) = true := by rw [e1]; simp; omega
      have hz2 : decide (a.tmod b < 0) = true := by rw [e1]; simp; omega
      have E1 := Lib.hid e1; have E2 := Lib.hid e2; have HZ := Lib.hid hz
      clear e1 e2 hz
      rcases hcm with hc1 | ⟨hc1, hc2⟩
      all_goals
        go_enter Tryz.func117, Tryz.ntmps117
        go_wp2
        go_quiet (fail)
        go_wp2
        go_ret3
        exact ⟨ret_ints3 E2.out E1.out rfl, ⟨_, rfl⟩⟩
  · clear N3
    obtain ⟨hQ, hR⟩ := HN0.out ha
    subst ha hQ hR
    go_enter Tryz.func117, Tryz.ntmps117
    go_wp2
    go_quiet (fail)
    go_wp2
    go_ret3
    exact ⟨ret_ints3 (by simp) (by simp) rfl, ⟨_, rfl⟩⟩
  · have hn := HN2.out ha
    have hq1 : -9223372036854775808 ≤ a.tdiv b ∧ a.tdiv b ≤ 9223372036854775807 := by have := N3 ha; omega
    obtain ⟨q1, q2⟩ := hq1
    clear N3
    have ha0 : (a == -9223372036854775808) = false := by simp; omega
    have HN := Lib.hid hn
    rcases hn with ⟨e1, e2, e3⟩ | ⟨e1, e2, e3⟩
    · have hz1 : (a % b != 0) = false := by simp [e1]
      have E1 := Lib.hid e1; have E2 := Lib.hid e2; have E3 := Lib.hid e3
      clear e1 e2 e3 hcm
      go_enter Tryz.func117, Tryz.ntmps117
      go_wp2
      go_quiet (fail)
      go_wp2
      go_ret3
      exact ⟨ret_ints3 E2.out (by rw [E3.out]; exact E1.out) rfl, ⟨_, rfl⟩⟩
    · have hz1 : (a % b != 0) = true := by simp; omega
      have hz2 : decide (a % b < 0) = false := by simp; omega
      have q3 : -9223372036854775808 ≤ a.tdiv b - 1 := by omega
      have E2 := Lib.hid e2; have E3 := Lib.hid e3
      have q4 : -9223372036854775808 ≤ a % b + b ∧ a % b + b ≤ 0 := by omega
      obtain ⟨q4, q5⟩ := q4
      clear e2 e3 hcm
      go_enter Tryz.func117, Tryz.ntmps117
      go_wp2
      go_quiet (fail)
      go_wp2
      go_ret3
      exact ⟨ret_ints3 E2.out E3.out rfl, ⟨_, rfl⟩⟩
theorem whole_Div_over (w : World) :
    Calls Tryz.prog 117 #[.int .i64 (-9223372036854775808), .int .i64 (-1)] w fun e w' => e = .returned (.tuple #[.int .i64 0, .int .i64 0, .int .i64 14]) ∧ Drawn w w' := by
  go_enter Tryz.func117, Tryz.ntmps117
  go_wp2
  go_ret3
  exact ⟨rfl, Drawn.refl _⟩
theorem whole_Div (a b : Int) (w : World) (h1 : -9223372036854775808 ≤ a) (h2 : a ≤ 9223372036854775807) (h3 : -9223372036854775808 ≤ b) (h4 : b ≤ 9223372036854775807) :
    Calls Tryz.prog 117 #[.int .i64 a, .int .i64 b] w fun e w' => e = .returned (divOut a b) ∧ Drawn w w' := by
  by_cases hb : 1 ≤ b
  · rw [divOut_pos a b hb]; exact whole_Div_pos a b w h1 h2 hb h4
  · by_cases h0 : b = 0
    · subst h0
      rw [divOut, if_pos rfl]
      exact (whole_Div_zero a w).mono fun e w' ⟨he, hw⟩ => ⟨he, hw ▸ Drawn.refl _⟩
    · by_cases hm : a = -9223372036854775808 ∧ b = -1
      · rw [divOut, if_neg h0, if_pos hm, hm.1, hm.2]; exact whole_Div_over w
      · rw [divOut, if_neg h0, if_neg hm, dq, dr, if_neg (by omega), if_neg (by omega)]
        exact whole_Div_neg a b w h1 h2 h3 (by omega) hm
end Go.Proofs.YtlpbaljoanfogaaGreatDoor
