/- Contracts of rule.truth, rule.apply and of the reference's yes. -/
import Derived.Test.YtjpbkkoflaajcaaTree3
import Derived.Test.YtjpbkkoflaajcaaTree1
import Derived.Test.YtjpbkkoflaajcaaMul
namespace Go.Proofs.Ytjpbkkoflaajcaa
set_option linter.unusedVariables false
set_option maxRecDepth 100000
open Go.RowKit

theorem rule_truth (b : Bool) (w : World) : Calls Try.prog 58 #[.bool b] w fun e w' => e = .returned (.int .i64 (bitOf b)) ∧ w = w' := by
  cases b
  all_goals
    go_enter Try.func58, Try.ntmps58
    go_wp2_with fail
    go_ret
    exact ⟨rfl, rfl⟩
theorem ref_yesB (b : Bool) (w : World) : Calls Try.prog 31 #[.bool b] w fun e w' => e = .returned (.int .i64 (bitOf b)) ∧ w = w' := by
  cases b
  all_goals
    go_enter Try.func31, Try.ntmps31
    go_wp2_with fail
    go_ret
    exact ⟨rfl, rfl⟩
theorem divOut_in (a b : Int) (h : b ≠ 0) (ha : a ≠ -9223372036854775808) : divOut a b = .tuple #[.int .i64 (dq a b), .int .i64 (dr a b), .int .i64 0] := by
  rw [divOut, if_neg h, if_neg (by omega)]
theorem divOut_0 (a : Int) : divOut a 0 = .tuple #[.int .i64 0, .int .i64 0, .int .i64 1] := by rw [divOut, if_pos rfl]
theorem mul31b {a b : Int} (a1 : -2147483647 ≤ a) (a2 : a ≤ 2147483647) (b1 : -2147483647 ≤ b) (b2 : b ≤ 2147483647) : -4611686018427387904 ≤ a * b ∧ a * b ≤ 4611686018427387904 := by
  have h : (a * b).natAbs ≤ 2147483647 * 2147483647 := by rw [Int.natAbs_mul]; exact Nat.mul_le_mul (by omega) (by omega)
  omega
def ApplyPost (r : Int × Int) (w : World) (e : Ending) (w' : World) : Prop := e = .returned (.tuple #[.int .i64 r.1, .int .i64 r.2]) ∧ Below w.heap.size w w'
theorem applyPost_of {r : Int × Int} {x y : Int} {w w' : World} (h : r = (x, y)) (hb : Below w.heap.size w w') : ApplyPost r w (.returned (.tuple #[.int .i64 x, .int .i64 y])) w' := by
  subst h; exact ⟨rfl, hb⟩

theorem rule_apply_1 (n y a b : Int) (sa : Option Addr) (len cap : Nat) (w : World) (a1 : -2147483647 ≤ a) (a2 : a ≤ 2147483647) (b1 : -2147483647 ≤ b) (b2 : b ≤ 2147483647) (y1 : -10000 ≤ y) (y2 : y ≤ 10000) :
    Calls Try.prog 51 #[.agg #[.int .i64 1, .int .i64 n, .slice sa len cap], .int .i64 y, .agg #[.int .i64 a, .int .i64 b]] w (ApplyPost (rawVal 1 n y a b) w) := by
  have HR := Lib.hid (show rawVal 1 n y a b = (n, 0) by simp [rawVal])
  go_enter Try.func51, Try.ntmps51
  go_wp2_with fail
  go_quiet (fail)
  go_wp2_with fail
  go_ret2
  exact applyPost_of HR.out (by (repeat' (first | exact Below.refl _ _ | assumption | refine Below.drew ?_ | refine below_drewN ?_ _ | refine below_new ?_ _ | refine below_set ?_ ?_ _ | refine below_then ?_ (by assumption) | refine below_drawn ?_ (by assumption) | exact Nat.le_refl _ | omega | (simp; done) | (simp; omega))))
theorem rule_apply_2 (n y a b : Int) (sa : Option Addr) (len cap : Nat) (w : World) (a1 : -2147483647 ≤ a) (a2 : a ≤ 2147483647) (b1 : -2147483647 ≤ b) (b2 : b ≤ 2147483647) (y1 : -10000 ≤ y) (y2 : y ≤ 10000) :
    Calls Try.prog 51 #[.agg #[.int .i64 2, .int .i64 n, .slice sa len cap], .int .i64 y, .agg #[.int .i64 a, .int .i64 b]] w (ApplyPost (rawVal 2 n y a b) w) := by
  have HR := Lib.hid (show rawVal 2 n y a b = (y, 0) by simp [rawVal])
  go_enter Try.func51, Try.ntmps51
  go_wp2_with fail
  go_quiet (fail)
  go_wp2_with fail
  go_ret2
  exact applyPost_of HR.out (by (repeat' (first | exact Below.refl _ _ | assumption | refine Below.drew ?_ | refine below_drewN ?_ _ | refine below_new ?_ _ | refine below_set ?_ ?_ _ | refine below_then ?_ (by assumption) | refine below_drawn ?_ (by assumption) | exact Nat.le_refl _ | omega | (simp; done) | (simp; omega))))
theorem rule_apply_3 (n y a b : Int) (sa : Option Addr) (len cap : Nat) (w : World) (a1 : -2147483647 ≤ a) (a2 : a ≤ 2147483647) (b1 : -2147483647 ≤ b) (b2 : b ≤ 2147483647) (y1 : -10000 ≤ y) (y2 : y ≤ 10000) :
    Calls Try.prog 51 #[.agg #[.int .i64 3, .int .i64 n, .slice sa len cap], .int .i64 y, .agg #[.int .i64 a, .int .i64 b]] w (ApplyPost (rawVal 3 n y a b) w) := by
  have HR := Lib.hid (show rawVal 3 n y a b = (-a, 0) by simp [rawVal])
  go_enter Try.func51, Try.ntmps51
  go_wp2_with fail
  go_quiet (fail)
  go_wp2_with fail
  go_ret2
  exact applyPost_of HR.out (by (repeat' (first | exact Below.refl _ _ | assumption | refine Below.drew ?_ | refine below_drewN ?_ _ | refine below_new ?_ _ | refine below_set ?_ ?_ _ | refine below_then ?_ (by assumption) | refine below_drawn ?_ (by assumption) | exact Nat.le_refl _ | omega | (simp; done) | (simp; omega))))
theorem rule_apply_4 (n y a b : Int) (sa : Option Addr) (len cap : Nat) (w : World) (a1 : -2147483647 ≤ a) (a2 : a ≤ 2147483647) (b1 : -2147483647 ≤ b) (b2 : b ≤ 2147483647) (y1 : -10000 ≤ y) (y2 : y ≤ 10000) :
    Calls Try.prog 51 #[.agg #[.int .i64 4, .int .i64 n, .slice sa len cap], .int .i64 y, .agg #[.int .i64 a, .int .i64 b]] w (ApplyPost (rawVal 4 n y a b) w) := by
  have HR := Lib.hid (show rawVal 4 n y a b = (a + b, 0) by simp [rawVal])
  go_enter Try.func51, Try.ntmps51
  go_wp2_with fail
  go_quiet (fail)
  go_wp2_with fail
  go_ret2
  exact applyPost_of HR.out (by (repeat' (first | exact Below.refl _ _ | assumption | refine Below.drew ?_ | refine below_drewN ?_ _ | refine below_new ?_ _ | refine below_set ?_ ?_ _ | refine below_then ?_ (by assumption) | refine below_drawn ?_ (by assumption) | exact Nat.le_refl _ | omega | (simp; done) | (simp; omega))))
theorem rule_apply_5 (n y a b : Int) (sa : Option Addr) (len cap : Nat) (w : World) (a1 : -2147483647 ≤ a) (a2 : a ≤ 2147483647) (b1 : -2147483647 ≤ b) (b2 : b ≤ 2147483647) (y1 : -10000 ≤ y) (y2 : y ≤ 10000) :
    Calls Try.prog 51 #[.agg #[.int .i64 5, .int .i64 n, .slice sa len cap], .int .i64 y, .agg #[.int .i64 a, .int .i64 b]] w (ApplyPost (rawVal 5 n y a b) w) := by
  have HR := Lib.hid (show rawVal 5 n y a b = (a - b, 0) by simp [rawVal])
  go_enter Try.func51, Try.ntmps51
  go_wp2_with fail
  go_quiet (fail)
  go_wp2_with fail
  go_ret2
  exact applyPost_of HR.out (by (repeat' (first | exact Below.refl _ _ | assumption | refine Below.drew ?_ | refine below_drewN ?_ _ | refine below_new ?_ _ | refine below_set ?_ ?_ _ | refine below_then ?_ (by assumption) | refine below_drawn ?_ (by assumption) | exact Nat.le_refl _ | omega | (simp; done) | (simp; omega))))
theorem rule_apply_6 (n y a b : Int) (sa : Option Addr) (len cap : Nat) (w : World) (a1 : -2147483647 ≤ a) (a2 : a ≤ 2147483647) (b1 : -2147483647 ≤ b) (b2 : b ≤ 2147483647) (y1 : -10000 ≤ y) (y2 : y ≤ 10000) :
    Calls Try.prog 51 #[.agg #[.int .i64 6, .int .i64 n, .slice sa len cap], .int .i64 y, .agg #[.int .i64 a, .int .i64 b]] w (ApplyPost (rawVal 6 n y a b) w) := by
  have HR := Lib.hid (show rawVal 6 n y a b = (a * b, 0) by simp [rawVal])
  obtain ⟨p1, p2⟩ := mul31b a1 a2 b1 b2
  go_enter Try.func51, Try.ntmps51
  go_wp2_with fail
  go_quiet (fail)
  go_wp2_with fail
  go_ret2
  exact applyPost_of HR.out (by (repeat' (first | exact Below.refl _ _ | assumption | refine Below.drew ?_ | refine below_drewN ?_ _ | refine below_new ?_ _ | refine below_set ?_ ?_ _ | refine below_then ?_ (by assumption) | refine below_drawn ?_ (by assumption) | exact Nat.le_refl _ | omega | (simp; done) | (simp; omega))))
theorem rule_apply_7 (n y a b : Int) (sa : Option Addr) (len cap : Nat) (w : World) (a1 : -2147483647 ≤ a) (a2 : a ≤ 2147483647) (b1 : -2147483647 ≤ b) (b2 : b ≤ 2147483647) (y1 : -10000 ≤ y) (y2 : y ≤ 10000) :
    Calls Try.prog 51 #[.agg #[.int .i64 7, .int .i64 n, .slice sa len cap], .int .i64 y, .agg #[.int .i64 a, .int .i64 b]] w (ApplyPost (rawVal 7 n y a b) w) := by
  by_cases hb : b = 0
  · subst hb
    have HR := Lib.hid (show rawVal 7 n y a 0 = (0, 1) by simp [rawVal])
    go_enter Try.func51, Try.ntmps51
    go_wp2_with fail
    go_quiet (fail)
    go_wp2_with fail
    refine (whole_Div _ _ _ (by omega) (by omega) (by omega) (by omega)).mono ?_; rw [divOut_0]; rintro e w1 ⟨rfl, ⟨nd, rfl⟩⟩
    go_wp2_with fail
    go_ret2
    exact applyPost_of HR.out (by (repeat' (first | exact Below.refl _ _ | assumption | refine Below.drew ?_ | refine below_drewN ?_ _ | refine below_new ?_ _ | refine below_set ?_ ?_ _ | refine below_then ?_ (by assumption) | refine below_drawn ?_ (by assumption) | exact Nat.le_refl _ | omega | (simp; done) | (simp; omega))))
  · have HR := Lib.hid (show rawVal 7 n y a b = (dq a b, 0) by simp [rawVal, hb])
    have HD := Lib.hid (divOut_in a b hb (by omega))
    clear hb
    go_enter Try.func51, Try.ntmps51
    go_wp2_with fail
    go_quiet (fail)
    go_wp2_with fail
    refine (whole_Div _ _ _ (by omega) (by omega) (by omega) (by omega)).mono ?_; rw [HD.out]; rintro e w1 ⟨rfl, ⟨nd, rfl⟩⟩
    go_wp2_with fail
    go_ret2
    exact applyPost_of HR.out (by (repeat' (first | exact Below.refl _ _ | assumption | refine Below.drew ?_ | refine below_drewN ?_ _ | refine below_new ?_ _ | refine below_set ?_ ?_ _ | refine below_then ?_ (by assumption) | refine below_drawn ?_ (by assumption) | exact Nat.le_refl _ | omega | (simp; done) | (simp; omega))))
theorem rule_apply_8 (n y a b : Int) (sa : Option Addr) (len cap : Nat) (w : World) (a1 : -2147483647 ≤ a) (a2 : a ≤ 2147483647) (b1 : -2147483647 ≤ b) (b2 : b ≤ 2147483647) (y1 : -10000 ≤ y) (y2 : y ≤ 10000) :
    Calls Try.prog 51 #[.agg #[.int .i64 8, .int .i64 n, .slice sa len cap], .int .i64 y, .agg #[.int .i64 a, .int .i64 b]] w (ApplyPost (rawVal 8 n y a b) w) := by
  by_cases hb : b = 0
  · subst hb
    have HR := Lib.hid (show rawVal 8 n y a 0 = (0, 1) by simp [rawVal])
    go_enter Try.func51, Try.ntmps51
    go_wp2_with fail
    go_quiet (fail)
    go_wp2_with fail
    refine (whole_Div _ _ _ (by omega) (by omega) (by omega) (by omega)).mono ?_; rw [divOut_0]; rintro e w1 ⟨rfl, ⟨nd, rfl⟩⟩
    go_wp2_with fail
    go_ret2
    exact applyPost_of HR.out (by (repeat' (first | exact Below.refl _ _ | assumption | refine Below.drew ?_ | refine below_drewN ?_ _ | refine below_new ?_ _ | refine below_set ?_ ?_ _ | refine below_then ?_ (by assumption) | refine below_drawn ?_ (by assumption) | exact Nat.le_refl _ | omega | (simp; done) | (simp; omega))))
  · have HR := Lib.hid (show rawVal 8 n y a b = (dr a b, 0) by simp [rawVal, hb])
    have HD := Lib.hid (divOut_in a b hb (by omega))
    clear hb
    go_enter Try.func51, Try.ntmps51
    go_wp2_with fail
    go_quiet (fail)
    go_wp2_with fail
    refine (whole_Div _ _ _ (by omega) (by omega) (by omega) (by omega)).mono ?_; rw [HD.out]; rintro e w1 ⟨rfl, ⟨nd, rfl⟩⟩
    go_wp2_with fail
    go_ret2
    exact applyPost_of HR.out (by (repeat' (first | exact Below.refl _ _ | assumption | refine Below.drew ?_ | refine below_drewN ?_ _ | refine below_new ?_ _ | refine below_set ?_ ?_ _ | refine below_then ?_ (by assumption) | refine below_drawn ?_ (by assumption) | exact Nat.le_refl _ | omega | (simp; done) | (simp; omega))))
theorem rule_apply_9 (n y a b : Int) (sa : Option Addr) (len cap : Nat) (w : World) (a1 : -2147483647 ≤ a) (a2 : a ≤ 2147483647) (b1 : -2147483647 ≤ b) (b2 : b ≤ 2147483647) (y1 : -10000 ≤ y) (y2 : y ≤ 10000) :
    Calls Try.prog 51 #[.agg #[.int .i64 9, .int .i64 n, .slice sa len cap], .int .i64 y, .agg #[.int .i64 a, .int .i64 b]] w (ApplyPost (rawVal 9 n y a b) w) := by
  have HR := Lib.hid (show rawVal 9 n y a b = (bitOf (decide (a < b)), 0) by simp [rawVal])
  go_enter Try.func51, Try.ntmps51
  go_wp2_with fail
  go_quiet (fail)
  go_wp2_with fail
  refine (rule_truth _ _).mono ?_; rintro e w1 ⟨rfl, rfl⟩
  go_wp2_with fail
  go_ret2
  exact applyPost_of HR.out (by (repeat' (first | exact Below.refl _ _ | assumption | refine Below.drew ?_ | refine below_drewN ?_ _ | refine below_new ?_ _ | refine below_set ?_ ?_ _ | refine below_then ?_ (by assumption) | refine below_drawn ?_ (by assumption) | exact Nat.le_refl _ | omega | (simp; done) | (simp; omega))))
theorem rule_apply_10 (n y a b : Int) (sa : Option Addr) (len cap : Nat) (w : World) (a1 : -2147483647 ≤ a) (a2 : a ≤ 2147483647) (b1 : -2147483647 ≤ b) (b2 : b ≤ 2147483647) (y1 : -10000 ≤ y) (y2 : y ≤ 10000) :
    Calls Try.prog 51 #[.agg #[.int .i64 10, .int .i64 n, .slice sa len cap], .int .i64 y, .agg #[.int .i64 a, .int .i64 b]] w (ApplyPost (rawVal 10 n y a b) w) := by
  have HR := Lib.hid (show rawVal 10 n y a b = (bitOf (a == b), 0) by simp [rawVal])
  go_enter Try.func51, Try.ntmps51
  go_wp2_with fail
  go_quiet (fail)
  go_wp2_with fail
  refine (rule_truth _ _).mono ?_; rintro e w1 ⟨rfl, rfl⟩
  go_wp2_with fail
  go_ret2
  exact applyPost_of HR.out (by (repeat' (first | exact Below.refl _ _ | assumption | refine Below.drew ?_ | refine below_drewN ?_ _ | refine below_new ?_ _ | refine below_set ?_ ?_ _ | refine below_then ?_ (by assumption) | refine below_drawn ?_ (by assumption) | exact Nat.le_refl _ | omega | (simp; done) | (simp; omega))))
theorem rule_apply_11 (n y a b : Int) (sa : Option Addr) (len cap : Nat) (w : World) (a1 : -2147483647 ≤ a) (a2 : a ≤ 2147483647) (b1 : -2147483647 ≤ b) (b2 : b ≤ 2147483647) (y1 : -10000 ≤ y) (y2 : y ≤ 10000) :
    Calls Try.prog 51 #[.agg #[.int .i64 11, .int .i64 n, .slice sa len cap], .int .i64 y, .agg #[.int .i64 a, .int .i64 b]] w (ApplyPost (rawVal 11 n y a b) w) := by
  have HR := Lib.hid (show rawVal 11 n y a b = (bitOf (a == 0), 0) by simp [rawVal])
  go_enter Try.func51, Try.ntmps51
  go_wp2_with fail
  go_quiet (fail)
  go_wp2_with fail
  refine (rule_truth _ _).mono ?_; rintro e w1 ⟨rfl, rfl⟩
  go_wp2_with fail
  go_ret2
  exact applyPost_of HR.out (by (repeat' (first | exact Below.refl _ _ | assumption | refine Below.drew ?_ | refine below_drewN ?_ _ | refine below_new ?_ _ | refine below_set ?_ ?_ _ | refine below_then ?_ (by assumption) | refine below_drawn ?_ (by assumption) | exact Nat.le_refl _ | omega | (simp; done) | (simp; omega))))
theorem rule_apply_12 (n y a b : Int) (sa : Option Addr) (len cap : Nat) (w : World) (a1 : -2147483647 ≤ a) (a2 : a ≤ 2147483647) (b1 : -2147483647 ≤ b) (b2 : b ≤ 2147483647) (y1 : -10000 ≤ y) (y2 : y ≤ 10000) :
    Calls Try.prog 51 #[.agg #[.int .i64 12, .int .i64 n, .slice sa len cap], .int .i64 y, .agg #[.int .i64 a, .int .i64 b]] w (ApplyPost (rawVal 12 n y a b) w) := by
  have HR := Lib.hid (show rawVal 12 n y a b = (bitOf (!(a == 0) && !(b == 0)), 0) by simp [rawVal])
  rcases Bool.eq_false_or_eq_true (a != 0) with ha | ha <;> rcases Bool.eq_false_or_eq_true (b != 0) with hb | hb
  all_goals
    have ha2 : (a == 0) = !(a != 0) := by simp [bne]
    have hb2 : (b == 0) = !(b != 0) := by simp [bne]
    rw [ha] at ha2; rw [hb] at hb2
    have HA2 := Lib.hid ha2; have HB2 := Lib.hid hb2; clear ha2 hb2
    go_enter Try.func51, Try.ntmps51
    go_wp2_with fail
    go_quiet (fail)
    go_wp2_with fail
    refine (rule_truth _ _).mono ?_; rintro e w1 ⟨rfl, rfl⟩
    go_wp2_with fail
    go_ret2
    exact applyPost_of (by rw [HR.out, HA2.out, HB2.out]; rfl) (by (repeat' (first | exact Below.refl _ _ | assumption | refine Below.drew ?_ | refine below_drewN ?_ _ | refine below_new ?_ _ | refine below_set ?_ ?_ _ | refine below_then ?_ (by assumption) | refine below_drawn ?_ (by assumption) | exact Nat.le_refl _ | omega | (simp; done) | (simp; omega))))
theorem rule_apply_13 (n y a b : Int) (sa : Option Addr) (len cap : Nat) (w : World) (a1 : -2147483647 ≤ a) (a2 : a ≤ 2147483647) (b1 : -2147483647 ≤ b) (b2 : b ≤ 2147483647) (y1 : -10000 ≤ y) (y2 : y ≤ 10000) :
    Calls Try.prog 51 #[.agg #[.int .i64 13, .int .i64 n, .slice sa len cap], .int .i64 y, .agg #[.int .i64 a, .int .i64 b]] w (ApplyPost (rawVal 13 n y a b) w) := by
  have HR := Lib.hid (show rawVal 13 n y a b = (bitOf (!(a == 0) || !(b == 0)), 0) by simp [rawVal])
  rcases Bool.eq_false_or_eq_true (a != 0) with ha | ha <;> rcases Bool.eq_false_or_eq_true (b != 0) with hb | hb
  all_goals
    have ha2 : (a == 0) = !(a != 0) := by simp [bne]
    have hb2 : (b == 0) = !(b != 0) := by simp [bne]
    rw [ha] at ha2; rw [hb] at hb2
    have HA2 := Lib.hid ha2; have HB2 := Lib.hid hb2; clear ha2 hb2
    go_enter Try.func51, Try.ntmps51
    go_wp2_with fail
    go_quiet (fail)
    go_wp2_with fail
    refine (rule_truth _ _).mono ?_; rintro e w1 ⟨rfl, rfl⟩
    go_wp2_with fail
    go_ret2
    exact applyPost_of (by rw [HR.out, HA2.out, HB2.out]; rfl) (by (repeat' (first | exact Below.refl _ _ | assumption | refine Below.drew ?_ | refine below_drewN ?_ _ | refine below_new ?_ _ | refine below_set ?_ ?_ _ | refine below_then ?_ (by assumption) | refine below_drawn ?_ (by assumption) | exact Nat.le_refl _ | omega | (simp; done) | (simp; omega))))
theorem rule_apply (k n y a b : Int) (sa : Option Addr) (len cap : Nat) (w : World) (k1 : 1 ≤ k) (k2 : k ≤ 13) (a1 : -2147483647 ≤ a) (a2 : a ≤ 2147483647) (b1 : -2147483647 ≤ b) (b2 : b ≤ 2147483647) (y1 : -10000 ≤ y) (y2 : y ≤ 10000) :
    Calls Try.prog 51 #[.agg #[.int .i64 k, .int .i64 n, .slice sa len cap], .int .i64 y, .agg #[.int .i64 a, .int .i64 b]] w (ApplyPost (rawVal k n y a b) w) := by
  obtain rfl | rfl | rfl | rfl | rfl | rfl | rfl | rfl | rfl | rfl | rfl | rfl | rfl : k = 1 ∨ k = 2 ∨ k = 3 ∨ k = 4 ∨ k = 5 ∨ k = 6 ∨ k = 7 ∨ k = 8 ∨ k = 9 ∨ k = 10 ∨ k = 11 ∨ k = 12 ∨ k = 13 := by omega
  · exact rule_apply_1 n y a b sa len cap w a1 a2 b1 b2 y1 y2
  · exact rule_apply_2 n y a b sa len cap w a1 a2 b1 b2 y1 y2
  · exact rule_apply_3 n y a b sa len cap w a1 a2 b1 b2 y1 y2
  · exact rule_apply_4 n y a b sa len cap w a1 a2 b1 b2 y1 y2
  · exact rule_apply_5 n y a b sa len cap w a1 a2 b1 b2 y1 y2
  · exact rule_apply_6 n y a b sa len cap w a1 a2 b1 b2 y1 y2
  · exact rule_apply_7 n y a b sa len cap w a1 a2 b1 b2 y1 y2
  · exact rule_apply_8 n y a b sa len cap w a1 a2 b1 b2 y1 y2
  · exact rule_apply_9 n y a b sa len cap w a1 a2 b1 b2 y1 y2
  · exact rule_apply_10 n y a b sa len cap w a1 a2 b1 b2 y1 y2
  · exact rule_apply_11 n y a b sa len cap w a1 a2 b1 b2 y1 y2
  · exact rule_apply_12 n y a b sa len cap w a1 a2 b1 b2 y1 y2
  · exact rule_apply_13 n y a b sa len cap w a1 a2 b1 b2 y1 y2
end Go.Proofs.Ytjpbkkoflaajcaa
