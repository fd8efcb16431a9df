/- Several texts in one: Tree6, Tree7. -/
import Derived.Test.YtdmkghgachapaabGreatDoorMgT
import Derived.Test.YtdmkghgachapaabGreatDoorTree1
import Derived.Test.YtdmkghgachapaabGreatDoorMgW
import Derived.Test.YtdmkghgachapaabGreatDoorMgA
set_option linter.unusedSimpArgs false
namespace Go.Proofs.YtdmkghgachapaabGreatDoor
set_option linter.unusedVariables false
set_option maxRecDepth 100000
open Go.RowKit
theorem rule_truth (b : Bool) (w : World) : Calls Tryz.prog 159 #[.bool b] w fun e w' => e = .returned (.int .i64 (bitOf b)) ∧ w = w' := by
  cases b
  all_goals
    go_enter Tryz.func159, Tryz.ntmps159
    go_wp2_with fail
    go_ret
    exact ⟨rfl, rfl⟩
theorem ref_yesB (b : Bool) (w : World) : Calls Tryz.prog 97 #[.bool b] w fun e w' => e = .returned (.int .i64 (bitOf b)) ∧ w = w' := by
  cases b
  all_goals
    go_enter Tryz.func97, Tryz.ntmps97
    go_wp2_with fail
    go_ret
    exact ⟨rfl, rfl⟩
theorem divOut_in (a b : Int) (h : b ≠ 0) (ha : a ≠ -9223372036854775808) : divOut a b = .tuple #[.int .i64 (dq a b), .int .i64 (dr a b), .int .i64 0] := by
  rw [divOut, if_neg h, if_neg (by omega)]
theorem divOut_0 (a : Int) : divOut a 0 = .tuple #[.int .i64 0, .int .i64 0, .int .i64 1] := by rw [divOut, if_pos rfl]
theorem mul31b {a b : Int} (a1 : -2147483647 ≤ a) (a2 : a ≤ 2147483647) (b1 : -2147483647 ≤ b) (b2 : b ≤ 2147483647) : -4611686018427387904 ≤ a * b ∧ a * b ≤ 4611686018427387904 := by
  have h : (a * b).natAbs ≤ 2147483647 * 2147483647 := by rw [Int.natAbs_mul]; exact Nat.mul_le_mul (by omega) (by omega)
  omega
def ApplyPost (r : Int × Int) (w : World) (e : Ending) (w' : World) : Prop := e = .returned (.tuple #[.int .i64 r.1, .int .i64 r.2]) ∧ Below w.heap.size w w'
theorem applyPost_of {r : Int × Int} {x y : Int} {w w' : World} (h : r = (x, y)) (hb : Below w.heap.size w w') : ApplyPost r w (.returned (.tuple #[.int .i64 x, .int .i64 y])) w' := by
  subst h; exact ⟨rfl, hb⟩
theorem rule_apply_1 (n y a b : Int) (sa : Option Addr) (len cap : Nat) (w : World) (a1 : -2147483647 ≤ a) (a2 : a ≤ 2147483647) (b1 : -2147483647 ≤ b) (b2 : b ≤ 2147483647) (y1 : -10000 ≤ y) (y2 : y ≤ 10000) :
    Calls Tryz.prog 139 #[.agg #[.int .i64 1, .int .i64 n, .slice sa len cap], .int .i64 y, .agg #[.int .i64 a, .int .i64 b]] w (ApplyPost (rawVal 1 n y a b) w) := by
  have HR := Lib.hid (show rawVal 1 n y a b = (n, 0) by simp [rawVal])
  go_enter Tryz.func139, Tryz.ntmps139
  go_wp2_with fail
  go_quiet (fail)
  go_wp2_with fail
  go_ret2
  exact applyPost_of HR.out (by (repeat' (first | exact bxR _ _ | assumption | refine bxD ?_ | refine bxN ?_ _ | refine bxA ?_ _ | refine bxS ?_ ?_ _ | refine bxT ?_ (by assumption) | refine bxW ?_ (by assumption) | exact Nat.le_refl _ | omega | (simp; done) | (simp; omega))))
theorem rule_apply_2 (n y a b : Int) (sa : Option Addr) (len cap : Nat) (w : World) (a1 : -2147483647 ≤ a) (a2 : a ≤ 2147483647) (b1 : -2147483647 ≤ b) (b2 : b ≤ 2147483647) (y1 : -10000 ≤ y) (y2 : y ≤ 10000) :
    Calls Tryz.prog 139 #[.agg #[.int .i64 2, .int .i64 n, .slice sa len cap], .int .i64 y, .agg #[.int .i64 a, .int .i64 b]] w (ApplyPost (rawVal 2 n y a b) w) := by
  have HR := Lib.hid (show rawVal 2 n y a b = (y, 0) by simp [rawVal])
  go_enter Tryz.func139, Tryz.ntmps139
  go_wp2_with fail
  go_quiet (fail)
  go_wp2_with fail
  go_ret2
  exact applyPost_of HR.out (by (repeat' (first | exact bxR _ _ | assumption | refine bxD ?_ | refine bxN ?_ _ | refine bxA ?_ _ | refine bxS ?_ ?_ _ | refine bxT ?_ (by assumption) | refine bxW ?_ (by assumption) | exact Nat.le_refl _ | omega | (simp; done) | (simp; omega))))
theorem rule_apply_3 (n y a b : Int) (sa : Option Addr) (len cap : Nat) (w : World) (a1 : -2147483647 ≤ a) (a2 : a ≤ 2147483647) (b1 : -2147483647 ≤ b) (b2 : b ≤ 2147483647) (y1 : -10000 ≤ y) (y2 : y ≤ 10000) :
    Calls Tryz.prog 139 #[.agg #[.int .i64 3, .int .i64 n, .slice sa len cap], .int .i64 y, .agg #[.int .i64 a, .int .i64 b]] w (ApplyPost (rawVal 3 n y a b) w) := by
  have HR := Lib.hid (show rawVal 3 n y a b = (-a, 0) by simp [rawVal])
  go_enter Tryz.func139, Tryz.ntmps139
  go_wp2_with fail
  go_quiet (fail)
  go_wp2_with fail
  go_ret2
  exact applyPost_of HR.out (by (repeat' (first | exact bxR _ _ | assumption | refine bxD ?_ | refine bxN ?_ _ | refine bxA ?_ _ | refine bxS ?_ ?_ _ | refine bxT ?_ (by assumption) | refine bxW ?_ (by assumption) | exact Nat.le_refl _ | omega | (simp; done) | (simp; omega))))
theorem rule_apply_4 (n y a b : Int) (sa : Option Addr) (len cap : Nat) (w : World) (a1 : -2147483647 ≤ a) (a2 : a ≤ 2147483647) (b1 : -2147483647 ≤ b) (b2 : b ≤ 2147483647) (y1 : -10000 ≤ y) (y2 : y ≤ 10000) :
    Calls Tryz.prog 139 #[.agg #[.int .i64 4, .int .i64 n, .slice sa len cap], .int .i64 y, .agg #[.int .i64 a, .int .i64 b]] w (ApplyPost (rawVal 4 n y a b) w) := by
  have HR := Lib.hid (show rawVal 4 n y a b = (a + b, 0) by simp [rawVal])
  go_enter Tryz.func139, Tryz.ntmps139
  go_wp2_with fail
  go_quiet (fail)
  go_wp2_with fail
  go_ret2
  exact applyPost_of HR.out (by (repeat' (first | exact bxR _ _ | assumption | refine bxD ?_ | refine bxN ?_ _ | refine bxA ?_ _ | refine bxS ?_ ?_ _ | refine bxT ?_ (by assumption) | refine bxW ?_ (by assumption) | exact Nat.le_refl _ | omega | (simp; done) | (simp; omega))))
theorem rule_apply_5 (n y a b : Int) (sa : Option Addr) (len cap : Nat) (w : World) (a1 : -2147483647 ≤ a) (a2 : a ≤ 2147483647) (b1 : -2147483647 ≤ b) (b2 : b ≤ 2147483647) (y1 : -10000 ≤ y) (y2 : y ≤ 10000) :
    Calls Tryz.prog 139 #[.agg #[.int .i64 5, .int .i64 n, .slice sa len cap], .int .i64 y, .agg #[.int .i64 a, .int .i64 b]] w (ApplyPost (rawVal 5 n y a b) w) := by
  have HR := Lib.hid (show rawVal 5 n y a b = (a - b, 0) by simp [rawVal])
  go_enter Tryz.func139, Tryz.ntmps139
  go_wp2_with fail
  go_quiet (fail)
  go_wp2_with fail
  go_ret2
  exact applyPost_of HR.out (by (repeat' (first | exact bxR _ _ | assumption | refine bxD ?_ | refine bxN ?_ _ | refine bxA ?_ _ | refine bxS ?_ ?_ _ | refine bxT ?_ (by assumption) | refine bxW ?_ (by assumption) | exact Nat.le_refl _ | omega | (simp; done) | (simp; omega))))
theorem rule_apply_6 (n y a b : Int) (sa : Option Addr) (len cap : Nat) (w : World) (a1 : -2147483647 ≤ a) (a2 : a ≤ 2147483647) (b1 : -2147483647 ≤ b) (b2 : b ≤ 2147483647) (y1 : -10000 ≤ y) (y2 : y ≤ 10000) :
    Calls Tryz.prog 139 #[.agg #[.int .i64 6, .int .i64 n, .slice sa len cap], .int .i64 y, .agg #[.int .i64 a, .int .i64 b]] w (ApplyPost (rawVal 6 n y a b) w) := by
  have HR := Lib.hid (show rawVal 6 n y a b = (a * b, 0) by simp [rawVal])
  obtain ⟨p1, p2⟩ := mul31b a1 a2 b1 b2
  go_enter Tryz.func139, Tryz.ntmps139
  go_wp2_with fail
  go_quiet (fail)
  go_wp2_with fail
  go_ret2
  exact applyPost_of HR.out (by (repeat' (first | exact bxR _ _ | assumption | refine bxD ?_ | refine bxN ?_ _ | refine bxA ?_ _ | refine bxS ?_ ?_ _ | refine bxT ?_ (by assumption) | refine bxW ?_ (by assumption) | exact Nat.le_refl _ | omega | (simp; done) | (simp; omega))))
theorem rule_apply_7 (n y a b : Int) (sa : Option Addr) (len cap : Nat) (w : World) (a1 : -2147483647 ≤ a) (a2 : a ≤ 2147483647) (b1 : -2147483647 ≤ b) (b2 : b ≤ 2147483647) (y1 : -10000 ≤ y) (y2 : y ≤ 10000) :
    Calls Tryz.prog 139 #[.agg #[.int .i64 7, .int .i64 n, .slice sa len cap], .int .i64 y, .agg #[.int .i64 a, .int .i64 b]] w (ApplyPost (rawVal 7 n y a b) w) := by
  by_cases hb : b = 0
  · subst hb
    have HR := Lib.hid (show rawVal 7 n y a 0 = (0, 1) by simp [rawVal])
    go_enter Tryz.func139, Tryz.ntmps139
    go_wp2_with fail
    go_quiet (fail)
    go_wp2_with fail
    refine (whole_Div _ _ _ (by omega) (by omega) (by omega) (by omega)).mono ?_; rw [divOut_0]; rintro e w1 ⟨rfl, ⟨nd, rfl⟩⟩
    go_wp2_with fail
    go_ret2
    exact applyPost_of HR.out (by (repeat' (first | exact bxR _ _ | assumption | refine bxD ?_ | refine bxN ?_ _ | refine bxA ?_ _ | refine bxS ?_ ?_ _ | refine bxT ?_ (by assumption) | refine bxW ?_ (by assumption) | exact Nat.le_refl _ | omega | (simp; done) | (simp; omega))))
  · have HR := Lib.hid (show rawVal 7 n y a b = (dq a b, 0) by simp [rawVal, hb])
    have HD := Lib.hid (divOut_in a b hb (by omega))
    clear hb
    go_enter Tryz.func139, Tryz.ntmps139
    go_wp2_with fail
    go_quiet (fail)
    go_wp2_with fail
    refine (whole_Div _ _ _ (by omega) (by omega) (by omega) (by omega)).mono ?_; rw [HD.out]; rintro e w1 ⟨rfl, ⟨nd, rfl⟩⟩
    go_wp2_with fail
    go_ret2
    exact applyPost_of HR.out (by (repeat' (first | exact bxR _ _ | assumption | refine bxD ?_ | refine bxN ?_ _ | refine bxA ?_ _ | refine bxS ?_ ?_ _ | refine bxT ?_ (by assumption) | refine bxW ?_ (by assumption) | exact Nat.le_refl _ | omega | (simp; done) | (simp; omega))))
theorem rule_apply_8 (n y a b : Int) (sa : Option Addr) (len cap : Nat) (w : World) (a1 : -2147483647 ≤ a) (a2 : a ≤ 2147483647) (b1 : -2147483647 ≤ b) (b2 : b ≤ 2147483647) (y1 : -10000 ≤ y) (y2 : y ≤ 10000) :
    Calls Tryz.prog 139 #[.agg #[.int .i64 8, .int .i64 n, .slice sa len cap], .int .i64 y, .agg #[.int .i64 a, .int .i64 b]] w (ApplyPost (rawVal 8 n y a b) w) := by
  by_cases hb : b = 0
  · subst hb
    have HR := Lib.hid (show rawVal 8 n y a 0 = (0, 1) by simp [rawVal])
    go_enter Tryz.func139, Tryz.ntmps139
    go_wp2_with fail
    go_quiet (fail)
    go_wp2_with fail
    refine (whole_Div _ _ _ (by omega) (by omega) (by omega) (by omega)).mono ?_; rw [divOut_0]; rintro e w1 ⟨rfl, ⟨nd, rfl⟩⟩
    go_wp2_with fail
    go_ret2
    exact applyPost_of HR.out (by (repeat' (first | exact bxR _ _ | assumption | refine bxD ?_ | refine bxN ?_ _ | refine bxA ?_ _ | refine bxS ?_ ?_ _ | refine bxT ?_ (by assumption) | refine bxW ?_ (by assumption) | exact Nat.le_refl _ | omega | (simp; done) | (simp; omega))))
  · have HR := Lib.hid (show rawVal 8 n y a b = (dr a b, 0) by simp [rawVal, hb])
    have HD := Lib.hid (divOut_in a b hb (by omega))
    clear hb
    go_enter Tryz.func139, Tryz.ntmps139
    go_wp2_with fail
    go_quiet (fail)
    go_wp2_with fail
    refine (whole_Div _ _ _ (by omega) (by omega) (by omega) (by omega)).mono ?_; rw [HD.out]; rintro e w1 ⟨rfl, ⟨nd, rfl⟩⟩
    go_wp2_with fail
    go_ret2
    exact applyPost_of HR.out (by (repeat' (first | exact bxR _ _ | assumption | refine bxD ?_ | refine bxN ?_ _ | refine bxA ?_ _ | refine bxS ?_ ?_ _ | refine bxT ?_ (by assumption) | refine bxW ?_ (by assumption) | exact Nat.le_refl _ | omega | (simp; done) | (simp; omega))))
theorem rule_apply_9 (n y a b : Int) (sa : Option Addr) (len cap : Nat) (w : World) (a1 : -2147483647 ≤ a) (a2 : a ≤ 2147483647) (b1 : -2147483647 ≤ b) (b2 : b ≤ 2147483647) (y1 : -10000 ≤ y) (y2 : y ≤ 10000) :
    Calls Tryz.prog 139 #[.agg #[.int .i64 9, .int .i64 n, .slice sa len cap], .int .i64 y, .agg #[.int .i64 a, .int .i64 b]] w (ApplyPost (rawVal 9 n y a b) w) := by
  have HR := Lib.hid (show rawVal 9 n y a b = (bitOf (decide (a < b)), 0) by simp [rawVal])
  go_enter Tryz.func139, Tryz.ntmps139
  go_wp2_with fail
  go_quiet (fail)
  go_wp2_with fail
  refine (rule_truth _ _).mono ?_; rintro e w1 ⟨rfl, rfl⟩
  go_wp2_with fail
  go_ret2
  exact applyPost_of HR.out (by (repeat' (first | exact bxR _ _ | assumption | refine bxD ?_ | refine bxN ?_ _ | refine bxA ?_ _ | refine bxS ?_ ?_ _ | refine bxT ?_ (by assumption) | refine bxW ?_ (by assumption) | exact Nat.le_refl _ | omega | (simp; done) | (simp; omega))))
theorem rule_apply_10 (n y a b : Int) (sa : Option Addr) (len cap : Nat) (w : World) (a1 : -2147483647 ≤ a) (a2 : a ≤ 2147483647) (b1 : -2147483647 ≤ b) (b2 : b ≤ 2147483647) (y1 : -10000 ≤ y) (y2 : y ≤ 10000) :
    Calls Tryz.prog 139 #[.agg #[.int .i64 10, .int .i64 n, .slice sa len cap], .int .i64 y, .agg #[.int .i64 a, .int .i64 b]] w (ApplyPost (rawVal 10 n y a b) w) := by
  have HR := Lib.hid (show rawVal 10 n y a b = (bitOf (a == b), 0) by simp [rawVal])
  go_enter Tryz.func139, Tryz.ntmps139
  go_wp2_with fail
  go_quiet (fail)
  go_wp2_with fail
  refine (rule_truth _ _).mono ?_; rintro e w1 ⟨rfl, rfl⟩
  go_wp2_with fail
  go_ret2
  exact applyPost_of HR.out (by (repeat' (first | exact bxR _ _ | assumption | refine bxD ?_ | refine bxN ?_ _ | refine bxA ?_ _ | refine bxS ?_ ?_ _ | refine bxT ?_ (by assumption) | refine bxW ?_ (by assumption) | exact Nat.le_refl _ | omega | (simp; done) | (simp; omega))))
theorem rule_apply_11 (n y a b : Int) (sa : Option Addr) (len cap : Nat) (w : World) (a1 : -2147483647 ≤ a) (a2 : a ≤ 2147483647) (b1 : -2147483647 ≤ b) (b2 : b ≤ 2147483647) (y1 : -10000 ≤ y) (y2 : y ≤ 10000) :
    Calls Tryz.prog 139 #[.agg #[.int .i64 11, .int .i64 n, .slice sa len cap], .int .i64 y, .agg #[.int .i64 a, .int .i64 b]] w (ApplyPost (rawVal 11 n y a b) w) := by
  have HR := Lib.hid (show rawVal 11 n y a b = (bitOf (a == 0), 0) by simp [rawVal])
  go_enter Tryz.func139, Tryz.ntmps139
  go_wp2_with fail
  go_quiet (fail)
  go_wp2_with fail
  refine (rule_truth _ _).mono ?_; rintro e w1 ⟨rfl, rfl⟩
  go_wp2_with fail
  go_ret2
  exact applyPost_of HR.out (by (repeat' (first | exact bxR _ _ | assumption | refine bxD ?_ | refine bxN ?_ _ | refine bxA ?_ _ | refine bxS ?_ ?_ _ | refine bxT ?_ (by assumption) | refine bxW ?_ (by assumption) | exact Nat.le_refl _ | omega | (simp; done) | (simp; omega))))
theorem rule_apply_12 (n y a b : Int) (sa : Option Addr) (len cap : Nat) (w : World) (a1 : -2147483647 ≤ a) (a2 : a ≤ 2147483647) (b1 : -2147483647 ≤ b) (b2 : b ≤ 2147483647) (y1 : -10000 ≤ y) (y2 : y ≤ 10000) :
    Calls Tryz.prog 139 #[.agg #[.int .i64 12, .int .i64 n, .slice sa len cap], .int .i64 y, .agg #[.int .i64 a, .int .i64 b]] w (ApplyPost (rawVal 12 n y a b) w) := by
  have HR := Lib.hid (show rawVal 12 n y a b = (bitOf (!(a == 0) && !(b == 0)), 0) by simp [rawVal])
  rcases Bool.eq_false_or_eq_true (a != 0) with ha | ha <;> rcases Bool.eq_false_or_eq_true (b != 0) with hb | hb
  all_goals
    have ha2 : (a == 0) = !(a != 0) := by simp [bne]
    have hb2 : (b == 0) = !(b != 0) := by simp [bne]
    rw [ha] at ha2; rw [hb] at hb2
    have HA2 := Lib.hid ha2; have HB2 := Lib.hid hb2; clear ha2 hb2
    go_enter Tryz.func139, Tryz.ntmps139
    go_wp2_with fail
    go_quiet (fail)
    go_wp2_with fail
    refine (rule_truth _ _).mono ?_; rintro e w1 ⟨rfl, rfl⟩
    go_wp2_with fail
    go_ret2
    exact applyPost_of (by rw [HR.out, HA2.out, HB2.out]; rfl) (by (repeat' (first | exact bxR _ _ | assumption | refine bxD ?_ | refine bxN ?_ _ | refine bxA ?_ _ | refine bxS ?_ ?_ _ | refine bxT ?_ (by assumption) | refine bxW ?_ (by assumption) | exact Nat.le_refl _ | omega | (simp; done) | (simp; omega))))
theorem rule_apply_13 (n y a b : Int) (sa : Option Addr) (len cap : Nat) (w : World) (a1 : -2147483647 ≤ a) (a2 : a ≤ 2147483647) (b1 : -2147483647 ≤ b) (b2 : b ≤ 2147483647) (y1 : -10000 ≤ y) (y2 : y ≤ 10000) :
    Calls Tryz.prog 139 #[.agg #[.int .i64 13, .int .i64 n, .slice sa len cap], .int .i64 y, .agg #[.int .i64 a, .int .i64 b]] w (ApplyPost (rawVal 13 n y a b) w) := by
  have HR := Lib.hid (show rawVal 13 n y a b = (bitOf (!(a == 0) || !(b == 0)), 0) by simp [rawVal])
  rcases Bool.eq_false_or_eq_true (a != 0) with ha | ha <;> rcases Bool.eq_false_or_eq_true (b != 0) with hb | hb
  all_goals
    have ha2 : (a == 0) = !(a != 0) := by simp [bne]
    have hb2 : (b == 0) = !(b != 0) := by simp [bne]
    rw [ha] at ha2; rw [hb] at hb2
    have HA2 := Lib.hid ha2; have HB2 := Lib.hid hb2; clear ha2 hb2
    go_enter Tryz.func139, Tryz.ntmps139
    go_wp2_with fail
    go_quiet (fail)
    go_wp2_with fail
    refine (rule_truth _ _).mono ?_; rintro e w1 ⟨rfl, rfl⟩
    go_wp2_with fail
    go_ret2
    exact applyPost_of (by rw [HR.out, HA2.out, HB2.out]; rfl) (by (repeat' (first | exact bxR _ _ | assumption | refine bxD ?_ | refine bxN ?_ _ | refine bxA ?_ _ | refine bxS ?_ ?_ _ | refine bxT ?_ (by assumption) | refine bxW ?_ (by assumption) | exact Nat.le_refl _ | omega | (simp; done) | (simp; omega))))
theorem rule_apply (k n y a b : Int) (sa : Option Addr) (len cap : Nat) (w : World) (k1 : 1 ≤ k) (k2 : k ≤ 13) (a1 : -2147483647 ≤ a) (a2 : a ≤ 2147483647) (b1 : -2147483647 ≤ b) (b2 : b ≤ 2147483647) (y1 : -10000 ≤ y) (y2 : y ≤ 10000) :
    Calls Tryz.prog 139 #[.agg #[.int .i64 k, .int .i64 n, .slice sa len cap], .int .i64 y, .agg #[.int .i64 a, .int .i64 b]] w (ApplyPost (rawVal k n y a b) w) := by
  obtain rfl | rfl | rfl | rfl | rfl | rfl | rfl | rfl | rfl | rfl | rfl | rfl | rfl : k = 1 ∨ k = 2 ∨ k = 3 ∨ k = 4 ∨ k = 5 ∨ k = 6 ∨ k = 7 ∨ k = 8 ∨ k = 9 ∨ k = 10 ∨ k = 11 ∨ k = 12 ∨ k = 13 := by omega
  · exact rule_apply_1 n y a b sa len cap w a1 a2 b1 b2 y1 y2
  · exact rule_apply_2 n y a b sa len cap w a1 a2 b1 b2 y1 y2
  · exact rule_apply_3 n y a b sa len cap w a1 a2 b1 b2 y1 y2
  · exact rule_apply_4 n y a b sa len cap w a1 a2 b1 b2 y1 y2
  · exact rule_apply_5 n y a b sa len cap w a1 a2 b1 b2 y1 y2
  · exact rule_apply_6 n y a b sa len cap w a1 a2 b1 b2 y1 y2
  · exact rule_apply_7 n y a b sa len cap w a1 a2 b1 b2 y1 y2
  · exact rule_apply_8 n y a b sa len cap w a1 a2 b1 b2 y1 y2
  · exact rule_apply_9 n y a b sa len cap w a1 a2 b1 b2 y1 y2
  · exact rule_apply_10 n y a b sa len cap w a1 a2 b1 b2 y1 y2
  · exact rule_apply_11 n y a b sa len cap w a1 a2 b1 b2 y1 y2
  · exact rule_apply_12 n y a b sa len cap w a1 a2 b1 b2 y1 y2
  · exact rule_apply_13 n y a b sa len cap w a1 a2 b1 b2 y1 y2
end Go.Proofs.YtdmkghgachapaabGreatDoor

set_option linter.unusedSimpArgs false
namespace Go.Proofs.YtdmkghgachapaabGreatDoor
set_option linter.unusedVariables false
set_option maxRecDepth 100000
open Go.RowKit
def EvalPost (r : Int × Int) (w : World) (e : Ending) (w' : World) : Prop := e = .returned (.tuple #[.int .i64 r.1, .int .i64 r.2]) ∧ Below w.heap.size w w'
theorem evalPost_of {r : Int × Int} {x y : Int} {w w' : World} (h : r = (x, y)) (hb : Below w.heap.size w w') : EvalPost r w (.returned (.tuple #[.int .i64 x, .int .i64 y])) w' := by
  subst h; exact ⟨rfl, hb⟩
def evalPre (ks : List Tree) (y : Int) : Nat → Int → Int → Prop
  | 0, a, b => a = 0 ∧ b = 0
  | 1, a, b => ∃ t, ks[0]? = some t ∧ (evalGo t y).2 = 0 ∧ a = (evalGo t y).1 ∧ b = 0
  | _, a, b => ∃ t u, ks[0]? = some t ∧ ks[1]? = some u ∧ (evalGo t y).2 = 0 ∧ (evalGo u y).2 = 0 ∧ a = (evalGo t y).1 ∧ b = (evalGo u y).1
theorem evalPre_done {k n y a b : Int} {ks : List Tree} {len : Nat} (hl : ks.length = len) (h2 : len ≤ 2) (h : evalPre ks y len a b) : evalGo (.node k n ks) y = finVal (rawVal k n y a b) := by
  match ks, hl with
  | [], hl => simp at hl; subst hl; obtain ⟨rfl, rfl⟩ := h; rw [evalGo_0]
  | [t], hl =>
    simp at hl; subst hl
    obtain ⟨x, h1, h2, rfl, rfl⟩ := h
    simp at h1; subst h1
    rw [evalGo_1, if_neg (by omega)]
  | [t, u], hl =>
    simp at hl; subst hl
    obtain ⟨x, z, h1, h2, h3, h4, rfl, rfl⟩ := h
    simp at h1 h2; subst h1 h2
    rw [evalGo_2, if_neg (by omega), if_neg (by omega)]
  | t :: u :: v :: l, hl => simp at hl; omega
theorem evalPre_err {k n y a b : Int} {ks : List Tree} {len i : Nat} {t : Tree} (hl : ks.length = len) (h2 : len ≤ 2) (hi : i < len) (h : evalPre ks y i a b) (ht : ks[i]? = some t) (he : (evalGo t y).2 ≠ 0) : evalGo (.node k n ks) y = (0, (evalGo t y).2) := by
  match ks, hl with
  | [], hl => simp at hl; omega
  | [t], hl =>
    simp at hl
    obtain rfl : i = 0 := by omega
    simp at ht; subst ht
    rw [evalGo_1, if_pos he]
  | [t, u], hl =>
    simp at hl
    obtain rfl | rfl : i = 0 ∨ i = 1 := by omega
    · simp at ht; subst ht
      rw [evalGo_2, if_pos he]
    · simp at ht; subst ht
      obtain ⟨x, h1, h2, rfl, rfl⟩ := h
      simp at h1; subst h1
      rw [evalGo_2, if_neg (by omega), if_pos he]
  | t :: u :: v :: l, hl => simp at hl; omega
theorem finVal_err {r : Int × Int} (h : r.2 ≠ 0) : finVal r = (0, r.2) := by rw [finVal, if_pos h]
theorem finVal_over {r : Int × Int} (h : r.2 = 0) (h' : inB (-2147483647) 2147483647 r.1 = false) : finVal r = (0, 14) := by rw [finVal, if_neg (by omega), if_pos h']
theorem finVal_in {r : Int × Int} (h : r.2 = 0) (h' : inB (-2147483647) 2147483647 r.1 = true) : finVal r = (r.1, 0) := by rw [finVal, if_neg (by omega), if_neg (by rw [h']; simp)]
theorem nodeB_kind {k n : Int} {len : Nat} (h : nodeB k n len = true) : 1 ≤ k ∧ k ≤ 13 := by
  unfold nodeB at h
  simp only [Bool.and_eq_true] at h
  exact inB_iff.1 h.1
set_option maxHeartbeats 8000000 in
theorem rule_eval (y : Int) (y1 : -10000 ≤ y) (y2 : y ≤ 10000) : ∀ (t : Tree) (w : World) (a : Option Addr) (len cap : Nat), SubAt w w.heap.size t a len → t.ok → len ≤ cap → cap ≤ 9223372036854775807 →
    Calls Tryz.prog 108 #[.agg #[.int .i64 t.kind, .int .i64 t.num, .slice a len cap], .int .i64 y] w (EvalPost (evalGo t y) w) := by
  intro t
  refine Tree.all (P := fun t => ∀ (w : World) (a : Option Addr) (len cap : Nat), SubAt w w.heap.size t a len → t.ok → len ≤ cap → cap ≤ 9223372036854775807 →
    Calls Tryz.prog 108 #[.agg #[.int .i64 t.kind, .int .i64 t.num, .slice a len cap], .int .i64 y] w (EvalPost (evalGo t y) w)) ?_ t
  intro k m ks ih w a len cap hsub hok hlc hcap
  have IH := Lib.hid ih; clear ih
  have SL := hsub.len
  simp only [Tree.kids, Tree.kind, Tree.num] at SL ⊢
  obtain ⟨hlen, hlm, _, _⟩ := SL
  have hok' := Tree.ok_node.1 hok
  rw [hlen] at hok'
  obtain ⟨hnb, hkids⟩ := hok'
  obtain ⟨k1, k2⟩ := nodeB_kind hnb
  have hlen2 := (nodeB_len hnb).1
  have HS := Lib.hid hsub; have HK := Lib.hid hkids; have HLN := Lib.hid hlen
  clear hsub hkids hlen hok hnb
  go_enter Tryz.func108, Tryz.ntmps108
  go_wp2_with fail
  have a0 := (At.new w (.cells #[.int .i64 k, .int .i64 m, .slice a len cap] 111)).alloc (.cells #[.int .i64 0, .int .i64 0] 98)
  have a1 := At.new1 w (.cells #[.int .i64 k, .int .i64 m, .slice a len cap] 111) (.cells #[.int .i64 0, .int .i64 0] 98)
  have b0 : Below w.heap.size w ((w.alloc (.cells #[.int .i64 k, .int .i64 m, .slice a len cap] 111)).alloc (.cells #[.int .i64 0, .int .i64 0] 98)) := by (repeat' (first | exact bxR _ _ | assumption | refine bxD ?_ | refine bxN ?_ _ | refine bxA ?_ _ | refine bxS ?_ ?_ _ | refine bxT ?_ (by assumption) | refine bxW ?_ (by assumption) | exact Nat.le_refl _ | omega | (simp; done) | (simp; omega)))
  generalize World.alloc (World.alloc w _) _ = W0 at a0 a1 b0 ⊢
  go_loopw [4, 5, 7, 8, 9, 10, 16] (fun _ _ _ _ _ _ i wr => ∃ (j : Nat) (x z : Int), j ≤ len ∧ i = .int .i64 j ∧ evalPre ks y j x z ∧ (-2147483647 ≤ x ∧ x ≤ 2147483647) ∧ (-2147483647 ≤ z ∧ z ≤ 2147483647) ∧ At wr w.heap.size (.cells #[.int .i64 k, .int .i64 m, .slice a len cap] 111) ∧ At wr (w.heap.size + 1) (.cells #[.int .i64 x, .int .i64 z] 98) ∧ Below w.heap.size w wr) (fun _ _ _ _ _ _ i _ => len - (intOf i).toNat)
  case atStart => exact ⟨0, 0, 0, by omega, rfl, ⟨rfl, rfl⟩, by omega, by omega, a0, a1, b0⟩
  case round =>
    clear a0 a1 b0
    obtain ⟨j, x, z, hj, rfl, hpre, ⟨x1, x2⟩, ⟨z1, z2⟩, a0, a1, b0⟩ := hrel
    have HP := Lib.hid hpre; clear hpre
    by_cases hlt : j < len
    · obtain ⟨b, off, rfl, hbB, hcs⟩ := (HS.out.below b0 (Nat.le_refl _)).kid (by omega)
      obtain ⟨k', m', ks', a', n', cc, hc0, hc1, hc2, hx, q1, q2, hk⟩ := hcs j hlt
      have hz := b0.size
      have hbz : b < wr.heap.size := by omega
      have hl1 := a1.lt
      have hcall := IH.out (.node k' m' ks') (List.mem_of_getElem? hx) (wr.alloc (.cells #[.int .i64 k', .int .i64 m', .slice a' n' cc] 111)) a' n' cc ((hk.below (below_new (Below.refl _ wr) _) (by omega)).more (by simp; omega)) (HK.out _ (List.mem_of_getElem? hx)) q1 q2
      simp only [Tree.kind, Tree.num] at hcall
      unfold EvalPost at hcall
      have hbd := evalGo_bound (.node k' m' ks') y
      have HX := Lib.hid hx; have HCL := Lib.hid hcall
      clear hcs hx hk hcall
      obtain ⟨r, hr⟩ : ∃ r, r = evalGo (.node k' m' ks') y := ⟨_, rfl⟩
      have hcl := HCL.out
      rw [← hr] at hcl hbd
      have HR := Lib.hid hr; clear hr HCL
      obtain ⟨v1, v2⟩ := r
      simp only at hcl hbd
      obtain ⟨g1, g2⟩ := hbd
      have HCL := Lib.hid hcl; clear hcl
      have a0' := a0.alloc (.cells #[.int .i64 k', .int .i64 m', .slice a' n' cc] 111)
      have a1' := a1.alloc (.cells #[.int .i64 k', .int .i64 m', .slice a' n' cc] 111)
      have b0' := below_new b0 (.cells #[.int .i64 k', .int .i64 m', .slice a' n' cc] 111)
      by_cases hv : v2 = 0
      · subst hv
        rcases (show j = 0 ∨ j = 1 by omega) with rfl | rfl
        · obtain ⟨rfl, rfl⟩ := HP.out
          simp only [Nat.zero_mul, Nat.add_zero] at hc0 hc1 hc2
          go_wp2_with (go_at_call 108; refine HCL.out.mono ?_; rintro e w2 ⟨rfl, hb⟩; (have f1 : w2.frozen? ⟨w.heap.size + 1, 0, none⟩ = false := (a1'.then_ hb).frozen 0); (have c1 : w2.cell? ⟨w.heap.size + 1, 0, none⟩ = some (.int .i64 0) := (a1'.then_ hb).cell 0))
          go_roundw
          case rel =>
            refine ⟨1, v1, 0, by omega, rfl, ⟨_, HX.out, by rw [← HR.out], by rw [← HR.out], rfl⟩, ⟨g1, g2⟩, by omega, (a0'.then_ hb).apart (by simp) _, (a1'.then_ hb).store 0 _, below_set (below_then b0' hb) (by simp) _⟩
          case measure => simp [intOf]; omega
        · obtain ⟨t0, ht0, he0, rfl, rfl⟩ := HP.out
          have HT0 := Lib.hid ht0; have HE0 := Lib.hid he0; clear ht0 he0
          generalize hx0 : (evalGo t0 y).1 = x0 at *
          have HX0 := Lib.hid hx0; clear hx0
          simp only [Nat.one_mul] at hc0 hc1 hc2
          go_wp2_with (go_at_call 108; refine HCL.out.mono ?_; rintro e w2 ⟨rfl, hb⟩; (have f1 : w2.frozen? ⟨w.heap.size + 1, 1, none⟩ = false := (a1'.then_ hb).frozen 1); (have c1 : w2.cell? ⟨w.heap.size + 1, 1, none⟩ = some (.int .i64 0) := (a1'.then_ hb).cell 1))
          go_roundw
          case rel =>
            refine ⟨2, x0, v1, by omega, rfl, ⟨t0, _, HT0.out, HX.out, HE0.out, by rw [← HR.out], HX0.out.symm, by rw [← HR.out]⟩, ⟨x1, x2⟩, ⟨g1, g2⟩, (a0'.then_ hb).apart (by simp) _, (a1'.then_ hb).store 1 _, below_set (below_then b0' hb) (by simp) _⟩
          case measure => simp [intOf]; omega
      · have hv' : (v2 != 0) = true := by simpa using hv
        have HN := Lib.hid (show evalGo (.node k m ks) y = (0, v2) by
          have := evalPre_err (k := k) (n := m) HLN.out hlen2 hlt HP.out HX.out (by rw [← HR.out]; exact hv)
          rw [this, ← HR.out])
        clear hv
        go_wp2_with (go_at_call 108; refine HCL.out.mono ?_; rintro e w2 ⟨rfl, hb⟩)
        go_ret2
        exact evalPost_of HN.out (below_then b0' hb)
    · obtain rfl : j = len := by omega
      have HN := Lib.hid (evalPre_done (k := k) (n := m) HLN.out hlen2 HP.out)
      have d0 : wr.cell? ⟨w.heap.size, 0, none⟩ = some (.int .i64 k) := a0.cell 0
      have d1 : wr.cell? ⟨w.heap.size, 1, none⟩ = some (.int .i64 m) := a0.cell 1
      have d2 : wr.cell? ⟨w.heap.size, 2, none⟩ = some (.slice a j cap) := a0.cell 2
      have d3 : wr.cell? ⟨w.heap.size + 1, 0, none⟩ = some (.int .i64 x) := a1.cell 0
      have d4 : wr.cell? ⟨w.heap.size + 1, 1, none⟩ = some (.int .i64 z) := a1.cell 1
      have hap := rule_apply k m y x z a j cap wr k1 k2 x1 x2 z1 z2 y1 y2
      obtain ⟨r, hr⟩ : ∃ r, r = rawVal k m y x z := ⟨_, rfl⟩
      have hn := HN.out
      rw [← hr] at hap hn
      unfold ApplyPost at hap
      obtain ⟨v1, v2⟩ := r
      simp only at hap
      have HAP := Lib.hid hap; have HN2 := Lib.hid hn
      clear hap hn hr HN HP
      by_cases hv : v2 = 0
      · subst hv
        rcases inB_cases (-2147483647) 2147483647 v1 with ⟨hi, i1, i2⟩ | ⟨hi, hi'⟩
        · have HF := Lib.hid (HN2.out.trans (finVal_in rfl hi))
          clear hi
          go_wp2_with (go_at_call 139; refine HAP.out.mono ?_; rintro e w2 ⟨rfl, hb⟩)
          go_ret2
          exact evalPost_of HF.out (below_then b0 hb)
        · have HF := Lib.hid (HN2.out.trans (finVal_over rfl hi))
          have hq : v1 < -2147483647 ∨ (-2147483647 ≤ v1 ∧ 2147483647 < v1) := by omega
          clear hi hi'
          rcases hq with hq | ⟨hq, hq'⟩
          all_goals
            go_wp2_with (go_at_call 139; refine HAP.out.mono ?_; rintro e w2 ⟨rfl, hb⟩)
            go_ret2
            exact evalPost_of HF.out (below_then b0 hb)
      · have hv' : (v2 != 0) = true := by simpa using hv
        have hv2 : (v2 == 0) = false := by simpa using hv
        have HF := Lib.hid (HN2.out.trans (finVal_err hv))
        clear hv
        go_wp2_with (go_at_call 139; refine HAP.out.mono ?_; rintro e w2 ⟨rfl, hb⟩)
        go_ret2
        exact evalPost_of HF.out (below_then b0 hb)
end Go.Proofs.YtdmkghgachapaabGreatDoor
