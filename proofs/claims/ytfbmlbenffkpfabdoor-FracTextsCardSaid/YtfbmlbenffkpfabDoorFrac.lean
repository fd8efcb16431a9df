/- Contracts of package frac and of the reference's fractions, first part: Check, Of. -/
import Derived.Test.YtfbmlbenffkpfabDoorMem2
import Derived.Test.YtfbmlbenffkpfabDoorWhole
import Derived.Test.YtfbmlbenffkpfabDoorRef
namespace Go.Proofs.YtfbmlbenffkpfabDoor
set_option linter.unusedVariables false
set_option maxRecDepth 100000
open Go.RowKit

/-- Whether n / d is a fraction. -/
def fracOk (n d : Int) : Bool := decide (1 ≤ d ∧ d ≤ 2147483647 ∧ -2147483647 ≤ n ∧ n ≤ 2147483647 ∧ Int.gcd n d = 1)
theorem fracOk_cases (n d : Int) : (fracOk n d = true ∧ 1 ≤ d ∧ d ≤ 2147483647 ∧ -2147483647 ≤ n ∧ n ≤ 2147483647 ∧ Int.gcd n d = 1) ∨ (fracOk n d = false ∧ ¬ (1 ≤ d ∧ d ≤ 2147483647 ∧ -2147483647 ≤ n ∧ n ≤ 2147483647 ∧ Int.gcd n d = 1)) := by
  by_cases c : 1 ≤ d ∧ d ≤ 2147483647 ∧ -2147483647 ≤ n ∧ n ≤ 2147483647 ∧ Int.gcd n d = 1
  · exact .inl ⟨decide_eq_true c, c⟩
  · exact .inr ⟨decide_eq_false c, c⟩
def fracErr (n d : Int) : Int := if fracOk n d then 0 else 8
theorem gcdOut_den (n d : Int) (d1 : 1 ≤ d) (d2 : d ≤ 2147483647) : gcdOut n d = .tuple #[.int .i64 (Int.gcd n d : Int), .int .i64 0] := by
  have := Int.le_of_dvd (by omega) (Int.gcd_dvd_right (a := n) (b := d))
  rw [gcdOut, if_pos (by omega)]

theorem frac_Check (n d : Int) (w : World) (h1 : -9223372036854775808 ≤ n) (h2 : n ≤ 9223372036854775807) (h3 : -9223372036854775808 ≤ d) (h4 : d ≤ 9223372036854775807) :
    Calls Tryd.prog 24 #[.agg #[.int .i64 n, .int .i64 d]] w fun e w' => e = .returned (.int .i64 (fracErr n d)) ∧ Below w.heap.size w w' := by
  by_cases hr : 1 ≤ d ∧ d ≤ 2147483647 ∧ -2147483647 ≤ n ∧ n ≤ 2147483647
  case neg =>
    have ho := Lib.hid (show fracErr n d = 8 by rw [fracErr, show fracOk n d = false from decide_eq_false (by omega)]; rfl)
    have hq : d < 1 ∨ (1 ≤ d ∧ 2147483647 < d) ∨ (1 ≤ d ∧ d ≤ 2147483647 ∧ n < -2147483647) ∨ (1 ≤ d ∧ d ≤ 2147483647 ∧ -2147483647 ≤ n ∧ 2147483647 < n) := by omega
    clear hr
    rcases hq with q | ⟨q1, q2⟩ | ⟨q1, q2, q3⟩ | ⟨q1, q2, q3, q4⟩
    all_goals
      go_enter Tryd.func24, Tryd.ntmps24
      go_wp2_with fail
      go_ret
      exact ⟨ret_int (by rw [ho.out]), (Below.refl _ _).alloc (Nat.le_refl _) _⟩
  obtain ⟨q1, q2, q3, q4⟩ := hr
  have GO := Lib.hid (gcdOut_den n d q1 q2)
  by_cases hg : Int.gcd n d = 1
  · have ho := Lib.hid (show fracErr n d = 0 by rw [fracErr, show fracOk n d = true from decide_eq_true ⟨q1, q2, q3, q4, hg⟩]; rfl)
    have hgb : ((Int.gcd n d : Int) != 1) = false := by rw [hg]; rfl
    clear hg
    go_enter Tryd.func24, Tryd.ntmps24
    go_wp2_with fail
    refine (whole_Gcd n d _ h1 h2 h3 h4).mono ?_
    rw [GO.out]
    rintro e w1 ⟨rfl, hd⟩
    go_wp2_with fail
    go_ret
    exact ⟨ret_int (by rw [ho.out]), ((Below.refl _ _).alloc (Nat.le_refl _) _).trans (hd.below _)⟩
  · have ho := Lib.hid (show fracErr n d = 8 by rw [fracErr, show fracOk n d = false from decide_eq_false (fun h => hg h.2.2.2.2)]; rfl)
    have hgb : ((Int.gcd n d : Int) != 1) = true := by simp; omega
    clear hg
    go_enter Tryd.func24, Tryd.ntmps24
    go_wp2_with fail
    refine (whole_Gcd n d _ h1 h2 h3 h4).mono ?_
    rw [GO.out]
    rintro e w1 ⟨rfl, hd⟩
    go_wp2_with fail
    go_ret
    exact ⟨ret_int (by rw [ho.out]), ((Below.refl _ _).alloc (Nat.le_refl _) _).trans (hd.below _)⟩
theorem ref_FracOK (n d : Int) (w : World) (h1 : -9223372036854775808 ≤ n) (h2 : n ≤ 9223372036854775807) (h3 : -9223372036854775808 ≤ d) (h4 : d ≤ 9223372036854775807) :
    Calls Tryd.prog 8 #[.agg #[.int .i64 n, .int .i64 d]] w fun e w' => e = .returned (.bool (fracOk n d)) ∧ Below w.heap.size w w' := by
  rcases inB_cases 1 2147483647 d with ⟨hd, d1, d2⟩ | ⟨hd, hd'⟩
  case inr =>
    have ho := Lib.hid (show fracOk n d = false from decide_eq_false (by omega))
    go_enter Tryd.func8, Tryd.ntmps8
    go_wp2_with (go_at_call 26; refine (ref_In _ _ _ _).mono ?_; rintro e w3 ⟨rfl, rfl⟩)
    go_ret
    exact ⟨ret_bool (by rw [ho.out]), (Below.refl _ _).alloc (Nat.le_refl _) _⟩
  rcases inB_cases (-2147483647) 2147483647 n with ⟨hn, n1, n2⟩ | ⟨hn, hn'⟩
  case inr =>
    have ho := Lib.hid (show fracOk n d = false from decide_eq_false (by omega))
    go_enter Tryd.func8, Tryd.ntmps8
    go_wp2_with (first | (go_at_call 26; refine (ref_In _ _ _ _).mono ?_; rintro e w3 ⟨rfl, rfl⟩) | (go_at_call 27; refine (ref_Num _ _).mono ?_; rintro e w3 ⟨rfl, rfl⟩))
    go_ret
    exact ⟨ret_bool (by rw [ho.out]), (Below.refl _ _).alloc (Nat.le_refl _) _⟩
  by_cases hg : Int.gcd n d = 1
  · have ho := Lib.hid (show fracOk n d = true from decide_eq_true ⟨d1, d2, n1, n2, hg⟩)
    have hgb : ((Int.gcd n d : Int) == 1) = true := by rw [hg]; rfl
    clear hg
    go_enter Tryd.func8, Tryd.ntmps8
    go_wp2_with (first | (go_at_call 26; refine (ref_In _ _ _ _).mono ?_; rintro e w3 ⟨rfl, rfl⟩) | (go_at_call 27; refine (ref_Num _ _).mono ?_; rintro e w3 ⟨rfl, rfl⟩) | (go_at_call 28; refine (ref_Gcd n d _ h1 h2 h3 h4).mono ?_; rintro e w3 ⟨rfl, rfl⟩))
    go_ret
    exact ⟨ret_bool (by rw [ho.out]), (Below.refl _ _).alloc (Nat.le_refl _) _⟩
  · have ho := Lib.hid (show fracOk n d = false from decide_eq_false (fun h => hg h.2.2.2.2))
    have hgb : ((Int.gcd n d : Int) == 1) = false := by simp; omega
    clear hg
    go_enter Tryd.func8, Tryd.ntmps8
    go_wp2_with (first | (go_at_call 26; refine (ref_In _ _ _ _).mono ?_; rintro e w3 ⟨rfl, rfl⟩) | (go_at_call 27; refine (ref_Num _ _).mono ?_; rintro e w3 ⟨rfl, rfl⟩) | (go_at_call 28; refine (ref_Gcd n d _ h1 h2 h3 h4).mono ?_; rintro e w3 ⟨rfl, rfl⟩))
    go_ret
    exact ⟨ret_bool (by rw [ho.out]), (Below.refl _ _).alloc (Nat.le_refl _) _⟩

/-- The fraction n / d in lowest terms. -/
def fracVal (n d : Int) (e : Int) : Value := .tuple #[.agg #[.int .i64 n, .int .i64 d], .int .i64 e]
def fracNum (n d : Int) : Int := if (n < 0) ≠ (d < 0) then -((n.natAbs / Int.gcd n d : Nat) : Int) else ((n.natAbs / Int.gcd n d : Nat) : Int)
def fracDen (n d : Int) : Int := ((d.natAbs / Int.gcd n d : Nat) : Int)
def ofOut (n d : Int) : Value :=
  if d = 0 then fracVal 0 0 1 else
  if 2147483647 < n.natAbs / Int.gcd n d ∨ 2147483647 < d.natAbs / Int.gcd n d then fracVal 0 0 14 else fracVal (fracNum n d) (fracDen n d) 0
end Go.Proofs.YtfbmlbenffkpfabDoor
