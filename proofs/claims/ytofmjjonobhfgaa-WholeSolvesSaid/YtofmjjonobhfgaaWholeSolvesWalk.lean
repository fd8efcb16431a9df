/- WholeSolves: the Go text returns true at every input, and writes nothing that was there. -/
import Derived.Test.YtofmjjonobhfgaaSolve
import Derived.ProofKit
import Derived.OpenShut
namespace Go.Proofs.Ytofmjjonobhfgaa.wholeSolvesLaw
set_option linter.unusedVariables false
open Go.RowKit Go.ChangeShapes Go.WideShapes

theorem lit (w : World) : Calls Try.prog 35 #[.int .i64 3, .int .i64 2, .int .i64 7] w fun e w' => e = .returned (.tuple #[.int .i64 3, .int .i64 0]) ∧ Drawn w w' := by
  refine (whole_Solve_some 3 2 7 w (by omega) (by omega) (by omega) (by omega) (by omega) (by omega) (by decide)).mono ?_
  rintro e w' ⟨x, x0, x1, hx, rfl, hd⟩
  have : x < 7 := x1
  obtain ⟨k, hk⟩ := hx
  obtain rfl : x = 3 := by omega
  exact ⟨rfl, hd⟩
theorem fin (a b m x : Int) (m1 : 1 ≤ m) (h : m ∣ a * x - b) : (a % m * x - b) % m = 0 := by
  have h1 : a % m * x - b = (a * x - b) - m * (a / m * x) := by
    have := Int.emod_add_mul_ediv a m
    have h3 : a * x = a % m * x + m * (a / m) * x := by rw [← Int.add_mul, this]
    rw [← Int.mul_assoc]; omega
  rw [h1]
  exact Int.emod_eq_zero_of_dvd (Int.dvd_sub h (Int.dvd_mul_right m _))
theorem core (a b m : Int) (w : World) (a3 : -9223372036854775808 ≤ a) (a4 : a ≤ 9223372036854775807) (b3 : -9223372036854775808 ≤ b) (b4 : b ≤ 9223372036854775807) (m3 : -9223372036854775808 ≤ m) (m4 : m ≤ 9223372036854775807) :
    Calls Try.prog 11 #[.int .i64 a, .int .i64 b, .int .i64 m] w fun e w' => e = .returned (.bool true) ∧ Drawn w w' := by
  go_enter Try.func11, Try.ntmps11
  go_wp2_with fail
  refine (lit _).mono ?_
  rintro e w1 ⟨rfl, hd1⟩
  go_wp2_with fail
  rcases inB_cases 1 2147483647 m with ⟨hm, m1, m2⟩ | ⟨hm, hm'⟩
  case inr =>
    refine (whole_Solve_arg a b m _ hm').mono ?_
    rintro e w2 ⟨rfl, hd2⟩
    go_wp2_with fail
    refine (ref_In m _ _ _).mono ?_; rintro e w3 ⟨rfl, rfl⟩
    go_wp2_with fail
    go_ret
    exact ⟨rfl, hd1.trans hd2⟩
  rcases inB_cases (-2147483647) 2147483647 a with ⟨ha, a1, a2⟩ | ⟨ha, ha'⟩
  case inr =>
    refine (whole_Solve_range a b m _ ⟨m1, m2⟩ (by omega)).mono ?_
    rintro e w2 ⟨rfl, hd2⟩
    go_wp2_with fail
    refine (ref_In m _ _ _).mono ?_; rintro e w3 ⟨rfl, rfl⟩
    go_wp2_with fail
    refine (ref_Num a _).mono ?_; rintro e w3 ⟨rfl, rfl⟩
    go_wp2_with fail
    go_ret
    exact ⟨rfl, hd1.trans hd2⟩
  rcases inB_cases (-2147483647) 2147483647 b with ⟨hb, b1, b2⟩ | ⟨hb, hb'⟩
  case inr =>
    refine (whole_Solve_range a b m _ ⟨m1, m2⟩ (by omega)).mono ?_
    rintro e w2 ⟨rfl, hd2⟩
    go_wp2_with fail
    refine (ref_In m _ _ _).mono ?_; rintro e w3 ⟨rfl, rfl⟩
    go_wp2_with fail
    refine (ref_Num a _).mono ?_; rintro e w3 ⟨rfl, rfl⟩
    go_wp2_with fail
    refine (ref_Num b _).mono ?_; rintro e w3 ⟨rfl, rfl⟩
    go_wp2_with fail
    go_ret
    exact ⟨rfl, hd1.trans hd2⟩
  obtain ⟨g1, g2, g3, g4⟩ := gcd_facts a m m1
  obtain ⟨g, hg⟩ : ∃ g : Int, g = (Int.gcd a m : Int) := ⟨_, rfl⟩
  by_cases hdv : (Int.gcd a m : Int) ∣ b
  · refine (whole_Solve_some a b m _ m1 m2 a1 a2 b1 b2 hdv).mono ?_
    rintro e w2 ⟨x, x0, x1, hx, rfl, hd2⟩
    have hz : (b % g != 0) = false := by simp; rw [hg]; exact Int.emod_eq_zero_of_dvd hdv
    have hf : ((a % m * x - b) % m == 0) = true := by simp; exact fin a b m x m1 hx
    rw [← hg] at g1 g2 x1
    have hin : inB 0 (m / g - 1) x = true := inB_yes x0 (by omega)
    have hq1 := Int.ediv_nonneg (show 0 ≤ m by omega) (show 0 ≤ g by omega)
    have hq2 := Int.ediv_le_self g (show 0 ≤ m by omega)
    have hmod := Int.emod_nonneg a (show m ≠ 0 by omega)
    have hmod2 := Int.emod_lt_of_pos a (show 0 < m by omega)
    have hp1 := Int.mul_nonneg hmod x0
    have hp2 : a % m * x ≤ 4611686018427387904 := by
      have := Int.mul_le_mul (show a % m ≤ 2147483648 by omega) (show x ≤ 2147483648 by omega) x0 (by omega); omega
    have hz0 : (g == 0) = false := by simp; omega
    have HG := Lib.hid hg; clear hg hdv hx g3 g4
    go_wp2_with fail
    refine (ref_In m _ _ _).mono ?_; rintro e w3 ⟨rfl, rfl⟩
    go_wp2_with fail
    refine (ref_Num a _).mono ?_; rintro e w3 ⟨rfl, rfl⟩
    go_wp2_with fail
    refine (ref_Num b _).mono ?_; rintro e w3 ⟨rfl, rfl⟩
    go_wp2_with fail
    refine (ref_Gcd a m _ a3 a4 m3 m4).mono ?_; rintro e w3 ⟨rfl, rfl⟩
    rw [← HG.out]
    go_wp2_with fail
    refine (ref_Mod b g _ b3 b4 g1 (by omega)).mono ?_; rintro e w3 ⟨rfl, rfl⟩
    go_wp2_with fail
    refine (ref_In x _ _ _).mono ?_; rintro e w3 ⟨rfl, rfl⟩
    go_wp2_with fail
    refine (ref_Mod a m _ a3 a4 m1 (by omega)).mono ?_; rintro e w3 ⟨rfl, rfl⟩
    go_wp2_with fail
    refine (ref_Mod _ m _ (by omega) (by omega) m1 (by omega)).mono ?_; rintro e w3 ⟨rfl, rfl⟩
    go_wp2_with fail
    go_ret
    exact ⟨rfl, hd1.trans hd2⟩
  · refine (whole_Solve_none a b m _ m1 m2 a1 a2 b1 b2 hdv).mono ?_
    rintro e w2 ⟨rfl, hd2⟩
    have hz : (b % g != 0) = true := by
      rw [bne_iff_ne, hg]; intro e; exact hdv (Int.dvd_of_emod_eq_zero e)
    rw [← hg] at g1 g2
    have hz0 : (g == 0) = false := by simp; omega
    have HG := Lib.hid hg; clear hg hdv g3 g4
    go_wp2_with fail
    refine (ref_In m _ _ _).mono ?_; rintro e w3 ⟨rfl, rfl⟩
    go_wp2_with fail
    refine (ref_Num a _).mono ?_; rintro e w3 ⟨rfl, rfl⟩
    go_wp2_with fail
    refine (ref_Num b _).mono ?_; rintro e w3 ⟨rfl, rfl⟩
    go_wp2_with fail
    refine (ref_Gcd a m _ a3 a4 m3 m4).mono ?_; rintro e w3 ⟨rfl, rfl⟩
    rw [← HG.out]
    go_wp2_with fail
    refine (ref_Mod b g _ b3 b4 g1 (by omega)).mono ?_; rintro e w3 ⟨rfl, rfl⟩
    go_wp2_with fail
    go_ret
    exact ⟨rfl, hd1.trans hd2⟩
theorem walk {H : Type} {enc : TypeId × Value → H} {v0 v1 v2 : Value} {d0 d1 d2 : DataW H} {p0 p1 p2 : List MemPlace} {base : Nat} (W : World)
    (o0 : Value.okWide Try.prog W .any base 3 v0) (h0 : DataW.Trod enc Try.prog W 0 (fun _ => true) true 3 v0 d0 p0)
    (o1 : Value.okWide Try.prog W .any base 3 v1) (h1 : DataW.Trod enc Try.prog W 0 (fun _ => true) true 3 v1 d1 p1)
    (o2 : Value.okWide Try.prog W .any base 3 v2) (h2 : DataW.Trod enc Try.prog W 0 (fun _ => true) true 3 v2 d2 p2) :
    Calls Try.prog 11 #[v0, v1, v2] W fun e w' => e = .returned (.bool true) ∧ Below W.heap.size W w' := by
  obtain ⟨a0, rfl, rfl, rfl, w0⟩ := open_int Try.underlying3 o0 h0
  have b0 := bounds_i64 w0
  obtain ⟨a1, rfl, rfl, rfl, w1⟩ := open_int Try.underlying3 o1 h1
  have b1 := bounds_i64 w1
  obtain ⟨a2, rfl, rfl, rfl, w2⟩ := open_int Try.underlying3 o2 h2
  have b2 := bounds_i64 w2
  exact (core a0 a1 a2 W b0.1 b0.2 b1.1 b1.2 b2.1 b2.2).mono fun e w' ⟨he, hd⟩ => ⟨he, hd.below _⟩
end Go.Proofs.Ytofmjjonobhfgaa.wholeSolvesLaw
