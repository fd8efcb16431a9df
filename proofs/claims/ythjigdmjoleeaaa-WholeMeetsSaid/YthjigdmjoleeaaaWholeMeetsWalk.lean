/- WholeMeets: the Go text returns true at every input, and writes nothing that was there. -/
import Derived.Test.YthjigdmjoleeaaaMeet
import Derived.ProofKit
import Derived.OpenShut
namespace Go.Proofs.Ythjigdmjoleeaaa.wholeMeetsLaw
set_option linter.unusedVariables false
set_option maxRecDepth 100000
open Go.RowKit Go.ChangeShapes Go.WideShapes

theorem lit (w : World) : Calls Try.prog 38 #[.int .i64 2, .int .i64 3, .int .i64 3, .int .i64 5] w fun e w' => e = .returned (.tuple #[.int .i64 8, .int .i64 15, .int .i64 0]) ∧ Drawn w w' := by
  refine (whole_Meet_some 2 3 3 5 w (by omega) (by omega) (by omega) (by omega) (by omega) (by omega) (by omega) (by omega) (by decide)).mono ?_
  rintro e w' ⟨x, x0, x1, ⟨k, hk⟩, ⟨l, hl⟩, rfl, hd⟩
  have : x < 15 := x1
  obtain rfl : x = 8 := by omega
  exact ⟨rfl, hd⟩
set_option maxHeartbeats 1000000 in
theorem core (a m b n : Int) (w : World) (a3 : -9223372036854775808 ≤ a) (a4 : a ≤ 9223372036854775807) (m3 : -9223372036854775808 ≤ m) (m4 : m ≤ 9223372036854775807) (b3 : -9223372036854775808 ≤ b) (b4 : b ≤ 9223372036854775807) (n3 : -9223372036854775808 ≤ n) (n4 : n ≤ 9223372036854775807) :
    Calls Try.prog 9 #[.int .i64 a, .int .i64 m, .int .i64 b, .int .i64 n] w fun e w' => e = .returned (.bool true) ∧ Drawn w w' := by
  go_enter Try.func9, Try.ntmps9
  go_wp2_with fail
  refine (lit _).mono ?_
  rintro e w1 ⟨rfl, hd1⟩
  go_wp2_with fail
  rcases inB_cases 1 2147483647 m with ⟨hm, m1, m2⟩ | ⟨hm, hm'⟩
  case inr =>
    refine (whole_Meet_arg a m b n _ (by omega)).mono ?_
    rintro e w2 ⟨rfl, hd2⟩
    go_wp2_with (go_at_call 39; refine (ref_In _ _ _ _).mono ?_; rintro e w3 ⟨rfl, rfl⟩)
    go_ret
    exact ⟨rfl, hd1.trans hd2⟩
  rcases inB_cases 1 2147483647 n with ⟨hn, n1, n2⟩ | ⟨hn, hn'⟩
  case inr =>
    refine (whole_Meet_arg a m b n _ (by omega)).mono ?_
    rintro e w2 ⟨rfl, hd2⟩
    go_wp2_with (go_at_call 39; refine (ref_In _ _ _ _).mono ?_; rintro e w3 ⟨rfl, rfl⟩)
    go_ret
    exact ⟨rfl, hd1.trans hd2⟩
  rcases inB_cases (-2147483647) 2147483647 a with ⟨ha, a1, a2⟩ | ⟨ha, ha'⟩
  case inr =>
    refine (whole_Meet_range a m b n _ m1 m2 n1 n2 (by omega)).mono ?_
    rintro e w2 ⟨rfl, hd2⟩
    go_wp2_with (first | (go_at_call 39; refine (ref_In _ _ _ _).mono ?_; rintro e w3 ⟨rfl, rfl⟩) | (go_at_call 40; refine (ref_Num _ _).mono ?_; rintro e w3 ⟨rfl, rfl⟩))
    go_ret
    exact ⟨rfl, hd1.trans hd2⟩
  rcases inB_cases (-2147483647) 2147483647 b with ⟨hb, b1, b2⟩ | ⟨hb, hb'⟩
  case inr =>
    refine (whole_Meet_range a m b n _ m1 m2 n1 n2 (by omega)).mono ?_
    rintro e w2 ⟨rfl, hd2⟩
    go_wp2_with (first | (go_at_call 39; refine (ref_In _ _ _ _).mono ?_; rintro e w3 ⟨rfl, rfl⟩) | (go_at_call 40; refine (ref_Num _ _).mono ?_; rintro e w3 ⟨rfl, rfl⟩))
    go_ret
    exact ⟨rfl, hd1.trans hd2⟩
  obtain ⟨g1, g2, g3, g4⟩ := gcd_facts m n n1
  have g5 := Int.le_of_dvd (by omega) g3
  obtain ⟨g, hg⟩ : ∃ g : Int, g = (Int.gcd m n : Int) := ⟨_, rfl⟩
  by_cases hdv : (Int.gcd m n : Int) ∣ b - a
  · refine (whole_Meet_some a m b n _ m1 m2 n1 n2 a1 a2 b1 b2 hdv).mono ?_
    rintro e w2 ⟨x, x0, x1, hx2, hx3, rfl, hd2⟩
    rw [← hg] at g1 g2 g3 g4 g5 x1 hdv ⊢
    obtain ⟨M, hM⟩ := g3
    obtain ⟨k, hk⟩ := g4
    have q1 : m / g = M := by rw [hM]; exact Int.mul_ediv_cancel_left _ (by omega)
    have q2 : n / g = k := by rw [hk]; exact Int.mul_ediv_cancel_left _ (by omega)
    have hz : ((b - a) % g != 0) = false := by simp; exact Int.emod_eq_zero_of_dvd hdv
    have hx4 : ((x - a) % m == 0) = true := by simp; exact Int.emod_eq_zero_of_dvd hx2
    have hx5 : ((x - b) % n == 0) = true := by simp; exact Int.emod_eq_zero_of_dvd hx3
    have e1 : m * k = M * n := by rw [hM, hk]; rw [Int.mul_assoc, Int.mul_left_comm]
    have hM1 : 1 ≤ M := by
      by_cases hh : M < 1
      · have := Int.mul_le_mul_of_nonneg_left (show M ≤ 0 by omega) (show 0 ≤ g by omega); omega
      · omega
    have hM2 : M ≤ m := by have := Int.mul_le_mul_of_nonneg_right g1 (show 0 ≤ M by omega); omega
    rw [q2] at x1 ⊢
    rw [e1] at x1 ⊢
    have p2 : M * n ≤ 4611686014132420609 := by
      have := Int.mul_le_mul (show M ≤ 2147483647 by omega) n2 (by omega) (by omega); omega
    have p1 : 1 ≤ M * n := by have := Int.mul_le_mul hM1 n1 (by omega) (by omega); omega
    have hin := inB_yes (h := M * n - 1) x0 (by omega)
    have hz0 : (g == 0) = false := by simp; omega
    have HG := Lib.hid hg; clear hg hM hk e1 hdv hx2 hx3
    go_wp2_with (first | (go_at_call 39; refine (ref_In _ _ _ _).mono ?_; rintro e w3 ⟨rfl, rfl⟩) | (go_at_call 40; refine (ref_Num _ _).mono ?_; rintro e w3 ⟨rfl, rfl⟩) | (go_at_call 41; refine (ref_Mod _ _ _ (by omega) (by omega) (by omega) (by omega)).mono ?_; rintro e w3 ⟨rfl, rfl⟩) | (go_at_call 36; refine (ref_Gcd m n _ m3 m4 n3 n4).mono ?_; rw [← HG.out]; rintro e w3 ⟨rfl, rfl⟩))
    go_ret
    exact ⟨rfl, hd1.trans hd2⟩
  · refine (whole_Meet_none a m b n _ m1 m2 n1 n2 a1 a2 b1 b2 hdv).mono ?_
    rintro e w2 ⟨rfl, hd2⟩
    have hz : ((b - a) % g != 0) = true := by
      rw [bne_iff_ne, hg]; intro e; exact hdv (Int.dvd_of_emod_eq_zero e)
    rw [← hg] at g1 g2 g5
    have hz0 : (g == 0) = false := by simp; omega
    have HG := Lib.hid hg; clear hg hdv g3 g4
    go_wp2_with (first | (go_at_call 39; refine (ref_In _ _ _ _).mono ?_; rintro e w3 ⟨rfl, rfl⟩) | (go_at_call 40; refine (ref_Num _ _).mono ?_; rintro e w3 ⟨rfl, rfl⟩) | (go_at_call 41; refine (ref_Mod _ _ _ (by omega) (by omega) (by omega) (by omega)).mono ?_; rintro e w3 ⟨rfl, rfl⟩) | (go_at_call 36; refine (ref_Gcd m n _ m3 m4 n3 n4).mono ?_; rw [← HG.out]; rintro e w3 ⟨rfl, rfl⟩))
    go_ret
    exact ⟨rfl, hd1.trans hd2⟩
theorem walk {H : Type} {enc : TypeId × Value → H} {v0 v1 v2 v3 : Value} {d0 d1 d2 d3 : DataW H} {p0 p1 p2 p3 : List MemPlace} {base : Nat} (W : World)
    (o0 : Value.okWide Try.prog W .any base 3 v0) (h0 : DataW.Trod enc Try.prog W 0 (fun _ => true) true 3 v0 d0 p0)
    (o1 : Value.okWide Try.prog W .any base 3 v1) (h1 : DataW.Trod enc Try.prog W 0 (fun _ => true) true 3 v1 d1 p1)
    (o2 : Value.okWide Try.prog W .any base 3 v2) (h2 : DataW.Trod enc Try.prog W 0 (fun _ => true) true 3 v2 d2 p2)
    (o3 : Value.okWide Try.prog W .any base 3 v3) (h3 : DataW.Trod enc Try.prog W 0 (fun _ => true) true 3 v3 d3 p3) :
    Calls Try.prog 9 #[v0, v1, v2, v3] W fun e w' => e = .returned (.bool true) ∧ Below W.heap.size W w' := by
  obtain ⟨a0, rfl, rfl, rfl, w0⟩ := open_int Try.underlying3 o0 h0
  have b0 := bounds_i64 w0
  obtain ⟨a1, rfl, rfl, rfl, w1⟩ := open_int Try.underlying3 o1 h1
  have b1 := bounds_i64 w1
  obtain ⟨a2, rfl, rfl, rfl, w2⟩ := open_int Try.underlying3 o2 h2
  have b2 := bounds_i64 w2
  obtain ⟨a3, rfl, rfl, rfl, w3⟩ := open_int Try.underlying3 o3 h3
  have b3 := bounds_i64 w3
  exact (core a0 a1 a2 a3 W b0.1 b0.2 b1.1 b1.2 b2.1 b2.2 b3.1 b3.2).mono fun e w' ⟨he, hd⟩ => ⟨he, hd.below _⟩
end Go.Proofs.Ythjigdmjoleeaaa.wholeMeetsLaw
