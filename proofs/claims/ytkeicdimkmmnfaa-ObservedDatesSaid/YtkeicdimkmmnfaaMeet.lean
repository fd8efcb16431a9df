/- Contract of whole.Meet. -/
import Derived.Test.YtkeicdimkmmnfaaSolve
namespace Go.Proofs.Ytkeicdimkmmnfaa
set_option linter.unusedVariables false
set_option maxRecDepth 100000
open Go.RowKit

/-! ### The plain law -/
theorem dvd_of_coprime {n c d : Int} (hg : Int.gcd n c = 1) (h : n ∣ c * d) : n ∣ d := by
  rw [← Int.natAbs_dvd_natAbs] at h ⊢
  rw [Int.natAbs_mul] at h
  exact Nat.Coprime.dvd_of_dvd_mul_left (show Nat.Coprime n.natAbs c.natAbs from hg) h
theorem small_dvd {n d : Int} (h : n ∣ d) (h1 : -n < d) (h2 : d < n) : d = 0 := by
  obtain ⟨k, rfl⟩ := h
  rcases Int.lt_trichotomy k 0 with hk | hk | hk
  · have := Int.mul_le_mul_of_nonneg_left (show k ≤ -1 by omega) (show 0 ≤ n by omega); omega
  · rw [hk]; simp
  · have := Int.mul_le_mul_of_nonneg_left (show 1 ≤ k by omega) (show 0 ≤ n by omega); omega
def IsSol (a b m x : Int) : Prop := 0 ≤ x ∧ x < m / (Int.gcd a m : Int) ∧ m ∣ a * x - b
theorem sol_unique (a b m x y : Int) (hm : 1 ≤ m) (hx : IsSol a b m x) (hy : IsSol a b m y) : x = y := by
  obtain ⟨g1, g2, ⟨a', ha⟩, ⟨n, hn⟩⟩ := gcd_facts a m hm
  have hc : Int.gcd n a' = 1 := by
    have h := Int.gcd_ediv_gcd_ediv_gcd (i := a) (j := m) (by omega)
    generalize hG : (Int.gcd a m : Int) = g at *
    rw [ha, hn, Int.mul_ediv_cancel_left _ (by omega), Int.mul_ediv_cancel_left _ (by omega), Int.gcd_comm] at h
    exact h
  obtain ⟨x0, x1, x2⟩ := hx
  obtain ⟨y0, y1, y2⟩ := hy
  have h1 : m ∣ a * (x - y) := by
    have := Int.dvd_sub x2 y2
    rwa [show a * x - b - (a * y - b) = a * (x - y) by rw [Int.mul_sub]; omega] at this
  generalize hG : (Int.gcd a m : Int) = g at *
  rw [hn, Int.mul_ediv_cancel_left _ (by omega)] at x1 y1
  rw [hn, ha, Int.mul_assoc] at h1
  have h2 : n ∣ a' * (x - y) := Int.dvd_of_mul_dvd_mul_left (by omega) h1
  have := small_dvd (dvd_of_coprime hc h2) (by omega) (by omega)
  omega
/-- The least solution. -/
noncomputable def solveX (a b m : Int) : Int := Classical.epsilon (IsSol a b m)
theorem solveX_eq {a b m x : Int} (hm : 1 ≤ m) (h : IsSol a b m x) : solveX a b m = x := sol_unique a b m _ _ hm (Classical.epsilon_spec ⟨x, h⟩) h
/-- Solve as a function. -/
theorem whole_Solve_fn (a b m : Int) (w : World) (m1 : 1 ≤ m) (m2 : m ≤ 2147483647) (a1 : -2147483647 ≤ a) (a2 : a ≤ 2147483647) (b1 : -2147483647 ≤ b) (b2 : b ≤ 2147483647) (h : (Int.gcd a m : Int) ∣ b) :
    Calls Try.prog 126 #[.int .i64 a, .int .i64 b, .int .i64 m] w fun e w' => e = .returned (.tuple #[.int .i64 (solveX a b m), .int .i64 0]) ∧ Drawn w w' :=
  (whole_Solve_some a b m w m1 m2 a1 a2 b1 b2 h).mono fun e w' ⟨x, x0, x1, x2, he, hd⟩ => ⟨by rw [he, solveX_eq m1 ⟨x0, x1, x2⟩], hd⟩
theorem solveX_is (a b m : Int) (m1 : 1 ≤ m) (m2 : m ≤ 2147483647) (a1 : -2147483647 ≤ a) (a2 : a ≤ 2147483647) (b1 : -2147483647 ≤ b) (b2 : b ≤ 2147483647) (h : (Int.gcd a m : Int) ∣ b) (w : World) : IsSol a b m (solveX a b m) := by
  obtain ⟨e, w', fr, hR, _⟩ := whole_Solve_some a b m w m1 m2 a1 a2 b1 b2 h []
  obtain ⟨x, x0, x1, x2, _⟩ := hR
  rw [solveX_eq m1 ⟨x0, x1, x2⟩]
  exact ⟨x0, x1, x2⟩

theorem meet_law (a m b n g M k D s : Int) (hg : 1 ≤ g) (hM : m = g * M) (hk : n = g * k) (hD : b - a = g * D) (hm : 1 ≤ m) (hk1 : 1 ≤ k) (hs : k ∣ M % k * s - D % k) :
    0 ≤ a % m + m * ((s + a / m) % k) ∧ a % m + m * ((s + a / m) % k) < m * k ∧ m ∣ a % m + m * ((s + a / m) % k) - a ∧ n ∣ a % m + m * ((s + a / m) % k) - b := by
  have e1 := Int.emod_add_mul_ediv a m
  have e2 := Int.emod_nonneg a (show m ≠ 0 by omega)
  have e3 := Int.emod_lt_of_pos a (show 0 < m by omega)
  have e4 := Int.emod_nonneg (s + a / m) (show k ≠ 0 by omega)
  have e5 := Int.emod_lt_of_pos (s + a / m) (show 0 < k by omega)
  have e6 := Int.emod_add_mul_ediv (s + a / m) k
  have e7 := Int.emod_add_mul_ediv M k
  have e8 := Int.emod_add_mul_ediv D k
  have h1 : k ∣ M * s - D := by
    have : M * s - D = (M % k * s - D % k) + k * (M / k * s - D / k) := by
      have h : M * s = M % k * s + k * (M / k) * s := by rw [← Int.add_mul, e7]
      rw [Int.mul_sub, ← Int.mul_assoc]; omega
    rw [this]
    exact Int.dvd_add hs (Int.dvd_mul_right k _)
  have h2 : n ∣ m * s - (b - a) := by
    rw [hk, hM, hD, Int.mul_assoc, ← Int.mul_sub]
    exact Int.mul_dvd_mul_left g h1
  generalize (s + a / m) % k = t at *
  generalize hq : (s + a / m) / k = u at *
  have hx : a % m + m * t - (a + m * s) = -(m * k * u) := by
    have : t = s + a / m - k * u := by omega
    rw [this, Int.mul_sub, Int.mul_add, Int.mul_assoc]; omega
  refine ⟨?_, ?_, ?_, ?_⟩
  · have := Int.mul_nonneg (show 0 ≤ m by omega) e4; omega
  · have := Int.mul_le_mul_of_nonneg_left (show t ≤ k - 1 by omega) (show 0 ≤ m by omega)
    rw [Int.mul_sub] at this; omega
  · exact ⟨s - k * u, by rw [Int.mul_sub, ← Int.mul_assoc]; omega⟩
  · have h3 : a % m + m * t - b = (m * s - (b - a)) - n * (M * u) := by
      have : m * k * u = n * (M * u) := by rw [hk, hM]; rw [Int.mul_assoc g, Int.mul_assoc g, Int.mul_assoc g, Int.mul_comm M k, Int.mul_assoc]
      omega
    rw [h3]
    exact Int.dvd_sub h2 (Int.dvd_mul_right n _)

theorem whole_Meet_arg (a m b n : Int) (w : World) (h : ¬ ((1 ≤ m ∧ m ≤ 2147483647) ∧ 1 ≤ n ∧ n ≤ 2147483647)) :
    Calls Try.prog 99 #[.int .i64 a, .int .i64 m, .int .i64 b, .int .i64 n] w fun e w' => e = .returned (.tuple #[.int .i64 0, .int .i64 0, .int .i64 1]) ∧ Drawn w w' := by
  rcases inB_cases 1 2147483647 m with ⟨hm, hm'⟩ | ⟨hm, hm'⟩
  · have hn := inB_no (show ¬ (1 ≤ n ∧ n ≤ 2147483647) by omega)
    go_enter Try.func99, Try.ntmps99
    go_wp2_with (go_at_call 124; refine (whole_natural _ _).mono ?_; rintro e w1 ⟨rfl, rfl⟩)
    go_ret3
    exact ⟨rfl, Drawn.refl _⟩
  · go_enter Try.func99, Try.ntmps99
    go_wp2_with (go_at_call 124; refine (whole_natural _ _).mono ?_; rintro e w1 ⟨rfl, rfl⟩)
    go_ret3
    exact ⟨rfl, Drawn.refl _⟩
theorem whole_Meet_range (a m b n : Int) (w : World) (m1 : 1 ≤ m) (m2 : m ≤ 2147483647) (n1 : 1 ≤ n) (n2 : n ≤ 2147483647) (h : ¬ ((-2147483647 ≤ a ∧ a ≤ 2147483647) ∧ -2147483647 ≤ b ∧ b ≤ 2147483647)) :
    Calls Try.prog 99 #[.int .i64 a, .int .i64 m, .int .i64 b, .int .i64 n] w fun e w' => e = .returned (.tuple #[.int .i64 0, .int .i64 0, .int .i64 3]) ∧ Drawn w w' := by
  have hm := inB_yes m1 m2
  have hn := inB_yes n1 n2
  rcases inB_cases (-2147483647) 2147483647 a with ⟨ha, ha'⟩ | ⟨ha, ha'⟩
  · have hb := inB_no (show ¬ (-2147483647 ≤ b ∧ b ≤ 2147483647) by omega)
    go_enter Try.func99, Try.ntmps99
    go_wp2_with (first | (go_at_call 124; refine (whole_natural _ _).mono ?_; rintro e w1 ⟨rfl, rfl⟩) | (go_at_call 125; refine (whole_inRange _ _).mono ?_; rintro e w1 ⟨rfl, rfl⟩))
    go_ret3
    exact ⟨rfl, Drawn.refl _⟩
  · go_enter Try.func99, Try.ntmps99
    go_wp2_with (first | (go_at_call 124; refine (whole_natural _ _).mono ?_; rintro e w1 ⟨rfl, rfl⟩) | (go_at_call 125; refine (whole_inRange _ _).mono ?_; rintro e w1 ⟨rfl, rfl⟩))
    go_ret3
    exact ⟨rfl, Drawn.refl _⟩
theorem gcdOut_small (m n : Int) (m1 : 1 ≤ m) (m2 : m ≤ 2147483647) : gcdOut m n = .tuple #[.int .i64 (Int.gcd m n : Int), .int .i64 0] := by
  have := Int.le_of_dvd (by omega) (Int.gcd_dvd_left (a := m) (b := n))
  rw [gcdOut, if_pos (by omega)]
theorem whole_Meet_none (a m b n : Int) (w : World) (m1 : 1 ≤ m) (m2 : m ≤ 2147483647) (n1 : 1 ≤ n) (n2 : n ≤ 2147483647) (a1 : -2147483647 ≤ a) (a2 : a ≤ 2147483647) (b1 : -2147483647 ≤ b) (b2 : b ≤ 2147483647) (h : ¬ (Int.gcd m n : Int) ∣ b - a) :
    Calls Try.prog 99 #[.int .i64 a, .int .i64 m, .int .i64 b, .int .i64 n] w fun e w' => e = .returned (.tuple #[.int .i64 0, .int .i64 0, .int .i64 6]) ∧ Drawn w w' := by
  have hm := inB_yes m1 m2
  have hn := inB_yes n1 n2
  have ha := inB_yes a1 a2
  have hb := inB_yes b1 b2
  obtain ⟨g1, g2, _, _⟩ := gcd_facts m n n1
  have go := gcdOut_small m n m1 m2
  have hz : ((b - a) % (Int.gcd m n : Int) != 0) = true := by
    rw [bne_iff_ne]; intro e; exact h (Int.dvd_of_emod_eq_zero e)
  have GO := Lib.hid go; clear go h
  go_enter Try.func99, Try.ntmps99
  go_wp2_with (first | (go_at_call 124; refine (whole_natural _ _).mono ?_; rintro e w1 ⟨rfl, rfl⟩) | (go_at_call 125; refine (whole_inRange _ _).mono ?_; rintro e w1 ⟨rfl, rfl⟩))
  refine (whole_Gcd m n _ (by omega) (by omega) (by omega) (by omega)).mono ?_
  rw [GO.out]
  rintro e w1 ⟨rfl, hd1⟩
  generalize (Int.gcd m n : Int) = g at *
  go_wp2_with fail
  refine (whole_Mod _ _ _ (by omega) (by omega) (by omega) (by omega)).mono ?_
  rintro e w2 ⟨rfl, hd2⟩
  go_wp2_with fail
  go_ret3
  exact ⟨rfl, hd1.trans hd2⟩
/-- What Meet returns where there is a common number. -/
def Met (a m b n : Int) (w : World) (e : Ending) (w' : World) : Prop :=
  ∃ x : Int, 0 ≤ x ∧ x < m * (n / (Int.gcd m n : Int)) ∧ m ∣ x - a ∧ n ∣ x - b ∧ e = .returned (.tuple #[.int .i64 x, .int .i64 (m * (n / (Int.gcd m n : Int))), .int .i64 0]) ∧ Drawn w w'
set_option maxHeartbeats 1000000 in
theorem whole_Meet_some (a m b n : Int) (w : World) (m1 : 1 ≤ m) (m2 : m ≤ 2147483647) (n1 : 1 ≤ n) (n2 : n ≤ 2147483647) (a1 : -2147483647 ≤ a) (a2 : a ≤ 2147483647) (b1 : -2147483647 ≤ b) (b2 : b ≤ 2147483647) (h : (Int.gcd m n : Int) ∣ b - a) :
    Calls Try.prog 99 #[.int .i64 a, .int .i64 m, .int .i64 b, .int .i64 n] w (Met a m b n w) := by
  have hm := inB_yes m1 m2
  have hn := inB_yes n1 n2
  have ha := inB_yes a1 a2
  have hb := inB_yes b1 b2
  obtain ⟨g1, g2, g3, g4⟩ := gcd_facts m n n1
  have go := gcdOut_small m n m1 m2
  have hc0 := Int.gcd_ediv_gcd_ediv_gcd (i := m) (j := n) (by omega)
  obtain ⟨g, hg⟩ : ∃ g : Int, g = (Int.gcd m n : Int) := ⟨_, rfl⟩
  have HG := Lib.hid hg
  rw [← hg] at g1 g2 g3 g4 go h hc0
  obtain ⟨M, hM⟩ := g3
  obtain ⟨k, hk⟩ := g4
  obtain ⟨D, hD⟩ := h
  have q1 : m / g = M := by rw [hM]; exact Int.mul_ediv_cancel_left _ (by omega)
  have q2 : n / g = k := by rw [hk]; exact Int.mul_ediv_cancel_left _ (by omega)
  have q3 : (b - a).tdiv g = D := by rw [hD]; exact Int.mul_tdiv_cancel_left _ (by omega)
  have q4 : (b - a) / g = D := by rw [hD]; exact Int.mul_ediv_cancel_left _ (by omega)
  have q5 : (b - a) % g = 0 := by rw [hD]; exact Int.mul_emod_right _ _
  rw [q1, q2] at hc0
  have hM1 : 1 ≤ M := by
    by_cases hh : M < 1
    · have := Int.mul_le_mul_of_nonneg_left (show M ≤ 0 by omega) (show 0 ≤ g by omega); omega
    · omega
  have hM2 : M ≤ m := by have := Int.mul_le_mul_of_nonneg_right g1 (show 0 ≤ M by omega); omega
  have hk1 : 1 ≤ k := by
    by_cases hh : k < 1
    · have := Int.mul_le_mul_of_nonneg_left (show k ≤ 0 by omega) (show 0 ≤ g by omega); omega
    · omega
  have hk2 : k ≤ n := by have := Int.mul_le_mul_of_nonneg_right g1 (show 0 ≤ k by omega); omega
  have hD1 : -4294967296 ≤ D ∧ D ≤ 4294967296 := by
    by_cases hh : D < 0
    · have := Int.mul_le_mul_of_nonpos_right g1 (show D ≤ 0 by omega); omega
    · have := Int.mul_le_mul_of_nonneg_right g1 (show 0 ≤ D by omega); omega
  obtain ⟨hD3, hD4⟩ := hD1
  have u1 := Int.emod_nonneg M (show k ≠ 0 by omega)
  have u2 := Int.emod_lt_of_pos M (show 0 < k by omega)
  have u3 := Int.emod_nonneg D (show k ≠ 0 by omega)
  have u4 := Int.emod_lt_of_pos D (show 0 < k by omega)
  have u5 := Int.emod_nonneg a (show m ≠ 0 by omega)
  have u6 := Int.emod_lt_of_pos a (show 0 < m by omega)
  have hone : (Int.gcd (M % k) k : Int) ∣ D % k := by
    have : Int.gcd (M % k) k = 1 := by
      have e : M % k = M - k * (M / k) := by have := Int.emod_add_mul_ediv M k; omega
      rw [e, Int.gcd_sub_mul_left_left]; exact hc0
    rw [this]; exact Int.one_dvd _
  obtain ⟨s1, s2, s3⟩ := solveX_is (M % k) (D % k) k hk1 (by omega) (by omega) (by omega) (by omega) (by omega) hone w
  have s4 : solveX (M % k) (D % k) k < k := by
    have h1 := gcd_facts (M % k) k hk1
    have := Int.ediv_le_self (Int.gcd (M % k) k : Int) (show 0 ≤ k by omega)
    omega
  have law := meet_law a m b n g M k D (solveX (M % k) (D % k) k) g1 hM hk hD m1 hk1 s3
  have fn := fun w => whole_Solve_fn (M % k) (D % k) k w hk1 (by omega) (by omega) (by omega) (by omega) (by omega) hone
  generalize solveX (M % k) (D % k) k = s at *
  have w1 : IntKind.i64.wrap (b - a) = b - a := IntWalk.i64_in _ (by omega)
  have w2 : IntKind.i64.wrap D = D := IntWalk.i64_in _ (by omega)
  have w3 : IntKind.i64.wrap M = M := IntWalk.i64_in _ (by omega)
  have r1 : a % m - a = m * -(a / m) := by have := Int.emod_add_mul_ediv a m; rw [Int.mul_neg]; omega
  have r2 : (a % m - a).tdiv m = -(a / m) := by rw [r1]; exact Int.mul_tdiv_cancel_left _ (by omega)
  have r3 : (a % m - a) / m = -(a / m) := by rw [r1]; exact Int.mul_ediv_cancel_left _ (by omega)
  have r4 : -2147483648 ≤ a / m ∧ a / m ≤ 2147483648 := by
    constructor
    · exact Int.le_ediv_of_mul_le (by omega) (by have := Int.mul_le_mul_of_nonpos_left (show (-2147483648 : Int) ≤ 0 by omega) m1; omega)
    · exact Int.ediv_le_of_le_mul (by omega) (by have := Int.mul_le_mul_of_nonneg_left m1 (show (0 : Int) ≤ 2147483648 by omega); omega)
  obtain ⟨r5, r6⟩ := r4
  have v1 := Int.emod_nonneg (s + a / m) (show k ≠ 0 by omega)
  have v2 := Int.emod_lt_of_pos (s + a / m) (show 0 < k by omega)
  have p1 : 0 ≤ m * k := Int.mul_nonneg (by omega) (by omega)
  have p2 : m * k ≤ 4611686014132420609 := by
    have := Int.mul_le_mul m2 (show k ≤ 2147483647 by omega) (by omega) (by omega); omega
  have p3 : 1 ≤ m * k := by have := Int.mul_le_mul m1 hk1 (by omega) (by omega); omega
  have p4 := Int.mul_nonneg (show 0 ≤ m by omega) v1
  have p5 : m * ((s + a / m) % k) ≤ m * k := Int.mul_le_mul_of_nonneg_left (by omega) (by omega)
  have hz0 : (g == 0) = false := by simp; omega
  have hzm : (m == 0) = false := by simp; omega
  have LAW := Lib.hid law; have FN := Lib.hid fn; have GO := Lib.hid go; have R1 := Lib.hid r1; have Q2 := Lib.hid q2
  clear law fn go hg r1 hM hk hD hc0 hone s3
  go_enter Try.func99, Try.ntmps99
  go_wp2_with (first | (go_at_call 124; refine (whole_natural _ _).mono ?_; rintro e w1 ⟨rfl, rfl⟩) | (go_at_call 125; refine (whole_inRange _ _).mono ?_; rintro e w1 ⟨rfl, rfl⟩))
  refine (whole_Gcd m n _ (by omega) (by omega) (by omega) (by omega)).mono ?_
  rw [GO.out]
  rintro e w1 ⟨rfl, hd1⟩
  go_wp2_with fail
  refine (whole_Mod _ _ _ (by omega) (by omega) (by omega) (by omega)).mono ?_
  rintro e w2 ⟨rfl, hd2⟩
  go_wp2_with fail
  go_quiet (first | (go_at_call 100; exact Calls.quiet_of (whole_Mod _ _ _ (by omega) (by omega) (by omega) (by omega))) | (go_at_call 126; exact Calls.quiet_of (FN.out _)))
  go_wp2_with fail
  refine (whole_Mod a m _ (by omega) (by omega) (by omega) (by omega)).mono ?_
  rintro e w3 ⟨rfl, hd3⟩
  go_wp2_with fail
  refine (whole_Mod _ _ _ (by omega) (by omega) (by omega) (by omega)).mono ?_
  rintro e w4 ⟨rfl, hd4⟩
  go_wp2_with fail
  refine (whole_Mod _ _ _ (by omega) (by omega) (by omega) (by omega)).mono ?_
  rintro e w5 ⟨rfl, hd5⟩
  go_wp2_with fail
  go_ret3
  obtain ⟨x0, x1, x2, x3⟩ := LAW.out
  refine ⟨a % m + m * ((s + a / m) % k), x0, by rw [← HG.out, Q2.out]; exact x1, x2, x3, ?_, (((hd1.trans hd2).trans (Drawn.refl _ |>.drewN _)).trans hd3).trans (hd4.trans hd5)⟩
  rw [← HG.out, Q2.out]
  exact ret_ints3 (Int.emod_eq_of_lt x0 x1) rfl rfl
end Go.Proofs.Ytkeicdimkmmnfaa
