/- Contracts of package whole: invert and Solve. -/
import Derived.Test.YtkeicdimkmmnfaaWhole
import Derived.Test.YtkeicdimkmmnfaaRef
namespace Go.Proofs.Ytkeicdimkmmnfaa
set_option linter.unusedVariables false
set_option maxRecDepth 100000
open Go.RowKit

/-! ### The plain law: Euclid's algorithm -/
/-- The state of the loop: x, y have opposite signs, |x| h + |y| g = m. -/
def Eu (A m x y g h : Int) : Prop :=
  0 ≤ g ∧ 0 ≤ h ∧ g ≤ m ∧ h ≤ m ∧ -m ≤ x ∧ x ≤ m ∧ -m ≤ y ∧ y ≤ m ∧ m ∣ x * A - g ∧ m ∣ y * A - h ∧ Int.gcd g h = Int.gcd A m ∧
  ∃ s p r : Int, (s = 1 ∨ s = -1) ∧ 0 ≤ p ∧ 0 ≤ r ∧ x = s * p ∧ y = -(s * r) ∧ p * h + r * g = m
theorem Eu.start (A m : Int) (hA : 0 ≤ A) (hAm : A < m) : Eu A m 1 0 A m :=
  ⟨hA, by omega, by omega, by omega, by omega, by omega, by omega, by omega, by simp, by simp, rfl, 1, 1, 0, .inl rfl, by omega, by omega, by omega, by omega, by omega⟩
theorem int_gcd_step (g h : Int) : Int.gcd h (g - g / h * h) = Int.gcd g h := by
  rw [Int.gcd_sub_mul_right_right, Int.gcd_comm]
theorem le_of_mul_le {p h m : Int} (hp : 0 ≤ p) (hh : 1 ≤ h) (hm : p * h ≤ m) : p ≤ m := by
  have := Int.mul_le_mul_of_nonneg_left hh hp; omega
theorem Eu.step {A m x y g h : Int} (E : Eu A m x y g h) (hh : 1 ≤ h) :
    Eu A m y (x - g / h * y) h (g - g / h * h) ∧ 0 ≤ g / h * h ∧ g / h * h ≤ g ∧ -m ≤ g / h * y ∧ g / h * y ≤ m ∧ g - g / h * h < h ∧ -m ≤ x - g / h * y ∧ x - g / h * y ≤ m := by
  obtain ⟨g0, h0, gm, hm, x1, x2, y1, y2, dx, dy, hg, s, p, r, hs, hp, hr, hx, hy, hi⟩ := E
  have hq : 0 ≤ g / h := Int.ediv_nonneg g0 (by omega)
  have e1 := Int.emod_add_mul_ediv g h
  have e2 := Int.emod_nonneg g (show h ≠ 0 by omega)
  have e3 := Int.emod_lt_of_pos g (show 0 < h by omega)
  have e4 : g / h * h = g - g % h := by rw [Int.mul_comm]; omega
  have hqh : 0 ≤ g / h * h := Int.mul_nonneg hq (by omega)
  have hqr : 0 ≤ g / h * r := Int.mul_nonneg hq hr
  have key : r * (g - g / h * h) + (p + g / h * r) * h = m := by
    rw [Int.mul_sub, Int.add_mul, ← hi, Int.mul_assoc, Int.mul_left_comm r, Int.mul_comm r g, Int.mul_comm r h]
    generalize g / h * (h * r) = z
    omega
  have hb : (p + g / h * r) * h ≤ m := by
    have : 0 ≤ r * (g - g / h * h) := Int.mul_nonneg hr (by omega)
    omega
  have hb1 : p + g / h * r ≤ m := le_of_mul_le (by omega) hh hb
  have hyq : g / h * y = -(s * (g / h * r)) := by rw [hy, Int.mul_neg, Int.mul_left_comm]
  have hxq : x - g / h * y = s * (p + g / h * r) := by rw [hyq, hx, Int.mul_add]; omega
  refine ⟨⟨by omega, by omega, hm, by omega, y1, y2, ?_, ?_, dy, ?_, ?_, ?_⟩, hqh, by omega, ?_, ?_, by omega, ?_, ?_⟩
  · rw [hxq]; rcases hs with rfl | rfl <;> omega
  · rw [hxq]; rcases hs with rfl | rfl <;> omega
  · have : (x - g / h * y) * A - (g - g / h * h) = (x * A - g) - g / h * (y * A - h) := by
      rw [Int.sub_mul, Int.mul_sub, Int.mul_assoc]; omega
    rw [this]
    exact Int.dvd_sub dx (Int.dvd_mul_of_dvd_right dy)
  · rw [int_gcd_step, hg]
  · exact ⟨-s, r, p + g / h * r, by omega, hr, by omega, by rw [hy, Int.neg_mul], by rw [hxq, Int.neg_mul]; omega, key⟩
  · rw [hyq]; rcases hs with rfl | rfl <;> omega
  · rw [hyq]; rcases hs with rfl | rfl <;> omega
  · rw [hxq]; rcases hs with rfl | rfl <;> omega
  · rw [hxq]; rcases hs with rfl | rfl <;> omega
theorem Eu.out {a m x y g : Int} (hm : 1 ≤ m) (E : Eu (a % m) m x y g 0) : g = (Int.gcd a m : Int) ∧ m ∣ (x % m) * a - (Int.gcd a m : Int) := by
  obtain ⟨g0, _, _, _, _, _, _, _, dx, _, hg, _⟩ := E
  have e : g = (Int.gcd a m : Int) := by
    have e0 : a % m = a - m * (a / m) := by have := Int.emod_add_mul_ediv a m; omega
    rw [e0, Int.gcd_sub_mul_left_left, Int.gcd_zero_right] at hg
    rw [← hg]; omega
  refine ⟨e, ?_⟩
  rw [← e]
  have h1 : m ∣ x * a - g := by
    have h2 : x * a - g = (x * (a % m) - g) + m * (x * (a / m)) := by
      have := Int.emod_add_mul_ediv a m
      have h3 : x * a = x * (a % m) + x * (m * (a / m)) := by rw [← Int.mul_add, this]
      rw [Int.mul_left_comm m x]; omega
    rw [h2]
    exact Int.dvd_add dx (Int.dvd_mul_right m _)
  have h4 : x % m * a - g = (x * a - g) - m * (x / m * a) := by
    have := Int.emod_add_mul_ediv x m
    have h5 : x * a = x % m * a + m * (x / m) * a := by rw [← Int.add_mul, this]
    rw [← Int.mul_assoc]; omega
  rw [h4]
  exact Int.dvd_sub h1 (Int.dvd_mul_right m _)

/-- What invert returns. -/
def Inverted (a m : Int) (w : World) (e : Ending) (w' : World) : Prop :=
  ∃ x : Int, 0 ≤ x ∧ x < m ∧ m ∣ x * a - (Int.gcd a m : Int) ∧ e = .returned (.tuple #[.int .i64 x, .int .i64 (Int.gcd a m : Int)]) ∧ Drawn w w'
theorem whole_invert (a m : Int) (w : World) (h1 : -9223372036854775808 ≤ a) (h2 : a ≤ 9223372036854775807) (h3 : 1 ≤ m) (h4 : m ≤ 2147483647) :
    Calls Try.prog 139 #[.int .i64 a, .int .i64 m] w (Inverted a m w) := by
  have hA := Int.emod_nonneg a (show m ≠ 0 by omega)
  have hA2 := Int.emod_lt_of_pos a (show 0 < m by omega)
  go_enter Try.func139, Try.ntmps139
  go_wp2_with fail
  refine (whole_Mod _ _ _ h1 h2 h3 (by omega)).mono ?_; rintro e w1 ⟨rfl, hd1⟩
  go_wp2_with fail
  go_loop [6, 7, 8, 9, 10] (fun x y g h _ => ∃ x' y' g' h' : Int, Eu (a % m) m x' y' g' h' ∧ x = .int .i64 x' ∧ y = .int .i64 y' ∧ g = .int .i64 g' ∧ h = .int .i64 h') (fun _ _ _ h _ => (intOf h).toNat)
  case atStart => exact ⟨1, 0, a % m, m, Eu.start _ _ hA hA2, rfl, rfl, rfl, rfl⟩
  case round =>
    obtain ⟨x, y, g, h, hE, rfl, rfl, rfl, rfl⟩ := hrel
    have HE := Lib.hid hE
    obtain ⟨g0, h0, gm, hm, x1, x2, y1, y2, -⟩ := hE
    by_cases hz : h = 0
    · subst hz
      go_wp2_with fail
      refine (whole_Mod _ _ _ (by omega) (by omega) h3 (by omega)).mono ?_; rintro e w2 ⟨rfl, hd2⟩
      go_wp2_with fail
      go_ret2
      obtain ⟨e1, e2⟩ := HE.out.out h3
      exact ⟨x % m, Int.emod_nonneg _ (by omega), Int.emod_lt_of_pos _ (by omega), e2, by rw [← e1]; rfl, hd1.trans hd2⟩
    · have hz1 : (h != 0) = true := by simp [hz]
      have hz2 : (h == 0) = false := by simp [hz]
      obtain ⟨hE', q1, q2, q3, q4, q5, q6, q7⟩ := HE.out.step (by omega)
      have HE' := Lib.hid hE'; clear hE'
      have hq : 0 ≤ g / h := Int.ediv_nonneg g0 (by omega)
      have hq2 := Int.ediv_le_self h g0
      go_wp2_with fail
      go_round
      case rel => exact ⟨_, _, _, _, HE'.out, rfl, rfl, rfl, rfl⟩
      case measure => simp [intOf]; omega

theorem whole_inRange (x : Int) (w : World) :
    Calls Try.prog 125 #[.int .i64 x] w fun e w' => e = .returned (.bool (inB (-2147483647) 2147483647 x)) ∧ w = w' := by
  by_cases h1 : -2147483647 ≤ x
  · by_cases h2 : x ≤ 2147483647
    · go_enter Try.func125, Try.ntmps125
      go_wp2
      go_ret
      exact ⟨ret_bool (inB_yes h1 h2).symm, rfl⟩
    · go_enter Try.func125, Try.ntmps125
      go_wp2
      go_ret
      exact ⟨ret_bool (inB_no (by omega)).symm, rfl⟩
  · go_enter Try.func125, Try.ntmps125
    go_wp2
    go_ret
    exact ⟨ret_bool (inB_no (by omega)).symm, rfl⟩
theorem whole_natural (x : Int) (w : World) :
    Calls Try.prog 124 #[.int .i64 x] w fun e w' => e = .returned (.bool (inB 1 2147483647 x)) ∧ w = w' := by
  by_cases h1 : 1 ≤ x
  · by_cases h2 : x ≤ 2147483647
    · go_enter Try.func124, Try.ntmps124
      go_wp2
      go_ret
      exact ⟨ret_bool (inB_yes h1 h2).symm, rfl⟩
    · go_enter Try.func124, Try.ntmps124
      go_wp2
      go_ret
      exact ⟨ret_bool (inB_no (by omega)).symm, rfl⟩
  · go_enter Try.func124, Try.ntmps124
    go_wp2
    go_ret
    exact ⟨ret_bool (inB_no (by omega)).symm, rfl⟩

theorem solve_law (a b m x g n b' : Int) (hg : 1 ≤ g) (hm : m = g * n) (hn : 1 ≤ n) (hb : b = g * b') (ha : g ∣ a) (hx : m ∣ x * a - g) :
    m ∣ a * (x % n * (b' % n) % n) - b := by
  obtain ⟨a', rfl⟩ := ha
  subst hm hb
  have h1 : n ∣ x * a' - 1 := by
    rw [show x * (g * a') - g = g * (x * a' - 1) by rw [Int.mul_left_comm, Int.mul_sub]; omega] at hx
    exact Int.dvd_of_mul_dvd_mul_left (by omega) hx
  rw [show g * a' * (x % n * (b' % n) % n) - g * b' = g * (a' * (x % n * (b' % n) % n) - b') by rw [Int.mul_sub, Int.mul_assoc]]
  refine Int.mul_dvd_mul_left g ?_
  rw [← Int.mul_emod]
  have h2 : n ∣ x * b' - x * b' % n := ⟨x * b' / n, by have := Int.emod_add_mul_ediv (x * b') n; omega⟩
  have h3 : a' * (x * b' % n) - b' = b' * (x * a' - 1) - a' * (x * b' - x * b' % n) := by
    rw [Int.mul_sub, Int.mul_sub, show b' * (x * a') = a' * (x * b') by rw [Int.mul_left_comm b', Int.mul_left_comm a', Int.mul_comm a']]
    omega
  rw [h3]
  exact Int.dvd_sub (Int.dvd_mul_of_dvd_right h1) (Int.dvd_mul_of_dvd_right h2)

/-- What Solve returns at arguments in range where g divides b. -/
def Solved (a b m : Int) (w : World) (e : Ending) (w' : World) : Prop :=
  ∃ x : Int, 0 ≤ x ∧ x < m / (Int.gcd a m : Int) ∧ m ∣ a * x - b ∧ e = .returned (.tuple #[.int .i64 x, .int .i64 0]) ∧ Drawn w w'
theorem whole_Solve_arg (a b m : Int) (w : World) (h : ¬ (1 ≤ m ∧ m ≤ 2147483647)) :
    Calls Try.prog 126 #[.int .i64 a, .int .i64 b, .int .i64 m] w fun e w' => e = .returned (.tuple #[.int .i64 0, .int .i64 1]) ∧ Drawn w w' := by
  have hb := inB_no h
  go_enter Try.func126, Try.ntmps126
  go_wp2_with fail
  refine (whole_natural _ _).mono ?_; rintro e w1 ⟨rfl, rfl⟩
  go_wp2_with fail
  go_ret2
  exact ⟨rfl, Drawn.refl _⟩
theorem whole_Solve_range (a b m : Int) (w : World) (hm : 1 ≤ m ∧ m ≤ 2147483647) (h : ¬ ((-2147483647 ≤ a ∧ a ≤ 2147483647) ∧ -2147483647 ≤ b ∧ b ≤ 2147483647)) :
    Calls Try.prog 126 #[.int .i64 a, .int .i64 b, .int .i64 m] w fun e w' => e = .returned (.tuple #[.int .i64 0, .int .i64 3]) ∧ Drawn w w' := by
  have hb := inB_yes hm.1 hm.2
  rcases inB_cases (-2147483647) 2147483647 a with ⟨ha, ha'⟩ | ⟨ha, ha'⟩
  · have hb2 := inB_no (show ¬ (-2147483647 ≤ b ∧ b ≤ 2147483647) by omega)
    go_enter Try.func126, Try.ntmps126
    go_wp2_with fail
    refine (whole_natural _ _).mono ?_; rintro e w1 ⟨rfl, rfl⟩
    go_wp2_with fail
    refine (whole_inRange _ _).mono ?_; rintro e w1 ⟨rfl, rfl⟩
    go_wp2_with fail
    refine (whole_inRange _ _).mono ?_; rintro e w1 ⟨rfl, rfl⟩
    go_wp2_with fail
    go_ret2
    exact ⟨rfl, Drawn.refl _⟩
  · go_enter Try.func126, Try.ntmps126
    go_wp2_with fail
    refine (whole_natural _ _).mono ?_; rintro e w1 ⟨rfl, rfl⟩
    go_wp2_with fail
    refine (whole_inRange _ _).mono ?_; rintro e w1 ⟨rfl, rfl⟩
    go_wp2_with fail
    go_ret2
    exact ⟨rfl, Drawn.refl _⟩
theorem gcd_facts (a m : Int) (hm : 1 ≤ m) : 1 ≤ (Int.gcd a m : Int) ∧ (Int.gcd a m : Int) ≤ m ∧ (Int.gcd a m : Int) ∣ a ∧ (Int.gcd a m : Int) ∣ m := by
  have h1 := Int.gcd_dvd_left (a := a) (b := m)
  have h2 := Int.gcd_dvd_right (a := a) (b := m)
  have h3 := Int.le_of_dvd (by omega) h2
  have h4 : 0 < Int.gcd a m := Int.gcd_pos_of_ne_zero_right a (by omega)
  exact ⟨by omega, h3, h1, h2⟩
theorem whole_Solve_none (a b m : Int) (w : World) (m1 : 1 ≤ m) (m2 : m ≤ 2147483647) (a1 : -2147483647 ≤ a) (a2 : a ≤ 2147483647) (b1 : -2147483647 ≤ b) (b2 : b ≤ 2147483647) (h : ¬ (Int.gcd a m : Int) ∣ b) :
    Calls Try.prog 126 #[.int .i64 a, .int .i64 b, .int .i64 m] w fun e w' => e = .returned (.tuple #[.int .i64 0, .int .i64 6]) ∧ Drawn w w' := by
  have hm := inB_yes m1 m2
  have ha := inB_yes a1 a2
  have hb := inB_yes b1 b2
  obtain ⟨g1, g2, _, _⟩ := gcd_facts a m m1
  obtain ⟨g, hg⟩ : ∃ g : Int, g = (Int.gcd a m : Int) := ⟨_, rfl⟩
  have i1 := whole_invert a m
  rw [← hg] at g1 g2 h
  have hz0 : (g == 0) = false := by simp; omega
  have hz1 : (b.tmod g != 0) = true := by
    rw [bne_iff_ne]; intro e; exact h (Int.dvd_of_tmod_eq_zero e)
  have hz2 : (b % g != 0) = true := by
    rw [bne_iff_ne]; intro e; exact h (Int.dvd_of_emod_eq_zero e)
  have HG := Lib.hid hg; have I1 := Lib.hid i1; clear hg i1 h
  go_enter Try.func126, Try.ntmps126
  go_wp2_with fail
  refine (whole_natural _ _).mono ?_; rintro e w1 ⟨rfl, rfl⟩
  go_wp2_with fail
  refine (whole_inRange _ _).mono ?_; rintro e w1 ⟨rfl, rfl⟩
  go_wp2_with fail
  refine (whole_inRange _ _).mono ?_; rintro e w1 ⟨rfl, rfl⟩
  go_wp2_with fail
  refine (I1.out _ (by omega) (by omega) m1 m2).mono ?_; rintro e w1 ⟨x, x0, x1, hx, rfl, hd⟩
  clear hx
  rw [← HG.out]
  go_wp2_with fail
  go_ret2
  exact ⟨rfl, hd⟩
theorem whole_Solve_some (a b m : Int) (w : World) (m1 : 1 ≤ m) (m2 : m ≤ 2147483647) (a1 : -2147483647 ≤ a) (a2 : a ≤ 2147483647) (b1 : -2147483647 ≤ b) (b2 : b ≤ 2147483647) (h : (Int.gcd a m : Int) ∣ b) :
    Calls Try.prog 126 #[.int .i64 a, .int .i64 b, .int .i64 m] w (Solved a b m w) := by
  have hm := inB_yes m1 m2
  have ha := inB_yes a1 a2
  have hb := inB_yes b1 b2
  obtain ⟨g1, g2, g3, g4⟩ := gcd_facts a m m1
  obtain ⟨g, hg⟩ : ∃ g : Int, g = (Int.gcd a m : Int) := ⟨_, rfl⟩
  have i1 := whole_invert a m
  rw [← hg] at g1 g2 g3 g4 h
  obtain ⟨n, hn⟩ := g4
  obtain ⟨b', hb'⟩ := h
  have hn1 : 1 ≤ n := by
    by_cases h : n < 1
    · have := Int.mul_le_mul_of_nonneg_left (show n ≤ 0 by omega) (show 0 ≤ g by omega); omega
    · omega
  have hn2 : n ≤ m := by have := Int.mul_le_mul_of_nonneg_right g1 (show 0 ≤ n by omega); omega
  have hb1 : -2147483647 ≤ b' ∧ b' ≤ 2147483647 := by
    by_cases h : b' < 0
    · have := Int.mul_le_mul_of_nonpos_right g1 (show b' ≤ 0 by omega); omega
    · have := Int.mul_le_mul_of_nonneg_right g1 (show 0 ≤ b' by omega); omega
  obtain ⟨hb3, hb4⟩ := hb1
  have hz0 : (g == 0) = false := by simp; omega
  have hz1 : b.tmod g = 0 := by rw [hb']; exact Int.mul_tmod_right g b'
  have hz2 : b % g = 0 := by rw [hb']; exact Int.mul_emod_right g b'
  have hz3 : b.tdiv g = b' := by rw [hb']; exact Int.mul_tdiv_cancel_left b' (by omega)
  have hz4 : b / g = b' := by rw [hb']; exact Int.mul_ediv_cancel_left b' (by omega)
  have hz5 : m / g = n := by rw [hn]; exact Int.mul_ediv_cancel_left n (by omega)
  have fin := fun x hx => solve_law a b m x g n b' g1 hn hn1 hb' g3 hx
  have FIN := Lib.hid fin; have HG := Lib.hid hg; have I1 := Lib.hid i1; clear fin hg i1 hn hb' g3
  go_enter Try.func126, Try.ntmps126
  go_wp2_with fail
  refine (whole_natural _ _).mono ?_; rintro e w1 ⟨rfl, rfl⟩
  go_wp2_with fail
  refine (whole_inRange _ _).mono ?_; rintro e w1 ⟨rfl, rfl⟩
  go_wp2_with fail
  refine (whole_inRange _ _).mono ?_; rintro e w1 ⟨rfl, rfl⟩
  go_wp2_with fail
  refine (I1.out _ (by omega) (by omega) m1 m2).mono ?_; rintro e w1 ⟨x, x0, x1, hx, rfl, hd⟩
  have HX := Lib.hid hx; clear hx
  rw [← HG.out]
  have p1 := Int.emod_nonneg x (show n ≠ 0 by omega)
  have p2 := Int.emod_lt_of_pos x (show 0 < n by omega)
  have p3 := Int.emod_nonneg b' (show n ≠ 0 by omega)
  have p4 := Int.emod_lt_of_pos b' (show 0 < n by omega)
  have p5 := Int.mul_nonneg p1 p3
  have p6 : x % n * (b' % n) ≤ 4611686018427387904 := by
    have := Int.mul_le_mul (show x % n ≤ 2147483648 by omega) (show b' % n ≤ 2147483648 by omega) p3 (by omega); omega
  have p7 : IntKind.i64.wrap (x % n * (b' % n)) = x % n * (b' % n) := IntWalk.i64_in _ (by omega)
  have p8 : (n == 0) = false := by simp; omega
  go_wp2_with fail
  go_quiet ((go_at_call 100; exact Calls.quiet_of (whole_Mod _ _ _ (by omega) (by omega) (by omega) (by omega))))
  go_wp2_with fail
  go_ret2
  refine ⟨x % n * (b' % n) % n, Int.emod_nonneg _ (by omega), ?_, FIN.out x (by rw [HG.out]; exact HX.out), rfl, hd.drewN _⟩
  rw [← HG.out, hz5]
  exact Int.emod_lt_of_pos _ (by omega)
end Go.Proofs.Ytkeicdimkmmnfaa
