/- Contract of frac.nearer. -/
import Derived.Test.YtnepdfglhngheaaNear1
import Derived.Test.YtnepdfglhngheaaMul
import Derived.Test.YtnepdfglhngheaaFrac2
namespace Go.Proofs.Ytnepdfglhngheaa
set_option linter.unusedVariables false
set_option maxRecDepth 100000
open Go.RowKit

instance (lo hi A b B q : Int) : Decidable (pickU lo hi A b B q) := by unfold pickU; exact inferInstance
def pickB (u l : Nat) (A b B q : Int) : Bool := decide (pickU (l : Int) (u : Int) A b B q)
theorem pick_far {u l y x P Q : Nat} {A B : Int} (hP : u * y = P) (hQ : l * x = Q) (h : P ≠ Q) : pickB u l A y B x = decide (P < Q) := by
  have e1 : ((u : Int) * (y : Int)) = (P : Int) := by rw [← hP]; simp
  have e2 : ((l : Int) * (x : Int)) = (Q : Int) := by rw [← hQ]; simp
  unfold pickB
  apply decide_eq_decide.2
  unfold pickU
  rw [e1, e2]
  omega
theorem pick_tie {u l y x P Q : Nat} {A B : Int} (hP : u * y = P) (hQ : l * x = Q) (h : P = Q) : pickB u l A y B x = decide ((x : Int) < y ∨ ((x : Int) = y ∧ B < A)) := by
  have e1 : ((u : Int) * (y : Int)) = (P : Int) := by rw [← hP]; simp
  have e2 : ((l : Int) * (x : Int)) = (Q : Int) := by rw [← hQ]; simp
  unfold pickB
  apply decide_eq_decide.2
  unfold pickU
  rw [e1, e2]
  omega
set_option maxHeartbeats 2000000 in
theorem frac_nearer (B A N M : Int) (x y u l : Nat) (w : World) (B1 : -2147483647 ≤ B) (B2 : B ≤ 2147483647) (A1 : -2147483647 ≤ A) (A2 : A ≤ 2147483647) (N1 : -2147483647 ≤ N) (N2 : N ≤ 2147483647) (M1 : 1 ≤ M) (M2 : M ≤ 2147483647)
    (x1 : 1 ≤ x) (x2 : x ≤ 2147483647) (y1 : 1 ≤ y) (y2 : y ≤ 2147483647) (hu : (B * M - N * x).natAbs = u) (hl : (A * M - N * y).natAbs = l) (u2 : u ≤ 2147483647) (l2 : l ≤ 2147483647) :
    Calls Try.prog 49 #[.agg #[.int .i64 B, .int .i64 (x : Int)], .agg #[.int .i64 A, .int .i64 (y : Int)], .agg #[.int .i64 N, .int .i64 M]] w fun e w' => e = .returned (.bool (pickB u l A y B x)) ∧ Below w.heap.size w w' := by
  obtain ⟨p1, p2⟩ := mul31 B1 B2 (show -2147483647 ≤ M by omega) M2
  obtain ⟨p3, p4⟩ := mul31 N1 N2 (show -2147483647 ≤ (x : Int) by omega) (show (x : Int) ≤ 2147483647 by omega)
  obtain ⟨p5, p6⟩ := mul31 A1 A2 (show -2147483647 ≤ M by omega) M2
  obtain ⟨p7, p8⟩ := mul31 N1 N2 (show -2147483647 ≤ (y : Int) by omega) (show (y : Int) ≤ 2147483647 by omega)
  obtain ⟨P, hP⟩ : ∃ P, u * y = P := ⟨_, rfl⟩
  obtain ⟨Q, hQ⟩ : ∃ Q, l * x = Q := ⟨_, rfl⟩
  have P2 : P < 18446744073709551616 := by rw [← hP]; exact Nat.lt_of_le_of_lt (Nat.mul_le_mul u2 y2) (by omega)
  have Q2 : Q < 18446744073709551616 := by rw [← hQ]; exact Nat.lt_of_le_of_lt (Nat.mul_le_mul l2 x2) (by omega)
  have HP := Lib.hid hP; have HQ := Lib.hid hQ
  have MP := Lib.hid (show ∀ W, Calls Try.prog 79 #[.int .u64 (u : Int), .int .u64 (y : Int)] W fun e w' => e = .returned (.tuple #[.int .u64 0, .int .u64 (P : Int)]) ∧ W = w' by
    intro W
    have := bits_Mul64 u y W (by omega) (by omega)
    rw [hP, Nat.div_eq_of_lt P2, Nat.mod_eq_of_lt P2] at this
    exact this)
  have MQ := Lib.hid (show ∀ W, Calls Try.prog 79 #[.int .u64 (l : Int), .int .u64 (x : Int)] W fun e w' => e = .returned (.tuple #[.int .u64 0, .int .u64 (Q : Int)]) ∧ W = w' by
    intro W
    have := bits_Mul64 l x W (by omega) (by omega)
    rw [hQ, Nat.div_eq_of_lt Q2, Nat.mod_eq_of_lt Q2] at this
    exact this)
  have HU := Lib.hid hu; have HL := Lib.hid hl
  clear hP hQ hu hl
  generalize hBM : B * M = BM at *
  generalize hNx : N * (x : Int) = NX at *
  generalize hAM : A * M = AM at *
  generalize hNy : N * (y : Int) = NY' at *
  have wx : IntKind.u64.wrap (x : Int) = (x : Int) := IntWalk.u64_in _ (by omega)
  have wy : IntKind.u64.wrap (y : Int) = (y : Int) := IntWalk.u64_in _ (by omega)
  by_cases hne : P = Q
  · have HB := Lib.hid (pick_tie (A := A) (B := B) HP.out HQ.out hne)
    subst hne
    by_cases hxy : x = y
    · have hx' : ((x : Int) != (y : Int)) = false := by subst hxy; simp
      have HR := Lib.hid (show pickB u l A y B x = decide (B < A) by rw [HB.out]; apply decide_eq_decide.2; omega)
      clear hxy
      go_enter Try.func49, Try.ntmps49
      go_wp2_with fail
      refine (frac_size _ _ (by omega) (by omega)).mono ?_; rw [HU.out]; rintro e w1 ⟨rfl, rfl⟩
      go_wp2_with fail
      refine (frac_size _ _ (by omega) (by omega)).mono ?_; rw [HL.out]; rintro e w1 ⟨rfl, rfl⟩
      go_wp2_with fail
      refine (MP.out _).mono ?_; rintro e w1 ⟨rfl, rfl⟩
      go_wp2_with fail
      refine (MQ.out _).mono ?_; rintro e w1 ⟨rfl, rfl⟩
      go_wp2_with fail
      go_ret
      exact ⟨ret_bool (by rw [HR.out] <;> first | rfl | (apply decide_eq_decide.2; omega)), by (repeat' (first | exact Below.refl _ _ | assumption | refine Below.drew ?_ | refine below_drewN ?_ _ | refine below_new ?_ _ | refine below_set ?_ ?_ _ | refine below_then ?_ (by assumption) | refine below_drawn ?_ (by assumption) | exact Nat.le_refl _ | omega | (simp; done) | (simp; omega)))⟩
    · have hx' : ((x : Int) != (y : Int)) = true := by simp; omega
      have HR := Lib.hid (show pickB u l A y B x = decide ((x : Int) < y) by rw [HB.out]; apply decide_eq_decide.2; omega)
      clear hxy
      go_enter Try.func49, Try.ntmps49
      go_wp2_with fail
      refine (frac_size _ _ (by omega) (by omega)).mono ?_; rw [HU.out]; rintro e w1 ⟨rfl, rfl⟩
      go_wp2_with fail
      refine (frac_size _ _ (by omega) (by omega)).mono ?_; rw [HL.out]; rintro e w1 ⟨rfl, rfl⟩
      go_wp2_with fail
      refine (MP.out _).mono ?_; rintro e w1 ⟨rfl, rfl⟩
      go_wp2_with fail
      refine (MQ.out _).mono ?_; rintro e w1 ⟨rfl, rfl⟩
      go_wp2_with fail
      go_ret
      exact ⟨ret_bool (by rw [HR.out] <;> first | rfl | (apply decide_eq_decide.2; omega)), by (repeat' (first | exact Below.refl _ _ | assumption | refine Below.drew ?_ | refine below_drewN ?_ _ | refine below_new ?_ _ | refine below_set ?_ ?_ _ | refine below_then ?_ (by assumption) | refine below_drawn ?_ (by assumption) | exact Nat.le_refl _ | omega | (simp; done) | (simp; omega)))⟩
  · have HB := Lib.hid (pick_far (A := A) (B := B) HP.out HQ.out hne)
    have hne' : ((P : Int) != (Q : Int)) = true := by simp; omega
    clear hne
    go_enter Try.func49, Try.ntmps49
    go_wp2_with fail
    refine (frac_size _ _ (by omega) (by omega)).mono ?_; rw [HU.out]; rintro e w1 ⟨rfl, rfl⟩
    go_wp2_with fail
    refine (frac_size _ _ (by omega) (by omega)).mono ?_; rw [HL.out]; rintro e w1 ⟨rfl, rfl⟩
    go_wp2_with fail
    refine (MP.out _).mono ?_; rintro e w1 ⟨rfl, rfl⟩
    go_wp2_with fail
    refine (MQ.out _).mono ?_; rintro e w1 ⟨rfl, rfl⟩
    go_wp2_with fail
    go_ret
    exact ⟨ret_bool (by rw [HB.out] <;> first | rfl | (apply decide_eq_decide.2; omega)), by (repeat' (first | exact Below.refl _ _ | assumption | refine Below.drew ?_ | refine below_drewN ?_ _ | refine below_new ?_ _ | refine below_set ?_ ?_ _ | refine below_then ?_ (by assumption) | refine below_drawn ?_ (by assumption) | exact Nat.le_refl _ | omega | (simp; done) | (simp; omega)))⟩
end Go.Proofs.Ytnepdfglhngheaa
