/- Contracts of package frac, second part: both, order, Cmp, Floor. -/
import Derived.Test.YtmeldkmmmjfdmaaFrac

namespace Go.Proofs.Ytmeldkmmmjfdmaa
set_option linter.unusedVariables false
set_option maxRecDepth 100000
open Go.RowKit

def F31 (n d : Int) : Prop := 1 ≤ d ∧ d ≤ 2147483647 ∧ -2147483647 ≤ n ∧ n ≤ 2147483647 ∧ Int.gcd n d = 1
theorem fracOk_true {n d : Int} (h : fracOk n d = true) : F31 n d := by
  unfold fracOk at h
  have := of_decide_eq_true h
  exact this
def bothErr (a b c d : Int) : Int := if fracOk a b then fracErr c d else 8

theorem frac_both (a b c d : Int) (w : World) (a1 : -9223372036854775808 ≤ a) (a2 : a ≤ 9223372036854775807) (b1 : -9223372036854775808 ≤ b) (b2 : b ≤ 9223372036854775807)
    (c1 : -9223372036854775808 ≤ c) (c2 : c ≤ 9223372036854775807) (d1 : -9223372036854775808 ≤ d) (d2 : d ≤ 9223372036854775807) :
    Calls Try.prog 70 #[.agg #[.int .i64 a, .int .i64 b], .agg #[.int .i64 c, .int .i64 d]] w fun e w' => e = .returned (.int .i64 (bothErr a b c d)) ∧ Below w.heap.size w w' := by
  rcases fracOk_cases a b with ⟨hk, _⟩ | ⟨hk, _⟩
  · have hfe := Lib.hid (show fracErr a b = 0 by rw [fracErr, hk]; rfl)
    have ho := Lib.hid (show bothErr a b c d = fracErr c d by rw [bothErr, hk]; rfl)
    clear hk
    go_enter Try.func70, Try.ntmps70
    go_wp2_with fail
    refine (frac_Check _ _ _ a1 a2 b1 b2).mono ?_
    rw [hfe.out]
    rintro e w1 ⟨rfl, hb⟩
    have hy : At w1 (w.heap.size + 1) (.cells #[.int .i64 c, .int .i64 d] 23) := (At.new1 w _ _).below hb (by simp)
    have e0 := hy.cell 0
    have e1 := hy.cell 1
    simp at e0 e1
    have lt := hy.lt
    have B := Lib.hid (show Below w.heap.size w w1 from (((Below.refl _ _).alloc (Nat.le_refl _) _).alloc (by simp) _).trans (hb.mono (by simp; omega)))
    clear hb hy
    go_wp2_with fail
    refine (frac_Check _ _ _ c1 c2 d1 d2).mono ?_
    rintro e w2 ⟨rfl, hb2⟩
    have B2 := Lib.hid (B.out.trans (hb2.mono B.out.size))
    clear hb2
    go_wp2_with fail
    go_ret
    exact ⟨ret_int (by rw [ho.out]), B2.out⟩
  · have hfe := Lib.hid (show fracErr a b = 8 by rw [fracErr, hk]; rfl)
    have ho := Lib.hid (show bothErr a b c d = 8 by rw [bothErr, hk]; rfl)
    clear hk
    go_enter Try.func70, Try.ntmps70
    go_wp2_with fail
    refine (frac_Check _ _ _ a1 a2 b1 b2).mono ?_
    rw [hfe.out]
    rintro e w1 ⟨rfl, hb⟩
    have B := Lib.hid (show Below w.heap.size w w1 from (((Below.refl _ _).alloc (Nat.le_refl _) _).alloc (by simp) _).trans (hb.mono (by simp; omega)))
    clear hb
    go_wp2_with fail
    go_ret
    exact ⟨ret_int (by rw [ho.out]), B.out⟩

def ordI (a b : Int) : Int := if a < b then -1 else if b < a then 1 else 0
theorem mul31 {x y : Int} (hx : -2147483647 ≤ x) (hx' : x ≤ 2147483647) (hy : -2147483647 ≤ y) (hy' : y ≤ 2147483647) : -4611686014132420609 ≤ x * y ∧ x * y ≤ 4611686014132420609 := by
  have h := Int.natAbs_mul x y
  have : x.natAbs * y.natAbs ≤ 2147483647 * 2147483647 := Nat.mul_le_mul (by omega) (by omega)
  omega
theorem frac_order (a b c d : Int) (w : World) (hx : F31 a b) (hy : F31 c d) :
    Calls Try.prog 71 #[.agg #[.int .i64 a, .int .i64 b], .agg #[.int .i64 c, .int .i64 d]] w fun e w' => e = .returned (.int .i64 (ordI (a * d) (c * b))) ∧ Below w.heap.size w w' := by
  obtain ⟨b1, b2, a1, a2, _⟩ := hx
  obtain ⟨d1, d2, c1, c2, _⟩ := hy
  have m1 := mul31 a1 a2 (by omega) d2
  have m2 := mul31 c1 c2 (by omega) b2
  have w1 : IntKind.i64.wrap (a * d) = a * d := IntWalk.i64_in _ (by omega)
  have w2 : IntKind.i64.wrap (c * b) = c * b := IntWalk.i64_in _ (by omega)
  rcases Int.lt_trichotomy (a * d) (c * b) with q | q | q
  · have ho := Lib.hid (show ordI (a * d) (c * b) = -1 by rw [ordI, if_pos q])
    go_enter Try.func71, Try.ntmps71
    go_wp2_with fail
    go_quiet (fail)
    go_wp2_with fail
    go_ret
    exact ⟨ret_int (by rw [ho.out]), below_drewN (((Below.refl _ _).alloc (Nat.le_refl _) _).alloc (by simp) _) _⟩
  · have ho := Lib.hid (show ordI (a * d) (c * b) = 0 by rw [ordI, if_neg (by omega), if_neg (by omega)])
    have q1 : ¬ a * d < c * b := by omega
    have q2 : ¬ c * b < a * d := by omega
    clear q
    go_enter Try.func71, Try.ntmps71
    go_wp2_with fail
    go_quiet (fail)
    go_wp2_with fail
    go_ret
    exact ⟨ret_int (by rw [ho.out]), below_drewN (((Below.refl _ _).alloc (Nat.le_refl _) _).alloc (by simp) _) _⟩
  · have ho := Lib.hid (show ordI (a * d) (c * b) = 1 by rw [ordI, if_neg (by omega), if_pos q])
    have q1 : ¬ a * d < c * b := by omega
    go_enter Try.func71, Try.ntmps71
    go_wp2_with fail
    go_quiet (fail)
    go_wp2_with fail
    go_ret
    exact ⟨ret_int (by rw [ho.out]), below_drewN (((Below.refl _ _).alloc (Nat.le_refl _) _).alloc (by simp) _) _⟩

def cmpOut (a b c d : Int) : Value := .tuple #[.int .i64 (if fracOk a b && fracOk c d then ordI (a * d) (c * b) else 0), .int .i64 (bothErr a b c d)]
theorem frac_Cmp (a b c d : Int) (w : World) (a1 : -9223372036854775808 ≤ a) (a2 : a ≤ 9223372036854775807) (b1 : -9223372036854775808 ≤ b) (b2 : b ≤ 9223372036854775807)
    (c1 : -9223372036854775808 ≤ c) (c2 : c ≤ 9223372036854775807) (d1 : -9223372036854775808 ≤ d) (d2 : d ≤ 9223372036854775807) :
    Calls Try.prog 21 #[.agg #[.int .i64 a, .int .i64 b], .agg #[.int .i64 c, .int .i64 d]] w fun e w' => e = .returned (cmpOut a b c d) ∧ Below w.heap.size w w' := by
  by_cases hk : fracOk a b = true ∧ fracOk c d = true
  · have hx := fracOk_true hk.1
    have hy := fracOk_true hk.2
    have hfe := Lib.hid (show bothErr a b c d = 0 by rw [bothErr, hk.1, fracErr, hk.2]; rfl)
    have ho := Lib.hid (show cmpOut a b c d = .tuple #[.int .i64 (ordI (a * d) (c * b)), .int .i64 0] by rw [cmpOut, hk.1, hk.2, hfe.out]; rfl)
    clear hk
    have HX := Lib.hid hx; have HY := Lib.hid hy; clear hx hy
    go_enter Try.func21, Try.ntmps21
    go_wp2_with fail
    refine (frac_both _ _ _ _ _ a1 a2 b1 b2 c1 c2 d1 d2).mono ?_
    rw [hfe.out]
    rintro e w1 ⟨rfl, hb⟩
    have hx : At w1 w.heap.size (.cells #[.int .i64 a, .int .i64 b] 23) := ((At.new w _).alloc _).below hb (by simp; omega)
    have hy : At w1 (w.heap.size + 1) (.cells #[.int .i64 c, .int .i64 d] 23) := (At.new1 w _ _).below hb (by simp)
    have e0 := hx.cell 0
    have e1 := hx.cell 1
    have f0 := hy.cell 0
    have f1 := hy.cell 1
    simp at e0 e1 f0 f1
    have B := Lib.hid (show Below w.heap.size w w1 from (((Below.refl _ _).alloc (Nat.le_refl _) _).alloc (by simp) _).trans (hb.mono (by simp; omega)))
    clear hb hy hx
    go_wp2_with fail
    refine (frac_order _ _ _ _ _ HX.out HY.out).mono ?_
    rintro e w2 ⟨rfl, hb2⟩
    have B2 := Lib.hid (B.out.trans (hb2.mono B.out.size))
    clear hb2
    go_wp2_with fail
    go_ret2
    exact ⟨by rw [ho.out]; rfl, B2.out⟩
  · have hfe := Lib.hid (show bothErr a b c d = 8 by
      rcases fracOk_cases a b with ⟨h, _⟩ | ⟨h, _⟩
      · rcases fracOk_cases c d with ⟨h', _⟩ | ⟨h', _⟩
        · exact absurd ⟨h, h'⟩ hk
        · rw [bothErr, h, fracErr, h']; rfl
      · rw [bothErr, h]; rfl)
    have ho := Lib.hid (show cmpOut a b c d = .tuple #[.int .i64 0, .int .i64 8] by rw [cmpOut, if_neg (by simpa using hk), hfe.out])
    clear hk
    go_enter Try.func21, Try.ntmps21
    go_wp2_with fail
    refine (frac_both _ _ _ _ _ a1 a2 b1 b2 c1 c2 d1 d2).mono ?_
    rw [hfe.out]
    rintro e w1 ⟨rfl, hb⟩
    have B := Lib.hid (show Below w.heap.size w w1 from (((Below.refl _ _).alloc (Nat.le_refl _) _).alloc (by simp) _).trans (hb.mono (by simp; omega)))
    clear hb
    go_wp2_with fail
    go_ret2
    exact ⟨by rw [ho.out]; rfl, B.out⟩

def floorOut (a b : Int) : Value := .tuple #[.int .i64 (if fracOk a b then a / b else 0), .int .i64 (fracErr a b)]
theorem frac_Floor (a b : Int) (w : World) (a1 : -9223372036854775808 ≤ a) (a2 : a ≤ 9223372036854775807) (b1 : -9223372036854775808 ≤ b) (b2 : b ≤ 9223372036854775807) :
    Calls Try.prog 20 #[.agg #[.int .i64 a, .int .i64 b]] w fun e w' => e = .returned (floorOut a b) ∧ Below w.heap.size w w' := by
  rcases fracOk_cases a b with ⟨hk, q1, q2, q3, q4, _⟩ | ⟨hk, _⟩
  · have hfe := Lib.hid (show fracErr a b = 0 by rw [fracErr, hk]; rfl)
    have ho := Lib.hid (show floorOut a b = .tuple #[.int .i64 (a / b), .int .i64 0] by rw [floorOut, hk, hfe.out]; rfl)
    clear hk
    go_enter Try.func20, Try.ntmps20
    go_wp2_with fail
    refine (frac_Check _ _ _ a1 a2 b1 b2).mono ?_
    rw [hfe.out]
    rintro e w1 ⟨rfl, hb⟩
    have hx : At w1 w.heap.size (.cells #[.int .i64 a, .int .i64 b] 23) := (At.new w _).below hb (by simp)
    have e0 := hx.cell 0
    have e1 := hx.cell 1
    simp at e0 e1
    have B := Lib.hid (show Below w.heap.size w w1 from ((Below.refl _ _).alloc (Nat.le_refl _) _).trans (hb.mono (by simp)))
    clear hb hx
    go_wp2_with fail
    refine (whole_Down _ _ _ (by omega) (by omega) (by omega) (by omega)).mono ?_
    rintro e w2 ⟨rfl, hb2⟩
    go_wp2_with fail
    go_ret2
    exact ⟨by rw [ho.out]; rfl, B.out.trans (hb2.below _)⟩
  · have hfe := Lib.hid (show fracErr a b = 8 by rw [fracErr, hk]; rfl)
    have ho := Lib.hid (show floorOut a b = .tuple #[.int .i64 0, .int .i64 8] by rw [floorOut, hk, hfe.out]; rfl)
    clear hk
    go_enter Try.func20, Try.ntmps20
    go_wp2_with fail
    refine (frac_Check _ _ _ a1 a2 b1 b2).mono ?_
    rw [hfe.out]
    rintro e w1 ⟨rfl, hb⟩
    have B := Lib.hid (show Below w.heap.size w w1 from ((Below.refl _ _).alloc (Nat.le_refl _) _).trans (hb.mono (by simp)))
    clear hb
    go_wp2_with fail
    go_ret2
    exact ⟨by rw [ho.out]; rfl, B.out⟩
end Go.Proofs.Ytmeldkmmmjfdmaa
