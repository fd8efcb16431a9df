/- FracCompares: the Go text returns true at every input, and writes nothing that was there. -/
import Derived.Test.YtmeldkmmmjfdmaaFrac2
import Derived.Test.YtmeldkmmmjfdmaaFracOpen
namespace Go.Proofs.Ytmeldkmmmjfdmaa.fracComparesLaw
set_option linter.unusedVariables false
set_option maxRecDepth 100000
set_option maxHeartbeats 2000000
open Go.RowKit Go.ChangeShapes Go.WideShapes

theorem lit : floorOut (-3) 2 = .tuple #[.int .i64 (-2), .int .i64 0] := by
  have h : fracOk (-3) 2 = true := by decide
  rw [floorOut, fracErr, h]; rfl
/-- Two blocks of the call's own, and all that was there. -/
def Two (w : World) (bx bY : Nat) (a b c d : Int) (W : World) : Prop :=
  At W bx (.cells #[.int .i64 a, .int .i64 b] 23) ∧ At W bY (.cells #[.int .i64 c, .int .i64 d] 23) ∧ Below w.heap.size w W
theorem Two.step {w W w' : World} {bx bY : Nat} {a b c d : Int} (h : Two w bx bY a b c d W) (hb : Below W.heap.size W w') : Two w bx bY a b c d w' :=
  ⟨h.1.below hb h.1.lt, h.2.1.below hb h.2.1.lt, h.2.2.trans (hb.mono h.2.2.size)⟩
theorem Two.cells {w W : World} {bx bY : Nat} {a b c d : Int} (h : Two w bx bY a b c d W) :
    W.cell? ⟨bx, 0, none⟩ = some (.int .i64 a) ∧ W.cell? ⟨bx, 1, none⟩ = some (.int .i64 b) ∧ W.cell? ⟨bY, 0, none⟩ = some (.int .i64 c) ∧ W.cell? ⟨bY, 1, none⟩ = some (.int .i64 d) :=
  ⟨h.1.cell 0, h.1.cell 1, h.2.1.cell 0, h.2.1.cell 1⟩
theorem bad1 (a b c d : Int) (w : World) (a1 : -9223372036854775808 ≤ a) (a2 : a ≤ 9223372036854775807) (b1 : -9223372036854775808 ≤ b) (b2 : b ≤ 9223372036854775807)
    (c1 : -9223372036854775808 ≤ c) (c2 : c ≤ 9223372036854775807) (d1 : -9223372036854775808 ≤ d) (d2 : d ≤ 9223372036854775807) (hk : fracOk a b = false) :
    Calls Try.prog 4 #[.agg #[.int .i64 a, .int .i64 b], .agg #[.int .i64 c, .int .i64 d]] w fun e w' => e = .returned (.bool true) ∧ Below w.heap.size w w' := by
  have HC := Lib.hid (show cmpOut a b c d = .tuple #[.int .i64 0, .int .i64 8] by rw [cmpOut, bothErr, hk]; rfl)
  have HF := Lib.hid (show floorOut a b = .tuple #[.int .i64 0, .int .i64 8] by rw [floorOut, fracErr, hk]; rfl)
  have HK := Lib.hid hk; clear hk
  go_enter Try.func4, Try.ntmps4
  go_wp2_with fail
  refine (frac_Floor (-3) 2 _ (by omega) (by omega) (by omega) (by omega)).mono ?_
  rw [lit]
  rintro e w1 ⟨rfl, hb⟩
  have k2 : Two w w.heap.size (w.heap.size + 1) a b c d w1 := by
    refine ⟨?_, ?_, ?_⟩
    · refine At.below ?_ hb (by simp; omega)
      first | exact ((At.new w _).alloc _) | exact ((At.new w _).alloc _).alloc _
    · refine At.below ?_ hb (by simp)
      first | exact At.new1 w _ _ | exact (At.new1 w _ _).alloc _
    · refine Below.trans ?_ (hb.mono (by simp; omega))
      first | exact ((Below.refl _ _).alloc (Nat.le_refl _) _).alloc (by simp) _ | exact (((Below.refl _ _).alloc (Nat.le_refl _) _).alloc (by simp) _).alloc (by simp; omega) _
  clear hb
  obtain ⟨e0, e1, f0, f1⟩ := k2.cells
  have K2 := Lib.hid k2
  clear k2
  go_wp2_with fail
  refine (frac_Cmp _ _ _ _ _ a1 a2 b1 b2 c1 c2 d1 d2).mono ?_
  rw [HC.out]
  rintro e w2 ⟨rfl, hb⟩
  have k2 := K2.out.step hb
  clear e0 e1 f0 f1 hb K2
  obtain ⟨e0, e1, f0, f1⟩ := k2.cells
  have K2 := Lib.hid k2
  clear k2
  go_wp2_with fail
  refine (frac_Floor _ _ _ a1 a2 b1 b2).mono ?_
  rw [HF.out]
  rintro e w3 ⟨rfl, hb⟩
  have k2 := K2.out.step hb
  clear e0 e1 f0 f1 hb K2
  obtain ⟨e0, e1, f0, f1⟩ := k2.cells
  have K2 := Lib.hid k2
  clear k2
  go_wp2_with fail
  refine (ref_FracOK _ _ _ a1 a2 b1 b2).mono ?_
  rw [HK.out]
  rintro e w4 ⟨rfl, hb⟩
  have k2 := K2.out.step hb
  clear e0 e1 f0 f1 hb K2
  obtain ⟨e0, e1, f0, f1⟩ := k2.cells
  have K2 := Lib.hid k2
  clear k2
  go_wp2_with fail
  go_ret
  exact ⟨ret_bool (by simp), K2.out.2.2⟩
theorem bad2 (a b c d : Int) (w : World) (a1 : -9223372036854775808 ≤ a) (a2 : a ≤ 9223372036854775807) (b1 : -9223372036854775808 ≤ b) (b2 : b ≤ 9223372036854775807)
    (c1 : -9223372036854775808 ≤ c) (c2 : c ≤ 9223372036854775807) (d1 : -9223372036854775808 ≤ d) (d2 : d ≤ 9223372036854775807) (hk : fracOk a b = true) (hk2 : fracOk c d = false) :
    Calls Try.prog 4 #[.agg #[.int .i64 a, .int .i64 b], .agg #[.int .i64 c, .int .i64 d]] w fun e w' => e = .returned (.bool true) ∧ Below w.heap.size w w' := by
  have HC := Lib.hid (show cmpOut a b c d = .tuple #[.int .i64 0, .int .i64 8] by rw [cmpOut, bothErr, hk, fracErr, hk2]; rfl)
  have HF := Lib.hid (show floorOut a b = .tuple #[.int .i64 (a / b), .int .i64 0] by rw [floorOut, fracErr, hk]; rfl)
  obtain ⟨q1, q2, q3, q4, _⟩ := fracOk_true hk
  have HK := Lib.hid hk; clear hk
  have HK2 := Lib.hid hk2; clear hk2
  go_enter Try.func4, Try.ntmps4
  go_wp2_with fail
  refine (frac_Floor (-3) 2 _ (by omega) (by omega) (by omega) (by omega)).mono ?_
  rw [lit]
  rintro e w1 ⟨rfl, hb⟩
  have k2 : Two w w.heap.size (w.heap.size + 1) a b c d w1 := by
    refine ⟨?_, ?_, ?_⟩
    · refine At.below ?_ hb (by simp; omega)
      first | exact ((At.new w _).alloc _) | exact ((At.new w _).alloc _).alloc _
    · refine At.below ?_ hb (by simp)
      first | exact At.new1 w _ _ | exact (At.new1 w _ _).alloc _
    · refine Below.trans ?_ (hb.mono (by simp; omega))
      first | exact ((Below.refl _ _).alloc (Nat.le_refl _) _).alloc (by simp) _ | exact (((Below.refl _ _).alloc (Nat.le_refl _) _).alloc (by simp) _).alloc (by simp; omega) _
  clear hb
  obtain ⟨e0, e1, f0, f1⟩ := k2.cells
  have K2 := Lib.hid k2
  clear k2
  go_wp2_with fail
  refine (frac_Cmp _ _ _ _ _ a1 a2 b1 b2 c1 c2 d1 d2).mono ?_
  rw [HC.out]
  rintro e w2 ⟨rfl, hb⟩
  have k2 := K2.out.step hb
  clear e0 e1 f0 f1 hb K2
  obtain ⟨e0, e1, f0, f1⟩ := k2.cells
  have K2 := Lib.hid k2
  clear k2
  go_wp2_with fail
  refine (frac_Floor _ _ _ a1 a2 b1 b2).mono ?_
  rw [HF.out]
  rintro e w3 ⟨rfl, hb⟩
  have k2 := K2.out.step hb
  clear e0 e1 f0 f1 hb K2
  obtain ⟨e0, e1, f0, f1⟩ := k2.cells
  have K2 := Lib.hid k2
  clear k2
  go_wp2_with fail
  refine (ref_FracOK _ _ _ a1 a2 b1 b2).mono ?_
  rw [HK.out]
  rintro e w4 ⟨rfl, hb⟩
  have k2 := K2.out.step hb
  clear e0 e1 f0 f1 hb K2
  obtain ⟨e0, e1, f0, f1⟩ := k2.cells
  have K2 := Lib.hid k2
  clear k2
  go_wp2_with fail
  refine (ref_Floor _ _ _ (by omega) (by omega) (by omega) (by omega)).mono ?_
  rintro e w5 ⟨rfl, rfl⟩
  go_wp2_with fail
  refine (ref_FracOK _ _ _ c1 c2 d1 d2).mono ?_
  rw [HK2.out]
  rintro e w6 ⟨rfl, hb⟩
  have k2 := K2.out.step hb
  clear e0 e1 f0 f1 hb K2
  obtain ⟨e0, e1, f0, f1⟩ := k2.cells
  have K2 := Lib.hid k2
  clear k2
  go_wp2_with fail
  go_ret
  exact ⟨ret_bool (by simp), K2.out.2.2⟩
theorem good_lt (a b c d : Int) (w : World) (a1 : -9223372036854775808 ≤ a) (a2 : a ≤ 9223372036854775807) (b1 : -9223372036854775808 ≤ b) (b2 : b ≤ 9223372036854775807)
    (c1 : -9223372036854775808 ≤ c) (c2 : c ≤ 9223372036854775807) (d1 : -9223372036854775808 ≤ d) (d2 : d ≤ 9223372036854775807) (hk : fracOk a b = true) (hk2 : fracOk c d = true) (q : a * d < c * b) :
    Calls Try.prog 4 #[.agg #[.int .i64 a, .int .i64 b], .agg #[.int .i64 c, .int .i64 d]] w fun e w' => e = .returned (.bool true) ∧ Below w.heap.size w w' := by
  have HC := Lib.hid (show cmpOut a b c d = .tuple #[.int .i64 (-1), .int .i64 0] by
    rw [cmpOut, bothErr, hk, fracErr, hk2, ordI]
    simp
    omega)
  have HF := Lib.hid (show floorOut a b = .tuple #[.int .i64 (a / b), .int .i64 0] by rw [floorOut, fracErr, hk]; rfl)
  obtain ⟨q1, q2, q3, q4, _⟩ := fracOk_true hk
  obtain ⟨r1, r2, r3, r4, _⟩ := fracOk_true hk2
  have HK := Lib.hid hk; clear hk
  have HK2 := Lib.hid hk2; clear hk2
  have m1 := mul31 q3 q4 (by omega) r2
  have m2 := mul31 r3 r4 (by omega) q2
  have x1 : IntKind.i64.wrap (a * d) = a * d := IntWalk.i64_in _ (by omega)
  have x2 : IntKind.i64.wrap (c * b) = c * b := IntWalk.i64_in _ (by omega)
  have x3 : IntKind.i64.wrap (a * d - c * b) = a * d - c * b := IntWalk.i64_in _ (by omega)
  have g1 : (a * d - c * b == 0) = false := by simp; omega
  have g2 : decide (0 < a * d - c * b) = false := by simp; omega
  have g3 : decide (a * d - c * b < 0) = true := by simp; omega
  go_enter Try.func4, Try.ntmps4
  go_wp2_with fail
  refine (frac_Floor (-3) 2 _ (by omega) (by omega) (by omega) (by omega)).mono ?_
  rw [lit]
  rintro e w1 ⟨rfl, hb⟩
  have k2 : Two w w.heap.size (w.heap.size + 1) a b c d w1 := by
    refine ⟨?_, ?_, ?_⟩
    · refine At.below ?_ hb (by simp; omega)
      first | exact ((At.new w _).alloc _) | exact ((At.new w _).alloc _).alloc _
    · refine At.below ?_ hb (by simp)
      first | exact At.new1 w _ _ | exact (At.new1 w _ _).alloc _
    · refine Below.trans ?_ (hb.mono (by simp; omega))
      first | exact ((Below.refl _ _).alloc (Nat.le_refl _) _).alloc (by simp) _ | exact (((Below.refl _ _).alloc (Nat.le_refl _) _).alloc (by simp) _).alloc (by simp; omega) _
  clear hb
  obtain ⟨e0, e1, f0, f1⟩ := k2.cells
  have K2 := Lib.hid k2
  clear k2
  go_wp2_with fail
  refine (frac_Cmp _ _ _ _ _ a1 a2 b1 b2 c1 c2 d1 d2).mono ?_
  rw [HC.out]
  rintro e w2 ⟨rfl, hb⟩
  have k2 := K2.out.step hb
  clear e0 e1 f0 f1 hb K2
  obtain ⟨e0, e1, f0, f1⟩ := k2.cells
  have K2 := Lib.hid k2
  clear k2
  go_wp2_with fail
  refine (frac_Floor _ _ _ a1 a2 b1 b2).mono ?_
  rw [HF.out]
  rintro e w3 ⟨rfl, hb⟩
  have k2 := K2.out.step hb
  clear e0 e1 f0 f1 hb K2
  obtain ⟨e0, e1, f0, f1⟩ := k2.cells
  have K2 := Lib.hid k2
  clear k2
  go_wp2_with fail
  refine (ref_FracOK _ _ _ a1 a2 b1 b2).mono ?_
  rw [HK.out]
  rintro e w4 ⟨rfl, hb⟩
  have k2 := K2.out.step hb
  clear e0 e1 f0 f1 hb K2
  obtain ⟨e0, e1, f0, f1⟩ := k2.cells
  have K2 := Lib.hid k2
  clear k2
  go_wp2_with fail
  refine (ref_Floor _ _ _ (by omega) (by omega) (by omega) (by omega)).mono ?_
  rintro e w5 ⟨rfl, rfl⟩
  go_wp2_with fail
  refine (ref_FracOK _ _ _ c1 c2 d1 d2).mono ?_
  rw [HK2.out]
  rintro e w6 ⟨rfl, hb⟩
  have k2 := K2.out.step hb
  clear e0 e1 f0 f1 hb K2
  obtain ⟨e0, e1, f0, f1⟩ := k2.cells
  have K2 := Lib.hid k2
  clear k2
  go_wp2_with fail
  all_goals first | (exfalso; omega) | (go_ret; exact ⟨ret_bool (by simp <;> omega), K2.out.2.2⟩)
theorem good_eq (a b c d : Int) (w : World) (a1 : -9223372036854775808 ≤ a) (a2 : a ≤ 9223372036854775807) (b1 : -9223372036854775808 ≤ b) (b2 : b ≤ 9223372036854775807)
    (c1 : -9223372036854775808 ≤ c) (c2 : c ≤ 9223372036854775807) (d1 : -9223372036854775808 ≤ d) (d2 : d ≤ 9223372036854775807) (hk : fracOk a b = true) (hk2 : fracOk c d = true) (q : a * d = c * b) :
    Calls Try.prog 4 #[.agg #[.int .i64 a, .int .i64 b], .agg #[.int .i64 c, .int .i64 d]] w fun e w' => e = .returned (.bool true) ∧ Below w.heap.size w w' := by
  have HC := Lib.hid (show cmpOut a b c d = .tuple #[.int .i64 0, .int .i64 0] by
    rw [cmpOut, bothErr, hk, fracErr, hk2, ordI]
    simp
    omega)
  have HF := Lib.hid (show floorOut a b = .tuple #[.int .i64 (a / b), .int .i64 0] by rw [floorOut, fracErr, hk]; rfl)
  obtain ⟨q1, q2, q3, q4, _⟩ := fracOk_true hk
  obtain ⟨r1, r2, r3, r4, _⟩ := fracOk_true hk2
  have HK := Lib.hid hk; clear hk
  have HK2 := Lib.hid hk2; clear hk2
  have m1 := mul31 q3 q4 (by omega) r2
  have m2 := mul31 r3 r4 (by omega) q2
  have x1 : IntKind.i64.wrap (a * d) = a * d := IntWalk.i64_in _ (by omega)
  have x2 : IntKind.i64.wrap (c * b) = c * b := IntWalk.i64_in _ (by omega)
  have x3 : IntKind.i64.wrap (a * d - c * b) = a * d - c * b := IntWalk.i64_in _ (by omega)
  have g1 : (a * d - c * b == 0) = true := by simp; omega
  have g2 : decide (0 < a * d - c * b) = false := by simp; omega
  have g3 : decide (a * d - c * b < 0) = false := by simp; omega
  go_enter Try.func4, Try.ntmps4
  go_wp2_with fail
  refine (frac_Floor (-3) 2 _ (by omega) (by omega) (by omega) (by omega)).mono ?_
  rw [lit]
  rintro e w1 ⟨rfl, hb⟩
  have k2 : Two w w.heap.size (w.heap.size + 1) a b c d w1 := by
    refine ⟨?_, ?_, ?_⟩
    · refine At.below ?_ hb (by simp; omega)
      first | exact ((At.new w _).alloc _) | exact ((At.new w _).alloc _).alloc _
    · refine At.below ?_ hb (by simp)
      first | exact At.new1 w _ _ | exact (At.new1 w _ _).alloc _
    · refine Below.trans ?_ (hb.mono (by simp; omega))
      first | exact ((Below.refl _ _).alloc (Nat.le_refl _) _).alloc (by simp) _ | exact (((Below.refl _ _).alloc (Nat.le_refl _) _).alloc (by simp) _).alloc (by simp; omega) _
  clear hb
  obtain ⟨e0, e1, f0, f1⟩ := k2.cells
  have K2 := Lib.hid k2
  clear k2
  go_wp2_with fail
  refine (frac_Cmp _ _ _ _ _ a1 a2 b1 b2 c1 c2 d1 d2).mono ?_
  rw [HC.out]
  rintro e w2 ⟨rfl, hb⟩
  have k2 := K2.out.step hb
  clear e0 e1 f0 f1 hb K2
  obtain ⟨e0, e1, f0, f1⟩ := k2.cells
  have K2 := Lib.hid k2
  clear k2
  go_wp2_with fail
  refine (frac_Floor _ _ _ a1 a2 b1 b2).mono ?_
  rw [HF.out]
  rintro e w3 ⟨rfl, hb⟩
  have k2 := K2.out.step hb
  clear e0 e1 f0 f1 hb K2
  obtain ⟨e0, e1, f0, f1⟩ := k2.cells
  have K2 := Lib.hid k2
  clear k2
  go_wp2_with fail
  refine (ref_FracOK _ _ _ a1 a2 b1 b2).mono ?_
  rw [HK.out]
  rintro e w4 ⟨rfl, hb⟩
  have k2 := K2.out.step hb
  clear e0 e1 f0 f1 hb K2
  obtain ⟨e0, e1, f0, f1⟩ := k2.cells
  have K2 := Lib.hid k2
  clear k2
  go_wp2_with fail
  refine (ref_Floor _ _ _ (by omega) (by omega) (by omega) (by omega)).mono ?_
  rintro e w5 ⟨rfl, rfl⟩
  go_wp2_with fail
  refine (ref_FracOK _ _ _ c1 c2 d1 d2).mono ?_
  rw [HK2.out]
  rintro e w6 ⟨rfl, hb⟩
  have k2 := K2.out.step hb
  clear e0 e1 f0 f1 hb K2
  obtain ⟨e0, e1, f0, f1⟩ := k2.cells
  have K2 := Lib.hid k2
  clear k2
  go_wp2_with fail
  all_goals first | (exfalso; omega) | (go_ret; exact ⟨ret_bool (by simp <;> omega), K2.out.2.2⟩)
theorem good_gt (a b c d : Int) (w : World) (a1 : -9223372036854775808 ≤ a) (a2 : a ≤ 9223372036854775807) (b1 : -9223372036854775808 ≤ b) (b2 : b ≤ 9223372036854775807)
    (c1 : -9223372036854775808 ≤ c) (c2 : c ≤ 9223372036854775807) (d1 : -9223372036854775808 ≤ d) (d2 : d ≤ 9223372036854775807) (hk : fracOk a b = true) (hk2 : fracOk c d = true) (q : c * b < a * d) :
    Calls Try.prog 4 #[.agg #[.int .i64 a, .int .i64 b], .agg #[.int .i64 c, .int .i64 d]] w fun e w' => e = .returned (.bool true) ∧ Below w.heap.size w w' := by
  have HC := Lib.hid (show cmpOut a b c d = .tuple #[.int .i64 1, .int .i64 0] by
    rw [cmpOut, bothErr, hk, fracErr, hk2, ordI]
    simp
    omega)
  have HF := Lib.hid (show floorOut a b = .tuple #[.int .i64 (a / b), .int .i64 0] by rw [floorOut, fracErr, hk]; rfl)
  obtain ⟨q1, q2, q3, q4, _⟩ := fracOk_true hk
  obtain ⟨r1, r2, r3, r4, _⟩ := fracOk_true hk2
  have HK := Lib.hid hk; clear hk
  have HK2 := Lib.hid hk2; clear hk2
  have m1 := mul31 q3 q4 (by omega) r2
  have m2 := mul31 r3 r4 (by omega) q2
  have x1 : IntKind.i64.wrap (a * d) = a * d := IntWalk.i64_in _ (by omega)
  have x2 : IntKind.i64.wrap (c * b) = c * b := IntWalk.i64_in _ (by omega)
  have x3 : IntKind.i64.wrap (a * d - c * b) = a * d - c * b := IntWalk.i64_in _ (by omega)
  have g1 : (a * d - c * b == 0) = false := by simp; omega
  have g2 : decide (0 < a * d - c * b) = true := by simp; omega
  have g3 : decide (a * d - c * b < 0) = false := by simp; omega
  go_enter Try.func4, Try.ntmps4
  go_wp2_with fail
  refine (frac_Floor (-3) 2 _ (by omega) (by omega) (by omega) (by omega)).mono ?_
  rw [lit]
  rintro e w1 ⟨rfl, hb⟩
  have k2 : Two w w.heap.size (w.heap.size + 1) a b c d w1 := by
    refine ⟨?_, ?_, ?_⟩
    · refine At.below ?_ hb (by simp; omega)
      first | exact ((At.new w _).alloc _) | exact ((At.new w _).alloc _).alloc _
    · refine At.below ?_ hb (by simp)
      first | exact At.new1 w _ _ | exact (At.new1 w _ _).alloc _
    · refine Below.trans ?_ (hb.mono (by simp; omega))
      first | exact ((Below.refl _ _).alloc (Nat.le_refl _) _).alloc (by simp) _ | exact (((Below.refl _ _).alloc (Nat.le_refl _) _).alloc (by simp) _).alloc (by simp; omega) _
  clear hb
  obtain ⟨e0, e1, f0, f1⟩ := k2.cells
  have K2 := Lib.hid k2
  clear k2
  go_wp2_with fail
  refine (frac_Cmp _ _ _ _ _ a1 a2 b1 b2 c1 c2 d1 d2).mono ?_
  rw [HC.out]
  rintro e w2 ⟨rfl, hb⟩
  have k2 := K2.out.step hb
  clear e0 e1 f0 f1 hb K2
  obtain ⟨e0, e1, f0, f1⟩ := k2.cells
  have K2 := Lib.hid k2
  clear k2
  go_wp2_with fail
  refine (frac_Floor _ _ _ a1 a2 b1 b2).mono ?_
  rw [HF.out]
  rintro e w3 ⟨rfl, hb⟩
  have k2 := K2.out.step hb
  clear e0 e1 f0 f1 hb K2
  obtain ⟨e0, e1, f0, f1⟩ := k2.cells
  have K2 := Lib.hid k2
  clear k2
  go_wp2_with fail
  refine (ref_FracOK _ _ _ a1 a2 b1 b2).mono ?_
  rw [HK.out]
  rintro e w4 ⟨rfl, hb⟩
  have k2 := K2.out.step hb
  clear e0 e1 f0 f1 hb K2
  obtain ⟨e0, e1, f0, f1⟩ := k2.cells
  have K2 := Lib.hid k2
  clear k2
  go_wp2_with fail
  refine (ref_Floor _ _ _ (by omega) (by omega) (by omega) (by omega)).mono ?_
  rintro e w5 ⟨rfl, rfl⟩
  go_wp2_with fail
  refine (ref_FracOK _ _ _ c1 c2 d1 d2).mono ?_
  rw [HK2.out]
  rintro e w6 ⟨rfl, hb⟩
  have k2 := K2.out.step hb
  clear e0 e1 f0 f1 hb K2
  obtain ⟨e0, e1, f0, f1⟩ := k2.cells
  have K2 := Lib.hid k2
  clear k2
  go_wp2_with fail
  all_goals first | (exfalso; omega) | (go_ret; exact ⟨ret_bool (by simp <;> omega), K2.out.2.2⟩)
theorem core (a b c d : Int) (w : World) (a1 : -9223372036854775808 ≤ a) (a2 : a ≤ 9223372036854775807) (b1 : -9223372036854775808 ≤ b) (b2 : b ≤ 9223372036854775807)
    (c1 : -9223372036854775808 ≤ c) (c2 : c ≤ 9223372036854775807) (d1 : -9223372036854775808 ≤ d) (d2 : d ≤ 9223372036854775807) :
    Calls Try.prog 4 #[.agg #[.int .i64 a, .int .i64 b], .agg #[.int .i64 c, .int .i64 d]] w fun e w' => e = .returned (.bool true) ∧ Below w.heap.size w w' := by
  rcases fracOk_cases a b with ⟨hk, _⟩ | ⟨hk, _⟩
  · rcases fracOk_cases c d with ⟨hk2, _⟩ | ⟨hk2, _⟩
    · rcases Int.lt_trichotomy (a * d) (c * b) with q | q | q
      · exact good_lt a b c d w a1 a2 b1 b2 c1 c2 d1 d2 hk hk2 q
      · exact good_eq a b c d w a1 a2 b1 b2 c1 c2 d1 d2 hk hk2 q
      · exact good_gt a b c d w a1 a2 b1 b2 c1 c2 d1 d2 hk hk2 q
    · exact bad2 a b c d w a1 a2 b1 b2 c1 c2 d1 d2 hk hk2
  · exact bad1 a b c d w a1 a2 b1 b2 c1 c2 d1 d2 hk
theorem walk {H : Type} {enc : TypeId × Value → H} {v0 v1 : Value} {d0 d1 : DataW H} {p0 p1 : List MemPlace} {base : Nat} (W : World)
    (o0 : Value.okWide Try.prog W .any base 23 v0) (h0 : DataW.Trod enc Try.prog W 0 (fun _ => true) true 23 v0 d0 p0)
    (o1 : Value.okWide Try.prog W .any base 23 v1) (h1 : DataW.Trod enc Try.prog W 0 (fun _ => true) true 23 v1 d1 p1) :
    Calls Try.prog 4 #[v0, v1] W fun e w' => e = .returned (.bool true) ∧ Below W.heap.size W w' := by
  obtain ⟨x, y, rfl, hx, hy⟩ := open_Frac o0 h0
  obtain ⟨z, t, rfl, hz, ht⟩ := open_Frac o1 h1
  exact core x y z t W hx.1 hx.2 hy.1 hy.2 hz.1 hz.2 ht.1 ht.2
end Go.Proofs.Ytmeldkmmmjfdmaa.fracComparesLaw
