/- The reference's FracOp. -/
import Derived.Test.YtmeldkmmmjfdmaaFrac3
namespace Go.Proofs.Ytmeldkmmmjfdmaa
set_option linter.unusedVariables false
set_option maxRecDepth 100000
set_option maxHeartbeats 2000000
open Go.RowKit

theorem ref_op_bad1 (op : Int) (a b c d : Int) (w : World) (a1 : -9223372036854775808 ≤ a) (a2 : a ≤ 9223372036854775807) (b1 : -9223372036854775808 ≤ b) (b2 : b ≤ 9223372036854775807)
    (c1 : -9223372036854775808 ≤ c) (c2 : c ≤ 9223372036854775807) (d1 : -9223372036854775808 ≤ d) (d2 : d ≤ 9223372036854775807) (hk : fracOk a b = false) :
    Calls Try.prog 27 #[.int .i64 op, .agg #[.int .i64 a, .int .i64 b], .agg #[.int .i64 c, .int .i64 d]] w fun e w' => e = .returned (fracVal 0 0 8) ∧ Below w.heap.size w w' := by
  have HK := Lib.hid hk
  clear hk
  go_enter Try.func27, Try.ntmps27
  go_wp2_with fail
  refine (ref_FracOK _ _ _ a1 a2 b1 b2).mono ?_
  rw [HK.out]
  rintro e w1 ⟨rfl, hb⟩
  obtain ⟨k1, kr⟩ := two_in hb
  obtain ⟨e0, e1, f0, f1⟩ := k1.cells
  have r0 := kr.cell 0
  have r1 := kr.cell 1
  have z0 := kr.frozen 0
  have z1 := kr.frozen 1
  simp at r0 r1
  have K1 := Lib.hid k1
  have KR := Lib.hid kr
  clear hb k1 kr
  go_wp2_with fail
  refine bodyPost_ret (v := fracVal 0 0 8) (by simp [results, Try.results27, go_sem, fracVal, *]) rfl ⟨rfl, ?_⟩
  exact (K1.out.2.2.setCell (by simp <;> omega) _).setCell (by simp <;> omega) _
theorem ref_op_bad2 (op : Int) (a b c d : Int) (w : World) (a1 : -9223372036854775808 ≤ a) (a2 : a ≤ 9223372036854775807) (b1 : -9223372036854775808 ≤ b) (b2 : b ≤ 9223372036854775807)
    (c1 : -9223372036854775808 ≤ c) (c2 : c ≤ 9223372036854775807) (d1 : -9223372036854775808 ≤ d) (d2 : d ≤ 9223372036854775807) (hk : fracOk a b = true) (hk2 : fracOk c d = false) :
    Calls Try.prog 27 #[.int .i64 op, .agg #[.int .i64 a, .int .i64 b], .agg #[.int .i64 c, .int .i64 d]] w fun e w' => e = .returned (fracVal 0 0 8) ∧ Below w.heap.size w w' := by
  have HK := Lib.hid hk
  have HK2 := Lib.hid hk2
  clear hk hk2
  go_enter Try.func27, Try.ntmps27
  go_wp2_with fail
  refine (ref_FracOK _ _ _ a1 a2 b1 b2).mono ?_
  rw [HK.out]
  rintro e w1 ⟨rfl, hb⟩
  obtain ⟨k1, kr⟩ := two_in hb
  obtain ⟨e0, e1, f0, f1⟩ := k1.cells
  have r0 := kr.cell 0
  have r1 := kr.cell 1
  have z0 := kr.frozen 0
  have z1 := kr.frozen 1
  simp at r0 r1
  have K1 := Lib.hid k1
  have KR := Lib.hid kr
  clear hb k1 kr
  go_wp2_with fail
  refine (ref_FracOK _ _ _ c1 c2 d1 d2).mono ?_
  rw [HK2.out]
  rintro e w2 ⟨rfl, hb⟩
  have k1 := K1.out.step hb
  have kr := KR.out.below hb KR.out.lt
  clear e0 e1 f0 f1 K1 KR hb r0 r1 z0 z1
  obtain ⟨e0, e1, f0, f1⟩ := k1.cells
  have r0 := kr.cell 0
  have r1 := kr.cell 1
  have z0 := kr.frozen 0
  have z1 := kr.frozen 1
  simp at r0 r1
  have K1 := Lib.hid k1
  have KR := Lib.hid kr
  clear k1 kr
  go_wp2_with fail
  refine bodyPost_ret (v := fracVal 0 0 8) (by simp [results, Try.results27, go_sem, fracVal, *]) rfl ⟨rfl, ?_⟩
  exact (K1.out.2.2.setCell (by simp <;> omega) _).setCell (by simp <;> omega) _
theorem ref_op0 (a b c d : Int) (w : World) (a1 : -9223372036854775808 ≤ a) (a2 : a ≤ 9223372036854775807) (b1 : -9223372036854775808 ≤ b) (b2 : b ≤ 9223372036854775807)
    (c1 : -9223372036854775808 ≤ c) (c2 : c ≤ 9223372036854775807) (d1 : -9223372036854775808 ≤ d) (d2 : d ≤ 9223372036854775807) (hk : fracOk a b = true) (hk2 : fracOk c d = true) :
    Calls Try.prog 27 #[.int .i64 0, .agg #[.int .i64 a, .int .i64 b], .agg #[.int .i64 c, .int .i64 d]] w fun e w' => e = .returned (ofOut (a * d + c * b) (b * d)) ∧ Below w.heap.size w w' := by
  have HK := Lib.hid hk
  have HK2 := Lib.hid hk2
  obtain ⟨q1, q2, q3, q4, _⟩ := fracOk_true hk
  obtain ⟨s1, s2, s3, s4, _⟩ := fracOk_true hk2
  clear hk hk2
  go_enter Try.func27, Try.ntmps27
  go_wp2_with fail
  refine (ref_FracOK _ _ _ a1 a2 b1 b2).mono ?_
  rw [HK.out]
  rintro e w1 ⟨rfl, hb⟩
  obtain ⟨k1, kr⟩ := two_in hb
  obtain ⟨e0, e1, f0, f1⟩ := k1.cells
  have r0 := kr.cell 0
  have r1 := kr.cell 1
  have z0 := kr.frozen 0
  have z1 := kr.frozen 1
  simp at r0 r1
  have K1 := Lib.hid k1
  have KR := Lib.hid kr
  clear hb k1 kr
  go_wp2_with fail
  refine (ref_FracOK _ _ _ c1 c2 d1 d2).mono ?_
  rw [HK2.out]
  rintro e w2 ⟨rfl, hb⟩
  have k1 := K1.out.step hb
  have kr := KR.out.below hb KR.out.lt
  clear e0 e1 f0 f1 K1 KR hb r0 r1 z0 z1
  obtain ⟨e0, e1, f0, f1⟩ := k1.cells
  have r0 := kr.cell 0
  have r1 := kr.cell 1
  have z0 := kr.frozen 0
  have z1 := kr.frozen 1
  simp at r0 r1
  have K1 := Lib.hid k1
  have KR := Lib.hid kr
  clear k1 kr
  go_wp2_with fail
  refine (ref_Gcd _ _ _ b1 b2 d1 d2).mono ?_
  rintro e w3 ⟨rfl, rfl⟩
  have g1 : 1 ≤ Int.gcd b d := Int.gcd_pos_of_ne_zero_left d (by omega)
  have g2 : (Int.gcd b d : Int) ≤ b := Int.le_of_dvd (by omega) (Int.gcd_dvd_left (a := b) (b := d))
  obtain ⟨A, hA⟩ : ((Int.gcd b d : Int)) ∣ d := Int.gcd_dvd_right (a := b) (b := d)
  obtain ⟨B, hB⟩ : ((Int.gcd b d : Int)) ∣ b := Int.gcd_dvd_left (a := b) (b := d)
  generalize Int.gcd b d = G at *
  have hG : ((G : Int) == 0) = false := by simp; omega
  have wG : IntKind.i64.wrap (G : Int) = (G : Int) := IntWalk.i64_in _ (by omega)
  have td1 : d / (G : Int) = A := by rw [hA]; exact Int.mul_ediv_cancel_left A (by omega)
  have td2 : b / (G : Int) = B := by rw [hB]; exact Int.mul_ediv_cancel_left B (by omega)
  have A0 : 0 ≤ A := by rw [← td1]; exact Int.ediv_nonneg (by omega) (by omega)
  have B0 : 0 ≤ B := by rw [← td2]; exact Int.ediv_nonneg (by omega) (by omega)
  have A3 : A ≤ d := by rw [← td1]; exact Int.ediv_le_self _ (by omega)
  have B3 : B ≤ b := by rw [← td2]; exact Int.ediv_le_self _ (by omega)
  have tt1 : d.tdiv (G : Int) = A := by rw [Int.tdiv_eq_ediv_of_nonneg (by omega), td1]
  have tt2 : b.tdiv (G : Int) = B := by rw [Int.tdiv_eq_ediv_of_nonneg (by omega), td2]
  have wA : IntKind.i64.wrap A = A := IntWalk.i64_in _ (by omega)
  have wB : IntKind.i64.wrap B = B := IntWalk.i64_in _ (by omega)
  have m1 := mul31 (x := a) (y := A) (by omega) (by omega) (by omega) (by omega)
  have m2 := mul31 (x := c) (y := B) (by omega) (by omega) (by omega) (by omega)
  have m3 := mul31 (x := b) (y := A) (by omega) (by omega) (by omega) (by omega)
  have m4 := mul31 (x := a) (y := c) (by omega) (by omega) (by omega) (by omega)
  have m5 := mul31 (x := b) (y := d) (by omega) (by omega) (by omega) (by omega)
  have m6 := mul31 (x := a) (y := d) (by omega) (by omega) (by omega) (by omega)
  have m7 := mul31 (x := c) (y := b) (by omega) (by omega) (by omega) (by omega)
  have x1 : IntKind.i64.wrap (a * A) = a * A := IntWalk.i64_in _ (by omega)
  have x2 : IntKind.i64.wrap (c * B) = c * B := IntWalk.i64_in _ (by omega)
  have x3 : IntKind.i64.wrap (a * A + c * B) = a * A + c * B := IntWalk.i64_in _ (by omega)
  have x4 : IntKind.i64.wrap (b * A) = b * A := IntWalk.i64_in _ (by omega)
  have FO := Lib.hid (fun W => ref_FracOf (a * A + c * B) (b * A) W (by omega) (by omega) (by omega) (by omega))
  have HE : ofOut (a * A + c * B) (b * A) = ofOut (a * d + c * b) (b * d) := by
    rw [← ofOut_scale (G : Int) (a * A + c * B) (b * A) (by omega)]
    congr 1
    · conv => rhs; rw [hA, hB]
      rw [Int.mul_add, Int.mul_left_comm, Int.mul_left_comm (G : Int) c B]
    · conv => rhs; rw [hA]
      rw [Int.mul_left_comm]
  obtain ⟨p, q, ee, hf⟩ := ofOut_form (a * A + c * B) (b * A)
  have HE := Lib.hid HE
  have HF := Lib.hid hf; clear hf
  clear m1 m2 m3 m4 m5 m6 m7 hA hB HK HK2
  go_wp2_with fail
  go_quiet (fail)
  go_wp2_with fail
  refine (FO.out _).mono ?_
  rw [HF.out, fracVal]
  rintro e w4 ⟨rfl, hb⟩
  have k1 := K1.out.drawn.step hb
  have kr := (KR.out.drewN _).below hb KR.out.lt
  clear e0 e1 f0 f1 K1 KR hb r0 r1 z0 z1
  have r0 := kr.cell 0
  have r1 := kr.cell 1
  have z0 := kr.frozen 0
  have z1 := kr.frozen 1
  simp at r0 r1
  have K1 := Lib.hid k1
  clear k1 kr
  go_wp2_with fail
  refine bodyPost_ret (v := fracVal p q ee) (by simp [results, Try.results27, go_sem, fracVal, *]) rfl ⟨by rw [← HE.out, HF.out], ?_⟩
  exact (K1.out.2.2.setCell (by simp <;> omega) _).setCell (by simp <;> omega) _
theorem ref_op1 (a b c d : Int) (w : World) (a1 : -9223372036854775808 ≤ a) (a2 : a ≤ 9223372036854775807) (b1 : -9223372036854775808 ≤ b) (b2 : b ≤ 9223372036854775807)
    (c1 : -9223372036854775808 ≤ c) (c2 : c ≤ 9223372036854775807) (d1 : -9223372036854775808 ≤ d) (d2 : d ≤ 9223372036854775807) (hk : fracOk a b = true) (hk2 : fracOk c d = true) :
    Calls Try.prog 27 #[.int .i64 1, .agg #[.int .i64 a, .int .i64 b], .agg #[.int .i64 c, .int .i64 d]] w fun e w' => e = .returned (ofOut (a * d - c * b) (b * d)) ∧ Below w.heap.size w w' := by
  have HK := Lib.hid hk
  have HK2 := Lib.hid hk2
  obtain ⟨q1, q2, q3, q4, _⟩ := fracOk_true hk
  obtain ⟨s1, s2, s3, s4, _⟩ := fracOk_true hk2
  clear hk hk2
  go_enter Try.func27, Try.ntmps27
  go_wp2_with fail
  refine (ref_FracOK _ _ _ a1 a2 b1 b2).mono ?_
  rw [HK.out]
  rintro e w1 ⟨rfl, hb⟩
  obtain ⟨k1, kr⟩ := two_in hb
  obtain ⟨e0, e1, f0, f1⟩ := k1.cells
  have r0 := kr.cell 0
  have r1 := kr.cell 1
  have z0 := kr.frozen 0
  have z1 := kr.frozen 1
  simp at r0 r1
  have K1 := Lib.hid k1
  have KR := Lib.hid kr
  clear hb k1 kr
  go_wp2_with fail
  refine (ref_FracOK _ _ _ c1 c2 d1 d2).mono ?_
  rw [HK2.out]
  rintro e w2 ⟨rfl, hb⟩
  have k1 := K1.out.step hb
  have kr := KR.out.below hb KR.out.lt
  clear e0 e1 f0 f1 K1 KR hb r0 r1 z0 z1
  obtain ⟨e0, e1, f0, f1⟩ := k1.cells
  have r0 := kr.cell 0
  have r1 := kr.cell 1
  have z0 := kr.frozen 0
  have z1 := kr.frozen 1
  simp at r0 r1
  have K1 := Lib.hid k1
  have KR := Lib.hid kr
  clear k1 kr
  go_wp2_with fail
  refine (ref_Gcd _ _ _ b1 b2 d1 d2).mono ?_
  rintro e w3 ⟨rfl, rfl⟩
  have g1 : 1 ≤ Int.gcd b d := Int.gcd_pos_of_ne_zero_left d (by omega)
  have g2 : (Int.gcd b d : Int) ≤ b := Int.le_of_dvd (by omega) (Int.gcd_dvd_left (a := b) (b := d))
  obtain ⟨A, hA⟩ : ((Int.gcd b d : Int)) ∣ d := Int.gcd_dvd_right (a := b) (b := d)
  obtain ⟨B, hB⟩ : ((Int.gcd b d : Int)) ∣ b := Int.gcd_dvd_left (a := b) (b := d)
  generalize Int.gcd b d = G at *
  have hG : ((G : Int) == 0) = false := by simp; omega
  have wG : IntKind.i64.wrap (G : Int) = (G : Int) := IntWalk.i64_in _ (by omega)
  have td1 : d / (G : Int) = A := by rw [hA]; exact Int.mul_ediv_cancel_left A (by omega)
  have td2 : b / (G : Int) = B := by rw [hB]; exact Int.mul_ediv_cancel_left B (by omega)
  have A0 : 0 ≤ A := by rw [← td1]; exact Int.ediv_nonneg (by omega) (by omega)
  have B0 : 0 ≤ B := by rw [← td2]; exact Int.ediv_nonneg (by omega) (by omega)
  have A3 : A ≤ d := by rw [← td1]; exact Int.ediv_le_self _ (by omega)
  have B3 : B ≤ b := by rw [← td2]; exact Int.ediv_le_self _ (by omega)
  have tt1 : d.tdiv (G : Int) = A := by rw [Int.tdiv_eq_ediv_of_nonneg (by omega), td1]
  have tt2 : b.tdiv (G : Int) = B := by rw [Int.tdiv_eq_ediv_of_nonneg (by omega), td2]
  have wA : IntKind.i64.wrap A = A := IntWalk.i64_in _ (by omega)
  have wB : IntKind.i64.wrap B = B := IntWalk.i64_in _ (by omega)
  have m1 := mul31 (x := a) (y := A) (by omega) (by omega) (by omega) (by omega)
  have m2 := mul31 (x := c) (y := B) (by omega) (by omega) (by omega) (by omega)
  have m3 := mul31 (x := b) (y := A) (by omega) (by omega) (by omega) (by omega)
  have m4 := mul31 (x := a) (y := c) (by omega) (by omega) (by omega) (by omega)
  have m5 := mul31 (x := b) (y := d) (by omega) (by omega) (by omega) (by omega)
  have m6 := mul31 (x := a) (y := d) (by omega) (by omega) (by omega) (by omega)
  have m7 := mul31 (x := c) (y := b) (by omega) (by omega) (by omega) (by omega)
  have x1 : IntKind.i64.wrap (a * A) = a * A := IntWalk.i64_in _ (by omega)
  have x2 : IntKind.i64.wrap (c * B) = c * B := IntWalk.i64_in _ (by omega)
  have x3 : IntKind.i64.wrap (a * A - c * B) = a * A - c * B := IntWalk.i64_in _ (by omega)
  have x4 : IntKind.i64.wrap (b * A) = b * A := IntWalk.i64_in _ (by omega)
  have FO := Lib.hid (fun W => ref_FracOf (a * A - c * B) (b * A) W (by omega) (by omega) (by omega) (by omega))
  have HE : ofOut (a * A - c * B) (b * A) = ofOut (a * d - c * b) (b * d) := by
    rw [← ofOut_scale (G : Int) (a * A - c * B) (b * A) (by omega)]
    congr 1
    · conv => rhs; rw [hA, hB]
      rw [Int.mul_sub, Int.mul_left_comm, Int.mul_left_comm (G : Int) c B]
    · conv => rhs; rw [hA]
      rw [Int.mul_left_comm]
  obtain ⟨p, q, ee, hf⟩ := ofOut_form (a * A - c * B) (b * A)
  have HE := Lib.hid HE
  have HF := Lib.hid hf; clear hf
  clear m1 m2 m3 m4 m5 m6 m7 hA hB HK HK2
  go_wp2_with fail
  go_quiet (fail)
  go_wp2_with fail
  refine (FO.out _).mono ?_
  rw [HF.out, fracVal]
  rintro e w4 ⟨rfl, hb⟩
  have k1 := K1.out.drawn.step hb
  have kr := (KR.out.drewN _).below hb KR.out.lt
  clear e0 e1 f0 f1 K1 KR hb r0 r1 z0 z1
  have r0 := kr.cell 0
  have r1 := kr.cell 1
  have z0 := kr.frozen 0
  have z1 := kr.frozen 1
  simp at r0 r1
  have K1 := Lib.hid k1
  clear k1 kr
  go_wp2_with fail
  refine bodyPost_ret (v := fracVal p q ee) (by simp [results, Try.results27, go_sem, fracVal, *]) rfl ⟨by rw [← HE.out, HF.out], ?_⟩
  exact (K1.out.2.2.setCell (by simp <;> omega) _).setCell (by simp <;> omega) _
theorem ref_op2 (a b c d : Int) (w : World) (a1 : -9223372036854775808 ≤ a) (a2 : a ≤ 9223372036854775807) (b1 : -9223372036854775808 ≤ b) (b2 : b ≤ 9223372036854775807)
    (c1 : -9223372036854775808 ≤ c) (c2 : c ≤ 9223372036854775807) (d1 : -9223372036854775808 ≤ d) (d2 : d ≤ 9223372036854775807) (hk : fracOk a b = true) (hk2 : fracOk c d = true) :
    Calls Try.prog 27 #[.int .i64 2, .agg #[.int .i64 a, .int .i64 b], .agg #[.int .i64 c, .int .i64 d]] w fun e w' => e = .returned (ofOut (a * c) (b * d)) ∧ Below w.heap.size w w' := by
  have HK := Lib.hid hk
  have HK2 := Lib.hid hk2
  obtain ⟨q1, q2, q3, q4, _⟩ := fracOk_true hk
  obtain ⟨s1, s2, s3, s4, _⟩ := fracOk_true hk2
  clear hk hk2
  go_enter Try.func27, Try.ntmps27
  go_wp2_with fail
  refine (ref_FracOK _ _ _ a1 a2 b1 b2).mono ?_
  rw [HK.out]
  rintro e w1 ⟨rfl, hb⟩
  obtain ⟨k1, kr⟩ := two_in hb
  obtain ⟨e0, e1, f0, f1⟩ := k1.cells
  have r0 := kr.cell 0
  have r1 := kr.cell 1
  have z0 := kr.frozen 0
  have z1 := kr.frozen 1
  simp at r0 r1
  have K1 := Lib.hid k1
  have KR := Lib.hid kr
  clear hb k1 kr
  go_wp2_with fail
  refine (ref_FracOK _ _ _ c1 c2 d1 d2).mono ?_
  rw [HK2.out]
  rintro e w2 ⟨rfl, hb⟩
  have k1 := K1.out.step hb
  have kr := KR.out.below hb KR.out.lt
  clear e0 e1 f0 f1 K1 KR hb r0 r1 z0 z1
  obtain ⟨e0, e1, f0, f1⟩ := k1.cells
  have r0 := kr.cell 0
  have r1 := kr.cell 1
  have z0 := kr.frozen 0
  have z1 := kr.frozen 1
  simp at r0 r1
  have K1 := Lib.hid k1
  have KR := Lib.hid kr
  clear k1 kr
  go_wp2_with fail
  refine (ref_Gcd _ _ _ b1 b2 d1 d2).mono ?_
  rintro e w3 ⟨rfl, rfl⟩
  have g1 : 1 ≤ Int.gcd b d := Int.gcd_pos_of_ne_zero_left d (by omega)
  have g2 : (Int.gcd b d : Int) ≤ b := Int.le_of_dvd (by omega) (Int.gcd_dvd_left (a := b) (b := d))
  obtain ⟨A, hA⟩ : ((Int.gcd b d : Int)) ∣ d := Int.gcd_dvd_right (a := b) (b := d)
  obtain ⟨B, hB⟩ : ((Int.gcd b d : Int)) ∣ b := Int.gcd_dvd_left (a := b) (b := d)
  generalize Int.gcd b d = G at *
  have hG : ((G : Int) == 0) = false := by simp; omega
  have wG : IntKind.i64.wrap (G : Int) = (G : Int) := IntWalk.i64_in _ (by omega)
  have td1 : d / (G : Int) = A := by rw [hA]; exact Int.mul_ediv_cancel_left A (by omega)
  have td2 : b / (G : Int) = B := by rw [hB]; exact Int.mul_ediv_cancel_left B (by omega)
  have A0 : 0 ≤ A := by rw [← td1]; exact Int.ediv_nonneg (by omega) (by omega)
  have B0 : 0 ≤ B := by rw [← td2]; exact Int.ediv_nonneg (by omega) (by omega)
  have A3 : A ≤ d := by rw [← td1]; exact Int.ediv_le_self _ (by omega)
  have B3 : B ≤ b := by rw [← td2]; exact Int.ediv_le_self _ (by omega)
  have tt1 : d.tdiv (G : Int) = A := by rw [Int.tdiv_eq_ediv_of_nonneg (by omega), td1]
  have tt2 : b.tdiv (G : Int) = B := by rw [Int.tdiv_eq_ediv_of_nonneg (by omega), td2]
  have wA : IntKind.i64.wrap A = A := IntWalk.i64_in _ (by omega)
  have wB : IntKind.i64.wrap B = B := IntWalk.i64_in _ (by omega)
  have m1 := mul31 (x := a) (y := A) (by omega) (by omega) (by omega) (by omega)
  have m2 := mul31 (x := c) (y := B) (by omega) (by omega) (by omega) (by omega)
  have m3 := mul31 (x := b) (y := A) (by omega) (by omega) (by omega) (by omega)
  have m4 := mul31 (x := a) (y := c) (by omega) (by omega) (by omega) (by omega)
  have m5 := mul31 (x := b) (y := d) (by omega) (by omega) (by omega) (by omega)
  have m6 := mul31 (x := a) (y := d) (by omega) (by omega) (by omega) (by omega)
  have m7 := mul31 (x := c) (y := b) (by omega) (by omega) (by omega) (by omega)
  have x1 : IntKind.i64.wrap (a * A) = a * A := IntWalk.i64_in _ (by omega)
  have x2 : IntKind.i64.wrap (c * B) = c * B := IntWalk.i64_in _ (by omega)
  have x3 : IntKind.i64.wrap (a * c) = a * c := IntWalk.i64_in _ (by omega)
  have x4 : IntKind.i64.wrap (b * d) = b * d := IntWalk.i64_in _ (by omega)
  have FO := Lib.hid (fun W => ref_FracOf (a * c) (b * d) W (by omega) (by omega) (by omega) (by omega))
  have HE : ofOut (a * c) (b * d) = ofOut (a * c) (b * d) := by
    rfl
  obtain ⟨p, q, ee, hf⟩ := ofOut_form (a * c) (b * d)
  have HE := Lib.hid HE
  have HF := Lib.hid hf; clear hf
  clear m1 m2 m3 m4 m5 m6 m7 hA hB HK HK2
  go_wp2_with fail
  go_quiet (fail)
  go_wp2_with fail
  refine (FO.out _).mono ?_
  rw [HF.out, fracVal]
  rintro e w4 ⟨rfl, hb⟩
  have k1 := K1.out.drawn.step hb
  have kr := (KR.out.drewN _).below hb KR.out.lt
  clear e0 e1 f0 f1 K1 KR hb r0 r1 z0 z1
  have r0 := kr.cell 0
  have r1 := kr.cell 1
  have z0 := kr.frozen 0
  have z1 := kr.frozen 1
  simp at r0 r1
  have K1 := Lib.hid k1
  clear k1 kr
  go_wp2_with fail
  refine bodyPost_ret (v := fracVal p q ee) (by simp [results, Try.results27, go_sem, fracVal, *]) rfl ⟨by rw [HF.out], ?_⟩
  exact (K1.out.2.2.setCell (by simp <;> omega) _).setCell (by simp <;> omega) _
theorem ref_op3 (a b c d : Int) (w : World) (a1 : -9223372036854775808 ≤ a) (a2 : a ≤ 9223372036854775807) (b1 : -9223372036854775808 ≤ b) (b2 : b ≤ 9223372036854775807)
    (c1 : -9223372036854775808 ≤ c) (c2 : c ≤ 9223372036854775807) (d1 : -9223372036854775808 ≤ d) (d2 : d ≤ 9223372036854775807) (hk : fracOk a b = true) (hk2 : fracOk c d = true) :
    Calls Try.prog 27 #[.int .i64 3, .agg #[.int .i64 a, .int .i64 b], .agg #[.int .i64 c, .int .i64 d]] w fun e w' => e = .returned (ofOut (a * d) (b * c)) ∧ Below w.heap.size w w' := by
  have HK := Lib.hid hk
  have HK2 := Lib.hid hk2
  obtain ⟨q1, q2, q3, q4, _⟩ := fracOk_true hk
  obtain ⟨s1, s2, s3, s4, _⟩ := fracOk_true hk2
  clear hk hk2
  go_enter Try.func27, Try.ntmps27
  go_wp2_with fail
  refine (ref_FracOK _ _ _ a1 a2 b1 b2).mono ?_
  rw [HK.out]
  rintro e w1 ⟨rfl, hb⟩
  obtain ⟨k1, kr⟩ := two_in hb
  obtain ⟨e0, e1, f0, f1⟩ := k1.cells
  have r0 := kr.cell 0
  have r1 := kr.cell 1
  have z0 := kr.frozen 0
  have z1 := kr.frozen 1
  simp at r0 r1
  have K1 := Lib.hid k1
  have KR := Lib.hid kr
  clear hb k1 kr
  go_wp2_with fail
  refine (ref_FracOK _ _ _ c1 c2 d1 d2).mono ?_
  rw [HK2.out]
  rintro e w2 ⟨rfl, hb⟩
  have k1 := K1.out.step hb
  have kr := KR.out.below hb KR.out.lt
  clear e0 e1 f0 f1 K1 KR hb r0 r1 z0 z1
  obtain ⟨e0, e1, f0, f1⟩ := k1.cells
  have r0 := kr.cell 0
  have r1 := kr.cell 1
  have z0 := kr.frozen 0
  have z1 := kr.frozen 1
  simp at r0 r1
  have K1 := Lib.hid k1
  have KR := Lib.hid kr
  clear k1 kr
  go_wp2_with fail
  refine (ref_Gcd _ _ _ b1 b2 d1 d2).mono ?_
  rintro e w3 ⟨rfl, rfl⟩
  have g1 : 1 ≤ Int.gcd b d := Int.gcd_pos_of_ne_zero_left d (by omega)
  have g2 : (Int.gcd b d : Int) ≤ b := Int.le_of_dvd (by omega) (Int.gcd_dvd_left (a := b) (b := d))
  obtain ⟨A, hA⟩ : ((Int.gcd b d : Int)) ∣ d := Int.gcd_dvd_right (a := b) (b := d)
  obtain ⟨B, hB⟩ : ((Int.gcd b d : Int)) ∣ b := Int.gcd_dvd_left (a := b) (b := d)
  generalize Int.gcd b d = G at *
  have hG : ((G : Int) == 0) = false := by simp; omega
  have wG : IntKind.i64.wrap (G : Int) = (G : Int) := IntWalk.i64_in _ (by omega)
  have td1 : d / (G : Int) = A := by rw [hA]; exact Int.mul_ediv_cancel_left A (by omega)
  have td2 : b / (G : Int) = B := by rw [hB]; exact Int.mul_ediv_cancel_left B (by omega)
  have A0 : 0 ≤ A := by rw [← td1]; exact Int.ediv_nonneg (by omega) (by omega)
  have B0 : 0 ≤ B := by rw [← td2]; exact Int.ediv_nonneg (by omega) (by omega)
  have A3 : A ≤ d := by rw [← td1]; exact Int.ediv_le_self _ (by omega)
  have B3 : B ≤ b := by rw [← td2]; exact Int.ediv_le_self _ (by omega)
  have tt1 : d.tdiv (G : Int) = A := by rw [Int.tdiv_eq_ediv_of_nonneg (by omega), td1]
  have tt2 : b.tdiv (G : Int) = B := by rw [Int.tdiv_eq_ediv_of_nonneg (by omega), td2]
  have wA : IntKind.i64.wrap A = A := IntWalk.i64_in _ (by omega)
  have wB : IntKind.i64.wrap B = B := IntWalk.i64_in _ (by omega)
  have m1 := mul31 (x := a) (y := A) (by omega) (by omega) (by omega) (by omega)
  have m2 := mul31 (x := c) (y := B) (by omega) (by omega) (by omega) (by omega)
  have m3 := mul31 (x := b) (y := A) (by omega) (by omega) (by omega) (by omega)
  have m4 := mul31 (x := a) (y := c) (by omega) (by omega) (by omega) (by omega)
  have m5 := mul31 (x := b) (y := d) (by omega) (by omega) (by omega) (by omega)
  have m6 := mul31 (x := a) (y := d) (by omega) (by omega) (by omega) (by omega)
  have m7 := mul31 (x := c) (y := b) (by omega) (by omega) (by omega) (by omega)
  have x1 : IntKind.i64.wrap (a * A) = a * A := IntWalk.i64_in _ (by omega)
  have x2 : IntKind.i64.wrap (c * B) = c * B := IntWalk.i64_in _ (by omega)
  have x3 : IntKind.i64.wrap (a * d) = a * d := IntWalk.i64_in _ (by omega)
  have x4 : IntKind.i64.wrap (c * b) = c * b := IntWalk.i64_in _ (by omega)
  have FO := Lib.hid (fun W => ref_FracOf (a * d) (c * b) W (by omega) (by omega) (by omega) (by omega))
  have HE : ofOut (a * d) (c * b) = ofOut (a * d) (b * c) := by
    rw [Int.mul_comm c b]
  obtain ⟨p, q, ee, hf⟩ := ofOut_form (a * d) (c * b)
  have HE := Lib.hid HE
  have HF := Lib.hid hf; clear hf
  clear m1 m2 m3 m4 m5 m6 m7 hA hB HK HK2
  go_wp2_with fail
  go_quiet (fail)
  go_wp2_with fail
  refine (FO.out _).mono ?_
  rw [HF.out, fracVal]
  rintro e w4 ⟨rfl, hb⟩
  have k1 := K1.out.drawn.step hb
  have kr := (KR.out.drewN _).below hb KR.out.lt
  clear e0 e1 f0 f1 K1 KR hb r0 r1 z0 z1
  have r0 := kr.cell 0
  have r1 := kr.cell 1
  have z0 := kr.frozen 0
  have z1 := kr.frozen 1
  simp at r0 r1
  have K1 := Lib.hid k1
  clear k1 kr
  go_wp2_with fail
  refine bodyPost_ret (v := fracVal p q ee) (by simp [results, Try.results27, go_sem, fracVal, *]) rfl ⟨by rw [← HE.out, HF.out], ?_⟩
  exact (K1.out.2.2.setCell (by simp <;> omega) _).setCell (by simp <;> omega) _
def opOut (k : Int) (a b c d : Int) : Value :=
  if fracOk a b = true ∧ fracOk c d = true then (if k = 0 then ofOut (a * d + c * b) (b * d) else if k = 1 then ofOut (a * d - c * b) (b * d) else if k = 2 then ofOut (a * c) (b * d) else ofOut (a * d) (b * c)) else fracVal 0 0 8
theorem ref_FracOp (k : Int) (a b c d : Int) (w : World) (a1 : -9223372036854775808 ≤ a) (a2 : a ≤ 9223372036854775807) (b1 : -9223372036854775808 ≤ b) (b2 : b ≤ 9223372036854775807)
    (c1 : -9223372036854775808 ≤ c) (c2 : c ≤ 9223372036854775807) (d1 : -9223372036854775808 ≤ d) (d2 : d ≤ 9223372036854775807) (hk : k = 0 ∨ k = 1 ∨ k = 2 ∨ k = 3) :
    Calls Try.prog 27 #[.int .i64 k, .agg #[.int .i64 a, .int .i64 b], .agg #[.int .i64 c, .int .i64 d]] w fun e w' => e = .returned (opOut k a b c d) ∧ Below w.heap.size w w' := by
  rcases fracOk_cases a b with ⟨h, _⟩ | ⟨h, _⟩
  · rcases fracOk_cases c d with ⟨h', _⟩ | ⟨h', _⟩
    · rw [opOut, if_pos ⟨h, h'⟩]
      rcases hk with rfl | rfl | rfl | rfl
      · exact ref_op0 a b c d w a1 a2 b1 b2 c1 c2 d1 d2 h h'
      · exact ref_op1 a b c d w a1 a2 b1 b2 c1 c2 d1 d2 h h'
      · exact ref_op2 a b c d w a1 a2 b1 b2 c1 c2 d1 d2 h h'
      · exact ref_op3 a b c d w a1 a2 b1 b2 c1 c2 d1 d2 h h'
    · rw [opOut, if_neg (fun q => by rw [h'] at q; cases q.2)]
      exact ref_op_bad2 k a b c d w a1 a2 b1 b2 c1 c2 d1 d2 h h'
  · rw [opOut, if_neg (fun q => by rw [h] at q; cases q.1)]
    exact ref_op_bad1 k a b c d w a1 a2 b1 b2 c1 c2 d1 d2 h
theorem opOut_form (k a b c d : Int) : ∃ p q e, opOut k a b c d = .tuple #[.agg #[.int .i64 p, .int .i64 q], .int .i64 e] := by
  unfold opOut
  split
  · split
    · exact ofOut_form _ _
    · split
      · exact ofOut_form _ _
      · split
        · exact ofOut_form _ _
        · exact ofOut_form _ _
  · exact ⟨_, _, _, rfl⟩
end Go.Proofs.Ytmeldkmmmjfdmaa
