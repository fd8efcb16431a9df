/- Contracts of package frac, third part: Add, Sub, Mul, Div; the reference's FracOp. -/
import Derived.Test.YtmeldkmmmjfdmaaFrac2
namespace Go.Proofs.Ytmeldkmmmjfdmaa
set_option linter.unusedVariables false
set_option maxRecDepth 100000
set_option maxHeartbeats 2000000
open Go.RowKit

theorem ofOut_form (n d : Int) : ∃ a b e, ofOut n d = fracVal a b e := by
  unfold ofOut
  split
  · exact ⟨_, _, _, rfl⟩
  · split
    · exact ⟨_, _, _, rfl⟩
    · exact ⟨_, _, _, rfl⟩
theorem ofOut_scale (g n d : Int) (hg : 0 < g) : ofOut (g * n) (g * d) = ofOut n d := by
  obtain ⟨k, rfl⟩ := Int.eq_ofNat_of_zero_le (show 0 ≤ g by omega)
  have hk : 0 < k := by omega
  have hgcd : Int.gcd ((k : Int) * n) ((k : Int) * d) = k * Int.gcd n d := by rw [Int.gcd_mul_left]; simp
  have hz : ((k : Int) * d = 0) ↔ d = 0 := by
    constructor
    · intro h
      rcases Int.mul_eq_zero.1 h with h | h
      · omega
      · exact h
    · rintro rfl; simp
  have hn : ((k : Int) * n).natAbs / (k * Int.gcd n d) = n.natAbs / Int.gcd n d := by rw [Int.natAbs_mul]; simp; exact Nat.mul_div_mul_left _ _ hk
  have hd : ((k : Int) * d).natAbs / (k * Int.gcd n d) = d.natAbs / Int.gcd n d := by rw [Int.natAbs_mul]; simp; exact Nat.mul_div_mul_left _ _ hk
  have sn : ((k : Int) * n < 0) = (n < 0) := by
    apply propext; constructor
    · intro h; apply Classical.byContradiction; intro h'; have := Int.mul_nonneg (show 0 ≤ (k : Int) by omega) (show 0 ≤ n by omega); omega
    · intro h; exact Int.mul_neg_of_pos_of_neg (by omega) h
  have sd : ((k : Int) * d < 0) = (d < 0) := by
    apply propext; constructor
    · intro h; apply Classical.byContradiction; intro h'; have := Int.mul_nonneg (show 0 ≤ (k : Int) by omega) (show 0 ≤ d by omega); omega
    · intro h; exact Int.mul_neg_of_pos_of_neg (by omega) h
  unfold ofOut fracNum fracDen
  rw [hgcd, hn, hd]
  simp only [hz, sn, sd]
/-- Two blocks of the call's own, and all that was there. -/
def Two (w : World) (bx bY : Nat) (a b c d : Int) (W : World) : Prop :=
  At W bx (.cells #[.int .i64 a, .int .i64 b] 23) ∧ At W bY (.cells #[.int .i64 c, .int .i64 d] 23) ∧ Below w.heap.size w W
theorem Two.step {w W w' : World} {bx bY : Nat} {a b c d : Int} (h : Two w bx bY a b c d W) (hb : Below W.heap.size W w') : Two w bx bY a b c d w' :=
  ⟨h.1.below hb h.1.lt, h.2.1.below hb h.2.1.lt, h.2.2.trans (hb.mono h.2.2.size)⟩
theorem Two.drew {w W : World} {bx bY : Nat} {a b c d : Int} (h : Two w bx bY a b c d W) : Two w bx bY a b c d W.drew := ⟨h.1.drew, h.2.1.drew, h.2.2.drew⟩
theorem Two.drawn {w W : World} {bx bY : Nat} {a b c d : Int} {n : Nat} (h : Two w bx bY a b c d W) : Two w bx bY a b c d (W.drewN n) := ⟨h.1.drewN n, h.2.1.drewN n, below_drewN h.2.2 n⟩
theorem Two.cells {w W : World} {bx bY : Nat} {a b c d : Int} (h : Two w bx bY a b c d W) :
    W.cell? ⟨bx, 0, none⟩ = some (.int .i64 a) ∧ W.cell? ⟨bx, 1, none⟩ = some (.int .i64 b) ∧ W.cell? ⟨bY, 0, none⟩ = some (.int .i64 c) ∧ W.cell? ⟨bY, 1, none⟩ = some (.int .i64 d) :=
  ⟨h.1.cell 0, h.1.cell 1, h.2.1.cell 0, h.2.1.cell 1⟩
theorem two_in {w w1 : World} {a b c d : Int} (hb : Below (((w.alloc (.cells #[.int .i64 a, .int .i64 b] 23)).alloc (.cells #[.int .i64 c, .int .i64 d] 23)).alloc (.cells #[.int .i64 0, .int .i64 0] 23)).heap.size
    (((w.alloc (.cells #[.int .i64 a, .int .i64 b] 23)).alloc (.cells #[.int .i64 c, .int .i64 d] 23)).alloc (.cells #[.int .i64 0, .int .i64 0] 23)) w1) :
    Two w w.heap.size (w.heap.size + 1) a b c d w1 ∧ At w1 (w.heap.size + 1 + 1) (.cells #[.int .i64 0, .int .i64 0] 23) :=
  ⟨⟨(((At.new w _).alloc _).alloc _).below hb (by simp; omega), ((At.new1 w _ _).alloc _).below hb (by simp), ((((Below.refl _ _).alloc (Nat.le_refl _) _).alloc (by simp) _).alloc (by simp; omega) _).trans (hb.mono (by simp; omega))⟩,
    (At.new2 w _ _ _).below hb (by simp)⟩
theorem bothErr_bad {a b c d : Int} (hk : ¬ (fracOk a b = true ∧ fracOk c d = true)) : bothErr a b c d = 8 := by
  rcases fracOk_cases a b with ⟨h, _⟩ | ⟨h, _⟩
  · rcases fracOk_cases c d with ⟨h', _⟩ | ⟨h', _⟩
    · exact absurd ⟨h, h'⟩ hk
    · rw [bothErr, h, fracErr, h']; rfl
  · rw [bothErr, h]; rfl
theorem bothErr_good {a b c d : Int} (hk : fracOk a b = true ∧ fracOk c d = true) : bothErr a b c d = 0 := by rw [bothErr, hk.1, fracErr, hk.2]; rfl
theorem frac_Add (a b c d : Int) (w : World) (a1 : -9223372036854775808 ≤ a) (a2 : a ≤ 9223372036854775807) (b1 : -9223372036854775808 ≤ b) (b2 : b ≤ 9223372036854775807)
    (c1 : -9223372036854775808 ≤ c) (c2 : c ≤ 9223372036854775807) (d1 : -9223372036854775808 ≤ d) (d2 : d ≤ 9223372036854775807) :
    Calls Try.prog 23 #[.agg #[.int .i64 a, .int .i64 b], .agg #[.int .i64 c, .int .i64 d]] w fun e w' => e = .returned (if fracOk a b = true ∧ fracOk c d = true then ofOut (a * d + c * b) (b * d) else fracVal 0 0 8) ∧ Below w.heap.size w w' := by
  by_cases hk : fracOk a b = true ∧ fracOk c d = true
  case neg =>
    rw [if_neg hk]
    have hfe := Lib.hid (bothErr_bad hk)
    clear hk
    go_enter Try.func23, Try.ntmps23
    go_wp2_with fail
    refine (frac_both _ _ _ _ _ a1 a2 b1 b2 c1 c2 d1 d2).mono ?_
    rw [hfe.out]
    rintro e w1 ⟨rfl, hb⟩
    obtain ⟨k1, kr⟩ := two_in hb
    obtain ⟨e0, e1, f0, f1⟩ := k1.cells
    have r0 := kr.cell 0
    have r1 := kr.cell 1
    have z0 := kr.frozen 0
    have z1 := kr.frozen 1
    simp at r0 r1
    have K1 := Lib.hid k1
    have KR := Lib.hid kr
    clear hb k1 kr
    go_wp2_with fail
    refine bodyPost_ret (v := fracVal 0 0 8) (by simp [results, Try.results23, go_sem, fracVal, *]) rfl ⟨rfl, ?_⟩
    exact (K1.out.2.2.setCell (by simp <;> omega) _).setCell (by simp <;> omega) _
  rw [if_pos hk]
  have hx := fracOk_true hk.1
  have hy := fracOk_true hk.2
  have hfe := Lib.hid (bothErr_good hk)
  clear hk
  obtain ⟨q1, q2, q3, q4, _⟩ := hx
  obtain ⟨s1, s2, s3, s4, _⟩ := hy
  have m1 := mul31 (x := a) (y := d) (by omega) (by omega) (by omega) (by omega)
  have m2 := mul31 (x := c) (y := b) (by omega) (by omega) (by omega) (by omega)
  have m3 := mul31 (x := b) (y := d) (by omega) (by omega) (by omega) (by omega)
  have m4 := mul31 (x := a) (y := c) (by omega) (by omega) (by omega) (by omega)
  have m5 := mul31 (x := b) (y := c) (by omega) (by omega) (by omega) (by omega)
  have x1 : IntKind.i64.wrap (a * d) = a * d := IntWalk.i64_in _ (by omega)
  have x2 : IntKind.i64.wrap (c * b) = c * b := IntWalk.i64_in _ (by omega)
  have x3 : IntKind.i64.wrap (a * d + c * b) = a * d + c * b := IntWalk.i64_in _ (by omega)
  have x4 : IntKind.i64.wrap (b * d) = b * d := IntWalk.i64_in _ (by omega)
  have FO := Lib.hid (fun W => frac_Of (a * d + c * b) (b * d) W (by omega) (by omega) (by omega) (by omega))
  obtain ⟨p, q, ee, hf⟩ := ofOut_form (a * d + c * b) (b * d)
  have HF := Lib.hid hf; clear hf
  clear m1 m2 m3 m4 m5
  · skip
    go_enter Try.func23, Try.ntmps23
    go_wp2_with fail
    refine (frac_both _ _ _ _ _ a1 a2 b1 b2 c1 c2 d1 d2).mono ?_
    rw [hfe.out]
    rintro e w1 ⟨rfl, hb⟩
    obtain ⟨k1, kr⟩ := two_in hb
    obtain ⟨e0, e1, f0, f1⟩ := k1.cells
    have r0 := kr.cell 0
    have r1 := kr.cell 1
    have z0 := kr.frozen 0
    have z1 := kr.frozen 1
    simp at r0 r1
    have K1 := Lib.hid k1
    have KR := Lib.hid kr
    clear hb k1 kr
    go_wp2_with fail
    refine (FO.out _).mono ?_
    rw [HF.out, fracVal]
    rintro e w2 ⟨rfl, hb⟩
    have k1 := K1.out.step hb
    have kr := KR.out.below hb KR.out.lt
    clear r0 r1 z0 z1 e0 e1 f0 f1
    have r0 := kr.cell 0
    have r1 := kr.cell 1
    have z0 := kr.frozen 0
    have z1 := kr.frozen 1
    simp at r0 r1
    have K2 := Lib.hid k1
    clear K1 KR hb k1 kr
    go_wp2_with fail
    refine bodyPost_ret (v := fracVal p q ee) (by simp [results, Try.results23, go_sem, fracVal, *]) rfl ⟨by rw [HF.out], ?_⟩
    exact (K2.out.2.2.setCell (by simp <;> omega) _).setCell (by simp <;> omega) _
theorem frac_Sub (a b c d : Int) (w : World) (a1 : -9223372036854775808 ≤ a) (a2 : a ≤ 9223372036854775807) (b1 : -9223372036854775808 ≤ b) (b2 : b ≤ 9223372036854775807)
    (c1 : -9223372036854775808 ≤ c) (c2 : c ≤ 9223372036854775807) (d1 : -9223372036854775808 ≤ d) (d2 : d ≤ 9223372036854775807) :
    Calls Try.prog 24 #[.agg #[.int .i64 a, .int .i64 b], .agg #[.int .i64 c, .int .i64 d]] w fun e w' => e = .returned (if fracOk a b = true ∧ fracOk c d = true then ofOut (a * d - c * b) (b * d) else fracVal 0 0 8) ∧ Below w.heap.size w w' := by
  by_cases hk : fracOk a b = true ∧ fracOk c d = true
  case neg =>
    rw [if_neg hk]
    have hfe := Lib.hid (bothErr_bad hk)
    clear hk
    go_enter Try.func24, Try.ntmps24
    go_wp2_with fail
    refine (frac_both _ _ _ _ _ a1 a2 b1 b2 c1 c2 d1 d2).mono ?_
    rw [hfe.out]
    rintro e w1 ⟨rfl, hb⟩
    obtain ⟨k1, kr⟩ := two_in hb
    obtain ⟨e0, e1, f0, f1⟩ := k1.cells
    have r0 := kr.cell 0
    have r1 := kr.cell 1
    have z0 := kr.frozen 0
    have z1 := kr.frozen 1
    simp at r0 r1
    have K1 := Lib.hid k1
    have KR := Lib.hid kr
    clear hb k1 kr
    go_wp2_with fail
    refine bodyPost_ret (v := fracVal 0 0 8) (by simp [results, Try.results24, go_sem, fracVal, *]) rfl ⟨rfl, ?_⟩
    exact (K1.out.2.2.setCell (by simp <;> omega) _).setCell (by simp <;> omega) _
  rw [if_pos hk]
  have hx := fracOk_true hk.1
  have hy := fracOk_true hk.2
  have hfe := Lib.hid (bothErr_good hk)
  clear hk
  obtain ⟨q1, q2, q3, q4, _⟩ := hx
  obtain ⟨s1, s2, s3, s4, _⟩ := hy
  have m1 := mul31 (x := a) (y := d) (by omega) (by omega) (by omega) (by omega)
  have m2 := mul31 (x := c) (y := b) (by omega) (by omega) (by omega) (by omega)
  have m3 := mul31 (x := b) (y := d) (by omega) (by omega) (by omega) (by omega)
  have m4 := mul31 (x := a) (y := c) (by omega) (by omega) (by omega) (by omega)
  have m5 := mul31 (x := b) (y := c) (by omega) (by omega) (by omega) (by omega)
  have x1 : IntKind.i64.wrap (a * d) = a * d := IntWalk.i64_in _ (by omega)
  have x2 : IntKind.i64.wrap (c * b) = c * b := IntWalk.i64_in _ (by omega)
  have x3 : IntKind.i64.wrap (a * d - c * b) = a * d - c * b := IntWalk.i64_in _ (by omega)
  have x4 : IntKind.i64.wrap (b * d) = b * d := IntWalk.i64_in _ (by omega)
  have FO := Lib.hid (fun W => frac_Of (a * d - c * b) (b * d) W (by omega) (by omega) (by omega) (by omega))
  obtain ⟨p, q, ee, hf⟩ := ofOut_form (a * d - c * b) (b * d)
  have HF := Lib.hid hf; clear hf
  clear m1 m2 m3 m4 m5
  · skip
    go_enter Try.func24, Try.ntmps24
    go_wp2_with fail
    refine (frac_both _ _ _ _ _ a1 a2 b1 b2 c1 c2 d1 d2).mono ?_
    rw [hfe.out]
    rintro e w1 ⟨rfl, hb⟩
    obtain ⟨k1, kr⟩ := two_in hb
    obtain ⟨e0, e1, f0, f1⟩ := k1.cells
    have r0 := kr.cell 0
    have r1 := kr.cell 1
    have z0 := kr.frozen 0
    have z1 := kr.frozen 1
    simp at r0 r1
    have K1 := Lib.hid k1
    have KR := Lib.hid kr
    clear hb k1 kr
    go_wp2_with fail
    refine (FO.out _).mono ?_
    rw [HF.out, fracVal]
    rintro e w2 ⟨rfl, hb⟩
    have k1 := K1.out.step hb
    have kr := KR.out.below hb KR.out.lt
    clear r0 r1 z0 z1 e0 e1 f0 f1
    have r0 := kr.cell 0
    have r1 := kr.cell 1
    have z0 := kr.frozen 0
    have z1 := kr.frozen 1
    simp at r0 r1
    have K2 := Lib.hid k1
    clear K1 KR hb k1 kr
    go_wp2_with fail
    refine bodyPost_ret (v := fracVal p q ee) (by simp [results, Try.results24, go_sem, fracVal, *]) rfl ⟨by rw [HF.out], ?_⟩
    exact (K2.out.2.2.setCell (by simp <;> omega) _).setCell (by simp <;> omega) _
theorem frac_Mul (a b c d : Int) (w : World) (a1 : -9223372036854775808 ≤ a) (a2 : a ≤ 9223372036854775807) (b1 : -9223372036854775808 ≤ b) (b2 : b ≤ 9223372036854775807)
    (c1 : -9223372036854775808 ≤ c) (c2 : c ≤ 9223372036854775807) (d1 : -9223372036854775808 ≤ d) (d2 : d ≤ 9223372036854775807) :
    Calls Try.prog 25 #[.agg #[.int .i64 a, .int .i64 b], .agg #[.int .i64 c, .int .i64 d]] w fun e w' => e = .returned (if fracOk a b = true ∧ fracOk c d = true then ofOut (a * c) (b * d) else fracVal 0 0 8) ∧ Below w.heap.size w w' := by
  by_cases hk : fracOk a b = true ∧ fracOk c d = true
  case neg =>
    rw [if_neg hk]
    have hfe := Lib.hid (bothErr_bad hk)
    clear hk
    go_enter Try.func25, Try.ntmps25
    go_wp2_with fail
    refine (frac_both _ _ _ _ _ a1 a2 b1 b2 c1 c2 d1 d2).mono ?_
    rw [hfe.out]
    rintro e w1 ⟨rfl, hb⟩
    obtain ⟨k1, kr⟩ := two_in hb
    obtain ⟨e0, e1, f0, f1⟩ := k1.cells
    have r0 := kr.cell 0
    have r1 := kr.cell 1
    have z0 := kr.frozen 0
    have z1 := kr.frozen 1
    simp at r0 r1
    have K1 := Lib.hid k1
    have KR := Lib.hid kr
    clear hb k1 kr
    go_wp2_with fail
    refine bodyPost_ret (v := fracVal 0 0 8) (by simp [results, Try.results25, go_sem, fracVal, *]) rfl ⟨rfl, ?_⟩
    exact (K1.out.2.2.setCell (by simp <;> omega) _).setCell (by simp <;> omega) _
  rw [if_pos hk]
  have hx := fracOk_true hk.1
  have hy := fracOk_true hk.2
  have hfe := Lib.hid (bothErr_good hk)
  clear hk
  obtain ⟨q1, q2, q3, q4, _⟩ := hx
  obtain ⟨s1, s2, s3, s4, _⟩ := hy
  have m1 := mul31 (x := a) (y := d) (by omega) (by omega) (by omega) (by omega)
  have m2 := mul31 (x := c) (y := b) (by omega) (by omega) (by omega) (by omega)
  have m3 := mul31 (x := b) (y := d) (by omega) (by omega) (by omega) (by omega)
  have m4 := mul31 (x := a) (y := c) (by omega) (by omega) (by omega) (by omega)
  have m5 := mul31 (x := b) (y := c) (by omega) (by omega) (by omega) (by omega)
  have x1 : IntKind.i64.wrap (a * d) = a * d := IntWalk.i64_in _ (by omega)
  have x2 : IntKind.i64.wrap (c * b) = c * b := IntWalk.i64_in _ (by omega)
  have x3 : IntKind.i64.wrap (a * c) = a * c := IntWalk.i64_in _ (by omega)
  have x4 : IntKind.i64.wrap (b * d) = b * d := IntWalk.i64_in _ (by omega)
  have FO := Lib.hid (fun W => frac_Of (a * c) (b * d) W (by omega) (by omega) (by omega) (by omega))
  obtain ⟨p, q, ee, hf⟩ := ofOut_form (a * c) (b * d)
  have HF := Lib.hid hf; clear hf
  clear m1 m2 m3 m4 m5
  · skip
    go_enter Try.func25, Try.ntmps25
    go_wp2_with fail
    refine (frac_both _ _ _ _ _ a1 a2 b1 b2 c1 c2 d1 d2).mono ?_
    rw [hfe.out]
    rintro e w1 ⟨rfl, hb⟩
    obtain ⟨k1, kr⟩ := two_in hb
    obtain ⟨e0, e1, f0, f1⟩ := k1.cells
    have r0 := kr.cell 0
    have r1 := kr.cell 1
    have z0 := kr.frozen 0
    have z1 := kr.frozen 1
    simp at r0 r1
    have K1 := Lib.hid k1
    have KR := Lib.hid kr
    clear hb k1 kr
    go_wp2_with fail
    refine (FO.out _).mono ?_
    rw [HF.out, fracVal]
    rintro e w2 ⟨rfl, hb⟩
    have k1 := K1.out.step hb
    have kr := KR.out.below hb KR.out.lt
    clear r0 r1 z0 z1 e0 e1 f0 f1
    have r0 := kr.cell 0
    have r1 := kr.cell 1
    have z0 := kr.frozen 0
    have z1 := kr.frozen 1
    simp at r0 r1
    have K2 := Lib.hid k1
    clear K1 KR hb k1 kr
    go_wp2_with fail
    refine bodyPost_ret (v := fracVal p q ee) (by simp [results, Try.results25, go_sem, fracVal, *]) rfl ⟨by rw [HF.out], ?_⟩
    exact (K2.out.2.2.setCell (by simp <;> omega) _).setCell (by simp <;> omega) _
theorem frac_Div (a b c d : Int) (w : World) (a1 : -9223372036854775808 ≤ a) (a2 : a ≤ 9223372036854775807) (b1 : -9223372036854775808 ≤ b) (b2 : b ≤ 9223372036854775807)
    (c1 : -9223372036854775808 ≤ c) (c2 : c ≤ 9223372036854775807) (d1 : -9223372036854775808 ≤ d) (d2 : d ≤ 9223372036854775807) :
    Calls Try.prog 26 #[.agg #[.int .i64 a, .int .i64 b], .agg #[.int .i64 c, .int .i64 d]] w fun e w' => e = .returned (if fracOk a b = true ∧ fracOk c d = true then ofOut (a * d) (b * c) else fracVal 0 0 8) ∧ Below w.heap.size w w' := by
  by_cases hk : fracOk a b = true ∧ fracOk c d = true
  case neg =>
    rw [if_neg hk]
    have hfe := Lib.hid (bothErr_bad hk)
    clear hk
    go_enter Try.func26, Try.ntmps26
    go_wp2_with fail
    refine (frac_both _ _ _ _ _ a1 a2 b1 b2 c1 c2 d1 d2).mono ?_
    rw [hfe.out]
    rintro e w1 ⟨rfl, hb⟩
    obtain ⟨k1, kr⟩ := two_in hb
    obtain ⟨e0, e1, f0, f1⟩ := k1.cells
    have r0 := kr.cell 0
    have r1 := kr.cell 1
    have z0 := kr.frozen 0
    have z1 := kr.frozen 1
    simp at r0 r1
    have K1 := Lib.hid k1
    have KR := Lib.hid kr
    clear hb k1 kr
    go_wp2_with fail
    refine bodyPost_ret (v := fracVal 0 0 8) (by simp [results, Try.results26, go_sem, fracVal, *]) rfl ⟨rfl, ?_⟩
    exact (K1.out.2.2.setCell (by simp <;> omega) _).setCell (by simp <;> omega) _
  rw [if_pos hk]
  have hx := fracOk_true hk.1
  have hy := fracOk_true hk.2
  have hfe := Lib.hid (bothErr_good hk)
  clear hk
  obtain ⟨q1, q2, q3, q4, _⟩ := hx
  obtain ⟨s1, s2, s3, s4, _⟩ := hy
  by_cases hc0 : c = 0
  case pos =>
    subst hc0
    have hof : ofOut (a * d) (b * 0) = fracVal 0 0 1 := by rw [ofOut, if_pos (by simp)]
    rw [hof]
    clear hof
    go_enter Try.func26, Try.ntmps26
    go_wp2_with fail
    refine (frac_both _ _ _ _ _ a1 a2 b1 b2 c1 c2 d1 d2).mono ?_
    rw [hfe.out]
    rintro e w1 ⟨rfl, hb⟩
    obtain ⟨k1, kr⟩ := two_in hb
    obtain ⟨e0, e1, f0, f1⟩ := k1.cells
    have r0 := kr.cell 0
    have r1 := kr.cell 1
    have z0 := kr.frozen 0
    have z1 := kr.frozen 1
    simp at r0 r1
    have K1 := Lib.hid k1
    have KR := Lib.hid kr
    clear hb k1 kr
    go_wp2_with fail
    refine bodyPost_ret (v := fracVal 0 0 1) (by simp [results, Try.results26, go_sem, fracVal, *]) rfl ⟨rfl, ?_⟩
    exact (K1.out.2.2.setCell (by simp <;> omega) _).setCell (by simp <;> omega) _
  have hcb : (c == 0) = false := by simp [hc0]
  have m1 := mul31 (x := a) (y := d) (by omega) (by omega) (by omega) (by omega)
  have m2 := mul31 (x := c) (y := b) (by omega) (by omega) (by omega) (by omega)
  have m3 := mul31 (x := b) (y := d) (by omega) (by omega) (by omega) (by omega)
  have m4 := mul31 (x := a) (y := c) (by omega) (by omega) (by omega) (by omega)
  have m5 := mul31 (x := b) (y := c) (by omega) (by omega) (by omega) (by omega)
  have x1 : IntKind.i64.wrap (a * d) = a * d := IntWalk.i64_in _ (by omega)
  have x2 : IntKind.i64.wrap (c * b) = c * b := IntWalk.i64_in _ (by omega)
  have x3 : IntKind.i64.wrap (a * d) = a * d := IntWalk.i64_in _ (by omega)
  have x4 : IntKind.i64.wrap (b * c) = b * c := IntWalk.i64_in _ (by omega)
  have FO := Lib.hid (fun W => frac_Of (a * d) (b * c) W (by omega) (by omega) (by omega) (by omega))
  obtain ⟨p, q, ee, hf⟩ := ofOut_form (a * d) (b * c)
  have HF := Lib.hid hf; clear hf
  clear m1 m2 m3 m4 m5
  · skip
    go_enter Try.func26, Try.ntmps26
    go_wp2_with fail
    refine (frac_both _ _ _ _ _ a1 a2 b1 b2 c1 c2 d1 d2).mono ?_
    rw [hfe.out]
    rintro e w1 ⟨rfl, hb⟩
    obtain ⟨k1, kr⟩ := two_in hb
    obtain ⟨e0, e1, f0, f1⟩ := k1.cells
    have r0 := kr.cell 0
    have r1 := kr.cell 1
    have z0 := kr.frozen 0
    have z1 := kr.frozen 1
    simp at r0 r1
    have K1 := Lib.hid k1
    have KR := Lib.hid kr
    clear hb k1 kr
    go_wp2_with fail
    refine (FO.out _).mono ?_
    rw [HF.out, fracVal]
    rintro e w2 ⟨rfl, hb⟩
    have k1 := K1.out.step hb
    have kr := KR.out.below hb KR.out.lt
    clear r0 r1 z0 z1 e0 e1 f0 f1
    have r0 := kr.cell 0
    have r1 := kr.cell 1
    have z0 := kr.frozen 0
    have z1 := kr.frozen 1
    simp at r0 r1
    have K2 := Lib.hid k1
    clear K1 KR hb k1 kr
    go_wp2_with fail
    refine bodyPost_ret (v := fracVal p q ee) (by simp [results, Try.results26, go_sem, fracVal, *]) rfl ⟨by rw [HF.out], ?_⟩
    exact (K2.out.2.2.setCell (by simp <;> omega) _).setCell (by simp <;> omega) _
end Go.Proofs.Ytmeldkmmmjfdmaa
