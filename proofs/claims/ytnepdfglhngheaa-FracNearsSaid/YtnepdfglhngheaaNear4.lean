/- Contract of the reference's FracNear. -/
import Derived.Test.YtnepdfglhngheaaNear1
import Derived.Test.YtnepdfglhngheaaFrac2
import Derived.Test.YtnepdfglhngheaaStore
namespace Go.Proofs.Ytnepdfglhngheaa
set_option linter.unusedVariables false
set_option maxRecDepth 100000
open Go.RowKit

theorem dis_bound {N M c e : Int} (h : -8589934592 ≤ c * M - N * e ∧ c * M - N * e ≤ 8589934592) : 0 ≤ dis N M c e ∧ dis N M c e ≤ 8589934592 := by unfold dis; omega
/-- The best one stays near: its distance is at most M times .. -/
def NearBnd (N M : Int) (b : Int × Int) : Prop := 1 ≤ b.2 ∧ b.2 ≤ 300 ∧ 0 ≤ dis N M b.1 b.2 ∧ dis N M b.1 b.2 ≤ M
theorem cand_dis {N M q : Int} (hM : 1 ≤ M) : (0 ≤ N * q - (N * q / M) * M ∧ N * q - (N * q / M) * M < M) := by
  have h1 := Int.emod_add_mul_ediv (N * q) M
  have h2 := Int.emod_nonneg (N * q) (show M ≠ 0 by omega)
  have h3 := Int.emod_lt_of_pos (N * q) (show 0 < M by omega)
  rw [Int.mul_comm (N * q / M) M]
  omega
theorem dis_floor {N M q : Int} (hM : 1 ≤ M) : 0 ≤ dis N M (N * q / M) q ∧ dis N M (N * q / M) q ≤ M := by
  have := cand_dis (N := N) (q := q) hM
  unfold dis; omega
theorem dis_ceil {N M q : Int} (hM : 1 ≤ M) : 0 ≤ dis N M (N * q / M + 1) q ∧ dis N M (N * q / M + 1) q ≤ M := by
  have := cand_dis (N := N) (q := q) hM
  have e : (N * q / M + 1) * M = N * q / M * M + M := by rw [Int.add_mul, Int.one_mul]
  unfold dis
  rw [e]
  omega
theorem nearStep_bnd {N M q c : Int} {b : Int × Int} (hb : NearBnd N M b) (q1 : 1 ≤ q) (q2 : q ≤ 300) (hc : 0 ≤ dis N M c q ∧ dis N M c q ≤ M) : NearBnd N M (nearStep N M q b c) := by
  rcases nearStep_den N M q b c with h | h <;> rw [h]
  · exact ⟨q1, q2, hc.1, hc.2⟩
  · exact hb
theorem floor_bnd {N M q : Int} (hM : 1 ≤ M) (h1 : -644245094100 ≤ N * q) (h2 : N * q ≤ 644245094100) : -644245094100 ≤ N * q / M ∧ N * q / M ≤ 644245094100 := by
  constructor
  · refine Int.le_ediv_of_mul_le (by omega) ?_
    have : -644245094100 * M ≤ -644245094100 * 1 := Int.mul_le_mul_of_nonpos_left (by omega) (by omega)
    omega
  · rcases Int.lt_or_le (N * q) 0 with h | h
    · have := Int.ediv_neg_of_neg_of_pos h (show 0 < M by omega); omega
    · have := Int.ediv_le_self M h; omega
theorem prod300 {N q : Int} (N1 : -2147483647 ≤ N) (N2 : N ≤ 2147483647) (q1 : 1 ≤ q) (q2 : q ≤ 300) : -644245094100 ≤ N * q ∧ N * q ≤ 644245094100 := by
  have a := Int.mul_le_mul_of_nonneg_right N1 (show 0 ≤ q by omega)
  have b := Int.mul_le_mul_of_nonneg_right N2 (show 0 ≤ q by omega)
  omega
theorem index2 (x y : Int) : (∀ W : World, (Instr.index 78 (.agg #[.int .i64 x, .int .i64 y]) (.int .i64 0)).run Try.prog W = .ok (.int .i64 x) W) ∧ (∀ W : World, (Instr.index 78 (.agg #[.int .i64 x, .int .i64 y]) (.int .i64 1)).run Try.prog W = .ok (.int .i64 y) W) :=
  ⟨fun _ => by kernel_rfl, fun _ => by kernel_rfl⟩
theorem num_bnd {N M c e : Int} (h : dis N M c e ≤ M) (M1 : 1 ≤ M) (h1 : -644245094100 ≤ N * e) (h2 : N * e ≤ 644245094100) : -644245094101 ≤ c ∧ c ≤ 644245094101 ∧ -644245094100 - M ≤ c * M ∧ c * M ≤ 644245094100 + M := by
  unfold dis at h
  have hb : -644245094100 - M ≤ c * M ∧ c * M ≤ 644245094100 + M := by omega
  refine ⟨?_, ?_, hb⟩
  · rcases Int.lt_or_le c (-644245094101) with x | x
    · have := Int.mul_le_mul_of_nonneg_right (show c ≤ -644245094102 by omega) (show 0 ≤ M by omega); omega
    · exact x
  · rcases Int.lt_or_le 644245094101 c with x | x
    · have := Int.mul_le_mul_of_nonneg_right (show 644245094102 ≤ c by omega) (show 0 ≤ M by omega); omega
    · exact x
theorem dis_mul {x y : Int} (x0 : 0 ≤ x) (x1 : x ≤ 2147483647) (y0 : 1 ≤ y) (y1 : y ≤ 300) : 0 ≤ x * y ∧ x * y ≤ 644245094100 := by
  have h := Int.mul_nonneg x0 (show 0 ≤ y by omega)
  have h2 : x * y ≤ 2147483647 * 300 := Int.mul_le_mul x1 y1 (by omega) (by omega)
  omega
/-- One candidate: the body of the inner loop. -/
def CandAt (N M : Int) (w wr : World) (b : Int × Int) : Prop := At wr w.heap.size (.cells #[.int .i64 N, .int .i64 M] 33) ∧ At wr (w.heap.size + 1) (.cells #[.int .i64 0, .int .i64 0] 33) ∧ At wr (w.heap.size + 1 + 1) (.cells #[.int .i64 b.1, .int .i64 b.2] 33) ∧ Below w.heap.size w wr
set_option maxHeartbeats 8000000 in
theorem ref_FracNear (N M : Int) (d : Nat) (w : World) (N1 : -2147483647 ≤ N) (N2 : N ≤ 2147483647) (M1 : 1 ≤ M) (M2 : M ≤ 2147483647) (d1 : 1 ≤ d) (d2 : d ≤ 300) :
    Calls Try.prog 22 #[.agg #[.int .i64 N, .int .i64 M], .int .i64 (d : Int)] w fun e w' => e = .returned (.agg #[.int .i64 (nearTo N M d).1, .int .i64 (nearTo N M d).2]) ∧ Below w.heap.size w w' := by
  go_enter Try.func22, Try.ntmps22
  go_wp2_with fail
  refine (ref_Floor _ _ _ (by omega) (by omega) M1 (by omega)).mono ?_
  rintro e w1 ⟨rfl, rfl⟩
  go_wp2_with fail
  have st : CandAt N M w (((w.alloc (.cells #[.int .i64 N, .int .i64 M] 33)).alloc (.cells #[.int .i64 0, .int .i64 0] 33)).alloc (.cells #[.int .i64 (N / M), .int .i64 1] 33)) (nearTo N M 0) :=
    ⟨((At.new w _).alloc _).alloc _, (At.new1 w _ _).alloc _, At.new2 w _ _ _, by (repeat' (first | exact Below.refl _ _ | assumption | refine Below.drew ?_ | refine below_drewN ?_ _ | refine below_new ?_ _ | refine below_set ?_ ?_ _ | refine below_then ?_ (by assumption) | refine below_drawn ?_ (by assumption) | exact Nat.le_refl _ | omega | (simp; done) | (simp; omega)))⟩
  have bd0 : NearBnd N M (nearTo N M 0) := by
    have := dis_floor (N := N) (q := 1) M1
    rw [Int.mul_one] at this
    exact ⟨by simp [nearTo], by simp [nearTo], this.1, this.2⟩
  have ST := Lib.hid st; have BD0 := Lib.hid bd0; clear st bd0
  go_loopw [6, 7, 9, 10, 11] (fun vq _ _ _ _ wr => ∃ k : Nat, k ≤ d ∧ vq = .int .i64 ((k : Int) + 1) ∧ NearBnd N M (nearTo N M k) ∧ CandAt N M w wr (nearTo N M k)) (fun vq _ _ _ _ _ => d + 1 - (intOf vq).toNat)
  case atStart => exact ⟨0, by omega, rfl, BD0.out, ST.out⟩
  case round =>
    clear ST BD0
    obtain ⟨k, hk, rfl, hbd, hat⟩ := hrel
    obtain ⟨a0, a1, a2, b0⟩ := hat
    by_cases hlt : k < d
    · obtain ⟨g1, g2⟩ := prod300 N1 N2 (q := (k : Int) + 1) (by omega) (by omega)
      obtain ⟨g3, g4⟩ := floor_bnd M1 g1 g2
      have cf := dis_floor (N := N) (q := (k : Int) + 1) M1
      have cc := dis_ceil (N := N) (q := (k : Int) + 1) M1
      have hs := nearTo_succ N M k
      have hb2 := nearStep_bnd hbd (q := (k : Int) + 1) (by omega) (by omega) cf
      have hb3 := nearStep_bnd hb2 (q := (k : Int) + 1) (by omega) (by omega) cc
      rw [← hs] at hb3
      have HS := Lib.hid hs; have HB2 := Lib.hid hb2; have HB3 := Lib.hid hb3; have HBD := Lib.hid hbd
      have CF := Lib.hid cf; have CC := Lib.hid cc
      clear hs hb2 hb3 hbd cf cc
      generalize hf : N * ((k : Int) + 1) / M = f at *
      generalize hNq : N * ((k : Int) + 1) = NQ at *
      generalize hq : (k : Int) + 1 = q at *
      generalize nearTo N M k = b at *
      have q1 : 1 ≤ q := by omega
      have q2 : q ≤ 300 := by omega
      have x0 : wr.cell? ⟨w.heap.size, 0, none⟩ = some (.int .i64 N) := a0.cell 0
      have x1 : wr.cell? ⟨w.heap.size, 1, none⟩ = some (.int .i64 M) := a0.cell 1
      have hix := index2 f (f + 1)
      obtain ⟨ix0, ix1⟩ := hix
      have A0 := Lib.hid a0; have A1 := Lib.hid a1; have A2 := Lib.hid a2; have B0 := Lib.hid b0
      clear a0 a1 a2 b0
      go_wp2_with fail
      refine (ref_Floor _ _ _ (by omega) (by omega) M1 (by omega)).mono ?_
      rw [hf]
      rintro e w2 ⟨rfl, rfl⟩
      go_wp2_with fail
      clear x0 x1
      go_loopw [9, 10, 11, 34] (fun _ _ _ vi wi => ∃ (i : Nat) (bb : Int × Int), i ≤ 2 ∧ vi = .int .i64 i ∧ ((i = 0 ∧ bb = b) ∨ (i = 1 ∧ bb = nearStep N M q b f) ∨ (i = 2 ∧ bb = nearTo N M (k + 1))) ∧ NearBnd N M bb ∧ CandAt N M w wi bb) (fun _ _ _ vi _ => 2 - (intOf vi).toNat)
      case atStart => exact ⟨0, b, by omega, rfl, .inl ⟨rfl, rfl⟩, HBD.out, A0.out, A1.out, A2.out, B0.out⟩
      case round =>
        clear A0 A1 A2 B0
        obtain ⟨i, bb, hi, rfl, hor, hbb, hat⟩ := hrel
        rcases hor with ⟨rfl, hbe⟩ | ⟨rfl, hbe⟩ | ⟨rfl, rfl⟩
        · have HBE := Lib.hid hbe; clear hbe
          obtain ⟨P, Q⟩ := bb
          obtain ⟨a0, a1, a2, b0⟩ := hat
          obtain ⟨t1, t2, t3, t4⟩ := hbb
          simp only at t1 t2 t3 t4 a2
          obtain ⟨n1, n2, n3, n4⟩ := num_bnd (N := N) (M := M) (c := f) (e := q) CF.out.2 M1 (by rw [hNq]; exact g1) (by rw [hNq]; exact g2)
          obtain ⟨o1, o2⟩ := prod300 N1 N2 t1 t2
          obtain ⟨n5, n6, n7, n8⟩ := num_bnd t4 M1 o1 o2
          have cd := CF.out
          obtain ⟨cd1, cd2⟩ := cd
          have e1 : ((f) * M - NQ).natAbs = (dis N M (f) q).toNat := by unfold dis; rw [hNq]; omega
          have e2 : (P * M - N * Q).natAbs = (dis N M P Q).toNat := by unfold dis; omega
          obtain ⟨z1, z2⟩ := dis_mul cd1 (show dis N M (f) q ≤ 2147483647 by omega) t1 t2
          obtain ⟨z3, z4⟩ := dis_mul t3 (show dis N M P Q ≤ 2147483647 by omega) q1 q2
          have hdec : nearStep N M q (P, Q) (f) = if dis N M (f) q * Q < dis N M P Q * q then (f, q) else (P, Q) := rfl
          generalize hX : dis N M (f) q = X at *
          generalize hY : dis N M P Q = Y at *
          obtain ⟨Xn, rfl⟩ : ∃ n : Nat, X = n := ⟨X.toNat, by omega⟩
          obtain ⟨Yn, rfl⟩ : ∃ n : Nat, Y = n := ⟨Y.toNat, by omega⟩
          simp only [Int.toNat_natCast] at e1 e2
          generalize hCM : (f) * M = CM at *
          generalize hPM : P * M = PM at *
          generalize hNQ2 : N * Q = NQ2 at *
          generalize hXQ : (Xn : Int) * Q = XQ at *
          generalize hYq : (Yn : Int) * q = YQ at *
          have HE1 := Lib.hid e1; have HE2 := Lib.hid e2; have HD := Lib.hid hdec
          clear e1 e2 hdec hX hY
          have wx : IntKind.i64.wrap (Xn : Int) = (Xn : Int) := IntWalk.i64_in _ (by omega)
          have wy : IntKind.i64.wrap (Yn : Int) = (Yn : Int) := IntWalk.i64_in _ (by omega)
          have x0 : wr.cell? ⟨w.heap.size, 0, none⟩ = some (.int .i64 N) := a0.cell 0
          have x1 : wr.cell? ⟨w.heap.size, 1, none⟩ = some (.int .i64 M) := a0.cell 1
          have y0 : wr.cell? ⟨w.heap.size + 1 + 1, 0, none⟩ = some (.int .i64 P) := a2.cell 0
          have y1 : wr.cell? ⟨w.heap.size + 1 + 1, 1, none⟩ = some (.int .i64 Q) := a2.cell 1
          have y2 : wr.frozen? ⟨w.heap.size + 1 + 1, 0, none⟩ = false := a2.frozen 0
          have y3 : wr.frozen? ⟨w.heap.size + 1 + 1, 1, none⟩ = false := a2.frozen 1
          have AA0 := Lib.hid a0; have AA1 := Lib.hid a1; have AA2 := Lib.hid a2; have BB0 := Lib.hid b0
          clear a0 a1 a2 b0
          by_cases hn : XQ < YQ
          · have HN := Lib.hid (HD.out.trans (if_pos hn))
            go_wp2_with fail
            refine (ref_Size _ _ (by omega) (by omega)).mono ?_; rw [HE1.out]; rintro e w3 ⟨rfl, rfl⟩
            go_wp2_with fail
            refine (ref_Size _ _ (by omega) (by omega)).mono ?_; rw [HE2.out]; rintro e w3 ⟨rfl, rfl⟩
            go_wp2_with fail
            go_roundw
            case rel =>
              refine ⟨1, (f, q), by omega, by go_num, .inr (.inl ⟨rfl, by rw [← HBE.out]; exact HN.out.symm⟩), by have h := HB2.out; rw [← HBE.out, HN.out] at h; exact h, (AA0.out.apart (by simp; omega) _).apart (by simp; omega) _, (AA1.out.apart (by simp) _).apart (by simp) _, AA2.out.store2 _ _, below_set (below_set BB0.out (by simp; omega) _) (by simp; omega) _⟩
            case measure => simp [intOf]
          · have HN := Lib.hid (HD.out.trans (if_neg hn))
            go_wp2_with fail
            refine (ref_Size _ _ (by omega) (by omega)).mono ?_; rw [HE1.out]; rintro e w3 ⟨rfl, rfl⟩
            go_wp2_with fail
            refine (ref_Size _ _ (by omega) (by omega)).mono ?_; rw [HE2.out]; rintro e w3 ⟨rfl, rfl⟩
            go_wp2_with fail
            go_roundw
            case rel =>
              exact ⟨1, (P, Q), by omega, by go_num, .inr (.inl ⟨rfl, by rw [← HBE.out]; exact HN.out.symm⟩), by have h := HB2.out; rw [← HBE.out, HN.out] at h; exact h, AA0.out, AA1.out, AA2.out, BB0.out⟩
            case measure => simp [intOf]
        · have HBE := Lib.hid hbe; clear hbe
          obtain ⟨P, Q⟩ := bb
          obtain ⟨a0, a1, a2, b0⟩ := hat
          obtain ⟨t1, t2, t3, t4⟩ := hbb
          simp only at t1 t2 t3 t4 a2
          obtain ⟨n1, n2, n3, n4⟩ := num_bnd (N := N) (M := M) (c := f + 1) (e := q) CC.out.2 M1 (by rw [hNq]; exact g1) (by rw [hNq]; exact g2)
          obtain ⟨o1, o2⟩ := prod300 N1 N2 t1 t2
          obtain ⟨n5, n6, n7, n8⟩ := num_bnd t4 M1 o1 o2
          have cd := CC.out
          obtain ⟨cd1, cd2⟩ := cd
          have e1 : ((f + 1) * M - NQ).natAbs = (dis N M (f + 1) q).toNat := by unfold dis; rw [hNq]; omega
          have e2 : (P * M - N * Q).natAbs = (dis N M P Q).toNat := by unfold dis; omega
          obtain ⟨z1, z2⟩ := dis_mul cd1 (show dis N M (f + 1) q ≤ 2147483647 by omega) t1 t2
          obtain ⟨z3, z4⟩ := dis_mul t3 (show dis N M P Q ≤ 2147483647 by omega) q1 q2
          have hdec : nearStep N M q (P, Q) (f + 1) = if dis N M (f + 1) q * Q < dis N M P Q * q then (f + 1, q) else (P, Q) := rfl
          generalize hX : dis N M (f + 1) q = X at *
          generalize hY : dis N M P Q = Y at *
          obtain ⟨Xn, rfl⟩ : ∃ n : Nat, X = n := ⟨X.toNat, by omega⟩
          obtain ⟨Yn, rfl⟩ : ∃ n : Nat, Y = n := ⟨Y.toNat, by omega⟩
          simp only [Int.toNat_natCast] at e1 e2
          generalize hCM : (f + 1) * M = CM at *
          generalize hPM : P * M = PM at *
          generalize hNQ2 : N * Q = NQ2 at *
          generalize hXQ : (Xn : Int) * Q = XQ at *
          generalize hYq : (Yn : Int) * q = YQ at *
          have HE1 := Lib.hid e1; have HE2 := Lib.hid e2; have HD := Lib.hid hdec
          clear e1 e2 hdec hX hY
          have wx : IntKind.i64.wrap (Xn : Int) = (Xn : Int) := IntWalk.i64_in _ (by omega)
          have wy : IntKind.i64.wrap (Yn : Int) = (Yn : Int) := IntWalk.i64_in _ (by omega)
          have x0 : wr.cell? ⟨w.heap.size, 0, none⟩ = some (.int .i64 N) := a0.cell 0
          have x1 : wr.cell? ⟨w.heap.size, 1, none⟩ = some (.int .i64 M) := a0.cell 1
          have y0 : wr.cell? ⟨w.heap.size + 1 + 1, 0, none⟩ = some (.int .i64 P) := a2.cell 0
          have y1 : wr.cell? ⟨w.heap.size + 1 + 1, 1, none⟩ = some (.int .i64 Q) := a2.cell 1
          have y2 : wr.frozen? ⟨w.heap.size + 1 + 1, 0, none⟩ = false := a2.frozen 0
          have y3 : wr.frozen? ⟨w.heap.size + 1 + 1, 1, none⟩ = false := a2.frozen 1
          have AA0 := Lib.hid a0; have AA1 := Lib.hid a1; have AA2 := Lib.hid a2; have BB0 := Lib.hid b0
          clear a0 a1 a2 b0
          by_cases hn : XQ < YQ
          · have HN := Lib.hid (HD.out.trans (if_pos hn))
            go_wp2_with fail
            refine (ref_Size _ _ (by omega) (by omega)).mono ?_; rw [HE1.out]; rintro e w3 ⟨rfl, rfl⟩
            go_wp2_with fail
            refine (ref_Size _ _ (by omega) (by omega)).mono ?_; rw [HE2.out]; rintro e w3 ⟨rfl, rfl⟩
            go_wp2_with fail
            go_roundw
            case rel =>
              refine ⟨2, (f + 1, q), by omega, by go_num, .inr (.inr ⟨rfl, by rw [HS.out, ← HBE.out]; exact HN.out.symm⟩), by have h := HB3.out; rw [HS.out, ← HBE.out, HN.out] at h; exact h, (AA0.out.apart (by simp; omega) _).apart (by simp; omega) _, (AA1.out.apart (by simp) _).apart (by simp) _, AA2.out.store2 _ _, below_set (below_set BB0.out (by simp; omega) _) (by simp; omega) _⟩
            case measure => simp [intOf]
          · have HN := Lib.hid (HD.out.trans (if_neg hn))
            go_wp2_with fail
            refine (ref_Size _ _ (by omega) (by omega)).mono ?_; rw [HE1.out]; rintro e w3 ⟨rfl, rfl⟩
            go_wp2_with fail
            refine (ref_Size _ _ (by omega) (by omega)).mono ?_; rw [HE2.out]; rintro e w3 ⟨rfl, rfl⟩
            go_wp2_with fail
            go_roundw
            case rel =>
              exact ⟨2, (P, Q), by omega, by go_num, .inr (.inr ⟨rfl, by rw [HS.out, ← HBE.out]; exact HN.out.symm⟩), by have h := HB3.out; rw [HS.out, ← HBE.out, HN.out] at h; exact h, AA0.out, AA1.out, AA2.out, BB0.out⟩
            case measure => simp [intOf]
        · go_wp2_with fail
          go_roundw
          case rel => exact ⟨k + 1, by omega, by simp; omega, hbb, hat⟩
          case measure => simp [intOf]; omega
    · obtain rfl : k = d := by omega
      have x2 : wr.cell? ⟨w.heap.size + 1 + 1, 0, none⟩ = some (.int .i64 (nearTo N M k).1) := a2.cell 0
      have x3 : wr.cell? ⟨w.heap.size + 1 + 1, 1, none⟩ = some (.int .i64 (nearTo N M k).2) := a2.cell 1
      have z0 : wr.cell? ⟨w.heap.size + 1, 0, none⟩ = some (.int .i64 0) := a1.cell 0
      have z1 : wr.cell? ⟨w.heap.size + 1, 1, none⟩ = some (.int .i64 0) := a1.cell 1
      have f0 : wr.frozen? ⟨w.heap.size + 1, 0, none⟩ = false := a1.frozen 0
      have f1 : wr.frozen? ⟨w.heap.size + 1, 1, none⟩ = false := a1.frozen 1
      generalize hX : (nearTo N M k).1 = X at *
      generalize hY : (nearTo N M k).2 = Y at *
      have HX := Lib.hid hX; have HY := Lib.hid hY; clear hX hY
      have A1 := Lib.hid a1; clear a1
      go_wp2_with fail
      have AF := A1.out.store2 (.int .i64 X) (.int .i64 Y)
      have cc0 : ((wr.setCell ⟨w.heap.size + 1, 0, none⟩ (.int .i64 X)).setCell ⟨w.heap.size + 1, 1, none⟩ (.int .i64 Y)).cell? ⟨w.heap.size + 1, 0, none⟩ = some (.int .i64 X) := AF.cell 0
      have cc1 : ((wr.setCell ⟨w.heap.size + 1, 0, none⟩ (.int .i64 X)).setCell ⟨w.heap.size + 1, 1, none⟩ (.int .i64 Y)).cell? ⟨w.heap.size + 1, 1, none⟩ = some (.int .i64 Y) := AF.cell 1
      exact bodyPost_ret (v := .agg #[.int .i64 X, .int .i64 Y]) (by simp [results, Try.results22, go_sem, cc0, cc1]) rfl ⟨by rw [HX.out, HY.out], below_set (below_set b0 (by simp) _) (by simp) _⟩
end Go.Proofs.Ytnepdfglhngheaa
