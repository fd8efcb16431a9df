/- Contract of lunisolar.begin. -/
import Derived.Test.YtjjmbnflhldoeaaLuni1
namespace Go.Proofs.Ytjjmbnflhldoeaa
set_option linter.unusedVariables false
set_option maxRecDepth 100000
open Go.RowKit

/-- The first day of a month; the one behind the last is the first of the next year. -/
def beginD (f sn sd mn md ln ld c N : Int) (ls vs : List Int) (y m : Int) : Int := if mths c ls y < m then begD f sn sd mn md ln ld c N ls vs (y + 1) 1 else begD f sn sd mn md ln ld c N ls vs y m
/-- Quotients and bounds of a rule. -/
theorem quo_in {d N : Int} (hd : 1 ≤ d) (hN : 1 ≤ N) (hv : d ∣ N) : 1 ≤ N / d ∧ N / d ≤ N ∧ N.tdiv d = N / d ∧ d * (N / d) = N := by
  have h1 : d * (N / d) = N := Int.mul_ediv_cancel' hv
  have h2 : 1 ≤ N / d := by
    rw [Int.le_ediv_iff_mul_le (by omega)]
    have := Int.le_of_dvd (by omega) hv
    omega
  have h3 : 1 * (N / d) ≤ d * (N / d) := Int.mul_le_mul_of_nonneg_right hd (by omega)
  exact ⟨h2, by omega, Int.tdiv_eq_ediv_of_nonneg (by omega), h1⟩
theorem at_start {s : ByteArray} {f sn sd mn md ln ld c : Int} {ls vs : List Int} {N : Int} (ok : MoonOk s f sn sd mn md ln ld c ls vs N) : 0 ≤ sn * (N / sd) ∧ sn * (N / sd) ≤ N := by
  obtain ⟨p1, p2, p3, p4⟩ := quo_in ok.sd1 ok.n1 ok.sdv
  have h1 := ok.sn1; have h2 := ok.sn2; have h3 := ok.n2
  have h4 : 0 ≤ sn * (N / sd) := Int.mul_nonneg h1 (by omega)
  have h5 : sn * (N / sd) ≤ sd * (N / sd) := Int.mul_le_mul_of_nonneg_right (by omega) (by omega)
  omega
theorem at_late {s : ByteArray} {f sn sd mn md ln ld c : Int} {ls vs : List Int} {N : Int} (ok : MoonOk s f sn sd mn md ln ld c ls vs N) : 0 ≤ ln * (N / ld) ∧ ln * (N / ld) ≤ 1000000 := by
  obtain ⟨p1, p2, p3, p4⟩ := quo_in ok.ld1 ok.n1 ok.ldv
  have h1 := ok.ln1; have h2 := ok.ln2; have h3 := ok.n2
  have h4 : 0 ≤ ln * (N / ld) := Int.mul_nonneg (by omega) (by omega)
  have h5 : ln * (N / ld) ≤ ld * (N / ld) := Int.mul_le_mul_of_nonneg_right (by omega) (by omega)
  omega
theorem at_month {s : ByteArray} {f sn sd mn md ln ld c : Int} {ls vs : List Int} {N : Int} (ok : MoonOk s f sn sd mn md ln ld c ls vs N) : 29 * N ≤ mn * (N / md) ∧ mn * (N / md) ≤ 30 * N ∧ 0 ≤ mn ∧ mn ≤ 30000000 := by
  obtain ⟨p1, p2, p3, p4⟩ := quo_in ok.md1 ok.n1 ok.mdv
  have h1 := ok.mn1; have h2 := ok.mn2; have h3 := ok.n2; have h4 := ok.md1
  have h5 : 29 * md * (N / md) ≤ mn * (N / md) := Int.mul_le_mul_of_nonneg_right h1 (by omega)
  have h6 : mn * (N / md) ≤ 30 * md * (N / md) := Int.mul_le_mul_of_nonneg_right h2 (by omega)
  rw [Int.mul_assoc, p4] at h5 h6
  have h7 : md * 1 ≤ md * (N / md) := Int.mul_le_mul_of_nonneg_left p1 (by omega)
  omega
theorem at_form (sn sd mn md N k : Int) : sn * (N / sd) + k * mn * (N / md) = atP sn sd mn md N k := by
  unfold atP
  rw [Int.mul_comm sn, Int.mul_assoc k mn, Int.mul_comm mn]
set_option maxHeartbeats 4000000 in
theorem lunisolar_begin (w : World) (s : ByteArray) (f sn sd mn md ln ld c : Int) (a1 a2 : Option Addr) (n1 c1 n2 c2 : Nat) (ls vs : List Int) (N y m : Int) (ok : MoonOk s f sn sd mn md ln ld c ls vs N) (y1 : -18000 ≤ y) (y2 : y ≤ 18000) (m1 : 1 ≤ m) (m2 : m ≤ 20) (h : MoonAt w a1 a2 n1 n2 ls vs) :
    Calls Try.prog 68 #[.agg #[.string s, .int .i64 f, .int .i64 sn, .int .i64 sd, .int .i64 mn, .int .i64 md, .int .i64 ln, .int .i64 ld, .int .i64 c, .slice a1 n1 c1, .slice a2 n2 c2], .int .i64 y, .int .i64 m] w fun e w' => e = .returned (.int .i64 (beginD f sn sd mn md ln ld c N ls vs y m)) ∧ Below w.heap.size w w' := by
  obtain ⟨P1, hP1⟩ : ∃ P, P = N / sd := ⟨_, rfl⟩
  obtain ⟨P2, hP2⟩ : ∃ P, P = N / md := ⟨_, rfl⟩
  obtain ⟨P3, hP3⟩ : ∃ P, P = N / ld := ⟨_, rfl⟩
  have aS := at_start ok; have al := at_late ok; have am := at_month ok
  obtain ⟨u1, u2, u3, -⟩ := quo_in ok.sd1 ok.n1 ok.sdv
  obtain ⟨v1, v2, v3, -⟩ := quo_in ok.md1 ok.n1 ok.mdv
  obtain ⟨z1, z2, z3, -⟩ := quo_in ok.ld1 ok.n1 ok.ldv
  have hmm := mths_in c ls y
  obtain ⟨MM, hMM⟩ : ∃ MM, MM = mths c ls y := ⟨_, rfl⟩
  rw [← hMM] at hmm
  have sd1 := ok.sd1; have md1 := ok.md1; have ld1 := ok.ld1; have n1' := ok.n1; have n2' := ok.n2; have f1 := ok.f1; have f2 := ok.f2; have vl := ok.v1
  have sdz : (sd == 0) = false := by simp; omega
  have mdz : (md == 0) = false := by simp; omega
  have ldz : (ld == 0) = false := by simp; omega
  have hF : ∃ (Y M : Int), -18000 ≤ Y ∧ Y ≤ 18001 ∧ 1 ≤ M ∧ M ≤ 20 ∧ beginD f sn sd mn md ln ld c N ls vs y m = begD f sn sd mn md ln ld c N ls vs Y M ∧ ((MM < m ∧ Y = y + 1 ∧ M = 1) ∨ (m ≤ MM ∧ Y = y ∧ M = m)) := by
    by_cases hc : MM < m
    · exact ⟨y + 1, 1, by omega, by omega, by omega, by omega, by rw [beginD, if_pos (by rw [← hMM]; exact hc)], Or.inl ⟨hc, rfl, rfl⟩⟩
    · exact ⟨y, m, by omega, by omega, by omega, by omega, by rw [beginD, if_neg (by rw [← hMM]; exact hc)], Or.inr ⟨by omega, rfl, rfl⟩⟩
  obtain ⟨Y, M, Y1, Y2, M1, M2, hbeg, hcase⟩ := hF
  rw [hbeg]
  have bb := bef_in ok.c1 ok.leaps ok.sorted Y (by omega) (by omega)
  obtain ⟨B, hB⟩ : ∃ B, B = bef c ls Y := ⟨_, rfl⟩
  rw [← hB] at bb
  obtain ⟨b1, b2⟩ := bb
  obtain ⟨K, hK⟩ : ∃ K, K = B + M - 1 := ⟨_, rfl⟩
  have k1 := mul_in K mn 300020 30000000 (by omega) (by omega) (by omega) (by omega)
  have k2 := mul_in K (mn * (N / md)) 300020 (30 * N) (by omega) (by omega) (by omega) (by omega)
  rw [← Int.mul_assoc K] at k2
  have haf := at_form sn sd mn md N K
  rw [← hP1] at aS u1 u2 u3 haf
  rw [← hP2] at am v1 v2 v3 k2 haf
  rw [← hP3] at al z1 z2 z3
  obtain ⟨AT, hAT⟩ : ∃ A, A = sn * P1 + K * mn * P2 := ⟨_, rfl⟩
  rw [← hAT] at haf
  have hA1 : -20000000000000 ≤ AT ∧ AT ≤ 20000000000000 := by omega
  obtain ⟨hA1, hA2⟩ := hA1
  have g1 : -10000000 ≤ AT / N := by rw [Int.le_ediv_iff_mul_le (by omega)]; omega
  have g2 : AT / N ≤ 10000000 := Int.ediv_le_of_le_mul (by omega) (by omega)
  have hday : dayP f sn sd mn md ln ld N K = f + (AT / N + if ln * P3 ≤ AT % N then 1 else 0) := by
    unfold dayP; rw [← haf, ← hP3, Int.mul_comm P3]
  have hbd : begD f sn sd mn md ln ld c N ls vs Y M = if M = 1 then postD vs (dayP f sn sd mn md ln ld N K) else dayP f sn sd mn md ln ld N K := by
    unfold begD
    rw [← hB]
    by_cases hM : M = 1
    · rw [if_pos hM, if_pos hM, hK, show B + M - 1 = B by omega]
    · rw [if_neg hM, if_neg hM, hK]
  rw [hday] at hbd
  obtain ⟨E, hE⟩ : ∃ E, E = begD f sn sd mn md ln ld c N ls vs Y M := ⟨_, rfl⟩
  rw [← hE] at hbd ⊢
  have fm : ∀ W, Below w.heap.size w W → Calls Try.prog 67 #[.agg #[.string s, .int .i64 f, .int .i64 sn, .int .i64 sd, .int .i64 mn, .int .i64 md, .int .i64 ln, .int .i64 ld, .int .i64 c, .slice a1 n1 c1, .slice a2 n2 c2], .int .i64 y] W fun e w' => e = .returned (.int .i64 MM) ∧ Below W.heap.size W w' := fun W hW => by
    rw [hMM]; exact lunisolar_months W s f sn sd mn md ln ld c a1 a2 n1 c1 n2 c2 ls vs N y ok (by omega) (by omega) (h.then_ hW)
  have fb : ∀ W, Below w.heap.size w W → Calls Try.prog 87 #[.agg #[.string s, .int .i64 f, .int .i64 sn, .int .i64 sd, .int .i64 mn, .int .i64 md, .int .i64 ln, .int .i64 ld, .int .i64 c, .slice a1 n1 c1, .slice a2 n2 c2], .int .i64 Y] W fun e w' => e = .returned (.int .i64 B) ∧ Below W.heap.size W w' := fun W hW => by
    rw [hB]; exact lunisolar_before W s f sn sd mn md ln ld c a1 a2 n1 c1 n2 c2 ls vs N Y ok (by omega) (by omega) (h.then_ hW)
  have fp : ∀ W, Below w.heap.size w W → Calls Try.prog 64 #[.agg #[.string s, .int .i64 f, .int .i64 sn, .int .i64 sd, .int .i64 mn, .int .i64 md, .int .i64 ln, .int .i64 ld, .int .i64 c, .slice a1 n1 c1, .slice a2 n2 c2]] W fun e w' => e = .returned (.int .i64 N) ∧ Below W.heap.size W w' := fun W hW => by
    have := lunisolar_parts W s f sn sd mn md ln ld c a1 a2 n1 c1 n2 c2 ls vs sd1 (by have := Int.le_of_dvd (by omega) ok.sdv; omega) md1 (by have := Int.le_of_dvd (by omega) ok.mdv; omega) ld1 (by have := Int.le_of_dvd (by omega) ok.ldv; omega)
    rw [ok.n] at this; exact this
  have HAT := Lib.hid hAT; have HBD := Lib.hid hbd; have FM := Lib.hid fm; have FB := Lib.hid fb; have FP := Lib.hid fp; have H := Lib.hid h; have HK := Lib.hid hK
  have w1 : IntKind.i64.wrap (sn * P1) = sn * P1 := IntWalk.i64_in _ (by omega)
  have w2 : IntKind.i64.wrap (B + M) = B + M := IntWalk.i64_in _ (by omega)
  have w3 : IntKind.i64.wrap (B + M - 1) = K := by rw [IntWalk.i64_in _ (by omega), hK]
  have w4 : IntKind.i64.wrap (K * mn) = K * mn := IntWalk.i64_in _ (by omega)
  have w5 : IntKind.i64.wrap (K * mn * P2) = K * mn * P2 := IntWalk.i64_in _ (by omega)
  have w6 : IntKind.i64.wrap (sn * P1 + K * mn * P2) = AT := by rw [← hAT]; exact IntWalk.i64_in _ (by omega)
  have w7 : IntKind.i64.wrap P1 = P1 := IntWalk.i64_in _ (by omega)
  have w8 : IntKind.i64.wrap P2 = P2 := IntWalk.i64_in _ (by omega)
  have w9 : IntKind.i64.wrap P3 = P3 := IntWalk.i64_in _ (by omega)
  have w10 : IntKind.i64.wrap (ln * P3) = ln * P3 := IntWalk.i64_in _ (by omega)
  have w11 : IntKind.i64.wrap (f + AT / N) = f + AT / N := IntWalk.i64_in _ (by omega)
  have w12 : IntKind.i64.wrap (f + AT / N + 1) = f + AT / N + 1 := IntWalk.i64_in _ (by omega)
  have q1 := hP1.symm; have q2 := hP2.symm; have q3 := hP3.symm
  have sd0 : ¬ sd = 0 := by omega
  have md0 : ¬ md = 0 := by omega
  have ld0 : ¬ ld = 0 := by omega
  clear hMM hB hK hAT hbd hbeg hE fm fb fp h ok haf hP1 hP2 hP3 hday k1 k2 aS am
  rcases hcase with ⟨hc, hYe, hMe⟩ | ⟨hc, hYe, hMe⟩
  · subst hMe
    have hKB : K = B := by have := HK.out; omega
    subst hKB
    have w0 : IntKind.i64.wrap (y + 1) = Y := by rw [IntWalk.i64_in _ (by omega), hYe]
    have w13 : IntKind.i64.wrap K = K := IntWalk.i64_in _ (by omega)
    clear hYe HK
    go_enter Try.func68, Try.ntmps68
    go_wp2_with fail
    have on := OneM.new w (.cells #[.string s, .int .i64 f, .int .i64 sn, .int .i64 sd, .int .i64 mn, .int .i64 md, .int .i64 ln, .int .i64 ld, .int .i64 c, .slice a1 n1 c1, .slice a2 n2 c2] 42)
    generalize World.alloc w _ = W1 at on ⊢
    refine (FM.out _ on.below).mono ?_
    rintro e W2 ⟨rfl, hb⟩
    replace on := on.step hb
    clear hb
    obtain ⟨x0, x1, x2, x3, x4, x5, x6, x7, x8, x9, x10⟩ := on.cells
    go_wp2_with fail
    refine (FP.out _ on.below).mono ?_
    rintro e W3 ⟨rfl, hb⟩
    replace on := on.step hb
    clear hb x0 x1 x2 x3 x4 x5 x6 x7 x8 x9 x10
    go_wp2_with fail
    (refine region_class (OneM w w.heap.size (.cells #[.string s, .int .i64 f, .int .i64 sn, .int .i64 sd, .int .i64 mn, .int .i64 md, .int .i64 ln, .int .i64 ld, .int .i64 c, .slice a1 n1 c1, .slice a2 n2 c2] 42)) (by kernel_rfl) (by kernel_rfl) (on.drew) ?_; repeat ((first | (refine class_take ?_ (by rfl) ?_ ?_; rotate_left; focus (intro wq hq; ((obtain ⟨x0, x1, x2, x3, x4, x5, x6, x7, x8, x9, x10⟩ := hq.cells)); go_simp; first | done | with_reducible rfl | ((go_at_call 87; (with_reducible refine (FB.out _ hq.below).mono ?_); rintro e w' ⟨rfl, hb⟩; refine ⟨?_, hq.step hb⟩; with_reducible rfl)))) | refine class_skip (by rfl) ?_); try simp only [Act.put, List.setIfInBounds_toArray, List.set_cons_zero, List.set_cons_succ]))
    refine wpQuiet_nil ?_
    intro W4 on4
    clear on
    go_wp2_with fail
    (refine region_class (OneM w w.heap.size (.cells #[.string s, .int .i64 f, .int .i64 sn, .int .i64 sd, .int .i64 mn, .int .i64 md, .int .i64 ln, .int .i64 ld, .int .i64 c, .slice a1 n1 c1, .slice a2 n2 c2] 42)) (by kernel_rfl) (by kernel_rfl) (on4.drew) ?_; repeat ((first | (refine class_take ?_ (by rfl) ?_ ?_; rotate_left; focus (intro wq hq; ((obtain ⟨x0, x1, x2, x3, x4, x5, x6, x7, x8, x9, x10⟩ := hq.cells)); go_simp; first | done | with_reducible rfl | ((go_at_call 73; refine (whole_Down _ _ _ (by omega) (by omega) (by omega) (by omega)).mono ?_; rintro e w' ⟨rfl, hdr⟩; refine ⟨?_, hq.drawn hdr⟩; with_reducible rfl)))) | refine class_skip (by rfl) ?_); try simp only [Act.put, List.setIfInBounds_toArray, List.set_cons_zero, List.set_cons_succ]))
    refine wpQuiet_nil ?_
    intro W5 on5
    clear on4
    go_wp2_with fail
    by_cases hl : ln * P3 ≤ AT % N
    · (refine region_class (OneM w w.heap.size (.cells #[.string s, .int .i64 f, .int .i64 sn, .int .i64 sd, .int .i64 mn, .int .i64 md, .int .i64 ln, .int .i64 ld, .int .i64 c, .slice a1 n1 c1, .slice a2 n2 c2] 42)) (by kernel_rfl) (by kernel_rfl) (on5.drew) ?_; repeat ((first | (refine class_take ?_ (by rfl) ?_ ?_; rotate_left; focus (intro wq hq; ((obtain ⟨x0, x1, x2, x3, x4, x5, x6, x7, x8, x9, x10⟩ := hq.cells)); go_simp; first | done | with_reducible rfl | ((go_at_call 46; refine (whole_Mod _ _ _ (by omega) (by omega) (by omega) (by omega)).mono ?_; rintro e w' ⟨rfl, hdr⟩; refine ⟨?_, hq.drawn hdr⟩; with_reducible rfl)))) | refine class_skip (by rfl) ?_); try simp only [Act.put, List.setIfInBounds_toArray, List.set_cons_zero, List.set_cons_succ]))
      refine wpQuiet_nil ?_
      intro W6 on
      clear on5
      generalize AT % N = AM at *
      generalize AT / N = AQ at *
      have q0 : -15000000 ≤ f + AQ ∧ f + AQ ≤ 15000000 := by omega
      obtain ⟨q01, q02⟩ := q0
      have hE0 := HBD.out
      rw [if_pos trivial, if_pos hl, show f + (AQ + 1) = f + AQ + 1 by omega] at hE0
      generalize f + AQ = Q0 at *
      have HE0 := Lib.hid hE0.symm
      have p4 := postD_in vs (Q0 + 1)
      rw [HE0.out] at p4
      have HE4 := Lib.hid p4
      clear p4 hE0
      go_wp2_with fail
      clear hl
      go_loopw [9] (fun t wr => ∃ D : Int, t = .int .i64 D ∧ (Q0 + 1) ≤ D ∧ D ≤ (Q0 + 1) + 3 ∧ postD vs D = E ∧ OneM w w.heap.size (.cells #[.string s, .int .i64 f, .int .i64 sn, .int .i64 sd, .int .i64 mn, .int .i64 md, .int .i64 ln, .int .i64 ld, .int .i64 c, .slice a1 n1 c1, .slice a2 n2 c2] 42) wr) (fun t _ => (E - intOf t).toNat)
      case atStart => exact ⟨(Q0 + 1), rfl, by omega, by omega, HE0.out, on⟩
      case round =>
        clear on
        obtain ⟨D, rfl, e1, e2, hgo, on⟩ := hrel
        obtain ⟨x0, x1, x2, x3, x4, x5, x6, x7, x8, x9, x10⟩ := on.cells
        have p1 := postD_in vs D
        rw [hgo] at p1
        have t1 : IntKind.i64.wrap (D + 1) = D + 1 := IntWalk.i64_in _ (by omega)
        have HGO := Lib.hid hgo; clear hgo
        go_wp2_with fail
        refine (lunisolar_avoided _ s f sn sd mn md ln ld c a1 a2 n1 c1 n2 c2 ls vs D (by omega) (by omega) (H.out.then_ on.below)).mono ?_
        cases hbd : badD vs D
        · rintro e W9 ⟨rfl, hb⟩
          have HFIN := Lib.hid (show D = E by rw [← HGO.out]; exact (postD_stop hbd).symm)
          replace on := on.step hb
          clear hb x0 x1 x2 x3 x4 x5 x6 x7 x8 x9 x10 hbd
          go_wp2_with fail
          go_ret
          exact ⟨ret_int HFIN.out, on.below⟩
        · rintro e W9 ⟨rfl, hb⟩
          have hst := postD_step vl hbd
          have hne : D ≠ E := by
            intro h
            have := postD_ok vs D vl
            rw [HGO.out, ← h, hbd] at this
            cases this
          rw [HGO.out] at hst
          have HST := Lib.hid hst
          have HNE := Lib.hid (show D < E by omega)
          replace on := on.step hb
          clear hb x0 x1 x2 x3 x4 x5 x6 x7 x8 x9 x10 hbd hst hne
          have p3 : D + 1 ≤ (Q0 + 1) + 3 := by have := HNE.out; have := HE4.out; omega
          go_wp2_with fail
          go_roundw
          case rel => first | exact ⟨D + 1, by go_num, by omega, p3, HST.out, on⟩ | ((repeat apply Exists.intro); exact ⟨⟨D + 1, by go_num, by omega, p3, HST.out, on⟩, rfl⟩)
          case measure => have := HNE.out; simp [intOf]; omega
    · (refine region_class (OneM w w.heap.size (.cells #[.string s, .int .i64 f, .int .i64 sn, .int .i64 sd, .int .i64 mn, .int .i64 md, .int .i64 ln, .int .i64 ld, .int .i64 c, .slice a1 n1 c1, .slice a2 n2 c2] 42)) (by kernel_rfl) (by kernel_rfl) (on5.drew) ?_; repeat ((first | (refine class_take ?_ (by rfl) ?_ ?_; rotate_left; focus (intro wq hq; ((obtain ⟨x0, x1, x2, x3, x4, x5, x6, x7, x8, x9, x10⟩ := hq.cells)); go_simp; first | done | with_reducible rfl | ((go_at_call 46; refine (whole_Mod _ _ _ (by omega) (by omega) (by omega) (by omega)).mono ?_; rintro e w' ⟨rfl, hdr⟩; refine ⟨?_, hq.drawn hdr⟩; with_reducible rfl)))) | refine class_skip (by rfl) ?_); try simp only [Act.put, List.setIfInBounds_toArray, List.set_cons_zero, List.set_cons_succ]))
      refine wpQuiet_nil ?_
      intro W6 on
      clear on5
      generalize AT % N = AM at *
      generalize AT / N = AQ at *
      have q0 : -15000000 ≤ f + AQ ∧ f + AQ ≤ 15000000 := by omega
      obtain ⟨q01, q02⟩ := q0
      have hE0 := HBD.out
      rw [if_pos trivial, if_neg hl, show f + (AQ + 0) = f + AQ by omega] at hE0
      generalize f + AQ = Q0 at *
      have HE0 := Lib.hid hE0.symm
      have p4 := postD_in vs Q0
      rw [HE0.out] at p4
      have HE4 := Lib.hid p4
      clear p4 hE0
      go_wp2_with fail
      clear hl
      go_loopw [9] (fun t wr => ∃ D : Int, t = .int .i64 D ∧ Q0 ≤ D ∧ D ≤ Q0 + 3 ∧ postD vs D = E ∧ OneM w w.heap.size (.cells #[.string s, .int .i64 f, .int .i64 sn, .int .i64 sd, .int .i64 mn, .int .i64 md, .int .i64 ln, .int .i64 ld, .int .i64 c, .slice a1 n1 c1, .slice a2 n2 c2] 42) wr) (fun t _ => (E - intOf t).toNat)
      case atStart => exact ⟨Q0, rfl, by omega, by omega, HE0.out, on⟩
      case round =>
        clear on
        obtain ⟨D, rfl, e1, e2, hgo, on⟩ := hrel
        obtain ⟨x0, x1, x2, x3, x4, x5, x6, x7, x8, x9, x10⟩ := on.cells
        have p1 := postD_in vs D
        rw [hgo] at p1
        have t1 : IntKind.i64.wrap (D + 1) = D + 1 := IntWalk.i64_in _ (by omega)
        have HGO := Lib.hid hgo; clear hgo
        go_wp2_with fail
        refine (lunisolar_avoided _ s f sn sd mn md ln ld c a1 a2 n1 c1 n2 c2 ls vs D (by omega) (by omega) (H.out.then_ on.below)).mono ?_
        cases hbd : badD vs D
        · rintro e W9 ⟨rfl, hb⟩
          have HFIN := Lib.hid (show D = E by rw [← HGO.out]; exact (postD_stop hbd).symm)
          replace on := on.step hb
          clear hb x0 x1 x2 x3 x4 x5 x6 x7 x8 x9 x10 hbd
          go_wp2_with fail
          go_ret
          exact ⟨ret_int HFIN.out, on.below⟩
        · rintro e W9 ⟨rfl, hb⟩
          have hst := postD_step vl hbd
          have hne : D ≠ E := by
            intro h
            have := postD_ok vs D vl
            rw [HGO.out, ← h, hbd] at this
            cases this
          rw [HGO.out] at hst
          have HST := Lib.hid hst
          have HNE := Lib.hid (show D < E by omega)
          replace on := on.step hb
          clear hb x0 x1 x2 x3 x4 x5 x6 x7 x8 x9 x10 hbd hst hne
          have p3 : D + 1 ≤ Q0 + 3 := by have := HNE.out; have := HE4.out; omega
          go_wp2_with fail
          go_roundw
          case rel => first | exact ⟨D + 1, by go_num, by omega, p3, HST.out, on⟩ | ((repeat apply Exists.intro); exact ⟨⟨D + 1, by go_num, by omega, p3, HST.out, on⟩, rfl⟩)
          case measure => have := HNE.out; simp [intOf]; omega
  · subst hMe hYe
    by_cases hm1 : M = 1
    · subst hm1
      have hKB : K = B := by have := HK.out; omega
      subst hKB
      have w13 : IntKind.i64.wrap K = K := IntWalk.i64_in _ (by omega)
      clear HK
      go_enter Try.func68, Try.ntmps68
      go_wp2_with fail
      have on := OneM.new w (.cells #[.string s, .int .i64 f, .int .i64 sn, .int .i64 sd, .int .i64 mn, .int .i64 md, .int .i64 ln, .int .i64 ld, .int .i64 c, .slice a1 n1 c1, .slice a2 n2 c2] 42)
      generalize World.alloc w _ = W1 at on ⊢
      refine (FM.out _ on.below).mono ?_
      rintro e W2 ⟨rfl, hb⟩
      replace on := on.step hb
      clear hb
      obtain ⟨x0, x1, x2, x3, x4, x5, x6, x7, x8, x9, x10⟩ := on.cells
      go_wp2_with fail
      refine (FP.out _ on.below).mono ?_
      rintro e W3 ⟨rfl, hb⟩
      replace on := on.step hb
      clear hb x0 x1 x2 x3 x4 x5 x6 x7 x8 x9 x10
      go_wp2_with fail
      (refine region_class (OneM w w.heap.size (.cells #[.string s, .int .i64 f, .int .i64 sn, .int .i64 sd, .int .i64 mn, .int .i64 md, .int .i64 ln, .int .i64 ld, .int .i64 c, .slice a1 n1 c1, .slice a2 n2 c2] 42)) (by kernel_rfl) (by kernel_rfl) (on.drew) ?_; repeat ((first | (refine class_take ?_ (by rfl) ?_ ?_; rotate_left; focus (intro wq hq; ((obtain ⟨x0, x1, x2, x3, x4, x5, x6, x7, x8, x9, x10⟩ := hq.cells)); go_simp; first | done | with_reducible rfl | ((go_at_call 87; (with_reducible refine (FB.out _ hq.below).mono ?_); rintro e w' ⟨rfl, hb⟩; refine ⟨?_, hq.step hb⟩; with_reducible rfl)))) | refine class_skip (by rfl) ?_); try simp only [Act.put, List.setIfInBounds_toArray, List.set_cons_zero, List.set_cons_succ]))
      refine wpQuiet_nil ?_
      intro W4 on4
      clear on
      go_wp2_with fail
      (refine region_class (OneM w w.heap.size (.cells #[.string s, .int .i64 f, .int .i64 sn, .int .i64 sd, .int .i64 mn, .int .i64 md, .int .i64 ln, .int .i64 ld, .int .i64 c, .slice a1 n1 c1, .slice a2 n2 c2] 42)) (by kernel_rfl) (by kernel_rfl) (on4.drew) ?_; repeat ((first | (refine class_take ?_ (by rfl) ?_ ?_; rotate_left; focus (intro wq hq; ((obtain ⟨x0, x1, x2, x3, x4, x5, x6, x7, x8, x9, x10⟩ := hq.cells)); go_simp; first | done | with_reducible rfl | ((go_at_call 73; refine (whole_Down _ _ _ (by omega) (by omega) (by omega) (by omega)).mono ?_; rintro e w' ⟨rfl, hdr⟩; refine ⟨?_, hq.drawn hdr⟩; with_reducible rfl)))) | refine class_skip (by rfl) ?_); try simp only [Act.put, List.setIfInBounds_toArray, List.set_cons_zero, List.set_cons_succ]))
      refine wpQuiet_nil ?_
      intro W5 on5
      clear on4
      go_wp2_with fail
      by_cases hl : ln * P3 ≤ AT % N
      · (refine region_class (OneM w w.heap.size (.cells #[.string s, .int .i64 f, .int .i64 sn, .int .i64 sd, .int .i64 mn, .int .i64 md, .int .i64 ln, .int .i64 ld, .int .i64 c, .slice a1 n1 c1, .slice a2 n2 c2] 42)) (by kernel_rfl) (by kernel_rfl) (on5.drew) ?_; repeat ((first | (refine class_take ?_ (by rfl) ?_ ?_; rotate_left; focus (intro wq hq; ((obtain ⟨x0, x1, x2, x3, x4, x5, x6, x7, x8, x9, x10⟩ := hq.cells)); go_simp; first | done | with_reducible rfl | ((go_at_call 46; refine (whole_Mod _ _ _ (by omega) (by omega) (by omega) (by omega)).mono ?_; rintro e w' ⟨rfl, hdr⟩; refine ⟨?_, hq.drawn hdr⟩; with_reducible rfl)))) | refine class_skip (by rfl) ?_); try simp only [Act.put, List.setIfInBounds_toArray, List.set_cons_zero, List.set_cons_succ]))
        refine wpQuiet_nil ?_
        intro W6 on
        clear on5
        generalize AT % N = AM at *
        generalize AT / N = AQ at *
        have q0 : -15000000 ≤ f + AQ ∧ f + AQ ≤ 15000000 := by omega
        obtain ⟨q01, q02⟩ := q0
        have hE0 := HBD.out
        rw [if_pos trivial, if_pos hl, show f + (AQ + 1) = f + AQ + 1 by omega] at hE0
        generalize f + AQ = Q0 at *
        have HE0 := Lib.hid hE0.symm
        have p4 := postD_in vs (Q0 + 1)
        rw [HE0.out] at p4
        have HE4 := Lib.hid p4
        clear p4 hE0
        go_wp2_with fail
        clear hl
        go_loopw [9] (fun t wr => ∃ D : Int, t = .int .i64 D ∧ (Q0 + 1) ≤ D ∧ D ≤ (Q0 + 1) + 3 ∧ postD vs D = E ∧ OneM w w.heap.size (.cells #[.string s, .int .i64 f, .int .i64 sn, .int .i64 sd, .int .i64 mn, .int .i64 md, .int .i64 ln, .int .i64 ld, .int .i64 c, .slice a1 n1 c1, .slice a2 n2 c2] 42) wr) (fun t _ => (E - intOf t).toNat)
        case atStart => exact ⟨(Q0 + 1), rfl, by omega, by omega, HE0.out, on⟩
        case round =>
          clear on
          obtain ⟨D, rfl, e1, e2, hgo, on⟩ := hrel
          obtain ⟨x0, x1, x2, x3, x4, x5, x6, x7, x8, x9, x10⟩ := on.cells
          have p1 := postD_in vs D
          rw [hgo] at p1
          have t1 : IntKind.i64.wrap (D + 1) = D + 1 := IntWalk.i64_in _ (by omega)
          have HGO := Lib.hid hgo; clear hgo
          go_wp2_with fail
          refine (lunisolar_avoided _ s f sn sd mn md ln ld c a1 a2 n1 c1 n2 c2 ls vs D (by omega) (by omega) (H.out.then_ on.below)).mono ?_
          cases hbd : badD vs D
          · rintro e W9 ⟨rfl, hb⟩
            have HFIN := Lib.hid (show D = E by rw [← HGO.out]; exact (postD_stop hbd).symm)
            replace on := on.step hb
            clear hb x0 x1 x2 x3 x4 x5 x6 x7 x8 x9 x10 hbd
            go_wp2_with fail
            go_ret
            exact ⟨ret_int HFIN.out, on.below⟩
          · rintro e W9 ⟨rfl, hb⟩
            have hst := postD_step vl hbd
            have hne : D ≠ E := by
              intro h
              have := postD_ok vs D vl
              rw [HGO.out, ← h, hbd] at this
              cases this
            rw [HGO.out] at hst
            have HST := Lib.hid hst
            have HNE := Lib.hid (show D < E by omega)
            replace on := on.step hb
            clear hb x0 x1 x2 x3 x4 x5 x6 x7 x8 x9 x10 hbd hst hne
            have p3 : D + 1 ≤ (Q0 + 1) + 3 := by have := HNE.out; have := HE4.out; omega
            go_wp2_with fail
            go_roundw
            case rel => first | exact ⟨D + 1, by go_num, by omega, p3, HST.out, on⟩ | ((repeat apply Exists.intro); exact ⟨⟨D + 1, by go_num, by omega, p3, HST.out, on⟩, rfl⟩)
            case measure => have := HNE.out; simp [intOf]; omega
      · (refine region_class (OneM w w.heap.size (.cells #[.string s, .int .i64 f, .int .i64 sn, .int .i64 sd, .int .i64 mn, .int .i64 md, .int .i64 ln, .int .i64 ld, .int .i64 c, .slice a1 n1 c1, .slice a2 n2 c2] 42)) (by kernel_rfl) (by kernel_rfl) (on5.drew) ?_; repeat ((first | (refine class_take ?_ (by rfl) ?_ ?_; rotate_left; focus (intro wq hq; ((obtain ⟨x0, x1, x2, x3, x4, x5, x6, x7, x8, x9, x10⟩ := hq.cells)); go_simp; first | done | with_reducible rfl | ((go_at_call 46; refine (whole_Mod _ _ _ (by omega) (by omega) (by omega) (by omega)).mono ?_; rintro e w' ⟨rfl, hdr⟩; refine ⟨?_, hq.drawn hdr⟩; with_reducible rfl)))) | refine class_skip (by rfl) ?_); try simp only [Act.put, List.setIfInBounds_toArray, List.set_cons_zero, List.set_cons_succ]))
        refine wpQuiet_nil ?_
        intro W6 on
        clear on5
        generalize AT % N = AM at *
        generalize AT / N = AQ at *
        have q0 : -15000000 ≤ f + AQ ∧ f + AQ ≤ 15000000 := by omega
        obtain ⟨q01, q02⟩ := q0
        have hE0 := HBD.out
        rw [if_pos trivial, if_neg hl, show f + (AQ + 0) = f + AQ by omega] at hE0
        generalize f + AQ = Q0 at *
        have HE0 := Lib.hid hE0.symm
        have p4 := postD_in vs Q0
        rw [HE0.out] at p4
        have HE4 := Lib.hid p4
        clear p4 hE0
        go_wp2_with fail
        clear hl
        go_loopw [9] (fun t wr => ∃ D : Int, t = .int .i64 D ∧ Q0 ≤ D ∧ D ≤ Q0 + 3 ∧ postD vs D = E ∧ OneM w w.heap.size (.cells #[.string s, .int .i64 f, .int .i64 sn, .int .i64 sd, .int .i64 mn, .int .i64 md, .int .i64 ln, .int .i64 ld, .int .i64 c, .slice a1 n1 c1, .slice a2 n2 c2] 42) wr) (fun t _ => (E - intOf t).toNat)
        case atStart => exact ⟨Q0, rfl, by omega, by omega, HE0.out, on⟩
        case round =>
          clear on
          obtain ⟨D, rfl, e1, e2, hgo, on⟩ := hrel
          obtain ⟨x0, x1, x2, x3, x4, x5, x6, x7, x8, x9, x10⟩ := on.cells
          have p1 := postD_in vs D
          rw [hgo] at p1
          have t1 : IntKind.i64.wrap (D + 1) = D + 1 := IntWalk.i64_in _ (by omega)
          have HGO := Lib.hid hgo; clear hgo
          go_wp2_with fail
          refine (lunisolar_avoided _ s f sn sd mn md ln ld c a1 a2 n1 c1 n2 c2 ls vs D (by omega) (by omega) (H.out.then_ on.below)).mono ?_
          cases hbd : badD vs D
          · rintro e W9 ⟨rfl, hb⟩
            have HFIN := Lib.hid (show D = E by rw [← HGO.out]; exact (postD_stop hbd).symm)
            replace on := on.step hb
            clear hb x0 x1 x2 x3 x4 x5 x6 x7 x8 x9 x10 hbd
            go_wp2_with fail
            go_ret
            exact ⟨ret_int HFIN.out, on.below⟩
          · rintro e W9 ⟨rfl, hb⟩
            have hst := postD_step vl hbd
            have hne : D ≠ E := by
              intro h
              have := postD_ok vs D vl
              rw [HGO.out, ← h, hbd] at this
              cases this
            rw [HGO.out] at hst
            have HST := Lib.hid hst
            have HNE := Lib.hid (show D < E by omega)
            replace on := on.step hb
            clear hb x0 x1 x2 x3 x4 x5 x6 x7 x8 x9 x10 hbd hst hne
            have p3 : D + 1 ≤ Q0 + 3 := by have := HNE.out; have := HE4.out; omega
            go_wp2_with fail
            go_roundw
            case rel => first | exact ⟨D + 1, by go_num, by omega, p3, HST.out, on⟩ | ((repeat apply Exists.intro); exact ⟨⟨D + 1, by go_num, by omega, p3, HST.out, on⟩, rfl⟩)
            case measure => have := HNE.out; simp [intOf]; omega
    · have hm1b : (M == 1) = false := by simpa using hm1
      go_enter Try.func68, Try.ntmps68
      go_wp2_with fail
      have on := OneM.new w (.cells #[.string s, .int .i64 f, .int .i64 sn, .int .i64 sd, .int .i64 mn, .int .i64 md, .int .i64 ln, .int .i64 ld, .int .i64 c, .slice a1 n1 c1, .slice a2 n2 c2] 42)
      generalize World.alloc w _ = W1 at on ⊢
      refine (FM.out _ on.below).mono ?_
      rintro e W2 ⟨rfl, hb⟩
      replace on := on.step hb
      clear hb
      obtain ⟨x0, x1, x2, x3, x4, x5, x6, x7, x8, x9, x10⟩ := on.cells
      go_wp2_with fail
      refine (FP.out _ on.below).mono ?_
      rintro e W3 ⟨rfl, hb⟩
      replace on := on.step hb
      clear hb x0 x1 x2 x3 x4 x5 x6 x7 x8 x9 x10
      go_wp2_with fail
      (refine region_class (OneM w w.heap.size (.cells #[.string s, .int .i64 f, .int .i64 sn, .int .i64 sd, .int .i64 mn, .int .i64 md, .int .i64 ln, .int .i64 ld, .int .i64 c, .slice a1 n1 c1, .slice a2 n2 c2] 42)) (by kernel_rfl) (by kernel_rfl) (on.drew) ?_; repeat ((first | (refine class_take ?_ (by rfl) ?_ ?_; rotate_left; focus (intro wq hq; ((obtain ⟨x0, x1, x2, x3, x4, x5, x6, x7, x8, x9, x10⟩ := hq.cells)); go_simp; first | done | with_reducible rfl | ((go_at_call 87; (with_reducible refine (FB.out _ hq.below).mono ?_); rintro e w' ⟨rfl, hb⟩; refine ⟨?_, hq.step hb⟩; with_reducible rfl)))) | refine class_skip (by rfl) ?_); try simp only [Act.put, List.setIfInBounds_toArray, List.set_cons_zero, List.set_cons_succ]))
      refine wpQuiet_nil ?_
      intro W4 on4
      clear on
      go_wp2_with fail
      (refine region_class (OneM w w.heap.size (.cells #[.string s, .int .i64 f, .int .i64 sn, .int .i64 sd, .int .i64 mn, .int .i64 md, .int .i64 ln, .int .i64 ld, .int .i64 c, .slice a1 n1 c1, .slice a2 n2 c2] 42)) (by kernel_rfl) (by kernel_rfl) (on4.drew) ?_; repeat ((first | (refine class_take ?_ (by rfl) ?_ ?_; rotate_left; focus (intro wq hq; ((obtain ⟨x0, x1, x2, x3, x4, x5, x6, x7, x8, x9, x10⟩ := hq.cells)); go_simp; first | done | with_reducible rfl | ((go_at_call 73; refine (whole_Down _ _ _ (by omega) (by omega) (by omega) (by omega)).mono ?_; rintro e w' ⟨rfl, hdr⟩; refine ⟨?_, hq.drawn hdr⟩; with_reducible rfl)))) | refine class_skip (by rfl) ?_); try simp only [Act.put, List.setIfInBounds_toArray, List.set_cons_zero, List.set_cons_succ]))
      refine wpQuiet_nil ?_
      intro W5 on5
      clear on4
      go_wp2_with fail
      by_cases hl : ln * P3 ≤ AT % N
      · (refine region_class (OneM w w.heap.size (.cells #[.string s, .int .i64 f, .int .i64 sn, .int .i64 sd, .int .i64 mn, .int .i64 md, .int .i64 ln, .int .i64 ld, .int .i64 c, .slice a1 n1 c1, .slice a2 n2 c2] 42)) (by kernel_rfl) (by kernel_rfl) (on5.drew) ?_; repeat ((first | (refine class_take ?_ (by rfl) ?_ ?_; rotate_left; focus (intro wq hq; ((obtain ⟨x0, x1, x2, x3, x4, x5, x6, x7, x8, x9, x10⟩ := hq.cells)); go_simp; first | done | with_reducible rfl | ((go_at_call 46; refine (whole_Mod _ _ _ (by omega) (by omega) (by omega) (by omega)).mono ?_; rintro e w' ⟨rfl, hdr⟩; refine ⟨?_, hq.drawn hdr⟩; with_reducible rfl)))) | refine class_skip (by rfl) ?_); try simp only [Act.put, List.setIfInBounds_toArray, List.set_cons_zero, List.set_cons_succ]))
        refine wpQuiet_nil ?_
        intro W6 on
        clear on5
        generalize AT % N = AM at *
        generalize AT / N = AQ at *
        have q0 : -15000000 ≤ f + AQ ∧ f + AQ ≤ 15000000 := by omega
        obtain ⟨q01, q02⟩ := q0
        have hE0 := HBD.out
        rw [if_neg hm1, if_pos hl, show f + (AQ + 1) = f + AQ + 1 by omega] at hE0
        generalize f + AQ = Q0 at *
        have HE0 := Lib.hid hE0.symm
        clear hE0
        go_wp2_with fail
        refine wp_loop_rounds 1 ?_; rw [rounds_succ]
        go_wp2_with fail
        go_ret
        exact ⟨ret_int HE0.out, on.below⟩
      · (refine region_class (OneM w w.heap.size (.cells #[.string s, .int .i64 f, .int .i64 sn, .int .i64 sd, .int .i64 mn, .int .i64 md, .int .i64 ln, .int .i64 ld, .int .i64 c, .slice a1 n1 c1, .slice a2 n2 c2] 42)) (by kernel_rfl) (by kernel_rfl) (on5.drew) ?_; repeat ((first | (refine class_take ?_ (by rfl) ?_ ?_; rotate_left; focus (intro wq hq; ((obtain ⟨x0, x1, x2, x3, x4, x5, x6, x7, x8, x9, x10⟩ := hq.cells)); go_simp; first | done | with_reducible rfl | ((go_at_call 46; refine (whole_Mod _ _ _ (by omega) (by omega) (by omega) (by omega)).mono ?_; rintro e w' ⟨rfl, hdr⟩; refine ⟨?_, hq.drawn hdr⟩; with_reducible rfl)))) | refine class_skip (by rfl) ?_); try simp only [Act.put, List.setIfInBounds_toArray, List.set_cons_zero, List.set_cons_succ]))
        refine wpQuiet_nil ?_
        intro W6 on
        clear on5
        generalize AT % N = AM at *
        generalize AT / N = AQ at *
        have q0 : -15000000 ≤ f + AQ ∧ f + AQ ≤ 15000000 := by omega
        obtain ⟨q01, q02⟩ := q0
        have hE0 := HBD.out
        rw [if_neg hm1, if_neg hl, show f + (AQ + 0) = f + AQ by omega] at hE0
        generalize f + AQ = Q0 at *
        have HE0 := Lib.hid hE0.symm
        clear hE0
        go_wp2_with fail
        refine wp_loop_rounds 1 ?_; rw [rounds_succ]
        go_wp2_with fail
        go_ret
        exact ⟨ret_int HE0.out, on.below⟩
end Go.Proofs.Ytjjmbnflhldoeaa
