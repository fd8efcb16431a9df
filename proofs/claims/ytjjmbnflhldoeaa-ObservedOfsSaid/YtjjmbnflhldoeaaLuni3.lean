/- Contract of the reference's MoonBegin. -/
import Derived.Test.YtjjmbnflhldoeaaLuni2
namespace Go.Proofs.Ytjjmbnflhldoeaa
set_option linter.unusedVariables false
set_option maxRecDepth 100000
open Go.RowKit

theorem beq_flip (a b : Int) : (a == b) = decide (b = a) := by rw [Bool.eq_iff_iff]; simp; exact eq_comm
set_option maxHeartbeats 4000000 in
theorem ref_MoonBegin (w : World) (s : ByteArray) (f sn sd mn md ln ld c : Int) (a1 a2 : Option Addr) (n1 c1 n2 c2 : Nat) (ls vs : List Int) (N y m : Int) (ok : MoonOk s f sn sd mn md ln ld c ls vs N) (y1 : -18000 ≤ y) (y2 : y ≤ 18000) (m1 : 1 ≤ m) (m2 : m ≤ 20) (h : MoonAt w a1 a2 n1 n2 ls vs) :
    Calls Try.prog 20 #[.agg #[.string s, .int .i64 f, .int .i64 sn, .int .i64 sd, .int .i64 mn, .int .i64 md, .int .i64 ln, .int .i64 ld, .int .i64 c, .slice a1 n1 c1, .slice a2 n2 c2], .int .i64 y, .int .i64 m] w fun e w' => e = .returned (.int .i64 (begD f sn sd mn md ln ld c N ls vs y m)) ∧ Below w.heap.size w w' := by
  obtain ⟨P1, hP1⟩ : ∃ P, P = N / sd := ⟨_, rfl⟩
  obtain ⟨P2, hP2⟩ : ∃ P, P = N / md := ⟨_, rfl⟩
  obtain ⟨P3, hP3⟩ : ∃ P, P = N / ld := ⟨_, rfl⟩
  have aS := at_start ok; have al := at_late ok; have am := at_month ok
  obtain ⟨u1, u2, u3, -⟩ := quo_in ok.sd1 ok.n1 ok.sdv
  obtain ⟨v1, v2, v3, -⟩ := quo_in ok.md1 ok.n1 ok.mdv
  obtain ⟨z1, z2, z3, -⟩ := quo_in ok.ld1 ok.n1 ok.ldv
  have sd1 := ok.sd1; have md1 := ok.md1; have ld1 := ok.ld1; have n1' := ok.n1; have n2' := ok.n2; have f1 := ok.f1; have f2 := ok.f2; have vl := ok.v1
  have bb := bef_in ok.c1 ok.leaps ok.sorted y (by omega) (by omega)
  obtain ⟨B, hB⟩ : ∃ B, B = bef c ls y := ⟨_, rfl⟩
  rw [← hB] at bb
  obtain ⟨b1, b2⟩ := bb
  obtain ⟨K, hK⟩ : ∃ K, K = m - 1 + B := ⟨_, rfl⟩
  have k2 := mul_in K (mn * (N / md)) 300020 (30 * N) (by omega) (by omega) (by omega) (by omega)
  rw [Int.mul_comm mn] at k2 am
  rw [Int.mul_comm sn] at aS
  rw [Int.mul_comm ln] at al
  rw [← hP1] at aS u1 u2 u3
  rw [← hP2] at am v1 v2 v3 k2
  rw [← hP3] at al z1 z2 z3
  obtain ⟨AT, hAT⟩ : ∃ A, A = P1 * sn + K * (P2 * mn) := ⟨_, rfl⟩
  have g1 : -10000000 ≤ AT / N := by rw [Int.le_ediv_iff_mul_le (by omega)]; omega
  have g2 : AT / N ≤ 10000000 := Int.ediv_le_of_le_mul (by omega) (by omega)
  have hmod : AT - AT / N * N = AT % N := by have := Int.mul_ediv_add_emod AT N; rw [Int.mul_comm] at this; omega
  have hA1 : -20000000000000 ≤ AT ∧ AT ≤ 20000000000000 := by omega
  obtain ⟨hA1, hA2⟩ := hA1
  have gm1 := Int.emod_nonneg AT (show N ≠ 0 by omega)
  have gm2 := Int.emod_lt_of_pos AT (show 0 < N by omega)
  have haf : atP sn sd mn md N K = AT := by unfold atP; rw [← hP1, ← hP2, hAT]
  have hday : dayP f sn sd mn md ln ld N K = f + (AT / N + if P3 * ln ≤ AT % N then 1 else 0) := by
    unfold dayP; rw [haf, ← hP3]
  have hbd : begD f sn sd mn md ln ld c N ls vs y m = if m = 1 then postD vs (dayP f sn sd mn md ln ld N K) else dayP f sn sd mn md ln ld N K := by
    unfold begD
    rw [← hB]
    by_cases hM : m = 1
    · rw [if_pos hM, if_pos hM, hK, show m - 1 + B = B by omega]
    · rw [if_neg hM, if_neg hM, hK, show B + m - 1 = m - 1 + B by omega]
  rw [hday] at hbd
  obtain ⟨E, hE⟩ : ∃ E, E = begD f sn sd mn md ln ld c N ls vs y m := ⟨_, rfl⟩
  rw [← hE] at hbd ⊢
  have fp : ∀ W, Below w.heap.size w W → Calls Try.prog 40 #[.agg #[.string s, .int .i64 f, .int .i64 sn, .int .i64 sd, .int .i64 mn, .int .i64 md, .int .i64 ln, .int .i64 ld, .int .i64 c, .slice a1 n1 c1, .slice a2 n2 c2]] W fun e w' => e = .returned (.int .i64 N) ∧ Below W.heap.size W w' := fun W hW => by
    have := ref_Parts W s f sn sd mn md ln ld c a1 a2 n1 c1 n2 c2 ls vs sd1 (by have := Int.le_of_dvd (by omega) ok.sdv; omega) md1 (by have := Int.le_of_dvd (by omega) ok.mdv; omega) ld1 (by have := Int.le_of_dvd (by omega) ok.ldv; omega)
    rw [ok.n] at this; exact this
  have HAT := Lib.hid hAT; have HBD := Lib.hid hbd; have FP := Lib.hid fp; have H := Lib.hid h; have HK := Lib.hid hK; have HB := Lib.hid hB; have OK := Lib.hid ok; have HMO := Lib.hid hmod; have LV := Lib.hid h.2.1
  have hn2v := h.2.2.1
  have w1 : IntKind.i64.wrap (P1 * sn) = P1 * sn := IntWalk.i64_in _ (by omega)
  have w2 : IntKind.i64.wrap (P2 * mn) = P2 * mn := IntWalk.i64_in _ (by omega)
  have w3 : IntKind.i64.wrap (K * (P2 * mn)) = K * (P2 * mn) := IntWalk.i64_in _ (by omega)
  have w6 : IntKind.i64.wrap (P1 * sn + K * (P2 * mn)) = AT := by rw [← hAT]; exact IntWalk.i64_in _ (by omega)
  have w7 : IntKind.i64.wrap P1 = P1 := IntWalk.i64_in _ (by omega)
  have w8 : IntKind.i64.wrap P2 = P2 := IntWalk.i64_in _ (by omega)
  have w9 : IntKind.i64.wrap P3 = P3 := IntWalk.i64_in _ (by omega)
  have w10 : IntKind.i64.wrap (P3 * ln) = P3 * ln := IntWalk.i64_in _ (by omega)
  have w11 : IntKind.i64.wrap (AT / N * N) = AT / N * N := IntWalk.i64_in _ (by omega)
  have w12 : IntKind.i64.wrap (AT - AT / N * N) = AT % N := by rw [← hmod]; exact IntWalk.i64_in _ (by omega)
  have w13 : IntKind.i64.wrap (AT / N + 1) = AT / N + 1 := IntWalk.i64_in _ (by omega)
  have w14 : IntKind.i64.wrap (AT / N + 1 + f) = AT / N + 1 + f := IntWalk.i64_in _ (by omega)
  have w15 : IntKind.i64.wrap (AT / N + f) = AT / N + f := IntWalk.i64_in _ (by omega)
  have w16 : IntKind.i64.wrap (m - 1) = m - 1 := IntWalk.i64_in _ (by omega)
  have q1 := hP1.symm; have q2 := hP2.symm; have q3 := hP3.symm
  have sd0 : ¬ sd = 0 := by omega
  have md0 : ¬ md = 0 := by omega
  have ld0 : ¬ ld = 0 := by omega
  have hb1 := bef_one ok.leaps
  have HB1 := Lib.hid hb1
  clear hK hB hAT hbd hE fp h ok haf hP1 hP2 hP3 hday k2 aS am hmod hb1
  go_enter Try.func20, Try.ntmps20
  go_wp2_with fail
  have on := OneM.new w (.cells #[.string s, .int .i64 f, .int .i64 sn, .int .i64 sd, .int .i64 mn, .int .i64 md, .int .i64 ln, .int .i64 ld, .int .i64 c, .slice a1 n1 c1, .slice a2 n2 c2] 42)
  generalize World.alloc w _ = W1 at on ⊢
  go_loopw [7, 8] (fun k t wr => ∃ T : Int, t = .int .i64 T ∧ 1 ≤ T ∧ (T = 1 ∨ T ≤ y) ∧ k = .int .i64 (m - 1 + bef c ls T) ∧ OneM w w.heap.size (.cells #[.string s, .int .i64 f, .int .i64 sn, .int .i64 sd, .int .i64 mn, .int .i64 md, .int .i64 ln, .int .i64 ld, .int .i64 c, .slice a1 n1 c1, .slice a2 n2 c2] 42) wr) (fun _ t _ => (y - intOf t).toNat)
  case atStart => exact ⟨1, rfl, by omega, by omega, by rw [HB1.out]; simp, on⟩
  case round =>
    clear on
    obtain ⟨T, rfl, t1, t2, rfl, on⟩ := hrel
    obtain ⟨x0, x1, x2, x3, x4, x5, x6, x7, x8, x9, x10⟩ := on.cells
    have bt := bef_in OK.out.c1 OK.out.leaps OK.out.sorted T (by omega) (by omega)
    have hsu := bef_succ OK.out.c1 OK.out.leaps OK.out.sorted T
    have hmm := mths_in c ls T
    obtain ⟨BT, hBT⟩ : ∃ BT, BT = bef c ls T := ⟨_, rfl⟩
    obtain ⟨MT, hMT⟩ : ∃ MT, MT = mths c ls T := ⟨_, rfl⟩
    rw [← hBT] at bt hsu ⊢
    rw [← hMT] at hsu hmm
    have HSU := Lib.hid hsu; have HBT := Lib.hid hBT; have HMT := Lib.hid hMT; clear hsu hBT hMT
    have t3 : IntKind.i64.wrap (T + 1) = T + 1 := IntWalk.i64_in _ (by omega)
    have t4 : IntKind.i64.wrap (m - 1 + BT + MT) = m - 1 + BT + MT := IntWalk.i64_in _ (by omega)
    by_cases hlt : T < y
    · go_wp2_with fail
      refine (ref_MoonMonths _ s f sn sd mn md ln ld c a1 a2 n1 c1 n2 c2 ls vs N T OK.out (by omega) (by omega) (H.out.then_ on.below)).mono ?_
      rw [← HMT.out]
      rintro e W2 ⟨rfl, hb⟩
      replace on := on.step hb
      clear hb x0 x1 x2 x3 x4 x5 x6 x7 x8 x9 x10
      go_wp2_with fail
      go_roundw
      case rel => exact ⟨T + 1, by go_num, by omega, by omega, by rw [HSU.out, Int.add_assoc], on⟩
      case measure => simp [intOf]; omega
    · clear x0 x1 x2 x3 x4 x5 x6 x7 x8 x9 x10
      go_wp2_with fail
      go_loopw [7, 9] (fun k t wr => ∃ T : Int, t = .int .i64 T ∧ T ≤ 0 ∧ (y ≤ 0 → y - 1 ≤ T) ∧ k = .int .i64 (m - 1 + bef c ls (if y ≤ 0 then T + 1 else y)) ∧ OneM w w.heap.size (.cells #[.string s, .int .i64 f, .int .i64 sn, .int .i64 sd, .int .i64 mn, .int .i64 md, .int .i64 ln, .int .i64 ld, .int .i64 c, .slice a1 n1 c1, .slice a2 n2 c2] 42) wr) (fun _ t _ => (intOf t - y + 1).toNat)
      case atStart =>
        refine ⟨0, rfl, by omega, by omega, ?_, on⟩
        by_cases hy : y ≤ 0
        · rw [if_pos hy, HBT.out, show T = 0 + 1 by omega]
        · rw [if_neg hy, HBT.out, show T = y by omega]
      case round =>
        clear on HSU HBT HMT t1 t2 t3 t4 hmm bt hlt
        obtain ⟨T, rfl, t1, t2, rfl, on⟩ := hrel
        obtain ⟨x0, x1, x2, x3, x4, x5, x6, x7, x8, x9, x10⟩ := on.cells
        by_cases hge : y ≤ T
        · have hy0 : y ≤ 0 := by omega
          rw [if_pos hy0]
          have bt := bef_in OK.out.c1 OK.out.leaps OK.out.sorted (T + 1) (by omega) (by omega)
          have hsu := bef_succ OK.out.c1 OK.out.leaps OK.out.sorted T
          have hmm := mths_in c ls T
          obtain ⟨BT, hBT⟩ : ∃ BT, BT = bef c ls (T + 1) := ⟨_, rfl⟩
          obtain ⟨MT, hMT⟩ : ∃ MT, MT = mths c ls T := ⟨_, rfl⟩
          rw [← hBT] at bt hsu ⊢
          rw [← hMT] at hsu hmm
          have HSU := Lib.hid hsu; have HMT := Lib.hid hMT; clear hsu hBT hMT
          have t3 : IntKind.i64.wrap (T - 1) = T - 1 := IntWalk.i64_in _ (by omega)
          have t4 : IntKind.i64.wrap (m - 1 + BT - MT) = m - 1 + BT - MT := IntWalk.i64_in _ (by omega)
          go_wp2_with fail
          refine (ref_MoonMonths _ s f sn sd mn md ln ld c a1 a2 n1 c1 n2 c2 ls vs N T OK.out (by omega) (by omega) (H.out.then_ on.below)).mono ?_
          rw [← HMT.out]
          rintro e W2 ⟨rfl, hb⟩
          replace on := on.step hb
          clear hb x0 x1 x2 x3 x4 x5 x6 x7 x8 x9 x10
          go_wp2_with fail
          go_roundw
          case rel => exact ⟨T - 1, by go_num, by omega, by omega, by rw [if_pos hy0, show T - 1 + 1 = T by omega]; exact congrArg (Value.int .i64) (by have := HSU.out; omega), on⟩
          case measure => simp [intOf]; omega
        · have hfin : m - 1 + bef c ls (if y ≤ 0 then T + 1 else y) = K := by
            rw [HK.out, HB.out]
            by_cases hy : y ≤ 0
            · rw [if_pos hy, show T + 1 = y by omega]
            · rw [if_neg hy]
          rw [hfin]
          clear hfin
          go_wp2_with fail
          refine (FP.out _ on.below).mono ?_
          rintro e W3 ⟨rfl, hb⟩
          replace on := on.step hb
          clear hb x0 x1 x2 x3 x4 x5 x6 x7 x8 x9 x10
          obtain ⟨x0, x1, x2, x3, x4, x5, x6, x7, x8, x9, x10⟩ := on.cells
          go_wp2_with fail
          go_quiet (fail)
          go_wp2_with fail
          refine (ref_Floor _ _ _ (by omega) (by omega) (by omega) (by omega)).mono ?_
          rintro e W4 ⟨rfl, rfl⟩
          replace on := on.drewN nq
          clear x0 x1 x2 x3 x4 x5 x6 x7 x8 x9 x10
          obtain ⟨x0, x1, x2, x3, x4, x5, x6, x7, x8, x9, x10⟩ := on.cells
          go_wp2_with fail
          generalize World.drewN W3 nq = W4 at on x0 x1 x2 x3 x4 x5 x6 x7 x8 x9 x10 ⊢
          have hE0 := HBD.out
          have HN := Lib.hid (show n2 ≤ 9223372036854775807 from hn2v)
          by_cases hm1 : m = 1
          case neg =>
            have hm1' : 1 < m := by omega
            rw [if_neg hm1] at hE0
            by_cases hl : P3 * ln ≤ AT % N
            all_goals
              first | rw [if_pos hl, show f + (AT / N + 1) = AT / N + 1 + f by omega] at hE0 | rw [if_neg hl, show f + (AT / N + 0) = AT / N + f by omega] at hE0
              have HE0 := Lib.hid hE0.symm
              clear hE0
              go_quiet (fail)
              go_wp2_with fail
              go_ret
              exact ⟨ret_int HE0.out, below_drewN on.below _⟩
          case pos =>
          subst hm1
          rw [if_pos rfl] at hE0
          by_cases hl : P3 * ln ≤ AT % N
          all_goals
            obtain ⟨D0, hD0, w14', q2⟩ : ∃ D0 : Int, D0 = f + (AT / N + if P3 * ln ≤ AT % N then 1 else 0) ∧ IntKind.i64.wrap ((if P3 * ln ≤ AT % N then AT / N + 1 else AT / N) + f) = D0 ∧ -15000000 ≤ D0 ∧ D0 ≤ 15000000 := by
              first | (rw [if_pos hl, if_pos hl]; exact ⟨_, rfl, by rw [w14]; omega, by omega, by omega⟩) | (rw [if_neg hl, if_neg hl]; exact ⟨_, rfl, by rw [w15]; omega, by omega, by omega⟩)
            rw [← hD0] at hE0
            first | rw [if_pos hl] at w14' | rw [if_neg hl] at w14'
            clear w14 w15 hD0
            have HE0 := Lib.hid hE0.symm
            clear hE0
            go_quiet (fail)
            replace on := on.drewN nq
            generalize World.drewN W4 nq = W5 at on ⊢
            clear x0 x1 x2 x3 x4 x5 x6 x7 x8 x9 x10
            obtain ⟨x0, x1, x2, x3, x4, x5, x6, x7, x8, x9, x10⟩ := on.cells
            go_wp2_with fail
            clear hl x0 x1 x2 x3 x4 x5 x6 x7 x8 x9 x10
            have p4 := postD_in vs D0
            rw [HE0.out] at p4
            have HE4 := Lib.hid p4
            clear p4
            clear hA1 hA2 g1 g2 gm1 gm2 w1 w2 w3 w6 w7 w8 w9 w10 w11 w12 w13 w14' al u1 u2 u3 v1 v2 v3 z1 z2 z3
            go_loopw [12, 13] (fun d i wr => ∃ (I : Nat), i = .int .i64 I ∧ I ≤ 3 ∧ d = .int .i64 (D0 + I) ∧ postD vs (D0 + I) = E ∧ OneM w w.heap.size (.cells #[.string s, .int .i64 f, .int .i64 sn, .int .i64 sd, .int .i64 mn, .int .i64 md, .int .i64 ln, .int .i64 ld, .int .i64 c, .slice a1 n1 c1, .slice a2 n2 c2] 42) wr) (fun _ i _ => 7 - (intOf i).toNat)
            case atStart => exact ⟨0, rfl, by omega, by simp, by simpa using HE0.out, on⟩
            case round =>
              clear on
              obtain ⟨I, rfl, i1, rfl, hgo, on⟩ := hrel
              obtain ⟨x0, x1, x2, x3, x4, x5, x6, x7, x8, x9, x10⟩ := on.cells
              have HGO := Lib.hid hgo; clear hgo
              have t0 : decide ((I : Int) < 7) = true := by simp; omega
              have t1 : IntKind.i64.wrap (D0 + I + 1) = D0 + I + 1 := IntWalk.i64_in _ (by omega)
              have t2 : IntKind.i64.wrap ((I : Int) + 1) = (I : Int) + 1 := IntWalk.i64_in _ (by omega)
              go_wp2_with fail
              clear x0 x1 x2 x3 x4 x5 x6 x7 x8 x9 x10
              go_loopw [14, 96] (fun b i wr => ∃ (k : Nat) (bb : Bool), k ≤ n2 ∧ i = .int .i64 k ∧ b = .bool bb ∧ (bb || badD (vs.drop k) (D0 + I)) = badD vs (D0 + I) ∧ OneM w w.heap.size (.cells #[.string s, .int .i64 f, .int .i64 sn, .int .i64 sd, .int .i64 mn, .int .i64 md, .int .i64 ln, .int .i64 ld, .int .i64 c, .slice a1 n1 c1, .slice a2 n2 c2] 42) wr) (fun _ i _ => n2 - (intOf i).toNat)
              case atStart => exact ⟨0, false, by omega, rfl, rfl, by simp, on⟩
              case round =>
                clear on
                obtain ⟨k, bb, hk, rfl, rfl, hgo, on⟩ := hrel
                by_cases hlt : k < n2
                · obtain ⟨b1, o1, v, rfl, hb1, hc1, hv, v1, v2⟩ := (H.out.2.below on.2 (Nat.le_refl _)).at_ hlt
                  rw [badD_drop hv] at hgo
                  have HGI := Lib.hid hgo; clear hgo hv
                  have t3 : IntKind.i64.wrap ((k : Int) + 1) = (k : Int) + 1 := IntWalk.i64_in _ (by omega)
                  cases bb
                  · go_wp2_with fail
                    refine (ref_Week _ _ (by omega) (by omega)).mono ?_
                    rintro e w2 ⟨rfl, rfl⟩
                    go_wp2_with fail
                    go_roundw
                    case rel => exact ⟨k + 1, _, by omega, by go_num, rfl, by rw [← HGI.out, Bool.false_or]; exact congrArg (· || _) (beq_flip _ _), on⟩
                    case measure => simp [intOf]; omega
                  · go_wp2_with fail
                    go_roundw
                    case rel => exact ⟨k + 1, true, by omega, by go_num, rfl, by rw [← HGI.out]; simp, on⟩
                    case measure => simp [intOf]; omega
                · rw [List.drop_eq_nil_of_le (by have := LV.out; omega), badD_nil, Bool.or_false] at hgo
                  subst hgo
                  cases hbd : badD vs (D0 + I)
                  · have HFIN := Lib.hid (show D0 + I = E by rw [← HGO.out]; exact (postD_stop hbd).symm)
                    clear hbd
                    go_wp2_with fail
                    go_ret
                    exact ⟨ret_int HFIN.out, on.below⟩
                  · have hst := postD_step vl hbd
                    have hne : D0 + I ≠ E := by
                      intro h
                      have := postD_ok vs (D0 + I) vl
                      rw [HGO.out, ← h, hbd] at this
                      cases this
                    have hle := postD_in vs (D0 + I)
                    rw [HGO.out] at hst hle
                    have HST := Lib.hid hst
                    have HNE := Lib.hid (show D0 + I < E by omega)
                    have hi3 : I + 1 ≤ 3 := by have := HNE.out; have := HE4.out; omega
                    clear hbd hst hne hle
                    go_wp2_with fail
                    go_roundw
                    case rel => exact ⟨I + 1, by go_num, hi3, by go_num, by rw [← HST.out]; congr 1; omega, on⟩
                    case measure => simp [intOf]; omega
end Go.Proofs.Ytjjmbnflhldoeaa
