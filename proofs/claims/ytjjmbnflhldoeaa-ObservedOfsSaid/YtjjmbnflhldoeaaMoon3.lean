/- Contract of the reference's MoonError. -/
import Derived.Test.YtjjmbnflhldoeaaMoon2
namespace Go.Proofs.Ytjjmbnflhldoeaa
set_option linter.unusedVariables false
set_option maxRecDepth 100000
open Go.RowKit

theorem div_ge (a d k : Int) (hd : 1 ≤ d) : k ≤ a / d ↔ k * d ≤ a := Int.le_ediv_iff_mul_le (by omega)
set_option maxHeartbeats 4000000 in
theorem ref_MoonError (w : World) (s : ByteArray) (f sn sd mn md ln ld c : Int) (a1 a2 : Option Addr) (n1 c1 n2 c2 : Nat) (ls vs : List Int) (hs : s.size ≤ 9223372036854775807) (hi : MoonI sn sd mn md ln ld) (h : MoonAt w a1 a2 n1 n2 ls vs) :
    Calls Try.prog 17 #[.agg #[.string s, .int .i64 f, .int .i64 sn, .int .i64 sd, .int .i64 mn, .int .i64 md, .int .i64 ln, .int .i64 ld, .int .i64 c, .slice a1 n1 c1, .slice a2 n2 c2]] w fun e w' => e = .returned (.int .i64 (moonErr s f sn sd mn md ln ld c ls vs)) ∧ Below w.heap.size w w' := by
  have LL := Lib.hid h.1.1
  have LV := Lib.hid h.2.1
  have ml := h.1.2.1
  have mv := h.2.2.1
  have H := Lib.hid h; clear h
  obtain ⟨⟨i1, i2⟩, ⟨i3, i4⟩, ⟨i5, i6⟩, ⟨i7, i8⟩, ⟨i9, i10⟩, i11, i12⟩ := hi
  rcases Bool.eq_false_or_eq_true (isName s) with hn | hn
  case inr =>
    have ho := Lib.hid (moonErr_name (f := f) (sn := sn) (sd := sd) (mn := mn) (md := md) (ln := ln) (ld := ld) (c := c) (ls := ls) (vs := vs) hn)
    go_enter Try.func17, Try.ntmps17
    go_wp2_with fail
    refine (ref_Name _ _ hs).mono ?_; rw [hn]; rintro e w1 ⟨rfl, rfl⟩
    go_wp2_with fail
    go_ret
    exact ⟨ret_int (by rw [ho.out]), by (repeat' (first | exact Below.refl _ _ | assumption | refine Below.drew ?_ | refine below_drewN ?_ _ | refine below_new ?_ _ | refine below_set ?_ ?_ _ | refine below_then ?_ (by assumption) | refine below_drawn ?_ (by assumption) | exact Nat.le_refl _ | omega | (simp; done) | (simp; omega)))⟩
  rcases Bool.eq_false_or_eq_true (inB (-4000000) 4000000 f) with hf | hf
  case inr =>
    have ho := Lib.hid (moonErr_day (sn := sn) (sd := sd) (mn := mn) (md := md) (ln := ln) (ld := ld) (c := c) (ls := ls) (vs := vs) hn hf)
    go_enter Try.func17, Try.ntmps17
    go_wp2_with fail
    refine (ref_Name _ _ hs).mono ?_; rw [hn]; rintro e w1 ⟨rfl, rfl⟩
    go_wp2_with fail
    refine (ref_Day _ _).mono ?_; rw [hf]; rintro e w1 ⟨rfl, rfl⟩
    go_wp2_with fail
    go_ret
    exact ⟨ret_int (by rw [ho.out]), by (repeat' (first | exact Below.refl _ _ | assumption | refine Below.drew ?_ | refine below_drewN ?_ _ | refine below_new ?_ _ | refine below_set ?_ ?_ _ | refine below_then ?_ (by assumption) | refine below_drawn ?_ (by assumption) | exact Nat.le_refl _ | omega | (simp; done) | (simp; omega)))⟩
  go_enter Try.func17, Try.ntmps17
  go_wp2_with fail
  refine (ref_Name _ _ hs).mono ?_; rw [hn]; rintro e w1 ⟨rfl, rfl⟩
  go_wp2_with fail
  refine (ref_Day _ _).mono ?_; rw [hf]; rintro e w1 ⟨rfl, rfl⟩
  have HN := Lib.hid hn; have HF := Lib.hid hf
  clear hn hf
  have a0 := At.new w (.cells #[.string s, .int .i64 f, .int .i64 sn, .int .i64 sd, .int .i64 mn, .int .i64 md, .int .i64 ln, .int .i64 ld, .int .i64 c, .slice a1 n1 c1, .slice a2 n2 c2] 42)
  have b0 := below_new (Below.refl w.heap.size w) (.cells #[.string s, .int .i64 f, .int .i64 sn, .int .i64 sd, .int .i64 mn, .int .i64 md, .int .i64 ln, .int .i64 ld, .int .i64 c, .slice a1 n1 c1, .slice a2 n2 c2] 42)
  generalize World.alloc w _ = W1 at a0 b0 ⊢
  have d0 := a0.cell 0; have d1 := a0.cell 1; have d2 := a0.cell 2; have d3 := a0.cell 3; have d4 := a0.cell 4; have d5 := a0.cell 5; have d6 := a0.cell 6; have d7 := a0.cell 7; have d8 := a0.cell 8; have d9 := a0.cell 9; have d10 := a0.cell 10; simp at d0 d1 d2 d3 d4 d5 d6 d7 d8 d9 d10
  go_wp2_with fail
  refine (ref_FracOK sn sd _ i1 i2 i3 i4).mono ?_
  rcases Bool.eq_false_or_eq_true (fracOk sn sd) with o1 | o1
  case inr =>
    have ho := Lib.hid (moonErr_frac (c := c) (ls := ls) (vs := vs) HN.out HF.out (show (fracOk sn sd && (fracOk mn md && fracOk ln ld)) = false by rw [o1]; rfl))
    rw [o1]; rintro e w2 ⟨rfl, hb⟩
    go_wp2_with fail
    go_ret
    exact ⟨ret_int (by rw [ho.out]), below_then b0 hb⟩
  rw [o1]; rintro e w2 ⟨rfl, hb⟩
  (replace a0 := a0.then_ hb); (replace b0 := below_then b0 hb); clear hb d0 d1 d2 d3 d4 d5 d6 d7 d8 d9 d10
  have d0 := a0.cell 0; have d1 := a0.cell 1; have d2 := a0.cell 2; have d3 := a0.cell 3; have d4 := a0.cell 4; have d5 := a0.cell 5; have d6 := a0.cell 6; have d7 := a0.cell 7; have d8 := a0.cell 8; have d9 := a0.cell 9; have d10 := a0.cell 10; simp at d0 d1 d2 d3 d4 d5 d6 d7 d8 d9 d10
  go_wp2_with fail
  refine (ref_FracOK mn md _ i5 i6 i7 i8).mono ?_
  rcases Bool.eq_false_or_eq_true (fracOk mn md) with o2 | o2
  case inr =>
    have ho := Lib.hid (moonErr_frac (c := c) (ls := ls) (vs := vs) HN.out HF.out (show (fracOk sn sd && (fracOk mn md && fracOk ln ld)) = false by rw [o2, Bool.false_and, Bool.and_false]))
    rw [o2]; rintro e w3 ⟨rfl, hb⟩
    go_wp2_with fail
    go_ret
    exact ⟨ret_int (by rw [ho.out]), below_then b0 hb⟩
  rw [o2]; rintro e w3 ⟨rfl, hb⟩
  (replace a0 := a0.then_ hb); (replace b0 := below_then b0 hb); clear hb d0 d1 d2 d3 d4 d5 d6 d7 d8 d9 d10
  have d0 := a0.cell 0; have d1 := a0.cell 1; have d2 := a0.cell 2; have d3 := a0.cell 3; have d4 := a0.cell 4; have d5 := a0.cell 5; have d6 := a0.cell 6; have d7 := a0.cell 7; have d8 := a0.cell 8; have d9 := a0.cell 9; have d10 := a0.cell 10; simp at d0 d1 d2 d3 d4 d5 d6 d7 d8 d9 d10
  go_wp2_with fail
  refine (ref_FracOK ln ld _ i9 i10 i11 i12).mono ?_
  rcases Bool.eq_false_or_eq_true (fracOk ln ld) with o3 | o3
  case inr =>
    have ho := Lib.hid (moonErr_frac (c := c) (ls := ls) (vs := vs) HN.out HF.out (show (fracOk sn sd && (fracOk mn md && fracOk ln ld)) = false by rw [o3, Bool.and_false, Bool.and_false]))
    rw [o3]; rintro e w4 ⟨rfl, hb⟩
    go_wp2_with fail
    go_ret
    exact ⟨ret_int (by rw [ho.out]), below_then b0 hb⟩
  rw [o3]; rintro e w4 ⟨rfl, hb⟩
  (replace a0 := a0.then_ hb); (replace b0 := below_then b0 hb); clear hb d0 d1 d2 d3 d4 d5 d6 d7 d8 d9 d10
  have d0 := a0.cell 0; have d1 := a0.cell 1; have d2 := a0.cell 2; have d3 := a0.cell 3; have d4 := a0.cell 4; have d5 := a0.cell 5; have d6 := a0.cell 6; have d7 := a0.cell 7; have d8 := a0.cell 8; have d9 := a0.cell 9; have d10 := a0.cell 10; simp at d0 d1 d2 d3 d4 d5 d6 d7 d8 d9 d10
  have M1 := Lib.hid (show MoonOk1 s f sn sd mn md ln ld from ⟨HN.out, HF.out, by rw [o1, o2, o3]; rfl⟩)
  obtain ⟨s1, s2, s3, s4⟩ := fracOk_in o1
  obtain ⟨m1, m2, m3, m4⟩ := fracOk_in o2
  obtain ⟨l1, l2, l3, l4⟩ := fracOk_in o3
  clear o1 o2 o3 HN HF
  have F1 := Lib.hid (fun W => ref_Floor sn sd W (by omega) (by omega) s1 (by omega))
  have F2 := Lib.hid (fun W => ref_Floor mn md W (by omega) (by omega) m1 (by omega))
  have F3 := Lib.hid (fun W => ref_Floor (mn - 1) md W (by omega) (by omega) m1 (by omega))
  have k1 := div_ge sn sd 1 s1
  have k2 := div_ge mn md 29 m1
  have k3 := div_ge (mn - 1) md 30 m1
  generalize sn / sd = A at F1 k1
  generalize mn / md = B at F2 k2
  generalize (mn - 1) / md = D at F3 k3
  by_cases hbad : moonBad sn sd mn md ln ld
  · have ho := Lib.hid (moonErr_bad (c := c) (ls := ls) (vs := vs) M1.out hbad)
    have hq : sn < 0 ∨ (0 ≤ sn ∧ 0 < A) ∨ (0 ≤ sn ∧ A ≤ 0 ∧ B < 29) ∨ (0 ≤ sn ∧ A ≤ 0 ∧ 29 ≤ B ∧ 29 < D) ∨ (0 ≤ sn ∧ A ≤ 0 ∧ 29 ≤ B ∧ D ≤ 29 ∧ ln ≤ 0) ∨ (0 ≤ sn ∧ A ≤ 0 ∧ 29 ≤ B ∧ D ≤ 29 ∧ 0 < ln ∧ ld < ln) := by
      unfold moonBad at hbad; omega
    clear hbad k1 k2 k3
    rcases hq with q1 | ⟨q1, q2⟩ | ⟨q1, q2, q3⟩ | ⟨q1, q2, q3, q4⟩ | ⟨q1, q2, q3, q4, q5⟩ | ⟨q1, q2, q3, q4, q5, q6⟩
    all_goals
      go_wp2_with (go_at_call 30; (first | (with_reducible refine (F1.out _).mono ?_) | (with_reducible refine (F2.out _).mono ?_) | (with_reducible refine (F3.out _).mono ?_)); rintro e w1 ⟨rfl, rfl⟩)
      go_ret
      exact ⟨ret_int (by rw [ho.out]), b0⟩
  have hq : 0 ≤ sn ∧ A ≤ 0 ∧ 29 ≤ B ∧ D ≤ 29 ∧ 0 < ln ∧ ln ≤ ld := by
    unfold moonBad at hbad; omega
  have HB := Lib.hid hbad; clear hbad k1 k2 k3
  obtain ⟨q1, q2, q3, q4, q5, q6⟩ := hq
  go_wp2_with (go_at_call 30; (first | (with_reducible refine (F1.out _).mono ?_) | (with_reducible refine (F2.out _).mono ?_) | (with_reducible refine (F3.out _).mono ?_)); rintro e w1 ⟨rfl, rfl⟩)
  clear F1 F2 F3
  refine (ref_Parts _ s f sn sd mn md ln ld c a1 a2 n1 c1 n2 c2 ls vs s1 s2 m1 m2 l1 l2).mono ?_
  obtain ⟨P, hP⟩ : ∃ P, P = partsOf sd md ld := ⟨_, rfl⟩
  rw [← hP]
  rintro e w5 ⟨rfl, hb⟩
  replace a0 := a0.then_ hb
  replace b0 := below_then b0 hb
  clear hb d0 d1 d2 d3 d4 d5 d6 d7 d8 d9 d10
  have d8 := a0.cell 8; have d9 := a0.cell 9; have d10 := a0.cell 10
  simp at d8 d9 d10
  by_cases hp : P = 0
  · have ho := Lib.hid (moonErr_over (c := c) (ls := ls) (vs := vs) M1.out HB.out (hP.symm.trans hp))
    have hp' : (P == 0) = true := by simpa using hp
    clear hP hp
    go_wp2_with fail
    go_ret
    exact ⟨ret_int (by rw [ho.out]), b0⟩
  have HP := Lib.hid (show partsOf sd md ld ≠ 0 by rw [← hP]; exact hp)
  have hp' : (P == 0) = false := by simpa using hp
  clear hP hp
  rcases inB_cases 1 100 c with ⟨hc, cc1, cc2⟩ | ⟨hc, hc'⟩
  case inr =>
    have ho := Lib.hid (moonErr_cycle (ls := ls) (vs := vs) M1.out HB.out HP.out hc)
    go_wp2_with fail
    refine (ref_In _ _ _ _).mono ?_; rw [hc]; rintro e w6 ⟨rfl, rfl⟩
    go_wp2_with fail
    go_ret
    exact ⟨ret_int (by rw [ho.out]), b0⟩
  go_wp2_with fail
  refine (ref_In _ _ _ _).mono ?_; rw [hc]; rintro e w6 ⟨rfl, rfl⟩
  go_wp2_with fail
  go_loop [3, 4, 91] (fun _ _ i => ∃ k : Nat, k ≤ n1 ∧ i = .int .i64 k ∧ IncTo 1 c ls k) (fun _ _ i => n1 - (intOf i).toNat)
  case atStart => exact ⟨0, by omega, rfl, IncTo.start _ _ _⟩
  case round =>
    obtain ⟨k, hk, rfl, hI⟩ := hrel
    have HI := Lib.hid hI; clear hI
    by_cases hlt : k < n1
    · obtain ⟨b, off, y, rfl, hbB, cy, hx, y1, y2⟩ := (H.out.then_ b0).1.at_ hlt
      have HX := Lib.hid hx; clear hx
      rcases inB_cases 1 c y with ⟨hy, e1, e2⟩ | ⟨hy, hy'⟩
      · by_cases hk0 : k = 0
        · subst hk0
          have hnx := Lib.hid (HI.out.first HX.out hy)
          simp only [Nat.add_zero] at cy
          go_wp2_with fail
          refine (ref_In _ _ _ _).mono ?_; rw [hy]; rintro e w1 ⟨rfl, rfl⟩
          go_wp2_with fail
          go_round
          case rel => exact ⟨1, by omega, rfl, hnx.out⟩
          case measure => simp [intOf]; omega
        · obtain ⟨m, rfl⟩ : ∃ m, k = m + 1 := ⟨k - 1, by omega⟩
          obtain ⟨b', off', q, e', _, cq, hq, qq1, qq2⟩ := (H.out.then_ b0).1.at_ (show m < n1 by omega)
          injection e' with e'
          injection e' with x1 x2
          subst x1 x2
          have HQ := Lib.hid hq; clear hq
          have hmn : m < n1 := by omega
          by_cases hle : y ≤ q
          · have h9 := HI.out.order HX.out HQ.out hy hle
            have hf2 := Lib.hid ((moonErr_leaps (vs := vs) M1.out HB.out HP.out hc (by rw [h9]; omega)).trans h9)
            clear h9
            go_wp2_with fail
            refine (ref_In _ _ _ _).mono ?_; rw [hy]; rintro e w1 ⟨rfl, rfl⟩
            go_wp2_with fail
            go_ret
            exact ⟨ret_int (by rw [hf2.out]), b0⟩
          · have hnx := Lib.hid (HI.out.next HX.out HQ.out hy hle)
            go_wp2_with fail
            refine (ref_In _ _ _ _).mono ?_; rw [hy]; rintro e w1 ⟨rfl, rfl⟩
            go_wp2_with fail
            go_round
            case rel => exact ⟨m + 1 + 1, by omega, by go_num, hnx.out⟩
            case measure => simp [intOf]; omega
      · have h3 := HI.out.range HX.out hy
        have hf2 := Lib.hid ((moonErr_leaps (vs := vs) M1.out HB.out HP.out hc (by rw [h3]; omega)).trans h3)
        clear h3
        go_wp2_with fail
        refine (ref_In _ _ _ _).mono ?_; rw [hy]; rintro e w1 ⟨rfl, rfl⟩
        go_wp2_with fail
        go_ret
        exact ⟨ret_int (by rw [hf2.out]), b0⟩
    · have he := HI.out.last (by have := LL.out; omega)
      have HE := Lib.hid he; clear he
      by_cases hv : 3 < n2
      · have ho := Lib.hid (moonErr_large (ls := ls) (vs := vs) M1.out HB.out HP.out hc HE.out (by rw [LV.out]; exact hv))
        go_wp2_with fail
        go_ret
        exact ⟨ret_int (by rw [ho.out]), b0⟩
      · have hfa := Lib.hid (moonErr_avoid (ls := ls) (vs := vs) M1.out HB.out HP.out hc HE.out (by rw [LV.out]; exact hv))
        clear HI
        go_wp2_with fail
        go_loop [5, 6, 121] (fun _ _ i => ∃ k : Nat, k ≤ n2 ∧ i = .int .i64 k ∧ IncTo 0 6 vs k) (fun _ _ i => n2 - (intOf i).toNat)
        case atStart => exact ⟨0, by omega, rfl, IncTo.start _ _ _⟩
        case round =>
          obtain ⟨k, hk, rfl, hI⟩ := hrel
          have HI := Lib.hid hI; clear hI
          by_cases hlt : k < n2
          · obtain ⟨b, off, y, rfl, hbB, cy, hx, y1, y2⟩ := (H.out.then_ b0).2.at_ hlt
            have HX := Lib.hid hx; clear hx
            rcases inB_cases 0 6 y with ⟨hy, e1, e2⟩ | ⟨hy, hy'⟩
            · by_cases hk0 : k = 0
              · subst hk0
                have hnx := Lib.hid (HI.out.first HX.out hy)
                simp only [Nat.add_zero] at cy
                go_wp2_with fail
                refine (ref_In _ _ _ _).mono ?_; rw [hy]; rintro e w1 ⟨rfl, rfl⟩
                go_wp2_with fail
                go_round
                case rel => exact ⟨1, by omega, rfl, hnx.out⟩
                case measure => simp [intOf]; omega
              · obtain ⟨m, rfl⟩ : ∃ m, k = m + 1 := ⟨k - 1, by omega⟩
                obtain ⟨b', off', q, e', _, cq, hq, qq1, qq2⟩ := (H.out.then_ b0).2.at_ (show m < n2 by omega)
                injection e' with e'
                injection e' with x1 x2
                subst x1 x2
                have HQ := Lib.hid hq; clear hq
                have hmn : m < n2 := by omega
                by_cases hle : y ≤ q
                · have hf2 := Lib.hid (hfa.out.trans (HI.out.order HX.out HQ.out hy hle))
                  go_wp2_with fail
                  refine (ref_In _ _ _ _).mono ?_; rw [hy]; rintro e w1 ⟨rfl, rfl⟩
                  go_wp2_with fail
                  go_ret
                  exact ⟨ret_int (by rw [hf2.out]), b0⟩
                · have hnx := Lib.hid (HI.out.next HX.out HQ.out hy hle)
                  go_wp2_with fail
                  refine (ref_In _ _ _ _).mono ?_; rw [hy]; rintro e w1 ⟨rfl, rfl⟩
                  go_wp2_with fail
                  go_round
                  case rel => exact ⟨m + 1 + 1, by omega, by go_num, hnx.out⟩
                  case measure => simp [intOf]; omega
            · have hf2 := Lib.hid (hfa.out.trans (HI.out.range HX.out hy))
              go_wp2_with fail
              refine (ref_In _ _ _ _).mono ?_; rw [hy]; rintro e w1 ⟨rfl, rfl⟩
              go_wp2_with fail
              go_ret
              exact ⟨ret_int (by rw [hf2.out]), b0⟩
          · have hf2 := Lib.hid (hfa.out.trans (HI.out.last (by have := LV.out; omega)))
            go_wp2_with fail
            go_ret
            exact ⟨ret_int (by rw [hf2.out]), b0⟩
end Go.Proofs.Ytjjmbnflhldoeaa
