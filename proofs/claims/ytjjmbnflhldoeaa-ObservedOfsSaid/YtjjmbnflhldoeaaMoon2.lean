/- Contracts of lunisolar.Check and of the reference's MoonError. -/
import Derived.Test.YtjjmbnflhldoeaaMoon
namespace Go.Proofs.Ytjjmbnflhldoeaa
set_option linter.unusedVariables false
set_option maxRecDepth 100000
open Go.RowKit

def moonBad (sn sd mn md ln ld : Int) : Prop := sn < 0 ∨ sd ≤ sn ∨ mn < 29 * md ∨ 30 * md < mn ∨ ln ≤ 0 ∨ ld < ln
instance (sn sd mn md ln ld : Int) : Decidable (moonBad sn sd mn md ln ld) := by unfold moonBad; infer_instance
/-- The error of a rule of mean months. -/
def moonErr (s : ByteArray) (f sn sd mn md ln ld c : Int) (ls vs : List Int) : Int :=
  if isName s = false then 5 else if inB (-4000000) 4000000 f = false then 3 else if (fracOk sn sd && (fracOk mn md && fracOk ln ld)) = false then 8 else
  if moonBad sn sd mn md ln ld then 3 else if partsOf sd md ld = 0 then 14 else if inB 1 100 c = false then 3 else
  if incErr 1 c none ls ≠ 0 then incErr 1 c none ls else if 3 < vs.length then 2 else incErr 0 6 none vs
section
variable {s : ByteArray} {f sn sd mn md ln ld c : Int} {ls vs : List Int}
theorem moonErr_name (h : isName s = false) : moonErr s f sn sd mn md ln ld c ls vs = 5 := if_pos h
theorem moonErr_day (h : isName s = true) (h2 : inB (-4000000) 4000000 f = false) : moonErr s f sn sd mn md ln ld c ls vs = 3 := by rw [moonErr, if_neg (by rw [h]; simp), if_pos h2]
theorem moonErr_frac (h : isName s = true) (h2 : inB (-4000000) 4000000 f = true) (h3 : (fracOk sn sd && (fracOk mn md && fracOk ln ld)) = false) : moonErr s f sn sd mn md ln ld c ls vs = 8 := by rw [moonErr, if_neg (by rw [h]; simp), if_neg (by rw [h2]; simp), if_pos h3]
/-- Name, epoch and fractions are in order. -/
def MoonOk1 (s : ByteArray) (f sn sd mn md ln ld : Int) : Prop := isName s = true ∧ inB (-4000000) 4000000 f = true ∧ (fracOk sn sd && (fracOk mn md && fracOk ln ld)) = true
theorem moonErr_1 (h : MoonOk1 s f sn sd mn md ln ld) : moonErr s f sn sd mn md ln ld c ls vs = if moonBad sn sd mn md ln ld then 3 else if partsOf sd md ld = 0 then 14 else if inB 1 100 c = false then 3 else
    if incErr 1 c none ls ≠ 0 then incErr 1 c none ls else if 3 < vs.length then 2 else incErr 0 6 none vs := by
  rw [moonErr, if_neg (by rw [h.1]; simp), if_neg (by rw [h.2.1]; simp), if_neg (by rw [h.2.2]; simp)]
theorem moonErr_bad (h : MoonOk1 s f sn sd mn md ln ld) (hb : moonBad sn sd mn md ln ld) : moonErr s f sn sd mn md ln ld c ls vs = 3 := by rw [moonErr_1 h, if_pos hb]
theorem moonErr_over (h : MoonOk1 s f sn sd mn md ln ld) (hb : ¬ moonBad sn sd mn md ln ld) (hp : partsOf sd md ld = 0) : moonErr s f sn sd mn md ln ld c ls vs = 14 := by rw [moonErr_1 h, if_neg hb, if_pos hp]
theorem moonErr_cycle (h : MoonOk1 s f sn sd mn md ln ld) (hb : ¬ moonBad sn sd mn md ln ld) (hp : partsOf sd md ld ≠ 0) (hc : inB 1 100 c = false) : moonErr s f sn sd mn md ln ld c ls vs = 3 := by rw [moonErr_1 h, if_neg hb, if_neg hp, if_pos hc]
theorem moonErr_leaps (h : MoonOk1 s f sn sd mn md ln ld) (hb : ¬ moonBad sn sd mn md ln ld) (hp : partsOf sd md ld ≠ 0) (hc : inB 1 100 c = true) (hl : incErr 1 c none ls ≠ 0) : moonErr s f sn sd mn md ln ld c ls vs = incErr 1 c none ls := by
  rw [moonErr_1 h, if_neg hb, if_neg hp, if_neg (by rw [hc]; simp), if_pos hl]
theorem moonErr_large (h : MoonOk1 s f sn sd mn md ln ld) (hb : ¬ moonBad sn sd mn md ln ld) (hp : partsOf sd md ld ≠ 0) (hc : inB 1 100 c = true) (hl : incErr 1 c none ls = 0) (hv : 3 < vs.length) : moonErr s f sn sd mn md ln ld c ls vs = 2 := by
  rw [moonErr_1 h, if_neg hb, if_neg hp, if_neg (by rw [hc]; simp), if_neg (by omega), if_pos hv]
theorem moonErr_avoid (h : MoonOk1 s f sn sd mn md ln ld) (hb : ¬ moonBad sn sd mn md ln ld) (hp : partsOf sd md ld ≠ 0) (hc : inB 1 100 c = true) (hl : incErr 1 c none ls = 0) (hv : ¬ 3 < vs.length) : moonErr s f sn sd mn md ln ld c ls vs = incErr 0 6 none vs := by
  rw [moonErr_1 h, if_neg hb, if_neg hp, if_neg (by rw [hc]; simp), if_neg (by omega), if_neg hv]
end
theorem fracOk_in {n d : Int} (h : fracOk n d = true) : 1 ≤ d ∧ d ≤ 2147483647 ∧ -2147483647 ≤ n ∧ n ≤ 2147483647 := by
  rcases fracOk_cases n d with ⟨_, h1, h2, h3, h4, _⟩ | ⟨h1, _⟩
  · exact ⟨h1, h2, h3, h4⟩
  · rw [h] at h1; cases h1
theorem fracErr_ok {n d : Int} (h : fracOk n d = true) : fracErr n d = 0 := by rw [fracErr, h]; rfl
theorem fracErr_no {n d : Int} (h : fracOk n d = false) : fracErr n d = 8 := by rw [fracErr, h]; rfl
theorem index3f (x0 x1 x2 x3 x4 x5 : Int) : (∀ W : World, (Instr.index 98 (.agg #[.int .i64 x0, .int .i64 x1, .int .i64 x2, .int .i64 x3, .int .i64 x4, .int .i64 x5]) (.int .i64 0)).run Try.prog W = .ok (.agg #[.int .i64 x0, .int .i64 x1]) W) ∧ (∀ W : World, (Instr.index 98 (.agg #[.int .i64 x0, .int .i64 x1, .int .i64 x2, .int .i64 x3, .int .i64 x4, .int .i64 x5]) (.int .i64 1)).run Try.prog W = .ok (.agg #[.int .i64 x2, .int .i64 x3]) W) ∧ (∀ W : World, (Instr.index 98 (.agg #[.int .i64 x0, .int .i64 x1, .int .i64 x2, .int .i64 x3, .int .i64 x4, .int .i64 x5]) (.int .i64 2)).run Try.prog W = .ok (.agg #[.int .i64 x4, .int .i64 x5]) W) :=
  ⟨fun _ => by kernel_rfl, fun _ => by kernel_rfl, fun _ => by kernel_rfl⟩
/-- The two lists of a rule in memory. -/
def MoonAt (w : World) (a1 a2 : Option Addr) (n1 n2 : Nat) (ls vs : List Int) : Prop := Ints w w.heap.size a1 n1 ls ∧ Ints w w.heap.size a2 n2 vs
theorem MoonAt.then_ {w w' : World} {a1 a2 : Option Addr} {n1 n2 : Nat} {ls vs : List Int} (h : MoonAt w a1 a2 n1 n2 ls vs) (hb : Below w.heap.size w w') : MoonAt w' a1 a2 n1 n2 ls vs :=
  ⟨(h.1.below hb (Nat.le_refl _)).more hb.size, (h.2.below hb (Nat.le_refl _)).more hb.size⟩
/-- The numbers of a rule are ints. -/
def MoonI (sn sd mn md ln ld : Int) : Prop := I64 sn ∧ I64 sd ∧ I64 mn ∧ I64 md ∧ I64 ln ∧ I64 ld

set_option maxHeartbeats 4000000 in
theorem lunisolar_Check (w : World) (s : ByteArray) (f sn sd mn md ln ld c : Int) (a1 a2 : Option Addr) (n1 c1 n2 c2 : Nat) (ls vs : List Int) (hs : s.size ≤ 9223372036854775807) (hi : MoonI sn sd mn md ln ld) (h : MoonAt w a1 a2 n1 n2 ls vs) :
    Calls Try.prog 35 #[.agg #[.string s, .int .i64 f, .int .i64 sn, .int .i64 sd, .int .i64 mn, .int .i64 md, .int .i64 ln, .int .i64 ld, .int .i64 c, .slice a1 n1 c1, .slice a2 n2 c2]] w fun e w' => e = .returned (.int .i64 (moonErr s f sn sd mn md ln ld c ls vs)) ∧ Below w.heap.size w w' := by
  have LV := Lib.hid h.2.1
  have mv := h.2.2.1
  have H := Lib.hid h; clear h
  have HIX := Lib.hid (index3f sn sd mn md ln ld)
  obtain ⟨⟨i1, i2⟩, ⟨i3, i4⟩, ⟨i5, i6⟩, ⟨i7, i8⟩, ⟨i9, i10⟩, i11, i12⟩ := hi
  rcases Bool.eq_false_or_eq_true (isName s) with hn | hn
  case inr =>
    have ho := Lib.hid (moonErr_name (f := f) (sn := sn) (sd := sd) (mn := mn) (md := md) (ln := ln) (ld := ld) (c := c) (ls := ls) (vs := vs) hn)
    go_enter Try.func35, Try.ntmps35
    go_wp2_with fail
    refine (rule_IsName _ _ hs).mono ?_; rw [hn]; rintro e w1 ⟨rfl, rfl⟩
    go_wp2_with fail
    go_ret
    exact ⟨ret_int (by rw [ho.out]), by (repeat' (first | exact Below.refl _ _ | assumption | refine Below.drew ?_ | refine below_drewN ?_ _ | refine below_new ?_ _ | refine below_set ?_ ?_ _ | refine below_then ?_ (by assumption) | refine below_drawn ?_ (by assumption) | exact Nat.le_refl _ | omega | (simp; done) | (simp; omega)))⟩
  rcases Bool.eq_false_or_eq_true (inB (-4000000) 4000000 f) with hf | hf
  case inr =>
    have ho := Lib.hid (moonErr_day (sn := sn) (sd := sd) (mn := mn) (md := md) (ln := ln) (ld := ld) (c := c) (ls := ls) (vs := vs) hn hf)
    go_enter Try.func35, Try.ntmps35
    go_wp2_with fail
    refine (rule_IsName _ _ hs).mono ?_; rw [hn]; rintro e w1 ⟨rfl, rfl⟩
    go_wp2_with fail
    refine (line_Is _ _).mono ?_; rw [hf]; rintro e w1 ⟨rfl, rfl⟩
    go_wp2_with fail
    go_ret
    exact ⟨ret_int (by rw [ho.out]), by (repeat' (first | exact Below.refl _ _ | assumption | refine Below.drew ?_ | refine below_drewN ?_ _ | refine below_new ?_ _ | refine below_set ?_ ?_ _ | refine below_then ?_ (by assumption) | refine below_drawn ?_ (by assumption) | exact Nat.le_refl _ | omega | (simp; done) | (simp; omega)))⟩
  go_enter Try.func35, Try.ntmps35
  go_wp2_with fail
  refine (rule_IsName _ _ hs).mono ?_; rw [hn]; rintro e w1 ⟨rfl, rfl⟩
  go_wp2_with fail
  refine (line_Is _ _).mono ?_; rw [hf]; rintro e w1 ⟨rfl, rfl⟩
  go_wp2_with fail
  have HN := Lib.hid hn; have HF := Lib.hid hf
  clear hn hf
  go_loopw [4, 21] (fun _ i wr => ((i = .int .i64 0) ∨ (i = .int .i64 1 ∧ fracOk sn sd = true) ∨ (i = .int .i64 2 ∧ fracOk sn sd = true ∧ fracOk mn md = true) ∨ (i = .int .i64 3 ∧ fracOk sn sd = true ∧ fracOk mn md = true ∧ fracOk ln ld = true)) ∧ At wr w.heap.size (.cells #[.string s, .int .i64 f, .int .i64 sn, .int .i64 sd, .int .i64 mn, .int .i64 md, .int .i64 ln, .int .i64 ld, .int .i64 c, .slice a1 n1 c1, .slice a2 n2 c2] 42) ∧ Below w.heap.size w wr) (fun _ i _ => 3 - (intOf i).toNat)
  case atStart => exact ⟨.inl rfl, At.new w _, by (repeat' (first | exact Below.refl _ _ | assumption | refine Below.drew ?_ | refine below_drewN ?_ _ | refine below_new ?_ _ | refine below_set ?_ ?_ _ | refine below_then ?_ (by assumption) | refine below_drawn ?_ (by assumption) | exact Nat.le_refl _ | omega | (simp; done) | (simp; omega)))⟩
  case round =>
    obtain ⟨hr, a0, b0⟩ := hrel
    rcases hr with rfl | ⟨rfl, o1⟩ | ⟨rfl, o1, o2⟩ | ⟨rfl, o1, o2, o3⟩
    · have hix := HIX.out.1
      rcases Bool.eq_false_or_eq_true (fracOk sn sd) with ok | ok
      · go_wp2_with fail
        refine (frac_Check sn sd _ i1 i2 i3 i4).mono ?_; rw [fracErr_ok ok]; rintro e w2 ⟨rfl, hb⟩
        go_wp2_with fail
        go_roundw
        case rel => exact ⟨.inr (.inl ⟨rfl, ok⟩), (a0.alloc _).then_ hb, below_then (below_new b0 _) hb⟩
        case measure => simp [intOf]
      · have ho := Lib.hid (moonErr_frac (c := c) (ls := ls) (vs := vs) HN.out HF.out (show (fracOk sn sd && (fracOk mn md && fracOk ln ld)) = false by rw [ok]; rfl))
        go_wp2_with fail
        refine (frac_Check sn sd _ i1 i2 i3 i4).mono ?_; rw [fracErr_no ok]; rintro e w2 ⟨rfl, hb⟩
        go_wp2_with fail
        go_ret
        exact ⟨ret_int (by rw [ho.out]), by (repeat' (first | exact Below.refl _ _ | assumption | refine Below.drew ?_ | refine below_drewN ?_ _ | refine below_new ?_ _ | refine below_set ?_ ?_ _ | refine below_then ?_ (by assumption) | refine below_drawn ?_ (by assumption) | exact Nat.le_refl _ | omega | (simp; done) | (simp; omega)))⟩
    · have hix := HIX.out.2.1
      rcases Bool.eq_false_or_eq_true (fracOk mn md) with ok | ok
      · go_wp2_with fail
        refine (frac_Check mn md _ i5 i6 i7 i8).mono ?_; rw [fracErr_ok ok]; rintro e w2 ⟨rfl, hb⟩
        go_wp2_with fail
        go_roundw
        case rel => exact ⟨.inr (.inr (.inl ⟨rfl, o1, ok⟩)), (a0.alloc _).then_ hb, below_then (below_new b0 _) hb⟩
        case measure => simp [intOf]
      · have ho := Lib.hid (moonErr_frac (c := c) (ls := ls) (vs := vs) HN.out HF.out (show (fracOk sn sd && (fracOk mn md && fracOk ln ld)) = false by rw [ok, Bool.false_and, Bool.and_false]))
        go_wp2_with fail
        refine (frac_Check mn md _ i5 i6 i7 i8).mono ?_; rw [fracErr_no ok]; rintro e w2 ⟨rfl, hb⟩
        go_wp2_with fail
        go_ret
        exact ⟨ret_int (by rw [ho.out]), by (repeat' (first | exact Below.refl _ _ | assumption | refine Below.drew ?_ | refine below_drewN ?_ _ | refine below_new ?_ _ | refine below_set ?_ ?_ _ | refine below_then ?_ (by assumption) | refine below_drawn ?_ (by assumption) | exact Nat.le_refl _ | omega | (simp; done) | (simp; omega)))⟩
    · have hix := HIX.out.2.2
      rcases Bool.eq_false_or_eq_true (fracOk ln ld) with ok | ok
      · go_wp2_with fail
        refine (frac_Check ln ld _ i9 i10 i11 i12).mono ?_; rw [fracErr_ok ok]; rintro e w2 ⟨rfl, hb⟩
        go_wp2_with fail
        go_roundw
        case rel => exact ⟨.inr (.inr (.inr ⟨rfl, o1, o2, ok⟩)), (a0.alloc _).then_ hb, below_then (below_new b0 _) hb⟩
        case measure => simp [intOf]
      · have ho := Lib.hid (moonErr_frac (c := c) (ls := ls) (vs := vs) HN.out HF.out (show (fracOk sn sd && (fracOk mn md && fracOk ln ld)) = false by rw [ok, Bool.and_false, Bool.and_false]))
        go_wp2_with fail
        refine (frac_Check ln ld _ i9 i10 i11 i12).mono ?_; rw [fracErr_no ok]; rintro e w2 ⟨rfl, hb⟩
        go_wp2_with fail
        go_ret
        exact ⟨ret_int (by rw [ho.out]), by (repeat' (first | exact Below.refl _ _ | assumption | refine Below.drew ?_ | refine below_drewN ?_ _ | refine below_new ?_ _ | refine below_set ?_ ?_ _ | refine below_then ?_ (by assumption) | refine below_drawn ?_ (by assumption) | exact Nat.le_refl _ | omega | (simp; done) | (simp; omega)))⟩
    · have M1 := Lib.hid (show MoonOk1 s f sn sd mn md ln ld from ⟨HN.out, HF.out, by rw [o1, o2, o3]; rfl⟩)
      obtain ⟨s1, s2, s3, s4⟩ := fracOk_in o1
      obtain ⟨m1, m2, m3, m4⟩ := fracOk_in o2
      obtain ⟨l1, l2, l3, l4⟩ := fracOk_in o3
      have d0 := a0.cell 0; have d1 := a0.cell 1; have d2 := a0.cell 2; have d3 := a0.cell 3; have d4 := a0.cell 4; have d5 := a0.cell 5; have d6 := a0.cell 6; have d7 := a0.cell 7; have d8 := a0.cell 8; have d9 := a0.cell 9; have d10 := a0.cell 10; simp at d0 d1 d2 d3 d4 d5 d6 d7 d8 d9 d10
      clear o1 o2 o3 HN HF HIX
      by_cases hbad : moonBad sn sd mn md ln ld
      · have ho := Lib.hid (moonErr_bad (c := c) (ls := ls) (vs := vs) M1.out hbad)
        have hq : sn < 0 ∨ (0 ≤ sn ∧ sd ≤ sn) ∨ (0 ≤ sn ∧ sn < sd ∧ mn < 29 * md) ∨ (0 ≤ sn ∧ sn < sd ∧ 29 * md ≤ mn ∧ 30 * md < mn) ∨ (0 ≤ sn ∧ sn < sd ∧ 29 * md ≤ mn ∧ mn ≤ 30 * md ∧ ln ≤ 0) ∨ (0 ≤ sn ∧ sn < sd ∧ 29 * md ≤ mn ∧ mn ≤ 30 * md ∧ 0 < ln ∧ ld < ln) := by
          unfold moonBad at hbad; omega
        clear hbad
        rcases hq with q1 | ⟨q1, q2⟩ | ⟨q1, q2, q3⟩ | ⟨q1, q2, q3, q4⟩ | ⟨q1, q2, q3, q4, q5⟩ | ⟨q1, q2, q3, q4, q5, q6⟩
        all_goals
          go_wp2_with fail
          go_ret
          exact ⟨ret_int (by rw [ho.out]), b0⟩
      have hq : 0 ≤ sn ∧ sn < sd ∧ 29 * md ≤ mn ∧ mn ≤ 30 * md ∧ 0 < ln ∧ ln ≤ ld := by
        unfold moonBad at hbad; omega
      have HB := Lib.hid hbad; clear hbad
      obtain ⟨q1, q2, q3, q4, q5, q6⟩ := hq
      go_wp2_with fail
      refine (lunisolar_parts _ s f sn sd mn md ln ld c a1 a2 n1 c1 n2 c2 ls vs s1 s2 m1 m2 l1 l2).mono ?_
      obtain ⟨P, hP⟩ : ∃ P, P = partsOf sd md ld := ⟨_, rfl⟩
      rw [← hP]
      rintro e w2 ⟨rfl, hb⟩
      replace a0 := a0.then_ hb
      replace b0 := below_then b0 hb
      clear hb d0 d1 d2 d3 d4 d5 d6 d7 d8 d9 d10
      have d8 := a0.cell 8; have d9 := a0.cell 9; have d10 := a0.cell 10
      simp at d8 d9 d10
      by_cases hp : P = 0
      · have ho := Lib.hid (moonErr_over (c := c) (ls := ls) (vs := vs) M1.out HB.out (hP.symm.trans hp))
        have hp' : (P == 0) = true := by simpa using hp
        clear hP hp
        go_wp2_with fail
        go_ret
        exact ⟨ret_int (by rw [ho.out]), b0⟩
      have HP := Lib.hid (show partsOf sd md ld ≠ 0 by rw [← hP]; exact hp)
      have hp' : (P == 0) = false := by simpa using hp
      clear hP hp
      rcases inB_cases 1 100 c with ⟨hc, cc1, cc2⟩ | ⟨hc, hc'⟩
      case inr =>
        have ho := Lib.hid (moonErr_cycle (ls := ls) (vs := vs) M1.out HB.out HP.out hc)
        have hq : c < 1 ∨ (1 ≤ c ∧ 100 < c) := by omega
        clear hc'
        rcases hq with q | ⟨q, q'⟩
        all_goals
          go_wp2_with fail
          go_ret
          exact ⟨ret_int (by rw [ho.out]), b0⟩
      go_wp2_with fail
      refine (lunisolar_increasing _ _ _ _ ls 1 c (H.out.then_ b0).1).mono ?_
      obtain ⟨E, hE⟩ : ∃ E, E = incErr 1 c none ls := ⟨_, rfl⟩
      rw [← hE]
      rintro e w3 ⟨rfl, rfl⟩
      by_cases he : E = 0
      case neg =>
        have ho := Lib.hid (moonErr_leaps (vs := vs) M1.out HB.out HP.out hc (show incErr 1 c none ls ≠ 0 by rw [← hE]; exact he))
        rw [← hE] at ho
        have he' : (E != 0) = true := by simpa using he
        clear hE he
        go_wp2_with fail
        go_ret
        exact ⟨ret_int (by rw [ho.out]), b0⟩
      have HE := Lib.hid (hE.symm.trans he)
      have he' : (E != 0) = false := by simpa using he
      clear hE he
      by_cases hv : 3 < n2
      · have ho := Lib.hid (moonErr_large (ls := ls) (vs := vs) M1.out HB.out HP.out hc HE.out (by rw [LV.out]; exact hv))
        go_wp2_with fail
        go_ret
        exact ⟨ret_int (by rw [ho.out]), b0⟩
      · have ho := Lib.hid (moonErr_avoid (ls := ls) (vs := vs) M1.out HB.out HP.out hc HE.out (by rw [LV.out]; exact hv))
        go_wp2_with fail
        refine (lunisolar_increasing _ _ _ _ vs 0 6 (H.out.then_ b0).2).mono ?_
        rintro e w3 ⟨rfl, rfl⟩
        go_wp2_with fail
        go_ret
        exact ⟨ret_int (by rw [ho.out]), b0⟩
end Go.Proofs.Ytjjmbnflhldoeaa
