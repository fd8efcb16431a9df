/- ArithToDays: the Go text returns true at every input, and writes nothing that was there. -/
import Derived.Test.YtghecclgaaklaaaToDay2
import Derived.Test.YtghecclgaaklaaaFour
namespace Go.Proofs.Ytghecclgaaklaaa.arithToDaysLaw
set_option linter.unusedVariables false
set_option maxRecDepth 100000
open Go.RowKit Go.ChangeShapes Go.WideShapes

theorem lit0 : calErr ⟨#[115, 109, 97, 108, 108]⟩ 1 4 smallMonths [4] = 0 := by decide +kernel
theorem lit1 : dayOr (dnum smallMonths [4] 1 4 1 1 28) = .tuple #[.int .i64 59, .int .i64 0] := by
  rw [show dnum smallMonths [4] 1 4 1 1 28 = 59 by decide +kernel]; rfl
theorem day2 (w : World) (b1 b2 : Option Addr) (h : CalAt w b1 b2 2 1 smallMonths [4]) :
    Calls Try.prog 65 #[.agg #[.string ⟨#[115, 109, 97, 108, 108]⟩, .int .i64 1, .int .i64 4, .slice b1 2 2, .slice b2 1 1], .agg #[.int .i64 1, .int .i64 2, .int .i64 28]] w fun e w' => e = .returned (.tuple #[.int .i64 59, .int .i64 0]) ∧ Below w.heap.size w w' := by
  have := arith_ToDay_ok w ⟨#[115, 109, 97, 108, 108]⟩ 1 4 b1 b2 2 2 1 1 smallMonths [4] 1 1 28 (⟨#[116, 119, 111]⟩, 28, 29) (by decide) (by omega) h lit0 (by omega) (by omega) rfl (by decide +kernel)
  rw [lit1] at this
  exact this
set_option maxHeartbeats 2000000 in
theorem core (w : World) (s : ByteArray) (f c : Int) (a1 a2 : Option Addr) (n1 c1 n2 c2 : Nat) (ms : List Mon) (ls : List Int) (y m d : Int) (hs : s.size ≤ 9223372036854775807) (k1 : n1 ≤ c1) (h : CalAt w a1 a2 n1 n2 ms ls) :
    Calls Try.prog 17 #[.agg #[.string s, .int .i64 f, .int .i64 c, .slice a1 n1 c1, .slice a2 n2 c2], .agg #[.int .i64 y, .int .i64 m, .int .i64 d]] w fun e w' => e = .returned (.bool true) ∧ Below w.heap.size w w' := by
  have L1 := Lib.hid h.1.len
  have H := Lib.hid h; clear h
  go_enter Try.func17, Try.ntmps17
  go_wp2_with fail
  refine (law_four _).mono ?_
  rintro e w1 ⟨b1, b2, rfl, hc4, hb⟩
  have tw := (Two.new w (.cells #[.string s, .int .i64 f, .int .i64 c, .slice a1 n1 c1, .slice a2 n2 c2] 37) (.cells #[.int .i64 y, .int .i64 m, .int .i64 d] 23)).step hb
  clear hb
  have HC4 := Lib.hid hc4; clear hc4
  go_wp2_with fail
  refine (day2 _ _ _ HC4.out).mono ?_
  rintro e w2 ⟨rfl, hb⟩
  replace tw := tw.step hb
  clear hb HC4
  obtain ⟨e0, e1, e2⟩ := tw.date
  obtain ⟨x0, x1, x2, x3, x4⟩ := tw.cal
  go_wp2_with fail
  by_cases q : calErr s f c ms ls = 0
  case neg =>
    have q' : (calErr s f c ms ls != 0) = true := by simpa using q
    refine (arith_ToDay_err _ _ _ _ _ _ _ _ _ _ ms ls y m d hs k1 (H.out.then_ tw.2.2) (by rw [ayErr_err q]; exact q)).mono ?_
    rw [ayErr_err q]
    rintro e w3 ⟨rfl, hb⟩
    replace tw := tw.step hb
    clear hb q e0 e1 e2 x0 x1 x2 x3 x4
    obtain ⟨x0, x1, x2, x3, x4⟩ := tw.cal
    go_wp2_with fail
    refine (ref_CalendarError _ _ _ _ _ _ _ _ _ _ ms ls hs (H.out.then_ tw.2.2).1 (H.out.then_ tw.2.2).2).mono ?_
    rintro e w4 ⟨rfl, hb⟩
    replace tw := tw.step hb
    go_wp2_with fail
    go_ret
    exact ⟨rfl, tw.2.2⟩
  have ok := calOk_of q
  obtain ⟨C, rfl⟩ : ∃ C : Nat, c = (C : Int) := ⟨c.toNat, by have := ok.cy1; omega⟩
  have HQ := Lib.hid q; have OK := Lib.hid ok; clear q ok
  rcases inB_cases (-10000) 10000 y with ⟨hy, y1, y2⟩ | ⟨hy, hy'⟩
  case inr =>
    refine (arith_ToDay_err _ _ _ _ _ _ _ _ _ _ ms ls y m d hs k1 (H.out.then_ tw.2.2) (by rw [HQ.out, ayErr_range hy]; omega)).mono ?_
    rw [HQ.out, ayErr_range hy]
    rintro e w3 ⟨rfl, hb⟩
    replace tw := tw.step hb
    clear hb e0 e1 e2 x0 x1 x2 x3 x4
    obtain ⟨x0, x1, x2, x3, x4⟩ := tw.cal
    go_wp2_with fail
    refine (ref_CalendarError _ _ _ _ _ _ _ _ _ _ ms ls hs (H.out.then_ tw.2.2).1 (H.out.then_ tw.2.2).2).mono ?_
    rw [HQ.out]
    rintro e w4 ⟨rfl, hb⟩
    replace tw := tw.step hb
    clear hb x0 x1 x2 x3 x4
    obtain ⟨x0, x1, x2, x3, x4⟩ := tw.cal
    obtain ⟨e0, e1, e2⟩ := tw.date
    go_wp2_with fail
    go_region_with (first
      | (go_at_call 42; refine (ref_Apart _ s f C a1 a2 n1 c1 n2 c2 ms ls OK.out (H.out.then_ tw.drew.2.2)).mono ?_; rintro e w5 ⟨g, rfl, hmk, hb⟩; have tw5 := tw.drew.step hb; obtain ⟨f0, f1, f2⟩ := tw5.date; have HM := Lib.hid (show MarksAt w5 g C ls from hmk); clear hmk hb)
      | (go_at_call 66; refine (years_ToDay_range _ s f C a1 a2 n1 c1 n2 c2 ms ls g y m d hy).mono ?_; rintro e w6 ⟨rfl, hb6⟩))
    all_goals
      go_wp2_with fail
      go_ret
      exact ⟨by simp, (tw5.step hb6).2.2⟩
  rcases inB_cases 1 (n1 : Int) m with ⟨hm, m1, m2⟩ | ⟨hm, hm'⟩
  case inr =>
    refine (arith_ToDay_month _ _ _ _ _ _ _ _ _ _ ms ls y m d hs k1 (H.out.then_ tw.2.2) HQ.out y1 y2 hm).mono ?_
    rintro e w3 ⟨rfl, hb⟩
    replace tw := tw.step hb
    clear hb e0 e1 e2 x0 x1 x2 x3 x4
    obtain ⟨x0, x1, x2, x3, x4⟩ := tw.cal
    go_wp2_with fail
    refine (ref_CalendarError _ _ _ _ _ _ _ _ _ _ ms ls hs (H.out.then_ tw.2.2).1 (H.out.then_ tw.2.2).2).mono ?_
    rw [HQ.out]
    rintro e w4 ⟨rfl, hb⟩
    replace tw := tw.step hb
    clear hb x0 x1 x2 x3 x4
    obtain ⟨x0, x1, x2, x3, x4⟩ := tw.cal
    obtain ⟨e0, e1, e2⟩ := tw.date
    go_wp2_with fail
    go_region_with (first
      | (go_at_call 42; refine (ref_Apart _ s f C a1 a2 n1 c1 n2 c2 ms ls OK.out (H.out.then_ tw.drew.2.2)).mono ?_; rintro e w5 ⟨g, rfl, hmk, hb⟩; have tw5 := tw.drew.step hb; obtain ⟨f0, f1, f2⟩ := tw5.date; have HM := Lib.hid (show MarksAt w5 g C ls from hmk); clear hmk hb)
      | (go_at_call 66; refine (years_ToDay_month _ s f C a1 a2 n1 c1 n2 c2 ms ls g y m d hy hm).mono ?_; rintro e w6 ⟨rfl, hb6⟩))
    all_goals
      go_wp2_with fail
      go_ret
      exact ⟨by simp, (tw5.step hb6).2.2⟩
  obtain ⟨k, rfl⟩ : ∃ k : Nat, m = (k : Int) + 1 := ⟨(m - 1).toNat, by omega⟩
  obtain ⟨x, hx⟩ : ∃ x, ms[k]? = some x := ⟨_, List.getElem?_eq_getElem (show k < ms.length by have := L1.out; omega)⟩
  have HX := Lib.hid hx; clear hx
  rcases Bool.eq_false_or_eq_true (inB 1 (mlenOf x (flag ls (placeOf C y))) d) with hd | hd
  · refine (arith_ToDay_ok _ _ _ _ _ _ _ _ _ _ ms ls y k d x hs k1 (H.out.then_ tw.2.2) HQ.out y1 y2 HX.out hd).mono ?_
    obtain ⟨u, v, huv⟩ : ∃ u v, dayOr (dnum ms ls f C y k d) = .tuple #[.int .i64 u, .int .i64 v] := by
      unfold dayOr; split
      · exact ⟨_, _, rfl⟩
      · exact ⟨_, _, rfl⟩
    rw [huv]
    have HUV := Lib.hid huv; clear huv
    rintro e w3 ⟨rfl, hb⟩
    replace tw := tw.step hb
    clear hb e0 e1 e2 x0 x1 x2 x3 x4
    obtain ⟨x0, x1, x2, x3, x4⟩ := tw.cal
    go_wp2_with fail
    refine (ref_CalendarError _ _ _ _ _ _ _ _ _ _ ms ls hs (H.out.then_ tw.2.2).1 (H.out.then_ tw.2.2).2).mono ?_
    rw [HQ.out]
    rintro e w4 ⟨rfl, hb⟩
    replace tw := tw.step hb
    clear hb x0 x1 x2 x3 x4
    obtain ⟨x0, x1, x2, x3, x4⟩ := tw.cal
    obtain ⟨e0, e1, e2⟩ := tw.date
    go_wp2_with fail
    go_region_with (first
      | (go_at_call 42; refine (ref_Apart _ s f C a1 a2 n1 c1 n2 c2 ms ls OK.out (H.out.then_ tw.drew.2.2)).mono ?_; rintro e w5 ⟨g, rfl, hmk, hb⟩; have tw5 := tw.drew.step hb; obtain ⟨f0, f1, f2⟩ := tw5.date; have HM := Lib.hid (show MarksAt w5 g C ls from hmk); clear hmk hb)
      | (go_at_call 66; refine (years_ToDay_ok _ s f C a1 a2 n1 c1 n2 c2 ms ls g y k d x OK.out y1 y2 HM.out (H.out.then_ tw5.2.2) HX.out hd).mono ?_; rw [HUV.out]; rintro e w6 ⟨rfl, hb6⟩))
    all_goals
      go_wp2_with fail
      go_ret
      exact ⟨by simp, (tw5.step hb6).2.2⟩
  · refine (arith_ToDay_day _ _ _ _ _ _ _ _ _ _ ms ls y k d x hs k1 (H.out.then_ tw.2.2) HQ.out y1 y2 HX.out hd).mono ?_
    rintro e w3 ⟨rfl, hb⟩
    replace tw := tw.step hb
    clear hb e0 e1 e2 x0 x1 x2 x3 x4
    obtain ⟨x0, x1, x2, x3, x4⟩ := tw.cal
    go_wp2_with fail
    refine (ref_CalendarError _ _ _ _ _ _ _ _ _ _ ms ls hs (H.out.then_ tw.2.2).1 (H.out.then_ tw.2.2).2).mono ?_
    rw [HQ.out]
    rintro e w4 ⟨rfl, hb⟩
    replace tw := tw.step hb
    clear hb x0 x1 x2 x3 x4
    obtain ⟨x0, x1, x2, x3, x4⟩ := tw.cal
    obtain ⟨e0, e1, e2⟩ := tw.date
    go_wp2_with fail
    go_region_with (first
      | (go_at_call 42; refine (ref_Apart _ s f C a1 a2 n1 c1 n2 c2 ms ls OK.out (H.out.then_ tw.drew.2.2)).mono ?_; rintro e w5 ⟨g, rfl, hmk, hb⟩; have tw5 := tw.drew.step hb; obtain ⟨f0, f1, f2⟩ := tw5.date; have HM := Lib.hid (show MarksAt w5 g C ls from hmk); clear hmk hb)
      | (go_at_call 66; refine (years_ToDay_day _ s f C a1 a2 n1 c1 n2 c2 ms ls g y k d x OK.out y1 y2 HM.out (H.out.then_ tw5.2.2) HX.out hd).mono ?_; rintro e w6 ⟨rfl, hb6⟩))
    all_goals
      go_wp2_with fail
      go_ret
      exact ⟨by simp, (tw5.step hb6).2.2⟩
theorem walk {H : Type} {enc : TypeId × Value → H} {v0 v1 : Value} {d0 d1 : DataW H} {p0 p1 : List MemPlace} {base : Nat} (W : World)
    (o0 : Value.okWide Try.prog W .any base 37 v0) (h0 : DataW.Trod enc Try.prog W 0 (fun _ => true) true 37 v0 d0 p0)
    (o1 : Value.okWide Try.prog W .any base 23 v1) (h1 : DataW.Trod enc Try.prog W 0 (fun _ => true) true 23 v1 d1 p1) :
    Calls Try.prog 17 #[v0, v1] W fun e w' => e = .returned (.bool true) ∧ Below W.heap.size W w' := by
  obtain ⟨s, f, c, a1, a2, n1, c1, n2, c2, ms, ls, rfl, hs, hf, hc, k1, k2, m1, m2, h1', h2'⟩ := open_Calendar o0 h0
  obtain ⟨cs, n, rfl, hl, hf'⟩ := open_agg Try.underlying23 (by kernel_rfl) (by kernel_rfl) o1 h1
  match cs, hl with
  | [v0, v1, v2], _ =>
    obtain ⟨_, _, e0, t0⟩ := hf' 0 _ rfl
    obtain ⟨_, _, e1, t1⟩ := hf' 1 _ rfl
    obtain ⟨_, _, e2, t2⟩ := hf' 2 _ rfl
    obtain ⟨z0, rfl, hz0⟩ := open_num t0
    obtain ⟨z1, rfl, hz1⟩ := open_num t1
    obtain ⟨z2, rfl, hz2⟩ := open_num t2
    simp at e0 e1 e2
    subst e0 e1 e2
    exact core W s f c a1 a2 n1 c1 n2 c2 ms ls z0 z1 z2 hs k1 ⟨h1', h2'⟩
end Go.Proofs.Ytghecclgaaklaaa.arithToDaysLaw
