/- ArithLeaps: the Go text returns true at every input, and writes nothing that was there. -/
import Derived.Test.YtghecclgaaklaaaArith3
import Derived.Test.YtghecclgaaklaaaFour
import Derived.Test.YtghecclgaaklaaaYears
namespace Go.Proofs.Ytghecclgaaklaaa.arithLeapsLaw
set_option linter.unusedVariables false
set_option maxRecDepth 100000
open Go.RowKit Go.ChangeShapes Go.WideShapes

theorem lit0 : calErr ⟨#[115, 109, 97, 108, 108]⟩ 1 4 smallMonths [4] = 0 := by decide +kernel
theorem lit1 : mlenOf (⟨#[116, 119, 111]⟩, 28, 29) (flag [4] (placeOf 4 8)) = 29 := by decide +kernel
theorem month2 (w : World) (b1 b2 : Option Addr) (h : CalAt w b1 b2 2 1 smallMonths [4]) :
    Calls Try.prog 60 #[.agg #[.string ⟨#[115, 109, 97, 108, 108]⟩, .int .i64 1, .int .i64 4, .slice b1 2 2, .slice b2 1 1], .int .i64 8, .int .i64 2] w fun e w' => e = .returned (.tuple #[.int .i64 29, .int .i64 0]) ∧ Below w.heap.size w w' := by
  have := arith_Month_ok w ⟨#[115, 109, 97, 108, 108]⟩ 1 4 b1 b2 2 2 1 1 smallMonths [4] 8 1 (⟨#[116, 119, 111]⟩, 28, 29) (by decide) (by omega) h lit0 (by omega) (by omega) rfl
  rw [lit1] at this
  exact this
set_option maxHeartbeats 2000000 in
theorem core (w : World) (s : ByteArray) (f c : Int) (a1 a2 : Option Addr) (n1 c1 n2 c2 : Nat) (ms : List Mon) (ls : List Int) (y m : Int) (hs : s.size ≤ 9223372036854775807) (k1 : n1 ≤ c1) (h : CalAt w a1 a2 n1 n2 ms ls) :
    Calls Try.prog 15 #[.agg #[.string s, .int .i64 f, .int .i64 c, .slice a1 n1 c1, .slice a2 n2 c2], .int .i64 y, .int .i64 m] w fun e w' => e = .returned (.bool true) ∧ Below w.heap.size w w' := by
  have L1 := Lib.hid h.1.len
  have H := Lib.hid h; clear h
  go_enter Try.func15, Try.ntmps15
  go_wp2_with fail
  refine (law_four _).mono ?_
  rintro e w1 ⟨b1, b2, rfl, hc4, hb⟩
  have a0 := (At.new w (.cells #[.string s, .int .i64 f, .int .i64 c, .slice a1 n1 c1, .slice a2 n2 c2] 37)).then_ hb
  have b0 : Below w.heap.size w w1 := by (repeat' (first | exact Below.refl _ _ | assumption | refine Below.drew ?_ | refine below_drewN ?_ _ | refine below_new ?_ _ | refine below_set ?_ ?_ _ | refine below_then ?_ (by assumption) | refine below_drawn ?_ (by assumption) | exact Nat.le_refl _ | omega | (simp; done) | (simp; omega)))
  clear hb
  have HC4 := Lib.hid hc4; clear hc4
  go_wp2_with fail
  refine (month2 _ _ _ HC4.out).mono ?_
  rintro e w2 ⟨rfl, hb⟩
  replace a0 := a0.then_ hb
  replace b0 := below_then b0 hb
  clear hb HC4
  have d0 := a0.cell 0; have d1 := a0.cell 1; have d2 := a0.cell 2; have d3 := a0.cell 3; have d4 := a0.cell 4; simp at d0 d1 d2 d3 d4
  go_wp2_with fail
  by_cases q : calErr s f c ms ls = 0
  case neg =>
    have q' : (calErr s f c ms ls != 0) = true := by simpa using q
    have q'' : (calErr s f c ms ls == 0) = false := by simpa using q
    refine (arith_Leap_err _ _ _ _ _ _ _ _ _ _ ms ls y hs k1 (H.out.then_ b0) (by rw [ayErr_err q]; exact q)).mono ?_
    rw [ayErr_err q]
    rintro e w3 ⟨rfl, hb⟩
    (replace a0 := a0.then_ hb); (replace b0 := below_then b0 hb); clear hb d0 d1 d2 d3 d4; have d0 := a0.cell 0; have d1 := a0.cell 1; have d2 := a0.cell 2; have d3 := a0.cell 3; have d4 := a0.cell 4; simp at d0 d1 d2 d3 d4
    go_wp2_with fail
    refine (arith_Month_err _ _ _ _ _ _ _ _ _ _ ms ls y m hs k1 (H.out.then_ b0) (by rw [ayErr_err q]; exact q)).mono ?_
    rw [ayErr_err q]
    rintro e w4 ⟨rfl, hb⟩
    (replace a0 := a0.then_ hb); (replace b0 := below_then b0 hb); clear hb d0 d1 d2 d3 d4; have d0 := a0.cell 0; have d1 := a0.cell 1; have d2 := a0.cell 2; have d3 := a0.cell 3; have d4 := a0.cell 4; simp at d0 d1 d2 d3 d4
    clear q
    go_wp2_with fail
    refine (ref_CalendarError _ _ _ _ _ _ _ _ _ _ ms ls hs (H.out.then_ b0).1 (H.out.then_ b0).2).mono ?_
    rintro e w5 ⟨rfl, hb⟩
    go_wp2_with fail
    go_ret
    exact ⟨rfl, by (repeat' (first | exact Below.refl _ _ | assumption | refine Below.drew ?_ | refine below_drewN ?_ _ | refine below_new ?_ _ | refine below_set ?_ ?_ _ | refine below_then ?_ (by assumption) | refine below_drawn ?_ (by assumption) | exact Nat.le_refl _ | omega | (simp; done) | (simp; omega)))⟩
  rcases inB_cases (-10000) 10000 y with ⟨hy, y1, y2⟩ | ⟨hy, hy'⟩
  case inr =>
    refine (arith_Leap_err _ _ _ _ _ _ _ _ _ _ ms ls y hs k1 (H.out.then_ b0) (by rw [q, ayErr_range hy]; omega)).mono ?_
    rw [q, ayErr_range hy]
    rintro e w3 ⟨rfl, hb⟩
    (replace a0 := a0.then_ hb); (replace b0 := below_then b0 hb); clear hb d0 d1 d2 d3 d4; have d0 := a0.cell 0; have d1 := a0.cell 1; have d2 := a0.cell 2; have d3 := a0.cell 3; have d4 := a0.cell 4; simp at d0 d1 d2 d3 d4
    go_wp2_with fail
    refine (arith_Month_err _ _ _ _ _ _ _ _ _ _ ms ls y m hs k1 (H.out.then_ b0) (by rw [q, ayErr_range hy]; omega)).mono ?_
    rw [q, ayErr_range hy]
    rintro e w4 ⟨rfl, hb⟩
    (replace a0 := a0.then_ hb); (replace b0 := below_then b0 hb); clear hb d0 d1 d2 d3 d4; have d0 := a0.cell 0; have d1 := a0.cell 1; have d2 := a0.cell 2; have d3 := a0.cell 3; have d4 := a0.cell 4; simp at d0 d1 d2 d3 d4
    go_wp2_with fail
    refine (ref_CalendarError _ _ _ _ _ _ _ _ _ _ ms ls hs (H.out.then_ b0).1 (H.out.then_ b0).2).mono ?_
    rw [q]
    rintro e w5 ⟨rfl, hb⟩
    go_wp2_with fail
    refine (ref_In _ _ _ _).mono ?_; rw [hy]; rintro e w6 ⟨rfl, rfl⟩
    go_wp2_with fail
    go_ret
    exact ⟨rfl, by (repeat' (first | exact Below.refl _ _ | assumption | refine Below.drew ?_ | refine below_drewN ?_ _ | refine below_new ?_ _ | refine below_set ?_ ?_ _ | refine below_then ?_ (by assumption) | refine below_drawn ?_ (by assumption) | exact Nat.le_refl _ | omega | (simp; done) | (simp; omega)))⟩
  have ok := calOk_of q
  obtain ⟨C, rfl⟩ : ∃ C : Nat, c = (C : Int) := ⟨c.toNat, by have := ok.cy1; omega⟩
  have cy1 : 1 ≤ C := by have := ok.cy1; omega
  have cy2 : C ≤ 3000 := by have := ok.cy2; omega
  obtain ⟨r1, r2, r3, r4⟩ := ok_n1 H.out ok
  refine (arith_Leap_ok _ _ _ _ _ _ _ _ _ _ ms ls y hs k1 (H.out.then_ b0) q y1 y2).mono ?_
  have HQ := Lib.hid q; have OK := Lib.hid ok; clear q ok
  rintro e w3 ⟨rfl, hb⟩
  (replace a0 := a0.then_ hb); (replace b0 := below_then b0 hb); clear hb d0 d1 d2 d3 d4; have d0 := a0.cell 0; have d1 := a0.cell 1; have d2 := a0.cell 2; have d3 := a0.cell 3; have d4 := a0.cell 4; simp at d0 d1 d2 d3 d4
  have hbb2 : ∀ bb : Bool, (bb != bb) = false := by intro bb; cases bb <;> rfl
  go_wp2_with fail
  rcases inB_cases 1 (n1 : Int) m with ⟨hm, m1, m2⟩ | ⟨hm, hm'⟩
  · obtain ⟨k, rfl⟩ : ∃ k : Nat, m = (k : Int) + 1 := ⟨(m - 1).toNat, by omega⟩
    have hkl : k < ms.length := by have := L1.out; omega
    have HX := Lib.hid (List.getElem?_eq_getElem hkl)
    generalize ms[k] = x at HX
    refine (arith_Month_ok _ _ _ _ _ _ _ _ _ _ ms ls y k x hs k1 (H.out.then_ b0) HQ.out y1 y2 HX.out).mono ?_
    rintro e w4 ⟨rfl, hb⟩
    (replace a0 := a0.then_ hb); (replace b0 := below_then b0 hb); clear hb d0 d1 d2 d3 d4; have d0 := a0.cell 0; have d1 := a0.cell 1; have d2 := a0.cell 2; have d3 := a0.cell 3; have d4 := a0.cell 4; simp at d0 d1 d2 d3 d4
    go_wp2_with fail
    refine (ref_CalendarError _ _ _ _ _ _ _ _ _ _ ms ls hs (H.out.then_ b0).1 (H.out.then_ b0).2).mono ?_
    rw [HQ.out]
    rintro e w5 ⟨rfl, hb⟩
    (replace a0 := a0.then_ hb); (replace b0 := below_then b0 hb); clear hb d0 d1 d2 d3 d4; have d0 := a0.cell 0; have d1 := a0.cell 1; have d2 := a0.cell 2; have d3 := a0.cell 3; have d4 := a0.cell 4; simp at d0 d1 d2 d3 d4
    go_wp2_with fail
    refine (ref_In _ _ _ _).mono ?_; rw [hy]; rintro e w6 ⟨rfl, rfl⟩
    go_wp2_with fail
    refine (ref_Apart _ s f C a1 a2 n1 c1 n2 c2 ms ls OK.out (H.out.then_ b0)).mono ?_
    rintro e w6 ⟨g, rfl, hmk, hb⟩
    (replace a0 := a0.then_ hb); (replace b0 := below_then b0 hb); clear hb d0 d1 d2 d3 d4; have d0 := a0.cell 0; have d1 := a0.cell 1; have d2 := a0.cell 2; have d3 := a0.cell 3; have d4 := a0.cell 4; simp at d0 d1 d2 d3 d4
    have HM := Lib.hid (show MarksAt w6 g C ls from hmk); clear hmk
    have hlt6 := a0.lt
    go_wp2_with fail
    refine (years_IsLeap _ s f C a1 a2 n1 c1 n2 c2 ms ls g y _ _ _ cy1 cy2 (by omega) (by omega) (HM.out.then_ (below_of_new _ _))).mono ?_
    rintro e w7 ⟨rfl, hb7⟩
    have ay := (At.new w6 (.cells #[.string s, .int .i64 f, .int .i64 (C : Int), .slice a1 n1 c1, .slice a2 n2 c2, .slice (some ⟨g, 0, none⟩) C C, .int .i64 (shortOf ms), .int .i64 (longOf ms), .int .i64 (daysTo (shortOf ms) (longOf ms) ls (C : Int))] 68)).then_ hb7
    replace a0 := (a0.alloc (.cells #[.string s, .int .i64 f, .int .i64 (C : Int), .slice a1 n1 c1, .slice a2 n2 c2, .slice (some ⟨g, 0, none⟩) C C, .int .i64 (shortOf ms), .int .i64 (longOf ms), .int .i64 (daysTo (shortOf ms) (longOf ms) ls (C : Int))] 68)).then_ hb7
    have HM7 := Lib.hid ((HM.out.then_ (below_of_new _ (.cells #[.string s, .int .i64 f, .int .i64 (C : Int), .slice a1 n1 c1, .slice a2 n2 c2, .slice (some ⟨g, 0, none⟩) C C, .int .i64 (shortOf ms), .int .i64 (longOf ms), .int .i64 (daysTo (shortOf ms) (longOf ms) ls (C : Int))] 68))).then_ hb7)
    replace b0 := below_then (below_new b0 (.cells #[.string s, .int .i64 f, .int .i64 (C : Int), .slice a1 n1 c1, .slice a2 n2 c2, .slice (some ⟨g, 0, none⟩) C C, .int .i64 (shortOf ms), .int .i64 (longOf ms), .int .i64 (daysTo (shortOf ms) (longOf ms) ls (C : Int))] 68)) hb7
    clear hb7 d0 d1 d2 d3 d4
    have d3 := a0.cell 3
    simp at d3
    have g0 := ay.cell 0; have g1 := ay.cell 1; have g2 := ay.cell 2; have g3 := ay.cell 3; have g4 := ay.cell 4; have g5 := ay.cell 5; have g6 := ay.cell 6; have g7 := ay.cell 7; have g8 := ay.cell 8; simp at g0 g1 g2 g3 g4 g5 g6 g7 g8
    go_wp2_with fail
    refine (ref_In _ _ _ _).mono ?_; rw [hm]; rintro e w8 ⟨rfl, rfl⟩
    go_wp2_with fail
    refine (years_Month _ s f C a1 a2 n1 c1 n2 c2 ms ls g y _ _ _ k x cy1 cy2 (by omega) (by omega) HM7.out (H.out.then_ b0) r2 HX.out).mono ?_
    rintro e w8 ⟨rfl, hb⟩
    go_wp2_with fail
    go_ret
    exact ⟨by simp, by (repeat' (first | exact Below.refl _ _ | assumption | refine Below.drew ?_ | refine below_drewN ?_ _ | refine below_new ?_ _ | refine below_set ?_ ?_ _ | refine below_then ?_ (by assumption) | refine below_drawn ?_ (by assumption) | exact Nat.le_refl _ | omega | (simp; done) | (simp; omega)))⟩
  · refine (arith_Month_arg _ _ _ _ _ _ _ _ _ _ ms ls y m hs k1 (H.out.then_ b0) HQ.out y1 y2 hm').mono ?_
    rintro e w4 ⟨rfl, hb⟩
    (replace a0 := a0.then_ hb); (replace b0 := below_then b0 hb); clear hb d0 d1 d2 d3 d4; have d0 := a0.cell 0; have d1 := a0.cell 1; have d2 := a0.cell 2; have d3 := a0.cell 3; have d4 := a0.cell 4; simp at d0 d1 d2 d3 d4
    go_wp2_with fail
    refine (ref_CalendarError _ _ _ _ _ _ _ _ _ _ ms ls hs (H.out.then_ b0).1 (H.out.then_ b0).2).mono ?_
    rw [HQ.out]
    rintro e w5 ⟨rfl, hb⟩
    (replace a0 := a0.then_ hb); (replace b0 := below_then b0 hb); clear hb d0 d1 d2 d3 d4; have d0 := a0.cell 0; have d1 := a0.cell 1; have d2 := a0.cell 2; have d3 := a0.cell 3; have d4 := a0.cell 4; simp at d0 d1 d2 d3 d4
    go_wp2_with fail
    refine (ref_In _ _ _ _).mono ?_; rw [hy]; rintro e w6 ⟨rfl, rfl⟩
    go_wp2_with fail
    refine (ref_Apart _ s f C a1 a2 n1 c1 n2 c2 ms ls OK.out (H.out.then_ b0)).mono ?_
    rintro e w6 ⟨g, rfl, hmk, hb⟩
    (replace a0 := a0.then_ hb); (replace b0 := below_then b0 hb); clear hb d0 d1 d2 d3 d4; have d0 := a0.cell 0; have d1 := a0.cell 1; have d2 := a0.cell 2; have d3 := a0.cell 3; have d4 := a0.cell 4; simp at d0 d1 d2 d3 d4
    have HM := Lib.hid (show MarksAt w6 g C ls from hmk); clear hmk
    have hlt6 := a0.lt
    go_wp2_with fail
    refine (years_IsLeap _ s f C a1 a2 n1 c1 n2 c2 ms ls g y _ _ _ cy1 cy2 (by omega) (by omega) (HM.out.then_ (below_of_new _ _))).mono ?_
    rintro e w7 ⟨rfl, hb7⟩
    replace a0 := (a0.alloc (.cells #[.string s, .int .i64 f, .int .i64 (C : Int), .slice a1 n1 c1, .slice a2 n2 c2, .slice (some ⟨g, 0, none⟩) C C, .int .i64 (shortOf ms), .int .i64 (longOf ms), .int .i64 (daysTo (shortOf ms) (longOf ms) ls (C : Int))] 68)).then_ hb7
    replace b0 := below_then (below_new b0 (.cells #[.string s, .int .i64 f, .int .i64 (C : Int), .slice a1 n1 c1, .slice a2 n2 c2, .slice (some ⟨g, 0, none⟩) C C, .int .i64 (shortOf ms), .int .i64 (longOf ms), .int .i64 (daysTo (shortOf ms) (longOf ms) ls (C : Int))] 68)) hb7
    clear hb7 d0 d1 d2 d3 d4
    have d3 := a0.cell 3
    simp at d3
    go_wp2_with fail
    refine (ref_In _ _ _ _).mono ?_; rw [hm]; rintro e w8 ⟨rfl, rfl⟩
    go_wp2_with fail
    go_ret
    exact ⟨rfl, by (repeat' (first | exact Below.refl _ _ | assumption | refine Below.drew ?_ | refine below_drewN ?_ _ | refine below_new ?_ _ | refine below_set ?_ ?_ _ | refine below_then ?_ (by assumption) | refine below_drawn ?_ (by assumption) | exact Nat.le_refl _ | omega | (simp; done) | (simp; omega)))⟩
theorem walk {H : Type} {enc : TypeId × Value → H} {v0 v1 v2 : Value} {d0 d1 d2 : DataW H} {p0 p1 p2 : List MemPlace} {base : Nat} (W : World)
    (o0 : Value.okWide Try.prog W .any base 37 v0) (h0 : DataW.Trod enc Try.prog W 0 (fun _ => true) true 37 v0 d0 p0)
    (o1 : Value.okWide Try.prog W .any base 3 v1) (h1 : DataW.Trod enc Try.prog W 0 (fun _ => true) true 3 v1 d1 p1)
    (o2 : Value.okWide Try.prog W .any base 3 v2) (h2 : DataW.Trod enc Try.prog W 0 (fun _ => true) true 3 v2 d2 p2) :
    Calls Try.prog 15 #[v0, v1, v2] W fun e w' => e = .returned (.bool true) ∧ Below W.heap.size W w' := by
  obtain ⟨s, f, c, a1, a2, n1, c1, n2, c2, ms, ls, rfl, hs, hf, hc, k1, k2, m1, m2, h1', h2'⟩ := open_Calendar o0 h0
  obtain ⟨y, rfl, rfl, rfl, wy⟩ := open_int Try.underlying3 o1 h1
  obtain ⟨m, rfl, rfl, rfl, wm⟩ := open_int Try.underlying3 o2 h2
  exact core W s f c a1 a2 n1 c1 n2 c2 ms ls y m hs k1 ⟨h1', h2'⟩
end Go.Proofs.Ytghecclgaaklaaa.arithLeapsLaw
