/- ArithNewYears: the Go text returns true at every input, and writes nothing that was there. -/
import Derived.Test.YtghecclgaaklaaaArith3
import Derived.Test.YtghecclgaaklaaaFour
import Derived.Test.YtghecclgaaklaaaYears
namespace Go.Proofs.Ytghecclgaaklaaa.arithNewYearsLaw
set_option linter.unusedVariables false
set_option maxRecDepth 100000
open Go.RowKit Go.ChangeShapes Go.WideShapes

theorem lit0 : calErr ⟨#[115, 109, 97, 108, 108]⟩ 1 4 smallMonths [4] = 0 := by decide +kernel
theorem lit1 : dayOr (nyOf (shortOf smallMonths) (longOf smallMonths) 1 4 [4] 5) = .tuple #[.int .i64 238, .int .i64 0] := by
  rw [show nyOf (shortOf smallMonths) (longOf smallMonths) 1 4 [4] 5 = 238 by decide +kernel]; rfl
set_option maxHeartbeats 1000000 in
theorem core (w : World) (s : ByteArray) (f c : Int) (a1 a2 : Option Addr) (n1 c1 n2 c2 : Nat) (ms : List Mon) (ls : List Int) (y : Int) (hs : s.size ≤ 9223372036854775807) (k1 : n1 ≤ c1) (h : CalAt w a1 a2 n1 n2 ms ls) :
    Calls Try.prog 14 #[.agg #[.string s, .int .i64 f, .int .i64 c, .slice a1 n1 c1, .slice a2 n2 c2], .int .i64 y] w fun e w' => e = .returned (.bool true) ∧ Below w.heap.size w w' := by
  have H := Lib.hid h; clear h
  go_enter Try.func14, Try.ntmps14
  go_wp2_with fail
  refine (law_four _).mono ?_
  rintro e w1 ⟨b1, b2, rfl, hc4, hb⟩
  have a0 := (At.new w (.cells #[.string s, .int .i64 f, .int .i64 c, .slice a1 n1 c1, .slice a2 n2 c2] 37)).then_ hb
  have b0 : Below w.heap.size w w1 := by (repeat' (first | exact Below.refl _ _ | assumption | refine Below.drew ?_ | refine below_drewN ?_ _ | refine below_new ?_ _ | refine below_set ?_ ?_ _ | refine below_then ?_ (by assumption) | refine below_drawn ?_ (by assumption) | exact Nat.le_refl _ | omega | (simp; done) | (simp; omega)))
  clear hb
  have HC4 := Lib.hid hc4; clear hc4
  go_wp2_with fail
  refine (arith_NewYear_ok _ _ _ _ _ _ _ _ _ _ smallMonths [4] 5 (by decide) (by omega) HC4.out lit0 (by omega) (by omega)).mono ?_
  rw [lit1]
  rintro e w2 ⟨rfl, hb⟩
  replace a0 := a0.then_ hb
  replace b0 := below_then b0 hb
  clear hb HC4
  have d0 := a0.cell 0; have d1 := a0.cell 1; have d2 := a0.cell 2; have d3 := a0.cell 3; have d4 := a0.cell 4; simp at d0 d1 d2 d3 d4
  go_wp2_with fail
  by_cases q : calErr s f c ms ls = 0
  case neg =>
    have q' : (calErr s f c ms ls != 0) = true := by simpa using q
    refine (arith_NewYear_err _ _ _ _ _ _ _ _ _ _ ms ls y hs k1 (H.out.then_ b0) (by rw [ayErr_err q]; exact q)).mono ?_
    rw [ayErr_err q]
    rintro e w3 ⟨rfl, hb⟩
    replace a0 := a0.then_ hb
    replace b0 := below_then b0 hb
    clear hb d0 d1 d2 d3 d4 q
    have d0 := a0.cell 0; have d1 := a0.cell 1; have d2 := a0.cell 2; have d3 := a0.cell 3; have d4 := a0.cell 4; simp at d0 d1 d2 d3 d4
    go_wp2_with fail
    refine (ref_CalendarError _ _ _ _ _ _ _ _ _ _ ms ls hs (H.out.then_ b0).1 (H.out.then_ b0).2).mono ?_
    rintro e w4 ⟨rfl, hb⟩
    go_wp2_with fail
    go_ret
    exact ⟨rfl, by (repeat' (first | exact Below.refl _ _ | assumption | refine Below.drew ?_ | refine below_drewN ?_ _ | refine below_new ?_ _ | refine below_set ?_ ?_ _ | refine below_then ?_ (by assumption) | refine below_drawn ?_ (by assumption) | exact Nat.le_refl _ | omega | (simp; done) | (simp; omega)))⟩
  rcases inB_cases (-10000) 10000 y with ⟨hy, y1, y2⟩ | ⟨hy, hy'⟩
  case inr =>
    refine (arith_NewYear_err _ _ _ _ _ _ _ _ _ _ ms ls y hs k1 (H.out.then_ b0) (by rw [q, ayErr_range hy]; omega)).mono ?_
    rw [q, ayErr_range hy]
    rintro e w3 ⟨rfl, hb⟩
    replace a0 := a0.then_ hb
    replace b0 := below_then b0 hb
    clear hb d0 d1 d2 d3 d4
    have d0 := a0.cell 0; have d1 := a0.cell 1; have d2 := a0.cell 2; have d3 := a0.cell 3; have d4 := a0.cell 4; simp at d0 d1 d2 d3 d4
    go_wp2_with fail
    refine (ref_CalendarError _ _ _ _ _ _ _ _ _ _ ms ls hs (H.out.then_ b0).1 (H.out.then_ b0).2).mono ?_
    rw [q]
    rintro e w4 ⟨rfl, hb⟩
    go_wp2_with fail
    refine (ref_In _ _ _ _).mono ?_; rw [hy]; rintro e w5 ⟨rfl, rfl⟩
    go_wp2_with fail
    go_ret
    exact ⟨rfl, by (repeat' (first | exact Below.refl _ _ | assumption | refine Below.drew ?_ | refine below_drewN ?_ _ | refine below_new ?_ _ | refine below_set ?_ ?_ _ | refine below_then ?_ (by assumption) | refine below_drawn ?_ (by assumption) | exact Nat.le_refl _ | omega | (simp; done) | (simp; omega)))⟩
  have ok := calOk_of q
  obtain ⟨C, rfl⟩ : ∃ C : Nat, c = (C : Int) := ⟨c.toNat, by have := ok.cy1; omega⟩
  obtain ⟨D, hD⟩ : ∃ D, D = nyOf (shortOf ms) (longOf ms) f C ls y := ⟨_, rfl⟩
  refine (arith_NewYear_ok _ _ _ _ _ _ _ _ _ _ ms ls y hs k1 (H.out.then_ b0) q y1 y2).mono ?_
  have HQ := Lib.hid q; clear q
  rw [← hD]
  have HD := Lib.hid hD; clear hD
  have OK := Lib.hid ok; clear ok
  rcases inB_cases (-4000000) 4000000 D with ⟨hd, _⟩ | ⟨hd, _⟩
  · rw [show dayOr D = .tuple #[.int .i64 D, .int .i64 0] from if_pos hd]
    rintro e w3 ⟨rfl, hb⟩
    replace a0 := a0.then_ hb
    replace b0 := below_then b0 hb
    clear hb d0 d1 d2 d3 d4
    have d0 := a0.cell 0; have d1 := a0.cell 1; have d2 := a0.cell 2; have d3 := a0.cell 3; have d4 := a0.cell 4; simp at d0 d1 d2 d3 d4
    go_wp2_with fail
    refine (ref_CalendarError _ _ _ _ _ _ _ _ _ _ ms ls hs (H.out.then_ b0).1 (H.out.then_ b0).2).mono ?_
    rw [HQ.out]
    rintro e w4 ⟨rfl, hb⟩
    replace a0 := a0.then_ hb
    replace b0 := below_then b0 hb
    clear hb d0 d1 d2 d3 d4
    have d0 := a0.cell 0; have d1 := a0.cell 1; have d2 := a0.cell 2; have d3 := a0.cell 3; have d4 := a0.cell 4; simp at d0 d1 d2 d3 d4
    go_wp2_with fail
    refine (ref_In _ _ _ _).mono ?_; rw [hy]; rintro e w5 ⟨rfl, rfl⟩
    go_wp2_with fail
    refine (ref_Apart _ s f C a1 a2 n1 c1 n2 c2 ms ls OK.out (H.out.then_ b0)).mono ?_
    rintro e w5 ⟨g, rfl, hmk, hb⟩
    replace b0 := below_then b0 hb
    have HM := Lib.hid (show MarksAt w5 g C ls from hmk)
    clear hb d0 d1 d2 d3 d4 hmk
    go_wp2_with fail
    refine (years_NewYear _ s f C a1 a2 n1 c1 n2 c2 ms ls g y OK.out (by omega) (by omega) HM.out).mono ?_
    rw [← HD.out]
    rintro e w6 ⟨rfl, hb⟩
    go_wp2_with fail
    refine (ref_Day _ _).mono ?_; rw [hd]; rintro e w7 ⟨rfl, rfl⟩
    go_wp2_with fail
    go_ret
    exact ⟨rfl, by (repeat' (first | exact Below.refl _ _ | assumption | refine Below.drew ?_ | refine below_drewN ?_ _ | refine below_new ?_ _ | refine below_set ?_ ?_ _ | refine below_then ?_ (by assumption) | refine below_drawn ?_ (by assumption) | exact Nat.le_refl _ | omega | (simp; done) | (simp; omega)))⟩
  · rw [show dayOr D = .tuple #[.int .i64 0, .int .i64 3] from if_neg (by rw [hd]; simp)]
    rintro e w3 ⟨rfl, hb⟩
    replace a0 := a0.then_ hb
    replace b0 := below_then b0 hb
    clear hb d0 d1 d2 d3 d4
    have d0 := a0.cell 0; have d1 := a0.cell 1; have d2 := a0.cell 2; have d3 := a0.cell 3; have d4 := a0.cell 4; simp at d0 d1 d2 d3 d4
    go_wp2_with fail
    refine (ref_CalendarError _ _ _ _ _ _ _ _ _ _ ms ls hs (H.out.then_ b0).1 (H.out.then_ b0).2).mono ?_
    rw [HQ.out]
    rintro e w4 ⟨rfl, hb⟩
    replace a0 := a0.then_ hb
    replace b0 := below_then b0 hb
    clear hb d0 d1 d2 d3 d4
    have d0 := a0.cell 0; have d1 := a0.cell 1; have d2 := a0.cell 2; have d3 := a0.cell 3; have d4 := a0.cell 4; simp at d0 d1 d2 d3 d4
    go_wp2_with fail
    refine (ref_In _ _ _ _).mono ?_; rw [hy]; rintro e w5 ⟨rfl, rfl⟩
    go_wp2_with fail
    refine (ref_Apart _ s f C a1 a2 n1 c1 n2 c2 ms ls OK.out (H.out.then_ b0)).mono ?_
    rintro e w5 ⟨g, rfl, hmk, hb⟩
    replace b0 := below_then b0 hb
    have HM := Lib.hid (show MarksAt w5 g C ls from hmk)
    clear hb d0 d1 d2 d3 d4 hmk
    go_wp2_with fail
    refine (years_NewYear _ s f C a1 a2 n1 c1 n2 c2 ms ls g y OK.out (by omega) (by omega) HM.out).mono ?_
    rw [← HD.out]
    rintro e w6 ⟨rfl, hb⟩
    go_wp2_with fail
    refine (ref_Day _ _).mono ?_; rw [hd]; rintro e w7 ⟨rfl, rfl⟩
    go_wp2_with fail
    go_ret
    exact ⟨rfl, by (repeat' (first | exact Below.refl _ _ | assumption | refine Below.drew ?_ | refine below_drewN ?_ _ | refine below_new ?_ _ | refine below_set ?_ ?_ _ | refine below_then ?_ (by assumption) | refine below_drawn ?_ (by assumption) | exact Nat.le_refl _ | omega | (simp; done) | (simp; omega)))⟩
theorem walk {H : Type} {enc : TypeId × Value → H} {v0 v1 : Value} {d0 d1 : DataW H} {p0 p1 : List MemPlace} {base : Nat} (W : World)
    (o0 : Value.okWide Try.prog W .any base 37 v0) (h0 : DataW.Trod enc Try.prog W 0 (fun _ => true) true 37 v0 d0 p0)
    (o1 : Value.okWide Try.prog W .any base 3 v1) (h1 : DataW.Trod enc Try.prog W 0 (fun _ => true) true 3 v1 d1 p1) :
    Calls Try.prog 14 #[v0, v1] W fun e w' => e = .returned (.bool true) ∧ Below W.heap.size W w' := by
  obtain ⟨s, f, c, a1, a2, n1, c1, n2, c2, ms, ls, rfl, hs, hf, hc, k1, k2, m1, m2, h1', h2'⟩ := open_Calendar o0 h0
  obtain ⟨y, rfl, rfl, rfl, wy⟩ := open_int Try.underlying3 o1 h1
  exact core W s f c a1 a2 n1 c1 n2 c2 ms ls y hs k1 ⟨h1', h2'⟩
end Go.Proofs.Ytghecclgaaklaaa.arithNewYearsLaw
