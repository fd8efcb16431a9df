/- ArithFromDays: the Go text returns true at every input, and writes nothing that was there. -/
import Derived.Test.YtghecclgaaklaaaFrom5
import Derived.Test.YtghecclgaaklaaaFour
namespace Go.Proofs.Ytghecclgaaklaaa.arithFromDaysLaw
set_option linter.unusedVariables false
set_option maxRecDepth 100000
open Go.RowKit Go.ChangeShapes Go.WideShapes

theorem lit0 : calErr ⟨#[115, 109, 97, 108, 108]⟩ 1 4 smallMonths [4] = 0 := by decide +kernel
theorem litY : InYear smallMonths [4] 1 4 2 60 := by
  have h1 : nyOf (shortOf smallMonths) (longOf smallMonths) 1 4 [4] 2 = 60 := by decide +kernel
  have h2 : nyOf (shortOf smallMonths) (longOf smallMonths) 1 4 [4] (2 + 1) = 119 := by decide +kernel
  unfold InYear; rw [h1, h2]; omega
theorem litM : findM (flag [4] (placeOf 4 2)) smallMonths (60 - nyOf (shortOf smallMonths) (longOf smallMonths) 1 4 [4] 2) 0 = (0, 0) := by decide +kernel
theorem first (w : World) (b1 b2 : Option Addr) (h : CalAt w b1 b2 2 1 smallMonths [4]) :
    Calls Try.prog 63 #[.agg #[.string ⟨#[115, 109, 97, 108, 108]⟩, .int .i64 1, .int .i64 4, .slice b1 2 2, .slice b2 1 1], .int .i64 60] w fun e w' => e = .returned (.tuple #[.agg #[.int .i64 2, .int .i64 1, .int .i64 1], .int .i64 0]) ∧ Below w.heap.size w w' := by
  have ok := calOk_of lit0
  refine arith_FromDay_ok w ⟨#[115, 109, 97, 108, 108]⟩ 1 4 b1 b2 2 2 1 1 smallMonths [4] 60 2 1 1 0 (by decide) (by omega) h lit0 fun W hW => ?_
  have := arith_fromDay_yes W ⟨#[115, 109, 97, 108, 108]⟩ 1 4 b1 b2 2 2 1 1 smallMonths [4] 60 10004 2 (place_of_year ok litY (by omega) (by omega)) (by omega) (by omega) (by omega) ok (by omega) (by omega) (h.then_ hW) 0 0 litM litY
  exact this
set_option maxHeartbeats 2000000 in
theorem core (w : World) (s : ByteArray) (f c : Int) (a1 a2 : Option Addr) (n1 c1 n2 c2 : Nat) (ms : List Mon) (ls : List Int) (x : Int) (hs : s.size ≤ 9223372036854775807) (k1 : n1 ≤ c1) (h : CalAt w a1 a2 n1 n2 ms ls) :
    Calls Try.prog 16 #[.agg #[.string s, .int .i64 f, .int .i64 c, .slice a1 n1 c1, .slice a2 n2 c2], .int .i64 x] w fun e w' => e = .returned (.bool true) ∧ Below w.heap.size w w' := by
  have H := Lib.hid h; clear h
  go_enter Try.func16, Try.ntmps16
  go_wp2_with fail
  refine (law_four _).mono ?_
  rintro e w1 ⟨b1, b2, rfl, hc4, hb⟩
  have a0 := (At.new w (.cells #[.string s, .int .i64 f, .int .i64 c, .slice a1 n1 c1, .slice a2 n2 c2] 37)).then_ hb
  have b0 : Below w.heap.size w w1 := by (repeat' (first | exact Below.refl _ _ | assumption | refine Below.drew ?_ | refine below_drewN ?_ _ | refine below_new ?_ _ | refine below_set ?_ ?_ _ | refine below_then ?_ (by assumption) | refine below_drawn ?_ (by assumption) | exact Nat.le_refl _ | omega | (simp; done) | (simp; omega)))
  clear hb
  have HC4 := Lib.hid hc4; clear hc4
  go_wp2_with fail
  refine (first _ _ _ HC4.out).mono ?_
  rintro e w2 ⟨rfl, hb⟩
  (replace a0 := a0.then_ hb); (replace b0 := below_then b0 hb); clear hb HC4
  have d0 := a0.cell 0; have d1 := a0.cell 1; have d2 := a0.cell 2; have d3 := a0.cell 3; have d4 := a0.cell 4; simp at d0 d1 d2 d3 d4
  have hl2 := a0.lt
  go_wp2_with fail
  replace a0 := a0.alloc (.cells #[.int .i64 2, .int .i64 1, .int .i64 1] 23)
  replace b0 := below_new b0 (.cells #[.int .i64 2, .int .i64 1, .int .i64 1] 23)
  clear d0 d1 d2 d3 d4
  generalize World.alloc w2 _ = W2 at a0 b0 ⊢
  have d0 := a0.cell 0; have d1 := a0.cell 1; have d2 := a0.cell 2; have d3 := a0.cell 3; have d4 := a0.cell 4; simp at d0 d1 d2 d3 d4
  by_cases q : calErr s f c ms ls = 0
  case neg =>
    have q' : (calErr s f c ms ls != 0) = true := by simpa using q
    refine (arith_FromDay_err _ _ _ _ _ _ _ _ _ _ ms ls x hs k1 (H.out.then_ b0) q).mono ?_
    rintro e w3 ⟨rfl, hb⟩
    (replace a0 := a0.then_ hb); (replace b0 := below_then b0 hb); clear hb d0 d1 d2 d3 d4; have d0 := a0.cell 0; have d1 := a0.cell 1; have d2 := a0.cell 2; have d3 := a0.cell 3; have d4 := a0.cell 4; simp at d0 d1 d2 d3 d4
    clear q
    have hl3 := a0.lt
    go_wp2_with fail
    have ad := At.new w3 (.cells #[.int .i64 0, .int .i64 0, .int .i64 0] 23)
    replace a0 := a0.alloc (.cells #[.int .i64 0, .int .i64 0, .int .i64 0] 23)
    replace b0 := below_new b0 (.cells #[.int .i64 0, .int .i64 0, .int .i64 0] 23)
    generalize World.alloc w3 _ = W3 at ad a0 b0 ⊢
    refine (ref_CalendarError _ _ _ _ _ _ _ _ _ _ ms ls hs (H.out.then_ b0).1 (H.out.then_ b0).2).mono ?_
    rintro e w4 ⟨rfl, hb⟩
    replace ad := ad.then_ hb
    clear d0 d1 d2 d3 d4
    have d0 := ad.cell 0; have d1 := ad.cell 1; have d2 := ad.cell 2; simp at d0 d1 d2
    go_wp2_with fail
    go_ret
    exact ⟨by simp, by (repeat' (first | exact Below.refl _ _ | assumption | refine Below.drew ?_ | refine below_drewN ?_ _ | refine below_new ?_ _ | refine below_set ?_ ?_ _ | refine below_then ?_ (by assumption) | refine below_drawn ?_ (by assumption) | exact Nat.le_refl _ | omega | (simp; done) | (simp; omega)))⟩
  have ok := calOk_of q
  obtain ⟨C, rfl⟩ : ∃ C : Nat, c = (C : Int) := ⟨c.toNat, by have := ok.cy1; omega⟩
  have HQ := Lib.hid q; have OK := Lib.hid ok; clear q ok
  rcases inB_cases (-4000000) 4000000 x with ⟨hx, xx1, xx2⟩ | ⟨hx, hx'⟩
  case inr =>
    refine (arith_FromDay_ok _ _ _ _ _ _ _ _ _ _ ms ls x 0 0 0 3 hs k1 (H.out.then_ b0) HQ.out (fun W hW => arith_fromDay_out W s f C a1 a2 n1 c1 n2 c2 x hx)).mono ?_
    rintro e w3 ⟨rfl, hb⟩
    (replace a0 := a0.then_ hb); (replace b0 := below_then b0 hb); clear hb d0 d1 d2 d3 d4; have d0 := a0.cell 0; have d1 := a0.cell 1; have d2 := a0.cell 2; have d3 := a0.cell 3; have d4 := a0.cell 4; simp at d0 d1 d2 d3 d4
    have hl3 := a0.lt
    go_wp2_with fail
    have ad := At.new w3 (.cells #[.int .i64 0, .int .i64 0, .int .i64 0] 23)
    replace a0 := a0.alloc (.cells #[.int .i64 0, .int .i64 0, .int .i64 0] 23)
    replace b0 := below_new b0 (.cells #[.int .i64 0, .int .i64 0, .int .i64 0] 23)
    clear d0 d1 d2 d3 d4
    generalize World.alloc w3 _ = W3 at ad a0 b0 ⊢
    refine (ref_CalendarError _ _ _ _ _ _ _ _ _ _ ms ls hs (H.out.then_ b0).1 (H.out.then_ b0).2).mono ?_
    rw [HQ.out]
    rintro e w4 ⟨rfl, hb⟩
    (replace a0 := a0.then_ hb); (replace b0 := below_then b0 hb); (replace ad := ad.then_ hb); clear hb
    have d0 := a0.cell 0; have d1 := a0.cell 1; have d2 := a0.cell 2; have d3 := a0.cell 3; have d4 := a0.cell 4; simp at d0 d1 d2 d3 d4
    go_wp2_with fail
    refine (ref_Apart _ s f C a1 a2 n1 c1 n2 c2 ms ls OK.out (H.out.then_ b0)).mono ?_
    rintro e w5 ⟨g, rfl, hmk, hb⟩
    (replace b0 := below_then b0 hb); (replace ad := ad.then_ hb); clear hb d0 d1 d2 d3 d4
    have HM := Lib.hid (show MarksAt w5 g C ls from hmk); clear hmk
    go_wp2_with fail
    refine (show Calls Try.prog _ _ _ (fun e w' => e = .returned (.tuple #[.agg #[.int .i64 0, .int .i64 0, .int .i64 0], .int .i64 3]) ∧ _) from years_FromDay_out _ s f C a1 a2 n1 c1 n2 c2 ms ls g x hx).mono ?_
    rintro e w6 ⟨rfl, hb⟩
    (replace b0 := below_then b0 hb); (replace ad := ad.then_ hb); clear hb
    have d0 := ad.cell 0; have d1 := ad.cell 1; have d2 := ad.cell 2; simp at d0 d1 d2
    have hadl := ad.lt
    go_wp2_with fail
    go_ret
    exact ⟨by simp, by (repeat' (first | exact Below.refl _ _ | assumption | refine Below.drew ?_ | refine below_drewN ?_ _ | refine below_new ?_ _ | refine below_set ?_ ?_ _ | refine below_then ?_ (by assumption) | refine below_drawn ?_ (by assumption) | exact Nat.le_refl _ | omega | (simp; done) | (simp; omega)))⟩
  obtain ⟨y, hin⟩ := year_exists OK.out x
  rcases inB_cases (-10000) 10000 y with ⟨hy, y1, y2⟩ | ⟨hy, hy'⟩
  · obtain ⟨⟨k, r'⟩, hk⟩ : ∃ kr, findM (flag ls (placeOf C y)) ms (x - nyOf (shortOf ms) (longOf ms) f C ls y) 0 = kr := ⟨_, rfl⟩
    refine (arith_FromDay_ok _ _ _ _ _ _ _ _ _ _ ms ls x y ((k : Int) + 1) (r' + 1) 0 hs k1 (H.out.then_ b0) HQ.out (fun W hW => arith_fromDay_yes W s f C a1 a2 n1 c1 n2 c2 ms ls x (y + 10002).toNat y (place_of_year OK.out hin y1 y2) (by omega) y1 y2 OK.out xx1 xx2 ((H.out.then_ b0).then_ hW) k r' hk hin)).mono ?_
    have HK := Lib.hid hk; have HIN := Lib.hid hin; clear hk hin
    rintro e w3 ⟨rfl, hb⟩
    (replace a0 := a0.then_ hb); (replace b0 := below_then b0 hb); clear hb d0 d1 d2 d3 d4; have d0 := a0.cell 0; have d1 := a0.cell 1; have d2 := a0.cell 2; have d3 := a0.cell 3; have d4 := a0.cell 4; simp at d0 d1 d2 d3 d4
    have hl3 := a0.lt
    go_wp2_with fail
    have ad := At.new w3 (.cells #[.int .i64 y, .int .i64 ((k : Int) + 1), .int .i64 (r' + 1)] 23)
    replace a0 := a0.alloc (.cells #[.int .i64 y, .int .i64 ((k : Int) + 1), .int .i64 (r' + 1)] 23)
    replace b0 := below_new b0 (.cells #[.int .i64 y, .int .i64 ((k : Int) + 1), .int .i64 (r' + 1)] 23)
    clear d0 d1 d2 d3 d4
    generalize World.alloc w3 _ = W3 at ad a0 b0 ⊢
    refine (ref_CalendarError _ _ _ _ _ _ _ _ _ _ ms ls hs (H.out.then_ b0).1 (H.out.then_ b0).2).mono ?_
    rw [HQ.out]
    rintro e w4 ⟨rfl, hb⟩
    (replace a0 := a0.then_ hb); (replace b0 := below_then b0 hb); (replace ad := ad.then_ hb); clear hb
    have d0 := a0.cell 0; have d1 := a0.cell 1; have d2 := a0.cell 2; have d3 := a0.cell 3; have d4 := a0.cell 4; simp at d0 d1 d2 d3 d4
    go_wp2_with fail
    refine (ref_Apart _ s f C a1 a2 n1 c1 n2 c2 ms ls OK.out (H.out.then_ b0)).mono ?_
    rintro e w5 ⟨g, rfl, hmk, hb⟩
    (replace b0 := below_then b0 hb); (replace ad := ad.then_ hb); clear hb d0 d1 d2 d3 d4
    have HM := Lib.hid (show MarksAt w5 g C ls from hmk); clear hmk
    go_wp2_with fail
    refine (show Calls Try.prog _ _ _ (fun e w' => e = .returned (.tuple #[.agg #[.int .i64 y, .int .i64 ((k : Int) + 1), .int .i64 (r' + 1)], .int .i64 0]) ∧ _) from years_FromDay_yes _ s f C a1 a2 n1 c1 n2 c2 ms ls g x y OK.out xx1 xx2 HM.out (H.out.then_ b0) HIN.out y1 y2 k r' HK.out).mono ?_
    rintro e w6 ⟨rfl, hb⟩
    (replace b0 := below_then b0 hb); (replace ad := ad.then_ hb); clear hb
    have d0 := ad.cell 0; have d1 := ad.cell 1; have d2 := ad.cell 2; simp at d0 d1 d2
    have hadl := ad.lt
    go_wp2_with fail
    go_ret
    exact ⟨by simp, by (repeat' (first | exact Below.refl _ _ | assumption | refine Below.drew ?_ | refine below_drewN ?_ _ | refine below_new ?_ _ | refine below_set ?_ ?_ _ | refine below_then ?_ (by assumption) | refine below_drawn ?_ (by assumption) | exact Nat.le_refl _ | omega | (simp; done) | (simp; omega)))⟩
  · obtain ⟨r, hr⟩ := place_exists ms ls f C x
    have hyr : inB (-10000) 10000 (-10001 + (r : Int) - 1) = false := by
      rcases inB_cases (-10000) 10000 (-10001 + (r : Int) - 1) with ⟨_, u1, u2⟩ | ⟨u, _⟩
      · have := (year_of_place hr u1 u2).unique OK.out hin
        omega
      · exact u
    refine (arith_FromDay_ok _ _ _ _ _ _ _ _ _ _ ms ls x 0 0 0 3 hs k1 (H.out.then_ b0) HQ.out (fun W hW => arith_fromDay_no W s f C a1 a2 n1 c1 n2 c2 ms ls x r hr hyr OK.out xx1 xx2 ((H.out.then_ b0).then_ hW))).mono ?_
    have HIN := Lib.hid hin; clear hin hr hyr
    rintro e w3 ⟨rfl, hb⟩
    (replace a0 := a0.then_ hb); (replace b0 := below_then b0 hb); clear hb d0 d1 d2 d3 d4; have d0 := a0.cell 0; have d1 := a0.cell 1; have d2 := a0.cell 2; have d3 := a0.cell 3; have d4 := a0.cell 4; simp at d0 d1 d2 d3 d4
    have hl3 := a0.lt
    go_wp2_with fail
    have ad := At.new w3 (.cells #[.int .i64 0, .int .i64 0, .int .i64 0] 23)
    replace a0 := a0.alloc (.cells #[.int .i64 0, .int .i64 0, .int .i64 0] 23)
    replace b0 := below_new b0 (.cells #[.int .i64 0, .int .i64 0, .int .i64 0] 23)
    clear d0 d1 d2 d3 d4
    generalize World.alloc w3 _ = W3 at ad a0 b0 ⊢
    refine (ref_CalendarError _ _ _ _ _ _ _ _ _ _ ms ls hs (H.out.then_ b0).1 (H.out.then_ b0).2).mono ?_
    rw [HQ.out]
    rintro e w4 ⟨rfl, hb⟩
    (replace a0 := a0.then_ hb); (replace b0 := below_then b0 hb); (replace ad := ad.then_ hb); clear hb
    have d0 := a0.cell 0; have d1 := a0.cell 1; have d2 := a0.cell 2; have d3 := a0.cell 3; have d4 := a0.cell 4; simp at d0 d1 d2 d3 d4
    go_wp2_with fail
    refine (ref_Apart _ s f C a1 a2 n1 c1 n2 c2 ms ls OK.out (H.out.then_ b0)).mono ?_
    rintro e w5 ⟨g, rfl, hmk, hb⟩
    (replace b0 := below_then b0 hb); (replace ad := ad.then_ hb); clear hb d0 d1 d2 d3 d4
    have HM := Lib.hid (show MarksAt w5 g C ls from hmk); clear hmk
    go_wp2_with fail
    refine (show Calls Try.prog _ _ _ (fun e w' => e = .returned (.tuple #[.agg #[.int .i64 0, .int .i64 0, .int .i64 0], .int .i64 3]) ∧ _) from years_FromDay_no _ s f C a1 a2 n1 c1 n2 c2 ms ls g x y OK.out xx1 xx2 HM.out (H.out.then_ b0) HIN.out hy).mono ?_
    rintro e w6 ⟨rfl, hb⟩
    (replace b0 := below_then b0 hb); (replace ad := ad.then_ hb); clear hb
    have d0 := ad.cell 0; have d1 := ad.cell 1; have d2 := ad.cell 2; simp at d0 d1 d2
    have hadl := ad.lt
    go_wp2_with fail
    go_ret
    exact ⟨by simp, by (repeat' (first | exact Below.refl _ _ | assumption | refine Below.drew ?_ | refine below_drewN ?_ _ | refine below_new ?_ _ | refine below_set ?_ ?_ _ | refine below_then ?_ (by assumption) | refine below_drawn ?_ (by assumption) | exact Nat.le_refl _ | omega | (simp; done) | (simp; omega)))⟩
theorem walk {H : Type} {enc : TypeId × Value → H} {v0 v1 : Value} {d0 d1 : DataW H} {p0 p1 : List MemPlace} {base : Nat} (W : World)
    (o0 : Value.okWide Try.prog W .any base 37 v0) (h0 : DataW.Trod enc Try.prog W 0 (fun _ => true) true 37 v0 d0 p0)
    (o1 : Value.okWide Try.prog W .any base 3 v1) (h1 : DataW.Trod enc Try.prog W 0 (fun _ => true) true 3 v1 d1 p1) :
    Calls Try.prog 16 #[v0, v1] W fun e w' => e = .returned (.bool true) ∧ Below W.heap.size W w' := by
  obtain ⟨s, f, c, a1, a2, n1, c1, n2, c2, ms, ls, rfl, hs, hf, hc, k1, k2, m1, m2, h1', h2'⟩ := open_Calendar o0 h0
  obtain ⟨x, rfl, rfl, rfl, wx⟩ := open_int Try.underlying3 o1 h1
  exact core W s f c a1 a2 n1 c1 n2 c2 ms ls x hs k1 ⟨h1', h2'⟩
end Go.Proofs.Ytghecclgaaklaaa.arithFromDaysLaw
