/- ArithLaters: the Go text returns true at every input, and writes nothing that was there. -/
import Derived.Test.YtjekdceicjnamaaLater4
import Derived.Test.YtjekdceicjnamaaLater5
import Derived.Test.YtjekdceicjnamaaLater7
import Derived.Test.YtjekdceicjnamaaLater8
import Derived.Test.YtjekdceicjnamaaFrom5
import Derived.Test.YtjekdceicjnamaaFour
namespace Go.Proofs.Ytjekdceicjnamaa.arithLatersLaw
set_option linter.unusedVariables false
set_option maxRecDepth 100000
open Go.RowKit Go.ChangeShapes Go.WideShapes

theorem lit0 : calErr ⟨#[115, 109, 97, 108, 108]⟩ 1 4 smallMonths [4] = 0 := by decide +kernel
theorem litY : InYear smallMonths [4] 1 4 1 31 := by
  have h1 : nyOf (shortOf smallMonths) (longOf smallMonths) 1 4 [4] 1 = 1 := by decide +kernel
  have h2 : nyOf (shortOf smallMonths) (longOf smallMonths) 1 4 [4] (1 + 1) = 60 := by decide +kernel
  unfold InYear; rw [h1, h2]; omega
theorem litM : findM (flag [4] (placeOf 4 1)) smallMonths (31 - nyOf (shortOf smallMonths) (longOf smallMonths) 1 4 [4] 1) 0 = (0, 30) := by decide +kernel
theorem litG : Going smallMonths [4] 4 true true 1 (1 + 3, 0) (some (4, 1)) :=
  .inr ⟨(4, 0), Seek.here (by decide) (by decide +kernel), .inr ⟨(4, 1), Seek.here (by decide) (by decide +kernel), rfl⟩⟩
theorem litOut : laterOut smallMonths [4] 1 4 (some (4, 1)) 31 = .tuple #[.int .i64 237, .int .i64 0] := by
  have h : dnum smallMonths [4] 1 4 4 1 (min 31 (lenAt smallMonths [4] 4 (4, 1))) = 237 := by decide +kernel
  show dayOr (dnum smallMonths [4] 1 4 4 1 (min 31 (lenAt smallMonths [4] 4 (4, 1)))) = _
  rw [h]; rfl
theorem first (w : World) (b1 b2 : Option Addr) (h : CalAt w b1 b2 2 1 smallMonths [4]) :
    Calls Try.prog 23 #[.agg #[.string ⟨#[115, 109, 97, 108, 108]⟩, .int .i64 1, .int .i64 4, .slice b1 2 2, .slice b2 1 1], .int .i64 31, .int .i64 3, .int .i64 1] w fun e w' => e = .returned (.tuple #[.int .i64 237, .int .i64 0]) ∧ Below w.heap.size w w' := by
  have ok := calOk_of lit0
  have := arith_Later_up w ⟨#[115, 109, 97, 108, 108]⟩ 1 4 b1 b2 2 2 1 1 smallMonths [4] 31 3 1 (by decide) (by omega) h lit0 1 0 31 1 (some (4, 1)) (by omega) (by omega) (by omega) (by omega) (by omega) (by omega) (by omega) (by omega) rfl litG
    (fun W hW => arith_fromDay_yes W ⟨#[115, 109, 97, 108, 108]⟩ 1 4 b1 b2 2 2 1 1 smallMonths [4] 31 10003 1 (place_of_year ok litY (by omega) (by omega)) (by omega) (by omega) (by omega) ok (by omega) (by omega) (h.then_ hW) 0 30 litM litY)
  rw [litOut] at this
  exact this
/-- A result is a pair of numbers. -/
theorem later_pair (ms : List Mon) (ls : List Int) (f c : Int) (R : Option (Int × Nat)) (d : Int) : ∃ a b : Int, laterOut ms ls f c R d = .tuple #[.int .i64 a, .int .i64 b] := by
  cases R with
  | none => exact ⟨0, 3, rfl⟩
  | some p =>
    show ∃ a b : Int, dayOr _ = _
    unfold dayOr
    split
    · exact ⟨_, _, rfl⟩
    · exact ⟨_, _, rfl⟩
theorem find_in {ms : List Mon} (h : ∀ x ∈ ms, 0 ≤ x.2.1 ∧ x.2.1 ≤ 400 ∧ 0 ≤ x.2.2 ∧ x.2.2 ≤ 400) (b : Bool) {r0 r' : Int} {k : Nat} (h0 : 0 ≤ r0) (h1 : r0 < lenY (shortOf ms) (longOf ms) b) (hk : findM b ms r0 0 = (k, r')) : k < ms.length ∧ 0 ≤ r' ∧ r' < 400 := by
  have key : ∀ (n : Nat) (j : Nat) (r : Int), ms.length - j ≤ n → FindTo b ms r0 j r → k < ms.length ∧ 0 ≤ r' ∧ r' < 400 := by
    intro n
    induction n with
    | zero => intro j r hj hF; have := hF.in_ h1; omega
    | succ n ih =>
      intro j r hj hF
      have hjl := hF.in_ h1
      have hx := List.getElem?_eq_getElem hjl
      have hb := mlenOf_bound h hx b
      by_cases hr : r < mlenOf ms[j] b
      · have := hF.stop hx hr
        rw [hk] at this
        injection this with e1 e2
        subst e1 e2
        have := hF.2.1
        exact ⟨hjl, this, by omega⟩
      · exact ih (j + 1) _ (by omega) (hF.next hx hr)
  exact key _ 0 r0 (Nat.le_refl _) (FindTo.start b ms r0 h0)
set_option maxHeartbeats 2000000 in
theorem core_ok (w : World) (s : ByteArray) (f : Int) (C : Nat) (a1 a2 : Option Addr) (n1 c1 n2 c2 : Nat) (ms : List Mon) (ls : List Int) (x yy mm mm' a b : Int) (hs : s.size ≤ 9223372036854775807) (k1 : n1 ≤ c1) (h : CalAt w a1 a2 n1 n2 ms ls) (q : calErr s f C ms ls = 0)
    (hm : (inB (-10000) 10000 mm = true ∧ mm.tmod 200 = mm') ∨ (inB (-10000) 10000 mm = false ∧ mm = mm'))
    (hA : ∀ W, Below w.heap.size w W → Calls Try.prog 23 #[.agg #[.string s, .int .i64 f, .int .i64 (C : Int), .slice a1 n1 c1, .slice a2 n2 c2], .int .i64 x, .int .i64 yy, .int .i64 mm'] W fun e w' => e = .returned (.tuple #[.int .i64 a, .int .i64 b]) ∧ Below W.heap.size W w')
    (hY : ∀ W g, Below w.heap.size w W → MarksAt W g C ls → Calls Try.prog 27 #[.agg #[.string s, .int .i64 f, .int .i64 (C : Int), .slice a1 n1 c1, .slice a2 n2 c2, .slice (some ⟨g, 0, none⟩) C C, .int .i64 (shortOf ms), .int .i64 (longOf ms), .int .i64 (daysTo (shortOf ms) (longOf ms) ls (C : Int))], .int .i64 x, .int .i64 yy, .int .i64 mm'] W fun e w' => e = .returned (.tuple #[.int .i64 a, .int .i64 b]) ∧ Below W.heap.size W w') :
    Calls Try.prog 6 #[.agg #[.string s, .int .i64 f, .int .i64 (C : Int), .slice a1 n1 c1, .slice a2 n2 c2], .int .i64 x, .int .i64 yy, .int .i64 mm] w fun e w' => e = .returned (.bool true) ∧ Below w.heap.size w w' := by
  have ok := calOk_of q
  have H := Lib.hid h; have OK := Lib.hid ok; have HQ := Lib.hid q; have HA := Lib.hid hA; have HY := Lib.hid hY
  clear h ok q hA hY
  rcases hm with ⟨hm1, hm2⟩ | ⟨hm1, hm2⟩
  · have hmb := inB_iff.1 hm1
    obtain ⟨mb1, mb2⟩ := hmb
    have HM2 := Lib.hid hm2; clear hm2
    go_enter Try.func6, Try.ntmps6
    go_wp2_with fail
    refine (law_four _).mono ?_
    rintro e w1 ⟨b1, b2, rfl, hc4, hb⟩
    have a0 := (At.new w (.cells #[.string s, .int .i64 f, .int .i64 (C : Int), .slice a1 n1 c1, .slice a2 n2 c2] 47)).then_ hb
    have b0 : Below w.heap.size w w1 := by (repeat' (first | exact Below.refl _ _ | assumption | refine Below.drew ?_ | refine below_drewN ?_ _ | refine below_new ?_ _ | refine below_set ?_ ?_ _ | refine below_then ?_ (by assumption) | refine below_drawn ?_ (by assumption) | exact Nat.le_refl _ | omega | (simp; done) | (simp; omega)))
    clear hb
    have HC4 := Lib.hid hc4; clear hc4
    go_wp2_with fail
    refine (first _ _ _ HC4.out).mono ?_
    rintro e w2 ⟨rfl, hb⟩
    (replace a0 := a0.then_ hb); (replace b0 := below_then b0 hb); clear hb HC4
    have d0 := a0.cell 0; have d1 := a0.cell 1; have d2 := a0.cell 2; have d3 := a0.cell 3; have d4 := a0.cell 4; simp at d0 d1 d2 d3 d4
    go_wp2_with fail
    refine (ref_In _ _ _ _).mono ?_; rw [hm1]; rintro e w3 ⟨rfl, rfl⟩
    go_wp2_with fail
    rw [HM2.out]
    refine (HA.out _ b0).mono ?_
    rintro e w4 ⟨rfl, hb⟩
    (replace a0 := a0.then_ hb); (replace b0 := below_then b0 hb); clear hb d0 d1 d2 d3 d4; have d0 := a0.cell 0; have d1 := a0.cell 1; have d2 := a0.cell 2; have d3 := a0.cell 3; have d4 := a0.cell 4; simp at d0 d1 d2 d3 d4
    go_wp2_with fail
    refine (ref_CalendarError _ _ _ _ _ _ _ _ _ _ ms ls hs (H.out.then_ b0).1 (H.out.then_ b0).2).mono ?_
    rw [HQ.out]
    rintro e w5 ⟨rfl, hb⟩
    (replace a0 := a0.then_ hb); (replace b0 := below_then b0 hb); clear hb d0 d1 d2 d3 d4; have d0 := a0.cell 0; have d1 := a0.cell 1; have d2 := a0.cell 2; have d3 := a0.cell 3; have d4 := a0.cell 4; simp at d0 d1 d2 d3 d4
    go_wp2_with fail
    refine (ref_Apart _ s f C a1 a2 n1 c1 n2 c2 ms ls OK.out (H.out.then_ b0)).mono ?_
    rintro e w6 ⟨g, rfl, hmk, hb⟩
    (replace b0 := below_then b0 hb); clear hb d0 d1 d2 d3 d4
    have HM := Lib.hid (show MarksAt w6 g C ls from hmk); clear hmk
    go_wp2_with fail
    refine (HY.out _ g b0 HM.out).mono ?_
    rintro e w7 ⟨rfl, hb⟩
    go_wp2_with fail
    go_ret
    exact ⟨by simp, below_then b0 hb⟩
  · subst hm2
    go_enter Try.func6, Try.ntmps6
    go_wp2_with fail
    refine (law_four _).mono ?_
    rintro e w1 ⟨b1, b2, rfl, hc4, hb⟩
    have a0 := (At.new w (.cells #[.string s, .int .i64 f, .int .i64 (C : Int), .slice a1 n1 c1, .slice a2 n2 c2] 47)).then_ hb
    have b0 : Below w.heap.size w w1 := by (repeat' (first | exact Below.refl _ _ | assumption | refine Below.drew ?_ | refine below_drewN ?_ _ | refine below_new ?_ _ | refine below_set ?_ ?_ _ | refine below_then ?_ (by assumption) | refine below_drawn ?_ (by assumption) | exact Nat.le_refl _ | omega | (simp; done) | (simp; omega)))
    clear hb
    have HC4 := Lib.hid hc4; clear hc4
    go_wp2_with fail
    refine (first _ _ _ HC4.out).mono ?_
    rintro e w2 ⟨rfl, hb⟩
    (replace a0 := a0.then_ hb); (replace b0 := below_then b0 hb); clear hb HC4
    have d0 := a0.cell 0; have d1 := a0.cell 1; have d2 := a0.cell 2; have d3 := a0.cell 3; have d4 := a0.cell 4; simp at d0 d1 d2 d3 d4
    go_wp2_with fail
    refine (ref_In _ _ _ _).mono ?_; rw [hm1]; rintro e w3 ⟨rfl, rfl⟩
    go_wp2_with fail
    refine (HA.out _ b0).mono ?_
    rintro e w4 ⟨rfl, hb⟩
    (replace a0 := a0.then_ hb); (replace b0 := below_then b0 hb); clear hb d0 d1 d2 d3 d4; have d0 := a0.cell 0; have d1 := a0.cell 1; have d2 := a0.cell 2; have d3 := a0.cell 3; have d4 := a0.cell 4; simp at d0 d1 d2 d3 d4
    go_wp2_with fail
    refine (ref_CalendarError _ _ _ _ _ _ _ _ _ _ ms ls hs (H.out.then_ b0).1 (H.out.then_ b0).2).mono ?_
    rw [HQ.out]
    rintro e w5 ⟨rfl, hb⟩
    (replace a0 := a0.then_ hb); (replace b0 := below_then b0 hb); clear hb d0 d1 d2 d3 d4; have d0 := a0.cell 0; have d1 := a0.cell 1; have d2 := a0.cell 2; have d3 := a0.cell 3; have d4 := a0.cell 4; simp at d0 d1 d2 d3 d4
    go_wp2_with fail
    refine (ref_Apart _ s f C a1 a2 n1 c1 n2 c2 ms ls OK.out (H.out.then_ b0)).mono ?_
    rintro e w6 ⟨g, rfl, hmk, hb⟩
    (replace b0 := below_then b0 hb); clear hb d0 d1 d2 d3 d4
    have HM := Lib.hid (show MarksAt w6 g C ls from hmk); clear hmk
    go_wp2_with fail
    refine (HY.out _ g b0 HM.out).mono ?_
    rintro e w7 ⟨rfl, hb⟩
    go_wp2_with fail
    go_ret
    exact ⟨by simp, below_then b0 hb⟩
set_option maxHeartbeats 2000000 in
theorem core_err (w : World) (s : ByteArray) (f c : Int) (a1 a2 : Option Addr) (n1 c1 n2 c2 : Nat) (ms : List Mon) (ls : List Int) (x yy mm : Int) (hs : s.size ≤ 9223372036854775807) (k1 : n1 ≤ c1) (h : CalAt w a1 a2 n1 n2 ms ls) (q : calErr s f c ms ls ≠ 0) :
    Calls Try.prog 6 #[.agg #[.string s, .int .i64 f, .int .i64 c, .slice a1 n1 c1, .slice a2 n2 c2], .int .i64 x, .int .i64 yy, .int .i64 mm] w fun e w' => e = .returned (.bool true) ∧ Below w.heap.size w w' := by
  have H := Lib.hid h; clear h
  have q' : (calErr s f c ms ls != 0) = true := by simpa using q
  rcases inB_cases (-10000) 10000 mm with ⟨hm1, mb1, mb2⟩ | ⟨hm1, _⟩
  all_goals
    go_enter Try.func6, Try.ntmps6
    go_wp2_with fail
    refine (law_four _).mono ?_
    rintro e w1 ⟨b1, b2, rfl, hc4, hb⟩
    have a0 := (At.new w (.cells #[.string s, .int .i64 f, .int .i64 c, .slice a1 n1 c1, .slice a2 n2 c2] 47)).then_ hb
    have b0 : Below w.heap.size w w1 := by (repeat' (first | exact Below.refl _ _ | assumption | refine Below.drew ?_ | refine below_drewN ?_ _ | refine below_new ?_ _ | refine below_set ?_ ?_ _ | refine below_then ?_ (by assumption) | refine below_drawn ?_ (by assumption) | exact Nat.le_refl _ | omega | (simp; done) | (simp; omega)))
    clear hb
    have HC4 := Lib.hid hc4; clear hc4
    go_wp2_with fail
    refine (first _ _ _ HC4.out).mono ?_
    rintro e w2 ⟨rfl, hb⟩
    (replace a0 := a0.then_ hb); (replace b0 := below_then b0 hb); clear hb HC4
    have d0 := a0.cell 0; have d1 := a0.cell 1; have d2 := a0.cell 2; have d3 := a0.cell 3; have d4 := a0.cell 4; simp at d0 d1 d2 d3 d4
    go_wp2_with fail
    refine (ref_In _ _ _ _).mono ?_; rw [hm1]; rintro e w3 ⟨rfl, rfl⟩
    go_wp2_with fail
    refine (arith_Later_err _ _ _ _ _ _ _ _ _ _ ms ls x yy _ hs k1 (H.out.then_ b0) q).mono ?_
    rintro e w4 ⟨rfl, hb⟩
    (replace a0 := a0.then_ hb); (replace b0 := below_then b0 hb); clear hb d0 d1 d2 d3 d4; have d0 := a0.cell 0; have d1 := a0.cell 1; have d2 := a0.cell 2; have d3 := a0.cell 3; have d4 := a0.cell 4; simp at d0 d1 d2 d3 d4
    go_wp2_with fail
    refine (ref_CalendarError _ _ _ _ _ _ _ _ _ _ ms ls hs (H.out.then_ b0).1 (H.out.then_ b0).2).mono ?_
    rintro e w5 ⟨rfl, hb⟩
    clear q d0 d1 d2 d3 d4
    go_wp2_with fail
    go_ret
    exact ⟨by simp, below_then b0 hb⟩
theorem tmod_in (mm : Int) (h1 : -10000 ≤ mm) (h2 : mm ≤ 10000) : -10000 ≤ mm.tmod 200 ∧ mm.tmod 200 ≤ 10000 := by
  by_cases h : mm < 0
  · have := tmod_bounds mm 200 h (by omega); omega
  · rw [Int.tmod_eq_emod_of_nonneg (by omega)]; omega
theorem core (w : World) (s : ByteArray) (f c : Int) (a1 a2 : Option Addr) (n1 c1 n2 c2 : Nat) (ms : List Mon) (ls : List Int) (x yy mm : Int) (hs : s.size ≤ 9223372036854775807) (k1 : n1 ≤ c1) (h : CalAt w a1 a2 n1 n2 ms ls) :
    Calls Try.prog 6 #[.agg #[.string s, .int .i64 f, .int .i64 c, .slice a1 n1 c1, .slice a2 n2 c2], .int .i64 x, .int .i64 yy, .int .i64 mm] w fun e w' => e = .returned (.bool true) ∧ Below w.heap.size w w' := by
  by_cases q : calErr s f c ms ls = 0
  case neg => exact core_err w s f c a1 a2 n1 c1 n2 c2 ms ls x yy mm hs k1 h q
  have ok := calOk_of q
  obtain ⟨C, rfl⟩ : ∃ C : Nat, c = (C : Int) := ⟨c.toNat, by have := ok.cy1; omega⟩
  have hL := h.1.len
  obtain ⟨mm', hm, hin⟩ : ∃ mm', ((inB (-10000) 10000 mm = true ∧ mm.tmod 200 = mm') ∨ (inB (-10000) 10000 mm = false ∧ mm = mm')) ∧ inB (-10000) 10000 mm' = inB (-10000) 10000 mm := by
    rcases inB_cases (-10000) 10000 mm with ⟨hm1, mb1, mb2⟩ | ⟨hm1, _⟩
    · have := tmod_in mm mb1 mb2
      exact ⟨_, .inl ⟨hm1, rfl⟩, by rw [hm1, inB_yes this.1 this.2]⟩
    · exact ⟨_, .inr ⟨hm1, rfl⟩, rfl⟩
  -- a day without a date
  have no : (∀ W, CalAt W a1 a2 n1 n2 ms ls → Calls Try.prog 55 #[.agg #[.string s, .int .i64 f, .int .i64 (C : Int), .slice a1 n1 c1, .slice a2 n2 c2], .int .i64 x] W fun e w' => e = .returned noDate ∧ Below W.heap.size W w') →
      (∀ W g, CalAt W a1 a2 n1 n2 ms ls → MarksAt W g C ls → Calls Try.prog 62 #[.agg #[.string s, .int .i64 f, .int .i64 (C : Int), .slice a1 n1 c1, .slice a2 n2 c2, .slice (some ⟨g, 0, none⟩) C C, .int .i64 (shortOf ms), .int .i64 (longOf ms), .int .i64 (daysTo (shortOf ms) (longOf ms) ls (C : Int))], .int .i64 x] W fun e w' => e = .returned noDate ∧ Below W.heap.size W w') →
      Calls Try.prog 6 #[.agg #[.string s, .int .i64 f, .int .i64 (C : Int), .slice a1 n1 c1, .slice a2 n2 c2], .int .i64 x, .int .i64 yy, .int .i64 mm] w fun e w' => e = .returned (.bool true) ∧ Below w.heap.size w w' := fun hA hY =>
    core_ok w s f C a1 a2 n1 c1 n2 c2 ms ls x yy mm mm' 0 3 hs k1 h q hm
      (fun W hW => arith_Later_no W s f C a1 a2 n1 c1 n2 c2 ms ls x yy mm' hs k1 (h.then_ hW) q (fun W' hW' => hA W' ((h.then_ hW).then_ hW')))
      (fun W g hW hg => years_Later_no W s f C a1 a2 n1 c1 n2 c2 ms ls g x yy mm' hg (h.then_ hW) (fun W' hW' => hY W' g ((h.then_ hW).then_ hW') (hg.then_ hW')))
  rcases inB_cases (-4000000) 4000000 x with ⟨hx, xx1, xx2⟩ | ⟨hx, hx'⟩
  case inr => exact no (fun W _ => arith_fromDay_out W s f C a1 a2 n1 c1 n2 c2 x hx) (fun W g _ _ => years_FromDay_out W s f C a1 a2 n1 c1 n2 c2 ms ls g x hx)
  obtain ⟨y, hiy⟩ := year_exists ok x
  rcases inB_cases (-10000) 10000 y with ⟨hy, y1, y2⟩ | ⟨hy, hy'⟩
  case inr =>
    obtain ⟨r, hr⟩ := place_exists ms ls f C x
    have hyr : inB (-10000) 10000 (-10001 + (r : Int) - 1) = false := by
      rcases inB_cases (-10000) 10000 (-10001 + (r : Int) - 1) with ⟨_, u1, u2⟩ | ⟨u, _⟩
      · have := (year_of_place hr u1 u2).unique ok hiy
        omega
      · exact u
    exact no (fun W hW => arith_fromDay_no W s f C a1 a2 n1 c1 n2 c2 ms ls x r hr hyr ok xx1 xx2 hW) (fun W g hW hg => years_FromDay_no W s f C a1 a2 n1 c1 n2 c2 ms ls g x y ok xx1 xx2 hg hW hiy hy)
  obtain ⟨⟨k, r'⟩, hk⟩ : ∃ kr, findM (flag ls (placeOf C y)) ms (x - nyOf (shortOf ms) (longOf ms) f C ls y) 0 = kr := ⟨_, rfl⟩
  have hfi := find_in ok.lens (flag ls (placeOf C y)) (by have := hiy.1; omega) (by have := hiy.2; rw [nyOf_succ ok y] at this; omega) hk
  obtain ⟨hk1, r1, r2⟩ := hfi
  have fA : ∀ W, CalAt W a1 a2 n1 n2 ms ls → Calls Try.prog 55 #[.agg #[.string s, .int .i64 f, .int .i64 (C : Int), .slice a1 n1 c1, .slice a2 n2 c2], .int .i64 x] W fun e w' => e = .returned (.tuple #[.agg #[.int .i64 y, .int .i64 ((k : Int) + 1), .int .i64 (r' + 1)], .int .i64 0]) ∧ Below W.heap.size W w' :=
    fun W hW => arith_fromDay_yes W s f C a1 a2 n1 c1 n2 c2 ms ls x (y + 10002).toNat y (place_of_year ok hiy y1 y2) (by omega) y1 y2 ok xx1 xx2 hW k r' hk hiy
  have fY : ∀ W g, CalAt W a1 a2 n1 n2 ms ls → MarksAt W g C ls → Calls Try.prog 62 #[.agg #[.string s, .int .i64 f, .int .i64 (C : Int), .slice a1 n1 c1, .slice a2 n2 c2, .slice (some ⟨g, 0, none⟩) C C, .int .i64 (shortOf ms), .int .i64 (longOf ms), .int .i64 (daysTo (shortOf ms) (longOf ms) ls (C : Int))], .int .i64 x] W fun e w' => e = .returned (.tuple #[.agg #[.int .i64 y, .int .i64 ((k : Int) + 1), .int .i64 (r' + 1)], .int .i64 0]) ∧ Below W.heap.size W w' :=
    fun W g hW hg => years_FromDay_yes W s f C a1 a2 n1 c1 n2 c2 ms ls g x y ok xx1 xx2 hg hW hiy y1 y2 k r' hk
  cases hr : (inB (-10000) 10000 yy && inB (-10000) 10000 mm') with
  | false =>
    exact core_ok w s f C a1 a2 n1 c1 n2 c2 ms ls x yy mm mm' 0 1 hs k1 h q hm
      (fun W hW => arith_Later_arg W s f C a1 a2 n1 c1 n2 c2 ms ls x yy mm' hs k1 (h.then_ hW) q y ((k : Int) + 1) (r' + 1) hr (fun W' hW' => fA W' ((h.then_ hW).then_ hW')))
      (fun W g hW hg => years_Later_arg W s f C a1 a2 n1 c1 n2 c2 ms ls g x yy mm' hg (h.then_ hW) y ((k : Int) + 1) (r' + 1) hr (fun W' hW' => fY W' g ((h.then_ hW).then_ hW') (hg.then_ hW')))
  | true =>
    rw [Bool.and_eq_true] at hr
    obtain ⟨yy1, yy2⟩ := inB_iff.1 hr.1
    obtain ⟨m1, m2⟩ := inB_iff.1 hr.2
    by_cases h0 : 0 ≤ mm'
    · obtain ⟨R, hR⟩ := going_exists ok true true mm'.toNat (y + yy, k) hk1
      obtain ⟨a, b, hab⟩ := later_pair ms ls f C R (r' + 1)
      refine core_ok w s f C a1 a2 n1 c1 n2 c2 ms ls x yy mm mm' a b hs k1 h q hm (fun W hW => ?_) (fun W g hW hg => ?_)
      · rw [← hab]
        exact arith_Later_up W s f C a1 a2 n1 c1 n2 c2 ms ls x yy mm' hs k1 (h.then_ hW) q y k (r' + 1) mm'.toNat R (by omega) y1 y2 (by omega) (by omega) yy1 yy2 (by omega) (by omega) hR (fun W' hW' => fA W' ((h.then_ hW).then_ hW'))
      · rw [← hab]
        exact years_Later_up W s f C a1 a2 n1 c1 n2 c2 ms ls g x yy mm' hg (h.then_ hW) y k (r' + 1) mm'.toNat R ok (by omega) y1 y2 (by omega) (by omega) yy1 yy2 (by omega) (by omega) hR (fun W' hW' => fY W' g ((h.then_ hW).then_ hW') (hg.then_ hW'))
    · obtain ⟨R, hR⟩ := going_exists ok true false (-mm').toNat (y + yy, k) hk1
      obtain ⟨a, b, hab⟩ := later_pair ms ls f C R (r' + 1)
      refine core_ok w s f C a1 a2 n1 c1 n2 c2 ms ls x yy mm mm' a b hs k1 h q hm (fun W hW => ?_) (fun W g hW hg => ?_)
      · rw [← hab]
        exact arith_Later_down W s f C a1 a2 n1 c1 n2 c2 ms ls x yy mm' hs k1 (h.then_ hW) q y k (r' + 1) (-mm').toNat R (by omega) y1 y2 (by omega) (by omega) yy1 yy2 (by omega) (by omega) hR (fun W' hW' => fA W' ((h.then_ hW).then_ hW'))
      · rw [← hab]
        exact years_Later_down W s f C a1 a2 n1 c1 n2 c2 ms ls g x yy mm' hg (h.then_ hW) y k (r' + 1) (-mm').toNat R ok (by omega) y1 y2 (by omega) (by omega) yy1 yy2 (by omega) (by omega) (by omega) hR (fun W' hW' => fY W' g ((h.then_ hW).then_ hW') (hg.then_ hW'))
theorem walk {H : Type} {enc : TypeId × Value → H} {v0 v1 v2 v3 : Value} {d0 d1 d2 d3 : DataW H} {p0 p1 p2 p3 : List MemPlace} {base : Nat} (W : World)
    (o0 : Value.okWide Try.prog W .any base 47 v0) (h0 : DataW.Trod enc Try.prog W 0 (fun _ => true) true 47 v0 d0 p0)
    (o1 : Value.okWide Try.prog W .any base 3 v1) (h1 : DataW.Trod enc Try.prog W 0 (fun _ => true) true 3 v1 d1 p1)
    (o2 : Value.okWide Try.prog W .any base 3 v2) (h2 : DataW.Trod enc Try.prog W 0 (fun _ => true) true 3 v2 d2 p2)
    (o3 : Value.okWide Try.prog W .any base 3 v3) (h3 : DataW.Trod enc Try.prog W 0 (fun _ => true) true 3 v3 d3 p3) :
    Calls Try.prog 6 #[v0, v1, v2, v3] W fun e w' => e = .returned (.bool true) ∧ Below W.heap.size W w' := by
  obtain ⟨s, f, c, a1, a2, n1, c1, n2, c2, ms, ls, rfl, hs, hf, hc, k1, k2, m1, m2, h1', h2'⟩ := open_Calendar o0 h0
  obtain ⟨x, rfl, rfl, rfl, wx⟩ := open_int Try.underlying3 o1 h1
  obtain ⟨y, rfl, rfl, rfl, wy⟩ := open_int Try.underlying3 o2 h2
  obtain ⟨z, rfl, rfl, rfl, wz⟩ := open_int Try.underlying3 o3 h3
  exact core W s f c a1 a2 n1 c1 n2 c2 ms ls x y z hs k1 ⟨h1', h2'⟩
end Go.Proofs.Ytjekdceicjnamaa.arithLatersLaw
