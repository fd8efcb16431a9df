/- Contracts of package line, first part, and of the reference's days. -/
import Derived.Test.YtofmjjonobhfgaaWhole
import Derived.Test.YtofmjjonobhfgaaRef
namespace Go.Proofs.Ytofmjjonobhfgaa
set_option linter.unusedVariables false
open Go.RowKit

theorem line_Is (x : Int) (w : World) :
    Calls Try.prog 46 #[.int .i64 x] w fun e w' => e = .returned (.bool (inB (-4000000) 4000000 x)) ∧ w = w' := by
  by_cases h1 : -4000000 ≤ x
  · by_cases h2 : x ≤ 4000000
    · go_enter Try.func46, Try.ntmps46
      go_wp2
      go_ret
      exact ⟨ret_bool (inB_yes h1 h2).symm, rfl⟩
    · go_enter Try.func46, Try.ntmps46
      go_wp2
      go_ret
      exact ⟨ret_bool (inB_no (by omega)).symm, rfl⟩
  · go_enter Try.func46, Try.ntmps46
    go_wp2
    go_ret
    exact ⟨ret_bool (inB_no (by omega)).symm, rfl⟩
/-- The error of a day. -/
def chk (x : Int) : Int := if -4000000 ≤ x ∧ x ≤ 4000000 then 0 else 3
theorem chk_yes {x : Int} (h1 : -4000000 ≤ x) (h2 : x ≤ 4000000) : chk x = 0 := if_pos ⟨h1, h2⟩
theorem chk_no {x : Int} (h : ¬ (-4000000 ≤ x ∧ x ≤ 4000000)) : chk x = 3 := if_neg h
theorem line_Check (x : Int) (w : World) :
    Calls Try.prog 23 #[.int .i64 x] w fun e w' => e = .returned (.int .i64 (chk x)) ∧ w = w' := by
  rcases inB_cases (-4000000) 4000000 x with ⟨hb, h1, h2⟩ | ⟨hb, h⟩
  · go_enter Try.func23, Try.ntmps23
    go_wp2_with (go_at_call 46; refine (line_Is _ _).mono ?_; rintro e w' ⟨rfl, rfl⟩)
    go_ret
    exact ⟨ret_int (chk_yes h1 h2).symm, rfl⟩
  · go_enter Try.func23, Try.ntmps23
    go_wp2_with (go_at_call 46; refine (line_Is _ _).mono ?_; rintro e w' ⟨rfl, rfl⟩)
    go_ret
    exact ⟨ret_int (chk_no h).symm, rfl⟩
theorem line_weekday (x : Int) (w : World) (h1 : -100000000000 ≤ x) (h2 : x ≤ 100000000000) :
    Calls Try.prog 48 #[.int .i64 x] w fun e w' => e = .returned (.int .i64 ((x - 1) % 7)) ∧ Drawn w w' := by
  go_enter Try.func48, Try.ntmps48
  go_wp2_with (go_at_call 49; refine (whole_Mod _ _ _ (by omega) (by omega) (by omega) (by omega)).mono ?_; rintro e w' ⟨rfl, hd⟩)
  go_ret
  exact ⟨rfl, hd⟩
def lineWeekdayOut (x : Int) : Value := if -4000000 ≤ x ∧ x ≤ 4000000 then .tuple #[.int .i64 ((x - 1) % 7), .int .i64 0] else .tuple #[.int .i64 0, .int .i64 3]
theorem line_Weekday (x : Int) (w : World) :
    Calls Try.prog 21 #[.int .i64 x] w fun e w' => e = .returned (lineWeekdayOut x) ∧ Drawn w w' := by
  by_cases h : -4000000 ≤ x ∧ x ≤ 4000000
  · have c := chk_yes h.1 h.2
    obtain ⟨h1, h2⟩ := h
    go_enter Try.func21, Try.ntmps21
    go_wp2_with fail
    refine (line_Check _ _).mono ?_; rintro e w' ⟨rfl, rfl⟩
    go_wp2_with fail
    refine (line_weekday _ _ (by omega) (by omega)).mono ?_; rintro e w' ⟨rfl, hd⟩
    go_wp2_with fail
    go_ret2
    exact ⟨ret_of (by rw [lineWeekdayOut, if_pos ⟨h1, h2⟩]; rfl), hd⟩
  · have c := chk_no h
    go_enter Try.func21, Try.ntmps21
    go_wp2_with fail
    refine (line_Check _ _).mono ?_; rintro e w' ⟨rfl, rfl⟩
    go_wp2_with fail
    go_ret2
    exact ⟨ret_of (by rw [lineWeekdayOut, if_neg h]; rfl), Drawn.refl _⟩
theorem ref_Week (x : Int) (w : World) (h1 : -100000000000 ≤ x) (h2 : x ≤ 100000000000) :
    Calls Try.prog 24 #[.int .i64 x] w fun e w' => e = .returned (.int .i64 ((x + 6) % 7)) ∧ w = w' := by
  go_enter Try.func24, Try.ntmps24
  go_wp2_with (go_at_call 28; refine (ref_Mod _ _ _ (by omega) (by omega) (by omega) (by omega)).mono ?_; rintro e w' ⟨rfl, rfl⟩)
  go_ret
  exact ⟨rfl, rfl⟩
end Go.Proofs.Ytofmjjonobhfgaa
