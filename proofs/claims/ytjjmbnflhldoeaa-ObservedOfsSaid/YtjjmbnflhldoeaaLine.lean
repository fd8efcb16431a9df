/- Contracts of package line, first part, and of the reference's days. -/
import Derived.Test.YtjjmbnflhldoeaaWhole
import Derived.Test.YtjjmbnflhldoeaaRef
namespace Go.Proofs.Ytjjmbnflhldoeaa
set_option linter.unusedVariables false
set_option maxRecDepth 100000
open Go.RowKit

theorem line_Is (x : Int) (w : World) :
    Calls Try.prog 43 #[.int .i64 x] w fun e w' => e = .returned (.bool (inB (-4000000) 4000000 x)) ∧ w = w' := by
  by_cases h1 : -4000000 ≤ x
  · by_cases h2 : x ≤ 4000000
    · go_enter Try.func43, Try.ntmps43
      go_wp2
      go_ret
      exact ⟨ret_bool (inB_yes h1 h2).symm, rfl⟩
    · go_enter Try.func43, Try.ntmps43
      go_wp2
      go_ret
      exact ⟨ret_bool (inB_no (by omega)).symm, rfl⟩
  · go_enter Try.func43, Try.ntmps43
    go_wp2
    go_ret
    exact ⟨ret_bool (inB_no (by omega)).symm, rfl⟩
/-- The error of a day. -/
def chk (x : Int) : Int := if -4000000 ≤ x ∧ x ≤ 4000000 then 0 else 3
theorem chk_yes {x : Int} (h1 : -4000000 ≤ x) (h2 : x ≤ 4000000) : chk x = 0 := if_pos ⟨h1, h2⟩
theorem chk_no {x : Int} (h : ¬ (-4000000 ≤ x ∧ x ≤ 4000000)) : chk x = 3 := if_neg h
theorem line_Check (x : Int) (w : World) :
    Calls Try.prog 72 #[.int .i64 x] w fun e w' => e = .returned (.int .i64 (chk x)) ∧ w = w' := by
  rcases inB_cases (-4000000) 4000000 x with ⟨hb, h1, h2⟩ | ⟨hb, h⟩
  · go_enter Try.func72, Try.ntmps72
    go_wp2_with (go_at_call 43; refine (line_Is _ _).mono ?_; rintro e w' ⟨rfl, rfl⟩)
    go_ret
    exact ⟨ret_int (chk_yes h1 h2).symm, rfl⟩
  · go_enter Try.func72, Try.ntmps72
    go_wp2_with (go_at_call 43; refine (line_Is _ _).mono ?_; rintro e w' ⟨rfl, rfl⟩)
    go_ret
    exact ⟨ret_int (chk_no h).symm, rfl⟩
theorem ref_Week (x : Int) (w : World) (h1 : -100000000000 ≤ x) (h2 : x ≤ 100000000000) :
    Calls Try.prog 12 #[.int .i64 x] w fun e w' => e = .returned (.int .i64 ((x + 6) % 7)) ∧ w = w' := by
  go_enter Try.func12, Try.ntmps12
  go_wp2_with (go_at_call 31; refine (ref_Mod _ _ _ (by omega) (by omega) (by omega) (by omega)).mono ?_; rintro e w' ⟨rfl, rfl⟩)
  go_ret
  exact ⟨rfl, rfl⟩
end Go.Proofs.Ytjjmbnflhldoeaa
