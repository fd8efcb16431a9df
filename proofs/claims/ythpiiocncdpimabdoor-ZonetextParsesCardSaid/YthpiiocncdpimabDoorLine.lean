/- Contracts of package line, first part, and of the reference's days. -/
import Derived.Test.YthpiiocncdpimabDoorWhole
import Derived.Test.YthpiiocncdpimabDoorRef
namespace Go.Proofs.YthpiiocncdpimabDoor
set_option linter.unusedVariables false
set_option maxRecDepth 100000
open Go.RowKit

theorem line_Is (x : Int) (w : World) :
    Calls Tryd.prog 31 #[.int .i64 x] w fun e w' => e = .returned (.bool (inB (-4000000) 4000000 x)) ∧ w = w' := by
  by_cases h1 : -4000000 ≤ x
  · by_cases h2 : x ≤ 4000000
    · go_enter Tryd.func31, Tryd.ntmps31
      go_wp2
      go_ret
      exact ⟨ret_bool (inB_yes h1 h2).symm, rfl⟩
    · go_enter Tryd.func31, Tryd.ntmps31
      go_wp2
      go_ret
      exact ⟨ret_bool (inB_no (by omega)).symm, rfl⟩
  · go_enter Tryd.func31, Tryd.ntmps31
    go_wp2
    go_ret
    exact ⟨ret_bool (inB_no (by omega)).symm, rfl⟩
/-- The error of a day. -/
def chk (x : Int) : Int := if -4000000 ≤ x ∧ x ≤ 4000000 then 0 else 3
theorem chk_yes {x : Int} (h1 : -4000000 ≤ x) (h2 : x ≤ 4000000) : chk x = 0 := if_pos ⟨h1, h2⟩
theorem chk_no {x : Int} (h : ¬ (-4000000 ≤ x ∧ x ≤ 4000000)) : chk x = 3 := if_neg h
end Go.Proofs.YthpiiocncdpimabDoor
