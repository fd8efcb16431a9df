/- Contracts of package line, second part: Cycle, Instant, Split, Nth. -/
import Derived.Test.YtjekdceicjnamabDoorLine
namespace Go.Proofs.YtjekdceicjnamabDoor
set_option linter.unusedVariables false
set_option maxRecDepth 100000
open Go.RowKit

def splitOut (t : Int) : Value :=
  if -4000000 ≤ t / 86400000 ∧ t / 86400000 ≤ 4000000 then .tuple #[.int .i64 (t / 86400000), .int .i64 (t % 86400000), .int .i64 0] else .tuple #[.int .i64 0, .int .i64 0, .int .i64 3]
theorem line_Split (t : Int) (w : World) (h1 : -9223372036854775808 ≤ t) (h2 : t ≤ 9223372036854775807) :
    Calls Tryd.prog 25 #[.int .i64 t] w fun e w' => e = .returned (splitOut t) ∧ Drawn w w' := by
  rcases inB_cases (-4000000) 4000000 (t / 86400000) with ⟨hb, h⟩ | ⟨hb, h⟩
  · go_enter Tryd.func25, Tryd.ntmps25
    go_wp2_with fail
    refine (whole_Div_pos _ _ _ h1 h2 (by omega) (by omega)).mono ?_; rintro e w' ⟨rfl, hd⟩
    go_wp2_with fail
    refine (line_Is _ _).mono ?_; rintro e w' ⟨rfl, rfl⟩
    go_wp2_with fail
    go_ret3
    exact ⟨ret_of (by rw [splitOut, if_pos h]; rfl), hd⟩
  · go_enter Tryd.func25, Tryd.ntmps25
    go_wp2_with fail
    refine (whole_Div_pos _ _ _ h1 h2 (by omega) (by omega)).mono ?_; rintro e w' ⟨rfl, hd⟩
    go_wp2_with fail
    refine (line_Is _ _).mono ?_; rintro e w' ⟨rfl, rfl⟩
    go_wp2_with fail
    go_ret3
    exact ⟨ret_of (by rw [splitOut, if_neg h]; rfl), hd⟩
theorem ref_Instant (t : Int) (w : World) (h1 : -9223372036854775808 ≤ t) (h2 : t ≤ 9223372036854775807) :
    Calls Tryd.prog 10 #[.int .i64 t] w fun e w' => e = .returned (.bool (inB (-4000000) 4000000 (t / 86400000))) ∧ w = w' := by
  go_enter Tryd.func10, Tryd.ntmps10
  go_wp2_with fail
  refine (ref_Floor _ _ _ h1 h2 (by omega) (by omega)).mono ?_; rintro e w' ⟨rfl, rfl⟩
  go_wp2_with fail
  refine (ref_Day _ _).mono ?_; rintro e w' ⟨rfl, rfl⟩
  go_wp2_with fail
  go_ret
  exact ⟨rfl, rfl⟩
end Go.Proofs.YtjekdceicjnamabDoor
