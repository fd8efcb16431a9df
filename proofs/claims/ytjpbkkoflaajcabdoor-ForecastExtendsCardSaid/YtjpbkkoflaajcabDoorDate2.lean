/- Contracts of line.Date, line.Day and of the reference's Greg, GregDay, GregExists. -/
import Derived.Test.YtjpbkkoflaajcabDoorDate
import Derived.Deep.RegionHeld3
namespace Go.Proofs.YtjpbkkoflaajcabDoor
set_option linter.unusedVariables false
set_option maxRecDepth 100000
open Go.RowKit greg

theorem NY_low (y x : Int) (h : x < NY y) (hx : -4000000 ≤ x) : -11000 < y := by
  rcases Int.lt_or_le (-11000) y with h1 | h1
  · exact h1
  · have h2 := NY_mono y (-11000) h1
    have h3 : NY (-11000) = -4018032 := by decide
    omega
theorem NY_high (y x : Int) (h : NY y ≤ x) (hx : x ≤ 4000000) : y < 11000 := by
  rcases Int.lt_or_le y 11000 with h1 | h1
  · exact h1
  · have h2 := NY_mono 11000 y h1
    have h3 : NY 11000 = 4017303 := by decide
    omega
theorem cumN_next (l : Bool) (m : Nat) : cumN l (m + 1 + 1) = cumN l (m + 1) + lenN l (m + 1) := rfl
def dateV (y m d : Int) : Value := .agg #[.int .i64 y, .int .i64 m, .int .i64 d]
/-- What line.Date hands back. -/
def dateOut (x : Int) : Value := if inB (-4000000) 4000000 x then .tuple #[.agg #[.int .i64 (gY x), .int .i64 (gM x), .int .i64 (gD x)], .int .i64 0] else .tuple #[.agg #[.int .i64 0, .int .i64 0, .int .i64 0], .int .i64 3]
theorem dateOut_yes {x : Int} (h : inB (-4000000) 4000000 x = true) : dateOut x = .tuple #[.agg #[.int .i64 (gY x), .int .i64 (gM x), .int .i64 (gD x)], .int .i64 0] := by rw [dateOut, h]; rfl
theorem dateOut_no {x : Int} (h : inB (-4000000) 4000000 x = false) : dateOut x = .tuple #[.agg #[.int .i64 0, .int .i64 0, .int .i64 0], .int .i64 3] := by rw [dateOut, h]; rfl
end Go.Proofs.YtjpbkkoflaajcabDoor
