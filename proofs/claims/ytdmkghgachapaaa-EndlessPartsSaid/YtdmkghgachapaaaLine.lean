/- Contracts of package line, first part, and of the reference's days. -/
import Derived.Test.YtdmkghgachapaaaWhole
import Derived.Test.YtdmkghgachapaaaRef
namespace Go.Proofs.Ytdmkghgachapaaa
set_option linter.unusedVariables false
set_option maxRecDepth 100000
open Go.RowKit

/-- The error of a day. -/
def chk (x : Int) : Int := if -4000000 ≤ x ∧ x ≤ 4000000 then 0 else 3
theorem chk_yes {x : Int} (h1 : -4000000 ≤ x) (h2 : x ≤ 4000000) : chk x = 0 := if_pos ⟨h1, h2⟩
theorem chk_no {x : Int} (h : ¬ (-4000000 ≤ x ∧ x ≤ 4000000)) : chk x = 3 := if_neg h
end Go.Proofs.Ytdmkghgachapaaa
