/- Contract of recur.fits. -/
import Derived.Test.YtjjmbnflhldoeaaRec1
import Derived.Test.YtjjmbnflhldoeaaRecur2
import Derived.Test.YtjjmbnflhldoeaaLex
import Derived.Deep.Cut
import Derived.Deep.CutRange
namespace Go.Proofs.Ytjjmbnflhldoeaa
set_option linter.unusedVariables false
set_option maxRecDepth 100000
open Go.RowKit

/-- The last part of the definition of a fitting day. -/
def fitsEnd (u : Int) (ws ms ns : List Int) (k0 m0 d0 k m d : Int) : Bool :=
  if 0 < ws.length + ms.length then true else if u = 2 then k == k0 else if u = 3 then d == d0 else if u = 4 then (d == d0) && (decide (0 < ns.length) || (m == m0)) else true
/-- Whether a day fits, apart from its range. -/
def fitsB (u ev : Int) (ws ms ns : List Int) (x0 k0 y0 m0 d0 x k y m d l : Int) : Bool :=
  !((unitOf u x y m - unitOf u x0 y0 m0).tmod ev != 0) && (listedB ns [m] && (listedB ws [k] && (listedB ms [d, d - l - 1] && fitsEnd u ws ms ns k0 m0 d0 k m d)))
theorem unitOf_in {u x y m : Int} (h1 : -4000000 ≤ x) (h2 : x ≤ 4000000) (y1 : -20000 ≤ y) (y2 : y ≤ 20000) (m1 : 1 ≤ m) (m2 : m ≤ 12) : -5000000 ≤ unitOf u x y m ∧ unitOf u x y m ≤ 5000000 := by
  unfold unitOf
  split
  · omega
  · split
    · omega
    · split <;> omega
theorem last17S {P0 P1 P2 P3 P4 P5 P6 P7 P8 P9 P10 P11 P12 P13 P14 P15 P16 R : Prop} (h : P0 ∧ P1 ∧ P2 ∧ P3 ∧ P4 ∧ P5 ∧ P6 ∧ P7 ∧ P8 ∧ P9 ∧ P10 ∧ P11 ∧ P12 ∧ P13 ∧ P14 ∧ P15 ∧ P16 ∧ R) : R := h.2.2.2.2.2.2.2.2.2.2.2.2.2.2.2.2.2
end Go.Proofs.Ytjjmbnflhldoeaa
