/- Contract of arith.FromDay. -/
import Derived.Test.YtjekdceicjnamaaFrom2
import Derived.Test.YtjekdceicjnamaaFrom4
namespace Go.Proofs.Ytjekdceicjnamaa
set_option linter.unusedVariables false
set_option maxRecDepth 100000
open Go.RowKit

theorem place_of_year {s : ByteArray} {f c : Int} {ms : List Mon} {ls : List Int} (ok : CalOk s f c ms ls) {x y : Int} (h : InYear ms ls f c y x) (y1 : -10000 ≤ y) (y2 : y ≤ 10000) : Place ms ls f c x (y + 10002).toNat := by
  refine ⟨by omega, fun i hi => ?_, fun _ => ?_⟩
  · have := nyOf_lt ok (show -10001 + (i : Int) ≤ y by omega)
    have := h.1; omega
  · rw [show -10001 + ((y + 10002).toNat : Int) = y + 1 by omega]; exact h.2
theorem year_of_place {f c : Int} {ms : List Mon} {ls : List Int} {x : Int} {r : Nat} (h : Place ms ls f c x r) (y1 : -10000 ≤ -10001 + (r : Int) - 1) (y2 : -10001 + (r : Int) - 1 ≤ 10000) : InYear ms ls f c (-10001 + (r : Int) - 1) x := by
  refine ⟨?_, ?_⟩
  · have := h.2.1 (r - 1) (by omega)
    rwa [show -10001 + ((r - 1 : Nat) : Int) = -10001 + (r : Int) - 1 by omega] at this
  · have := h.2.2 (by omega)
    rwa [show -10001 + (r : Int) - 1 + 1 = -10001 + (r : Int) by omega]
end Go.Proofs.Ytjekdceicjnamaa
