/- Contracts of arith.NewYear, arith.Leap, arith.Month. -/
import Derived.Test.YtjjmbnflhldoeaaArith2
namespace Go.Proofs.Ytjjmbnflhldoeaa
set_option linter.unusedVariables false
set_option maxRecDepth 100000
open Go.RowKit

theorem ayErr_ok {y : Int} (h1 : -10000 ≤ y) (h2 : y ≤ 10000) : ayErr 0 y = 0 := by rw [ayErr, if_neg (by omega), if_pos (inB_yes h1 h2)]
theorem ayErr_range {y : Int} (h : inB (-10000) 10000 y = false) : ayErr 0 y = 3 := by rw [ayErr, if_neg (by omega), if_neg (by rw [h]; simp)]
theorem ayErr_err {e y : Int} (h : e ≠ 0) : ayErr e y = e := if_pos h
theorem ok_n1 {w : World} {a1 a2 : Option Addr} {n1 n2 : Nat} {ms : List Mon} {ls : List Int} {s : ByteArray} {f c : Int} (h : CalAt w a1 a2 n1 n2 ms ls) (ok : CalOk s f c ms ls) : 1 ≤ n1 ∧ n1 ≤ 20 ∧ n2 ≤ 3000 ∧ (n2 : Int) ≤ c := by
  have h1 := h.1.len; have h2 := h.2.1; have h3 := ok.ml1; have h4 := ok.ml2; have h5 := ok.count.2; have h6 := ok.cy2
  omega
def dayOr (d : Int) : Value := if inB (-4000000) 4000000 d then .tuple #[.int .i64 d, .int .i64 0] else .tuple #[.int .i64 0, .int .i64 3]
end Go.Proofs.Ytjjmbnflhldoeaa
