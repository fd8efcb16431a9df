/- Contracts of compile.Lengths, compile.Total and of arith's inner functions place, leap, length, newYear, check, isYear. -/
import Derived.Test.YtjjmbnflhldoeaaSearch
namespace Go.Proofs.Ytjjmbnflhldoeaa
set_option linter.unusedVariables false
set_option maxRecDepth 100000
open Go.RowKit

/-- A calendar's months and leap years in memory. -/
def CalAt (w : World) (a1 a2 : Option Addr) (n1 n2 : Nat) (ms : List Mon) (ls : List Int) : Prop := Months w w.heap.size a1 n1 ms ∧ Ints w w.heap.size a2 n2 ls
theorem CalAt.then_ {w w' : World} {a1 a2 : Option Addr} {n1 n2 : Nat} {ms : List Mon} {ls : List Int} (h : CalAt w a1 a2 n1 n2 ms ls) (hb : Below w.heap.size w w') : CalAt w' a1 a2 n1 n2 ms ls :=
  ⟨(h.1.below hb (Nat.le_refl _)).more hb.size, (h.2.below hb (Nat.le_refl _)).more hb.size⟩
theorem CalAt.alloc {w : World} {a1 a2 : Option Addr} {n1 n2 : Nat} {ms : List Mon} {ls : List Int} (h : CalAt w a1 a2 n1 n2 ms ls) (o : Obj) : CalAt (w.alloc o) a1 a2 n1 n2 ms ls := h.then_ (below_new (Below.refl _ _) o)

theorem total_eq (s : ByteArray) (f c : Int) (ms : List Mon) (ls : List Int) (h : CalOk s f c ms ls) : (c - (ls.length : Int)) * shortOf ms + (ls.length : Int) * longOf ms = daysTo (shortOf ms) (longOf ms) ls c := by
  unfold daysTo
  rw [h.count.1, Int.sub_mul, Int.mul_sub]
  omega
theorem mul_bound (a b A B : Int) (h1 : 0 ≤ a) (h2 : a ≤ A) (h3 : 0 ≤ b) (h4 : b ≤ B) : 0 ≤ a * b ∧ a * b ≤ A * B :=
  ⟨Int.mul_nonneg h1 h3, Int.mul_le_mul h2 h4 h3 (by omega)⟩
/-- What compile.Total hands back. -/
def totalOut (s : ByteArray) (f c : Int) (ms : List Mon) (ls : List Int) : Value := if calErr s f c ms ls ≠ 0 then .tuple #[.int .i64 0, .int .i64 (calErr s f c ms ls)] else .tuple #[.int .i64 (daysTo (shortOf ms) (longOf ms) ls c), .int .i64 0]
end Go.Proofs.Ytjjmbnflhldoeaa
