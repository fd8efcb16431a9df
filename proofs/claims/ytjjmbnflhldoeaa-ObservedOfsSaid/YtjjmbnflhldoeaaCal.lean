/- Contracts of compile.Check and of the reference's CalendarError. -/
import Derived.Test.YtjjmbnflhldoeaaMonths4
namespace Go.Proofs.Ytjjmbnflhldoeaa
set_option linter.unusedVariables false
set_option maxRecDepth 100000
open Go.RowKit

/-- The error of numbers that must lie in a range and increase, p being the one before. -/
def incErr (lo hi : Int) : Option Int → List Int → Int
  | _, [] => 0
  | p, y :: l => if inB lo hi y = false then 3 else if (match p with | some q => decide (y ≤ q) | none => false) = true then 9 else incErr lo hi (some y) l
theorem incErr_cons (lo hi : Int) (p : Option Int) (y : Int) (l : List Int) : incErr lo hi p (y :: l) = if inB lo hi y = false then 3 else if (match p with | some q => decide (y ≤ q) | none => false) = true then 9 else incErr lo hi (some y) l := by
  rw [incErr.eq_def]
def prevAt (xs : List Int) : Nat → Option Int
  | 0 => none
  | k + 1 => xs[k]?
/-- k numbers are in order. -/
def IncTo (lo hi : Int) (xs : List Int) (k : Nat) : Prop := incErr lo hi (prevAt xs k) (xs.drop k) = incErr lo hi none xs
theorem IncTo.start (lo hi : Int) (xs : List Int) : IncTo lo hi xs 0 := rfl
theorem IncTo.range {lo hi : Int} {xs : List Int} {k : Nat} {y : Int} (h : IncTo lo hi xs k) (hx : xs[k]? = some y) (hy : inB lo hi y = false) : incErr lo hi none xs = 3 := by
  rw [← h, drop_one hx, incErr_cons, if_pos hy]
theorem IncTo.first {lo hi : Int} {xs : List Int} {y : Int} (h : IncTo lo hi xs 0) (hx : xs[0]? = some y) (hy : inB lo hi y = true) : IncTo lo hi xs 1 := by
  unfold IncTo at h ⊢
  rw [← h, drop_one hx, incErr_cons, if_neg (by rw [hy]; simp), prevAt, prevAt, hx]
  simp
theorem IncTo.order {lo hi : Int} {xs : List Int} {k : Nat} {y q : Int} (h : IncTo lo hi xs (k + 1)) (hx : xs[k + 1]? = some y) (hq : xs[k]? = some q) (hy : inB lo hi y = true) (hle : y ≤ q) : incErr lo hi none xs = 9 := by
  rw [← h, drop_one hx, incErr_cons, if_neg (by rw [hy]; simp), prevAt, hq, if_pos (by simpa using hle)]
theorem IncTo.next {lo hi : Int} {xs : List Int} {k : Nat} {y q : Int} (h : IncTo lo hi xs (k + 1)) (hx : xs[k + 1]? = some y) (hq : xs[k]? = some q) (hy : inB lo hi y = true) (hle : ¬ y ≤ q) : IncTo lo hi xs (k + 1 + 1) := by
  unfold IncTo at h ⊢
  rw [← h, drop_one hx, incErr_cons, if_neg (by rw [hy]; simp), prevAt, prevAt, hq, hx, if_neg (by simpa using hle)]
theorem IncTo.last {lo hi : Int} {xs : List Int} {k : Nat} (h : IncTo lo hi xs k) (hk : xs.length ≤ k) : incErr lo hi none xs = 0 := by
  rw [← h, List.drop_eq_nil_of_le hk, incErr]
/-- The error of a calendar. -/
def calErr (s : ByteArray) (f c : Int) (ms : List Mon) (ls : List Int) : Int := if headErr s f c ≠ 0 then headErr s f c else if monthsErr ms ≠ 0 then monthsErr ms else incErr 1 c none ls
theorem calErr_head {s : ByteArray} {f c : Int} {ms : List Mon} {ls : List Int} (h : headErr s f c ≠ 0) : calErr s f c ms ls = headErr s f c := if_pos h
theorem calErr_months {s : ByteArray} {f c : Int} {ms : List Mon} {ls : List Int} (h : headErr s f c = 0) (h' : monthsErr ms ≠ 0) : calErr s f c ms ls = monthsErr ms := by rw [calErr, if_neg (by omega), if_pos h']
theorem calErr_leaps {s : ByteArray} {f c : Int} {ms : List Mon} {ls : List Int} (h : headErr s f c = 0) (h' : monthsErr ms = 0) : calErr s f c ms ls = incErr 1 c none ls := by rw [calErr, if_neg (by omega), if_neg (by omega)]

/-- A calendar as a value. -/
def calV (s : ByteArray) (f c : Int) (a1 a2 : Option Addr) (n1 c1 n2 c2 : Nat) : Array Value := #[.string s, .int .i64 f, .int .i64 c, .slice a1 n1 c1, .slice a2 n2 c2]
theorem headErr_name {s : ByteArray} {f c : Int} (h : isName s = false) : headErr s f c = 5 := by rw [headErr, if_pos h]
theorem headErr_range {s : ByteArray} {f c : Int} (h : isName s = true) (h' : (inB (-4000000) 4000000 f && inB 1 3000 c) = false) : headErr s f c = 3 := by rw [headErr, if_neg (by rw [h]; simp), if_pos h']
theorem headErr_ok {s : ByteArray} {f c : Int} (h : isName s = true) (h1 : inB (-4000000) 4000000 f = true) (h2 : inB 1 3000 c = true) : headErr s f c = 0 := by rw [headErr, if_neg (by rw [h]; simp), if_neg (by rw [h1, h2]; simp)]
end Go.Proofs.Ytjjmbnflhldoeaa
