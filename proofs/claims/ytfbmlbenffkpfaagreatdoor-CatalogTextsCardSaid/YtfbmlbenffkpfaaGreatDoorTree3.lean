/- What an expression of a rule evaluates to, plain. -/
import Derived.Test.YtfbmlbenffkpfaaGreatDoorTree0
namespace Go.Proofs.YtfbmlbenffkpfaaGreatDoor
set_option linter.unusedVariables false
set_option maxRecDepth 100000
open Go.RowKit

def bitOf (b : Bool) : Int := if b then 1 else 0
/-- An operation: its value and its error. -/
def rawVal (k n y a b : Int) : Int × Int :=
  if k = 1 then (n, 0) else if k = 2 then (y, 0) else if k = 3 then (-a, 0) else if k = 4 then (a + b, 0) else if k = 5 then (a - b, 0) else if k = 6 then (a * b, 0)
  else if k = 7 then (if b = 0 then (0, 1) else (dq a b, 0)) else if k = 8 then (if b = 0 then (0, 1) else (dr a b, 0))
  else if k = 9 then (bitOf (decide (a < b)), 0) else if k = 10 then (bitOf (a == b), 0) else if k = 11 then (bitOf (a == 0), 0)
  else if k = 12 then (bitOf (!(a == 0) && !(b == 0)), 0) else (bitOf (!(a == 0) || !(b == 0)), 0)
def finVal (r : Int × Int) : Int × Int := if r.2 ≠ 0 then (0, r.2) else if inB (-2147483647) 2147483647 r.1 = false then (0, 14) else (r.1, 0)
/-- The value of an expression for a year, and the error. -/
def evalGo : Tree → Int → Int × Int
  | .node k n [], y => finVal (rawVal k n y 0 0)
  | .node k n [t], y => if (evalGo t y).2 ≠ 0 then (0, (evalGo t y).2) else finVal (rawVal k n y (evalGo t y).1 0)
  | .node k n (t :: u :: _), y => if (evalGo t y).2 ≠ 0 then (0, (evalGo t y).2) else if (evalGo u y).2 ≠ 0 then (0, (evalGo u y).2) else finVal (rawVal k n y (evalGo t y).1 (evalGo u y).1)
theorem evalGo_0 (k n y : Int) : evalGo (.node k n []) y = finVal (rawVal k n y 0 0) := by rw [evalGo]
theorem evalGo_1 (k n y : Int) (t : Tree) : evalGo (.node k n [t]) y = if (evalGo t y).2 ≠ 0 then (0, (evalGo t y).2) else finVal (rawVal k n y (evalGo t y).1 0) := by rw [evalGo]
theorem evalGo_2 (k n y : Int) (t u : Tree) (l : List Tree) : evalGo (.node k n (t :: u :: l)) y = if (evalGo t y).2 ≠ 0 then (0, (evalGo t y).2) else if (evalGo u y).2 ≠ 0 then (0, (evalGo u y).2) else finVal (rawVal k n y (evalGo t y).1 (evalGo u y).1) := by rw [evalGo]
theorem finVal_ok (r : Int × Int) : -2147483647 ≤ (finVal r).1 ∧ (finVal r).1 ≤ 2147483647 := by
  unfold finVal
  split
  · simp only; omega
  · rcases inB_cases (-2147483647) 2147483647 r.1 with ⟨h, h1, h2⟩ | ⟨h, h1⟩
    · rw [if_neg (by rw [h]; simp)]; exact ⟨h1, h2⟩
    · rw [if_pos h]; simp only; omega
theorem evalGo_bound (t : Tree) (y : Int) : -2147483647 ≤ (evalGo t y).1 ∧ (evalGo t y).1 ≤ 2147483647 := by
  cases t with
  | node k n ks =>
    match ks with
    | [] => rw [evalGo_0]; exact finVal_ok _
    | [t] =>
      rw [evalGo_1]
      split
      · simp only; omega
      · exact finVal_ok _
    | t :: u :: l =>
      rw [evalGo_2]
      split
      · simp only; omega
      · split
        · simp only; omega
        · exact finVal_ok _
/-- Every node of a tree has a kind, a number and as many kids as it should. -/
def Tree.ok : Tree → Prop
  | .node k n ks => nodeB k n ks.length = true ∧ ∀ t ∈ ks, t.ok
theorem Tree.ok_node {k n : Int} {ks : List Tree} : (Tree.node k n ks).ok ↔ nodeB k n ks.length = true ∧ ∀ t ∈ ks, t.ok := by rw [Tree.ok]
mutual
theorem exprGo_ok : ∀ (t : Tree) (d c : Int), (exprGo t d c).1 = 0 → t.ok
  | .node k n ks, d, c, h => by
    rw [exprGo_node] at h
    by_cases h1 : 60 < c + 1 ∨ 12 < d
    · rw [if_pos h1] at h; cases h
    rw [if_neg h1] at h
    by_cases h2 : nodeB k n ks.length = false
    · rw [if_pos h2] at h; cases h
    rw [if_neg h2] at h
    rw [Tree.ok]
    exact ⟨by simpa using h2, exprRow_ok ks (d + 1) (c + 1) h⟩
theorem exprRow_ok : ∀ (ts : List Tree) (d c : Int), (exprRow ts d c).1 = 0 → ∀ t ∈ ts, t.ok
  | [], d, c, h => by simp
  | t :: ts, d, c, h => by
    rw [exprRow_cons] at h
    by_cases h1 : (exprGo t d c).1 ≠ 0
    · rw [if_pos h1] at h; exact absurd h h1
    rw [if_neg h1] at h
    intro x hx
    rcases List.mem_cons.1 hx with hx | hx
    · rw [hx]; exact exprGo_ok t d c (by omega)
    · exact exprRow_ok ts d _ h x hx
end
theorem exprErr_ok {t : Tree} (h : exprErr t = 0) : t.ok := exprGo_ok t 1 0 h
end Go.Proofs.YtfbmlbenffkpfaaGreatDoor
