/- The error of a table, plain. -/
import Derived.Test.YthpiiocncdpimaaDoorPage2
namespace Go.Proofs.YthpiiocncdpimaaDoor
set_option linter.unusedVariables false

/-- The first error of some texts. -/
def firstErr : List ByteArray → Int
  | [] => 0
  | s :: r => if cellErr s ≠ 0 then cellErr s else firstErr r
/-- The error of the heads behind those in pre. -/
def headErr (twice : Int) (pre : List ByteArray) : List ByteArray → Int
  | [] => 0
  | s :: r => if s.size = 0 then 8 else if pre.any (fun u => decide (u = s)) = true then twice else headErr twice (pre ++ [s]) r
def tblErr (twice : Int) (hd : List ByteArray) (rs : List (List ByteArray)) : Int :=
  if hd.length < 1 ∨ 12 < hd.length ∨ 400 < rs.length then 2
  else if rs.any (fun r => decide (r.length ≠ hd.length)) = true then 8
  else if firstErr (hd ++ rs.flatten) ≠ 0 then firstErr (hd ++ rs.flatten)
  else headErr twice [] hd
theorem firstErr_app : ∀ (l m : List ByteArray), firstErr (l ++ m) = if firstErr l ≠ 0 then firstErr l else firstErr m
  | [], m => by simp [firstErr]
  | s :: r, m => by
    rw [List.cons_append, firstErr, firstErr, firstErr_app r m]
    by_cases h : cellErr s ≠ 0
    · rw [if_pos h, if_pos h, if_pos h]
    · rw [if_neg h, if_neg h]
theorem firstErr_step {l : List ByteArray} {k : Nat} (h : k < l.length) (h0 : firstErr (l.take k) = 0) : firstErr (l.take (k + 1)) = cellErr (l.getD k ByteArray.empty) := by
  have e : l.take (k + 1) = l.take k ++ [l.getD k ByteArray.empty] := by
    rw [List.take_add_one, List.getElem?_eq_getElem h, List.getD_eq_getElem?_getD, List.getElem?_eq_getElem h]; rfl
  rw [e, firstErr_app, if_neg (by rw [h0]; simp)]
  simp only [firstErr]
  split
  · rfl
  · rename_i hz; omega
end Go.Proofs.YthpiiocncdpimaaDoor
