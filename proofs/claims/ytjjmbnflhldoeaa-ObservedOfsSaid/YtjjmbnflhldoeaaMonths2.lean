/- Contracts of rule.Head, rule.Months (with slices.ContainsFunc and its closure), and of the reference's MonthsError. -/
import Derived.Test.YtjjmbnflhldoeaaMonths
import Derived.Test.YtjjmbnflhldoeaaLine
import Derived.Test.YtjjmbnflhldoeaaName
namespace Go.Proofs.Ytjjmbnflhldoeaa
set_option linter.unusedVariables false
set_option maxRecDepth 100000
open Go.RowKit

theorem lenB_cases (a b : Int) : (inB 0 400 a = true ∧ 0 ≤ a ∧ a ≤ 400) ∧ (inB 0 400 b = true ∧ 0 ≤ b ∧ b ≤ 400) ∨ (inB 0 400 a && inB 0 400 b) = false ∧ (inB 0 400 a = false ∧ ¬ (0 ≤ a ∧ a ≤ 400) ∨ (inB 0 400 a = true ∧ 0 ≤ a ∧ a ≤ 400) ∧ inB 0 400 b = false ∧ ¬ (0 ≤ b ∧ b ≤ 400)) := by
  rcases inB_cases 0 400 a with h | h <;> rcases inB_cases 0 400 b with k | k
  · exact .inl ⟨h, k⟩
  · exact .inr ⟨by rw [k.1, Bool.and_false], .inr ⟨h, k⟩⟩
  · exact .inr ⟨by rw [h.1, Bool.false_and], .inl h⟩
  · exact .inr ⟨by rw [h.1, Bool.false_and], .inl h⟩
/-- The error of months, behind those whose names and sums are given. -/
def monthsGo : List ByteArray → Int → Int → List Mon → Int
  | _, a, b, [] => if a = 0 ∨ b = 0 then 8 else 0
  | seen, a, b, (s, f, g) :: l => if isName s = false then 5 else if (seen.any fun t => t.toList == s.toList) = true then 7 else if (inB 0 400 f && inB 0 400 g) = false then 3 else monthsGo (seen ++ [s]) (a + f) (b + g) l
theorem monthsGo_cons (seen : List ByteArray) (a b : Int) (s : ByteArray) (f g : Int) (l : List Mon) :
    monthsGo seen a b ((s, f, g) :: l) = if isName s = false then 5 else if (seen.any fun t => t.toList == s.toList) = true then 7 else if (inB 0 400 f && inB 0 400 g) = false then 3 else monthsGo (seen ++ [s]) (a + f) (b + g) l := by
  rw [monthsGo.eq_def]
def monthsErr (ms : List Mon) : Int := if ¬ (1 ≤ ms.length ∧ ms.length ≤ 20) then 2 else monthsGo [] 0 0 ms
def shortOf (ms : List Mon) : Int := (ms.map (·.2.1)).sum
def longOf (ms : List Mon) : Int := (ms.map (·.2.2)).sum
theorem drop_one {α : Type} {xs : List α} {k : Nat} {x : α} (h : xs[k]? = some x) : xs.drop k = x :: xs.drop (k + 1) := by
  obtain ⟨hl, rfl⟩ := List.getElem?_eq_some_iff.1 h
  exact List.drop_eq_getElem_cons hl
theorem take_one {α : Type} {xs : List α} {k : Nat} {x : α} (h : xs[k]? = some x) : xs.take (k + 1) = xs.take k ++ [x] := by
  obtain ⟨hl, rfl⟩ := List.getElem?_eq_some_iff.1 h
  exact List.take_succ_eq_append_getElem hl
theorem any_names (ms : List Mon) (s : ByteArray) : ((ms.map (·.1)).any fun t => t.toList == s.toList) = ms.any fun x => x.1.toList == s.toList := by
  rw [List.any_map]; rfl

/-- The error of a name, an epoch and a cycle. -/
def headErr (s : ByteArray) (f c : Int) : Int := if isName s = false then 5 else if (inB (-4000000) 4000000 f && inB 1 3000 c) = false then 3 else 0
/-! slices.ContainsFunc with the closure of rule.Months: a month of this name. -/
def idxName (t : ByteArray) (ms : List Mon) (w : World) (e : Ending) (w' : World) : Prop :=
  ∃ i : Int, e = .returned (.int .i64 i) ∧ decide (0 ≤ i) = (ms.any fun x => x.1.toList == t.toList) ∧ Below w.heap.size w w'
end Go.Proofs.Ytjjmbnflhldoeaa
