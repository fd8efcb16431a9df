/- Cells of a table, plain: a text is its own trim just where no blank stands at an end. -/
import Derived.Lib.TrimByte
import Derived.Lib.Strings
namespace Go.Proofs.YthpiiocncdpimaaDoor
set_option linter.unusedVariables false

theorem pre_one (c : UInt8) (l : List UInt8) : [c].isPrefixOf l = (match l with | [] => false | x :: _ => c == x) := by
  cases l with
  | nil => rfl
  | cons x r => simp [List.isPrefixOf]
theorem dw_same (c : UInt8) (l : List UInt8) : l.dropWhile (· == c) = l ↔ [c].isPrefixOf l = false := by
  rw [pre_one]
  cases l with
  | nil => simp
  | cons x r =>
    by_cases h : x = c
    · subst h
      simp only [beq_self_eq_true]
      constructor
      · intro e
        rw [List.dropWhile_cons_of_pos (by simp)] at e
        have h1 := congrArg List.length e
        have h2 := (List.dropWhile_suffix (· == x) (l := r)).length_le
        simp at h1; omega
      · intro e; cases e
    · rw [List.dropWhile_cons_of_neg (by simpa using h)]
      simpa using fun e => h e.symm
theorem dw_len (c : UInt8) (l : List UInt8) : (l.dropWhile (· == c)).length ≤ l.length := (List.dropWhile_suffix (· == c)).length_le
theorem dw_full (c : UInt8) (l : List UInt8) (h : (l.dropWhile (· == c)).length = l.length) : l.dropWhile (· == c) = l := (List.dropWhile_suffix (· == c)).eq_of_length h
theorem suf_one (c : UInt8) (l : List UInt8) : Lib.hasSuffix l [c] = [c].isPrefixOf l.reverse := rfl
theorem trim_same (c : UInt8) (l : List UInt8) : Lib.trimB l c = l ↔ ([c].isPrefixOf l = false ∧ Lib.hasSuffix l [c] = false) := by
  rw [suf_one, ← dw_same, ← dw_same]
  unfold Lib.trimB Lib.trimLeftB Lib.trimRightB
  constructor
  · intro e
    have h1 := dw_len c (l.reverse.dropWhile (· == c)).reverse
    have h2 := dw_len c l.reverse
    rw [e] at h1
    simp only [List.length_reverse] at h1 h2
    have h3 := dw_full c l.reverse (by simp only [List.length_reverse]; omega)
    rw [h3, List.reverse_reverse] at e
    exact ⟨e, h3⟩
  · rintro ⟨h1, h2⟩
    rw [h2, List.reverse_reverse, h1]
end Go.Proofs.YthpiiocncdpimaaDoor
