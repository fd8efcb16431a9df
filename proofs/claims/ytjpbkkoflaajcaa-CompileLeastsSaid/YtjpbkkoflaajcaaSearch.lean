/- Contracts of sort.Search, whatever the predicate, and of sort.SearchInts. -/
import Derived.Test.YtjpbkkoflaajcaaArith0
import Derived.Shelf.Abstract
namespace Go.Proofs.Ytjpbkkoflaajcaa
set_option linter.unusedVariables false
set_option maxRecDepth 100000
open Go.RowKit

def Found (n : Nat) (p : Nat → Bool) (w : World) (e : Ending) (w' : World) : Prop :=
  ∃ r : Nat, e = .returned (.int .i64 r) ∧ r ≤ n ∧ (∀ i, r = i + 1 → p i = false) ∧ (r < n → p r = true) ∧ Below w.heap.size w w'
theorem cnt_append (a b : List Int) (k : Int) : cnt (a ++ b) k = cnt a k + cnt b k := by unfold cnt; rw [List.filter_append, List.length_append]
theorem cnt_of {xs : List Int} {x : Int} {r : Nat} (hs : xs.Pairwise (· < ·)) (hr : r ≤ xs.length) (h1 : ∀ i, r = i + 1 → ∀ y, xs[i]? = some y → y < x) (h2 : ∀ y, xs[r]? = some y → x ≤ y) : cnt xs (x - 1) = r := by
  have hp := List.pairwise_iff_getElem.1 hs
  have e : xs = xs.take r ++ xs.drop r := (List.take_append_drop r xs).symm
  rw [e, cnt_append, cnt_all, cnt_zero, List.length_take]
  · omega
  · intro y hy
    obtain ⟨i, hi, rfl⟩ := List.getElem_of_mem hy
    rw [List.length_drop] at hi
    rw [List.getElem_drop]
    have h3 := h2 xs[r] (List.getElem?_eq_getElem (by omega))
    rcases Nat.eq_zero_or_pos i with rfl | hp0
    · simpa using (by omega : x - 1 < xs[r])
    · have := hp r (r + i) (by omega) (by omega) (by omega); omega
  · intro y hy
    obtain ⟨i, hi, rfl⟩ := List.getElem_of_mem hy
    rw [List.length_take] at hi
    rw [List.getElem_take]
    have h3 := h1 (r - 1) (by omega) xs[r - 1] (List.getElem?_eq_getElem (by omega))
    rcases Nat.lt_or_ge i (r - 1) with q | q
    · have := hp i (r - 1) (by omega) (by omega) q; omega
    · have : i = r - 1 := by omega
      subst this; omega
end Go.Proofs.Ytjpbkkoflaajcaa
