/- A row of the call's own that is appended to reads as a list of integers. -/
import Derived.Test.YthpiiocncdpimaaDoorMem2
import Derived.Deep.AppendLies
namespace Go.Proofs.YthpiiocncdpimaaDoor
set_option linter.unusedVariables false
set_option maxRecDepth 100000
open Go.RowKit

theorem own_ints {w : World} {base : Nat} {v : Value} {n : Nat} {zs : List Int} (h : w.ownsRow base 3 1 v n (zs.map (Value.int .i64))) (hI : ∀ x ∈ zs, I64 x) (hn : zs.length = n) : ∃ a c, v = .slice a n c ∧ n ≤ c ∧ c ≤ 9223372036854775807 ∧ Ints w w.heap.size a n zs := by
  rcases h.2 with ⟨rfl, h0⟩ | ⟨g, cap, cur, rfl, _, hcur, hnc, hcm, hcs, htake⟩
  · have hz : n = 0 := h0
    subst hz
    exact ⟨none, 0, rfl, by omega, by omega, hn, by omega, hI, fun h => absurd h (by omega)⟩
  · unfold maxLen at hcm
    have hat : At w g (.cells cur 3) := hcur
    have ht : cur.toList.take n = zs.map (Value.int .i64) := by simpa using htake
    refine ⟨some ⟨g, 0, none⟩, cap, rfl, hnc, by omega, hn, by omega, hI, fun _ => ⟨g, 0, rfl, hat.lt, fun i hi => ?_⟩⟩
    have h1 : (cur.toList.take n)[i]? = some (.int .i64 (zs.getD i 0)) := by
      rw [ht, List.getElem?_map, List.getD_eq_getElem?_getD, List.getElem?_eq_getElem (by omega)]; rfl
    rw [List.getElem?_take, if_pos hi, Array.getElem?_toList] at h1
    rw [hat.cell (0 + i), Nat.zero_add, h1]
end Go.Proofs.YthpiiocncdpimaaDoor
