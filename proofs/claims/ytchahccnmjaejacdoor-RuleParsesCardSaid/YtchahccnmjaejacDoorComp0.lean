/- Contract of slices.Clone at []api.RuleMonth. -/
import Derived.Test.YtchahccnmjaejacDoorMgA
import Derived.Test.YtchahccnmjaejacDoorQuiet
import Derived.Test.YtchahccnmjaejacDoorOwn
import Derived.Lib.SliceRun
namespace Go.Proofs.YtchahccnmjaejacDoor
set_option linter.unusedVariables false
set_option maxRecDepth 100000
open Go.RowKit

theorem Tryd.infoMonth : (Tryd.prog.info? 43).map (fun i => (i.zero, i.size, i.bytes)) = some (some (.agg #[.string ByteArray.empty, .int .i64 0, .int .i64 0]), 3, 32) := by kernel_rfl
theorem mon_len (ms : List Mon) : (ms.flatMap encM).length = ms.length * 3 := by
  induction ms with
  | nil => rfl
  | cons x l ih => rw [List.flatMap_cons, List.length_append, ih, List.length_cons, Nat.add_mul]; simp [encM]; omega
theorem mon_at : ∀ (ms : List Mon) (i : Nat) (x : Mon) (j : Nat) (v : Value), ms[i]? = some x → (encM x)[j]? = some v → (ms.flatMap encM)[i * 3 + j]? = some v
  | [], i, x, j, v, h, _ => by simp at h
  | y :: l, 0, x, j, v, h, hv => by
    simp at h; subst h
    have hj : j < 3 := by
      rcases Nat.lt_or_ge j 3 with h | h
      · exact h
      · rw [List.getElem?_eq_none (by simp [encM]; omega)] at hv; cases hv
    rw [List.flatMap_cons, List.getElem?_append_left (by simp [encM]; omega)]
    simpa using hv
  | y :: l, i + 1, x, j, v, h, hv => by
    rw [List.flatMap_cons, List.getElem?_append_right (by simp [encM]; omega)]
    have := mon_at l i x j v (by simpa using h) hv
    rw [show (i + 1) * 3 + j - (encM y).length = i * 3 + j by simp [encM]; omega]
    exact this
theorem mon_split (ms : List Mon) (k : Nat) (v : Value) (h : (ms.flatMap encM)[k]? = some v) : ∃ x, ms[k / 3]? = some x ∧ (encM x)[k % 3]? = some v := by
  have hk : k < ms.length * 3 := by
    rcases Nat.lt_or_ge k (ms.length * 3) with h' | h'
    · exact h'
    · rw [List.getElem?_eq_none (by rw [mon_len]; exact h')] at h; cases h
  have hx : ms[k / 3]? = some (ms[k / 3]'(by omega)) := List.getElem?_eq_getElem (by omega)
  refine ⟨_, hx, ?_⟩
  have hj : k % 3 < 3 := Nat.mod_lt _ (by omega)
  have hv : (encM (ms[k / 3]'(by omega)))[k % 3]? = some ((encM (ms[k / 3]'(by omega)))[k % 3]'(by simp [encM]; omega)) := List.getElem?_eq_getElem _
  have := mon_at ms (k / 3) _ (k % 3) _ hx hv
  rw [show k / 3 * 3 + k % 3 = k by omega, h] at this
  rw [hv, this]
/-- A row of the call's own reads as months. -/
theorem own_months {w : World} {base : Nat} {v : Value} {n : Nat} {ms : List Mon} (h : w.ownsRow base 43 3 v n (ms.flatMap encM)) (hn : ms.length = n) (hok : ∀ x ∈ ms, okM x) :
    ∃ a c, v = .slice a n c ∧ n ≤ c ∧ c ≤ 9223372036854775807 ∧ Months w w.heap.size a n ms := by
  rcases h.2 with ⟨rfl, h0⟩ | ⟨g, cap, cur, rfl, _, hcur, hnc, hcm, hcs, htake⟩
  · subst h0
    exact ⟨none, 0, rfl, by omega, by omega, ⟨hn, by omega, fun h => absurd h (by omega)⟩, hok⟩
  · unfold maxLen at hcm
    have hat : At w g (.cells cur 43) := hcur
    refine ⟨some ⟨g, 0, none⟩, cap, rfl, hnc, by omega, ⟨hn, by omega, fun _ => ⟨g, 0, rfl, hat.lt, fun i x hx j u hu => ?_⟩⟩, hok⟩
    have h1 := mon_at ms i x j u hx hu
    rw [← htake, List.getElem?_take] at h1
    split at h1
    · rw [hat.cell, ← h1, Nat.zero_add, Array.getElem?_toList]
    · cases h1
/-- A copy of the months in a row of the call's own (own_months reads it). -/
def ClonePost (w : World) (n : Nat) (ms : List Mon) (e : Ending) (w' : World) : Prop := ∃ a c, e = .returned (.slice a n c) ∧ n ≤ c ∧ w'.ownsRow w.heap.size 43 3 (.slice a n c) n (ms.flatMap encM) ∧ Below w.heap.size w w'
end Go.Proofs.YtchahccnmjaejacDoor
