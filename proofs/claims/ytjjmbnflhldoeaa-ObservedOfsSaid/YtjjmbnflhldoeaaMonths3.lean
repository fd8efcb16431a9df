/- Contracts of rule.Months and of the reference's MonthsError. -/
import Derived.Test.YtjjmbnflhldoeaaMonths2
namespace Go.Proofs.Ytjjmbnflhldoeaa
set_option linter.unusedVariables false
set_option maxRecDepth 100000
open Go.RowKit

theorem shortOf_snoc (ms : List Mon) (x : Mon) : shortOf (ms ++ [x]) = shortOf ms + x.2.1 := by simp [shortOf]
theorem longOf_snoc (ms : List Mon) (x : Mon) : longOf (ms ++ [x]) = longOf ms + x.2.2 := by simp [longOf]
/-- What is known where k months are in order. -/
def MonthsTo (ms : List Mon) (k : Nat) (a b : Int) : Prop :=
  a = shortOf (ms.take k) ∧ b = longOf (ms.take k) ∧ 0 ≤ a ∧ a ≤ 400 * k ∧ 0 ≤ b ∧ b ≤ 400 * k ∧ monthsGo ((ms.take k).map (·.1)) a b (ms.drop k) = monthsGo [] 0 0 ms
theorem MonthsTo.start (ms : List Mon) : MonthsTo ms 0 0 0 := ⟨by simp [shortOf], by simp [longOf], by omega, by omega, by omega, by omega, by simp⟩
theorem MonthsTo.name {ms : List Mon} {k : Nat} {a b : Int} {s : ByteArray} {f g : Int} (h : MonthsTo ms k a b) (hx : ms[k]? = some (s, f, g)) (hn : isName s = false) : monthsGo [] 0 0 ms = 5 := by
  rw [← h.2.2.2.2.2.2, drop_one hx, monthsGo_cons, if_pos hn]
theorem MonthsTo.twice {ms : List Mon} {k : Nat} {a b : Int} {s : ByteArray} {f g : Int} (h : MonthsTo ms k a b) (hx : ms[k]? = some (s, f, g)) (hn : isName s = true) (ht : ((ms.take k).any fun x => x.1.toList == s.toList) = true) : monthsGo [] 0 0 ms = 7 := by
  rw [← h.2.2.2.2.2.2, drop_one hx, monthsGo_cons, if_neg (by rw [hn]; simp), any_names, if_pos ht]
theorem MonthsTo.range {ms : List Mon} {k : Nat} {a b : Int} {s : ByteArray} {f g : Int} (h : MonthsTo ms k a b) (hx : ms[k]? = some (s, f, g)) (hn : isName s = true) (ht : ((ms.take k).any fun x => x.1.toList == s.toList) = false) (hr : (inB 0 400 f && inB 0 400 g) = false) : monthsGo [] 0 0 ms = 3 := by
  rw [← h.2.2.2.2.2.2, drop_one hx, monthsGo_cons, if_neg (by rw [hn]; simp), any_names, if_neg (by rw [ht]; simp), if_pos hr]
theorem MonthsTo.next {ms : List Mon} {k : Nat} {a b : Int} {s : ByteArray} {f g : Int} (h : MonthsTo ms k a b) (hx : ms[k]? = some (s, f, g)) (hn : isName s = true) (ht : ((ms.take k).any fun x => x.1.toList == s.toList) = false) (hf : inB 0 400 f = true) (hg : inB 0 400 g = true) : MonthsTo ms (k + 1) (a + f) (b + g) := by
  have hf' := inB_iff.1 hf
  have hg' := inB_iff.1 hg
  obtain ⟨h1, h2, h3, h4, h5, h6, h7⟩ := h
  refine ⟨by rw [take_one hx, shortOf_snoc, ← h1], by rw [take_one hx, longOf_snoc, ← h2], by omega, by omega, by omega, by omega, ?_⟩
  rw [← h7, drop_one hx, monthsGo_cons, if_neg (by rw [hn]; simp), any_names, if_neg (by rw [ht]; simp), if_neg (by rw [hf, hg]; simp), take_one hx, List.map_append]
  rfl
theorem MonthsTo.last {ms : List Mon} {k : Nat} {a b : Int} (h : MonthsTo ms k a b) (hk : ms.length ≤ k) : monthsGo [] 0 0 ms = if a = 0 ∨ b = 0 then 8 else 0 := by
  rw [← h.2.2.2.2.2.2, List.drop_eq_nil_of_le hk, monthsGo]

end Go.Proofs.Ytjjmbnflhldoeaa
