/- Rows of parts of a pattern (a mark and a text), of the call's own and read. -/
import Derived.Test.YtjjmbnflhldoeacPat1
import Derived.Test.YtjjmbnflhldoeacMonths
import Derived.Test.YtjjmbnflhldoeacStore
import Derived.Deep.AppendLies
namespace Go.Proofs.Ytjjmbnflhldoeac
set_option linter.unusedVariables false
set_option maxRecDepth 100000
open Go.RowKit

def encPc (x : Pc) : List Value := [.bool x.1, .string ⟨x.2.toArray⟩]
theorem infoPart : (Try.prog.info? 43).map (fun i => (i.zero, i.size, i.bytes)) = some (some (.agg #[.bool false, .string ⟨#[]⟩]), 2, 24) := by kernel_rfl
theorem infoPiece : (Try.prog.info? 38).map (fun i => (i.zero, i.size, i.bytes)) = some (some (.agg #[.bool false, .string ⟨#[]⟩]), 2, 24) := by kernel_rfl
theorem own_thenP {w w' : World} {base : Nat} {e : TypeId} {size : Nat} {v : Value} {n : Nat} {xs : List Value} (h : w.ownsRow base e size v n xs) (hb : Below w.heap.size w w') : w'.ownsRow base e size v n xs := by
  refine ⟨h.1, ?_⟩
  rcases h.2 with h0 | ⟨g, cap, cur, hv, hg, hat, rest⟩
  · exact .inl h0
  · exact .inr ⟨g, cap, cur, hv, hg, (show At w g _ from hat).then_ hb, rest⟩
theorem own_farP {w : World} {base : Nat} {e : TypeId} {size : Nat} {v : Value} {n : Nat} {xs : List Value} (h : w.ownsRow base e size v n xs) {b : Nat} (hb : v.ownBlock = some b) : base ≤ b := by
  rcases h.2 with ⟨rfl, _⟩ | ⟨g, cap, cur, rfl, hg, _⟩
  · cases hb
  · cases hb; exact hg
theorem pc_at : ∀ (ms : List Pc) (i : Nat) (x : Pc) (j : Nat) (v : Value), ms[i]? = some x → (encPc x)[j]? = some v → (ms.flatMap encPc)[i * 2 + j]? = some v
  | [], i, x, j, v, h, _ => by simp at h
  | y :: l, 0, x, j, v, h, hv => by
    simp at h; subst h
    have hj : j < 2 := by
      rcases Nat.lt_or_ge j 2 with h | h
      · exact h
      · rw [List.getElem?_eq_none (by simp [encPc]; omega)] at hv; cases hv
    rw [List.flatMap_cons, List.getElem?_append_left (by simp [encPc]; omega)]
    simpa using hv
  | y :: l, i + 1, x, j, v, h, hv => by
    rw [List.flatMap_cons, List.getElem?_append_right (by simp [encPc]; omega)]
    have := pc_at l i x j v (by simpa using h) hv
    rw [show (i + 1) * 2 + j - (encPc y).length = i * 2 + j by simp [encPc]; omega]
    exact this
/-- A row of the call's own reads as parts. -/
theorem own_parts {w : World} {base : Nat} {T : TypeId} {v : Value} {n : Nat} {ms : List Pc} (h : w.ownsRow base T 2 v n (ms.flatMap encPc)) (hn : ms.length = n) :
    ∃ a c, v = .slice a n c ∧ n ≤ c ∧ c ≤ 9223372036854775807 ∧ RowsOf 2 encPc w w.heap.size a n ms := by
  rcases h.2 with ⟨rfl, h0⟩ | ⟨g, cap, cur, rfl, _, hcur, hnc, hcm, hcs, htake⟩
  · have hz : n = 0 := h0
    subst hz
    exact ⟨none, 0, rfl, by omega, by omega, ⟨hn, by omega, fun h => absurd h (by omega)⟩⟩
  · unfold maxLen at hcm
    have hat : At w g (.cells cur T) := hcur
    refine ⟨some ⟨g, 0, none⟩, cap, rfl, hnc, by omega, ⟨hn, by omega, fun _ => ⟨g, 0, rfl, hat.lt, fun i x hx j u hu => ?_⟩⟩⟩
    have h1 := pc_at ms i x j u hx hu
    rw [← htake, List.getElem?_take] at h1
    split at h1
    · rw [hat.cell, ← h1, Nat.zero_add, Array.getElem?_toList]
    · cases h1
def strLen : Value → Nat | .string s => s.size | _ => 0
/-- What a splitting function hands back: the parts in a row of its own, or an error. -/
def SplitPost (T : TypeId) (big : Bool) (r : Option (List Pc)) (w : World) (e : Ending) (w' : World) : Prop :=
  match big, r with
  | true, _ => e = .returned (.tuple #[.slice none 0 0, .int .i64 2]) ∧ Below w.heap.size w w'
  | false, none => e = .returned (.tuple #[.slice none 0 0, .int .i64 4]) ∧ Below w.heap.size w w'
  | false, some ps => ∃ v, e = .returned (.tuple #[v, .int .i64 0]) ∧ w'.ownsRow w.heap.size T 2 v ps.length (ps.flatMap encPc) ∧ Below w.heap.size w w'
end Go.Proofs.Ytjjmbnflhldoeac
