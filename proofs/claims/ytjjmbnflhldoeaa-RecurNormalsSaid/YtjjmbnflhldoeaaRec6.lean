/- Contracts of the reference's has, of recur.Days and of the law's recurError. -/
import Derived.Test.YtjjmbnflhldoeaaRec5
import Derived.Test.YtjjmbnflhldoeaaRecur3
namespace Go.Proofs.Ytjjmbnflhldoeaa
set_option linter.unusedVariables false
set_option maxRecDepth 100000
open Go.RowKit greg

/-- What a valid recurrence is. -/
structure RecOk (u ev f cn un : Int) (ws ms ns : List Int) : Prop where
  u1 : 1 ≤ u
  u2 : u ≤ 4
  e1 : 1 ≤ ev
  e2 : ev ≤ 1000
  f1 : -4000000 ≤ f
  f2 : f ≤ 4000000
  g1 : -4000000 ≤ un
  g2 : un ≤ 4000000
  fu : f ≤ un
  k1 : 0 ≤ cn
  k2 : cn ≤ 1000
  l1 : ws.length ≤ 31
  l2 : ms.length ≤ 31
  l3 : ns.length ≤ 31
theorem listOut_len {lo hi : Int} {z : Bool} {l : List Int} (h : listOut lo hi z l = 0) : l.length ≤ 31 := by
  unfold listOut at h
  split at h
  · omega
  · omega
theorem recOk_of {u ev f cn un : Int} {ws ms ns : List Int} (h : recurErr u ev f cn un ws ms ns = 0) : RecOk u ev f cn un ws ms ns := by
  unfold recurErr at h
  split at h
  · omega
  · split at h
    · omega
    · split at h
      · rename_i q; exact absurd h q
      · split at h
        · rename_i q; exact absurd h q
        · rename_i q1 q2 q3 q4
          have e1 := listOut_len (Decidable.not_not.1 q3)
          have e2 := listOut_len (Decidable.not_not.1 q4)
          have e3 := listOut_len h
          constructor <;> omega
def daysErr (u ev f cn un : Int) (ws ms ns : List Int) (a b : Int) : Int := if recurErr u ev f cn un ws ms ns ≠ 0 then recurErr u ev f cn un ws ms ns else rangeErr f a b
theorem rangeErr_zero {f a b : Int} (h : rangeErr f a b = 0) : -4000000 ≤ a ∧ a ≤ 4000000 ∧ -4000000 ≤ b ∧ b ≤ 4000000 ∧ a ≤ b ∧ b ≤ f + 40000 ∧ b - a ≤ 3000 := by
  unfold rangeErr at h
  split at h
  · omega
  · rename_i q
    split at h
    · omega
    · split at h
      · omega
      · rcases inB_cases (-4000000) 4000000 a with ⟨_, h1, h2⟩ | ⟨ha, _⟩
        · rcases inB_cases (-4000000) 4000000 b with ⟨_, h3, h4⟩ | ⟨hb, _⟩
          · omega
          · exact absurd (.inr hb) q
        · exact absurd (.inl ha) q
def DaysOut (u ev f cn un : Int) (ws ms ns : List Int) (a b : Int) (w : World) (e : Ending) (w' : World) : Prop :=
  (daysErr u ev f cn un ws ms ns a b ≠ 0 ∧ e = .returned (.tuple #[.slice none 0 0, .int .i64 (daysErr u ev f cn un ws ms ns a b)]) ∧ Below w.heap.size w w') ∨
  (daysErr u ev f cn un ws ms ns a b = 0 ∧ ∃ p n c, e = .returned (.tuple #[.slice p n c, .int .i64 0]) ∧ n ≤ c ∧ c ≤ 9223372036854775807 ∧ Ints w' w'.heap.size p n (daysL u ev f cn un ws ms ns a b) ∧ Below w.heap.size w w')
end Go.Proofs.Ytjjmbnflhldoeaa
