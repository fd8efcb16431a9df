/- The rules 'summer' of the laws. -/
import Derived.Test.YtjpbkkoflaajcabDoorFore1
import Derived.Test.YtjpbkkoflaajcabDoorStore
namespace Go.Proofs.YtjpbkkoflaajcabDoor
set_option linter.unusedVariables false
set_option maxRecDepth 100000
open Go.RowKit

def sumRul (wk : Int) : List Rul := [(3, wk, 6, 3600000, 7200000, ⟨#[83, 85, 77]⟩)]
def sumCells (wk : Int) : Array Value := #[.int .i64 3, .int .i64 wk, .int .i64 6, .int .i64 3600000, .int .i64 7200000, .string ⟨#[83, 85, 77]⟩]
theorem sum_at {w : World} {b : Nat} {t : TypeId} {wk : Int} (hw : I64 wk) (h : At w b (.cells #[.int .i64 3, .int .i64 wk, .int .i64 6, .int .i64 3600000, .int .i64 7200000, .string ⟨#[83, 85, 77]⟩] t)) : Rules w w.heap.size (some ⟨b, 0, none⟩) 1 (sumRul wk) := by
  refine ⟨⟨rfl, by omega, fun _ => ⟨b, 0, rfl, h.lt, fun i x hx j v hv => ?_⟩⟩, fun x hx => ?_⟩
  · match i, hx with
    | 0, hx =>
      simp [sumRul] at hx; subst hx
      match j, hv with
      | 0, hv => simp [encRul] at hv; subst hv; exact h.cell 0
      | 1, hv => simp [encRul] at hv; subst hv; exact h.cell 1
      | 2, hv => simp [encRul] at hv; subst hv; exact h.cell 2
      | 3, hv => simp [encRul] at hv; subst hv; exact h.cell 3
      | 4, hv => simp [encRul] at hv; subst hv; exact h.cell 4
      | 5, hv => simp [encRul] at hv; subst hv; exact h.cell 5
  · simp [sumRul] at hx
    subst hx
    refine ⟨?_, hw, ?_, ?_, ?_, by show (3 : Nat) ≤ 9223372036854775807; omega⟩ <;> (unfold I64; simp only; omega)
def SumOut (w : World) (e : Ending) (w' : World) : Prop := e = .returned (.slice (some ⟨w.heap.size, 0, none⟩) 1 1) ∧ At w' w.heap.size (.cells #[.int .i64 3, .int .i64 5, .int .i64 6, .int .i64 3600000, .int .i64 7200000, .string ⟨#[83, 85, 77]⟩] 55) ∧ Below w.heap.size w w'
theorem law_summer (w : World) : Calls Tryd.prog 15 #[] w (SumOut w) := by
  go_enter Tryd.func15, Tryd.ntmps15
  go_wp2_with fail
  go_ret
  exact ⟨rfl, At.new w _, by (repeat' (first | exact Below.refl _ _ | assumption | refine Below.drew ?_ | refine below_drewN ?_ _ | refine below_new ?_ _ | refine below_set ?_ ?_ _ | refine below_then ?_ (by assumption) | refine below_drawn ?_ (by assumption) | exact Nat.le_refl _ | omega | (simp; done) | (simp; omega)))⟩
theorem sum_ok : rulesErr (sumRul 5) = 0 := by decide +kernel
theorem sum_bad : rulesErr (sumRul 6) = 3 := by decide +kernel
end Go.Proofs.YtjpbkkoflaajcabDoor
