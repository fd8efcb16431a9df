/- The zone 'base' of the laws. -/
import Derived.Test.YthpiiocncdpimabDoorZone2
import Derived.Test.YthpiiocncdpimabDoorOne
import Derived.Test.YthpiiocncdpimabDoorStore
namespace Go.Proofs.YthpiiocncdpimabDoor
set_option linter.unusedVariables false
set_option maxRecDepth 100000
open Go.RowKit

def baseChg : List Chg := [(0, 7200000, ⟨#[83, 85, 77]⟩)]
def baseName : ByteArray := ⟨#[98, 97, 115, 101]⟩
theorem base_at {w : World} {b : Nat} {t : TypeId} (h : At w b (.cells #[.int .i64 0, .int .i64 7200000, .string ⟨#[83, 85, 77]⟩] t)) : Changes w w.heap.size (some ⟨b, 0, none⟩) 1 baseChg := by
  refine ⟨⟨rfl, by omega, fun _ => ⟨b, 0, rfl, h.lt, fun i x hx j v hv => ?_⟩⟩, fun x hx => ?_⟩
  · match i, hx with
    | 0, hx =>
      simp [baseChg] at hx; subst hx
      match j, hv with
      | 0, hv => simp [encChg] at hv; subst hv; exact h.cell 0
      | 1, hv => simp [encChg] at hv; subst hv; exact h.cell 1
      | 2, hv => simp [encChg] at hv; subst hv; exact h.cell 2
  · simp [baseChg] at hx
    subst hx
    exact ⟨⟨by decide, by decide⟩, ⟨by decide, by decide⟩, by decide⟩
def BaseOut (w : World) (e : Ending) (w' : World) : Prop := ∃ a, e = .returned (.agg #[.string ⟨#[98, 97, 115, 101]⟩, .int .i64 3600000, .slice a 1 1]) ∧ Changes w' w'.heap.size a 1 baseChg ∧ Below w.heap.size w w'
theorem law_base (w : World) : Calls Tryd.prog 7 #[] w (BaseOut w) := by
  go_enter Tryd.func7, Tryd.ntmps7
  go_wp2_with fail
  exact bodyPost_ret (v := .agg #[.string ⟨#[98, 97, 115, 101]⟩, .int .i64 3600000, .slice (some ⟨w.heap.size + 1, 0, none⟩) 1 1]) (by simp [results, Tryd.results7, go_sem]) rfl ⟨_, rfl, base_at (At.new1 w _ _), by (repeat' (first | exact Below.refl _ _ | assumption | refine Below.drew ?_ | refine below_drewN ?_ _ | refine below_new ?_ _ | refine below_set ?_ ?_ _ | refine below_then ?_ (by assumption) | refine below_drawn ?_ (by assumption) | exact Nat.le_refl _ | omega | (simp; done) | (simp; omega)))⟩
end Go.Proofs.YthpiiocncdpimabDoor
