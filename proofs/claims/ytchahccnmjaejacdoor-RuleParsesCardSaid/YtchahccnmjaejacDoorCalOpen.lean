/- A calendar handed in, read back; the months of 'small'. -/
import Derived.Test.YtchahccnmjaejacDoorMgA
namespace Go.Proofs.YtchahccnmjaejacDoor
set_option linter.unusedVariables false
set_option maxRecDepth 100000
open Go.RowKit Go.ChangeShapes Go.WideShapes

def smallMonths : List Mon := [(⟨#[111, 110, 101]⟩, 31, 31), (⟨#[116, 119, 111]⟩, 28, 29)]
theorem small_months {w : World} {b : Nat} {t : TypeId} (h : At w b (.cells #[.string ⟨#[111, 110, 101]⟩, .int .i64 31, .int .i64 31, .string ⟨#[116, 119, 111]⟩, .int .i64 28, .int .i64 29] t)) : Months w w.heap.size (some ⟨b, 0, none⟩) 2 smallMonths := by
  refine ⟨⟨rfl, by omega, fun _ => ⟨b, 0, rfl, h.lt, fun i x hx j v hv => ?_⟩⟩, fun x hx => ?_⟩
  · match i, hx with
    | 0, hx =>
      simp [smallMonths] at hx; subst hx
      match j, hv with
      | 0, hv => simp [encM] at hv; subst hv; exact h.cell 0
      | 1, hv => simp [encM] at hv; subst hv; exact h.cell 1
      | 2, hv => simp [encM] at hv; subst hv; exact h.cell 2
    | 1, hx =>
      simp [smallMonths] at hx; subst hx
      match j, hv with
      | 0, hv => simp [encM] at hv; subst hv; exact h.cell 3
      | 1, hv => simp [encM] at hv; subst hv; exact h.cell 4
      | 2, hv => simp [encM] at hv; subst hv; exact h.cell 5
  · simp [smallMonths] at hx
    rcases hx with rfl | rfl
    · exact ⟨by decide, ⟨by decide, by decide⟩, ⟨by decide, by decide⟩⟩
    · exact ⟨by decide, ⟨by decide, by decide⟩, ⟨by decide, by decide⟩⟩
end Go.Proofs.YtchahccnmjaejacDoor
