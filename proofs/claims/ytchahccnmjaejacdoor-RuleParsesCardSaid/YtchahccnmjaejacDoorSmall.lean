/- Contract of ephemerislaw1.small: a rule in memory of its own. -/
import Derived.Test.YtchahccnmjaejacDoorMgA
namespace Go.Proofs.YtchahccnmjaejacDoor
set_option linter.unusedVariables false
set_option maxRecDepth 100000
open Go.RowKit

def smallName : ByteArray := ⟨#[115, 109, 97, 108, 108]⟩
/-- What 'small' leaves: its months in block w.heap.size + 7, its expression's operands in the blocks + 5 and + 4. -/
def Small (w : World) (e : Ending) (w' : World) : Prop :=
  e = .returned (.agg #[.string ⟨#[115, 109, 97, 108, 108]⟩, .int .i64 1, .int .i64 8, .int .i64 10, .int .i64 0, .slice (some ⟨w.heap.size + 5, 0, none⟩) 2 2, .slice (some ⟨w.heap.size + 7, 0, none⟩) 2 2]) ∧
  At w' (w.heap.size + 4) (.cells #[.int .i64 2, .int .i64 0, .slice none 0 0, .int .i64 1, .int .i64 4, .slice none 0 0] 24) ∧
  At w' (w.heap.size + 5) (.cells #[.int .i64 8, .int .i64 0, .slice (some ⟨w.heap.size + 4, 0, none⟩) 2 2, .int .i64 1, .int .i64 0, .slice none 0 0] 24) ∧
  At w' (w.heap.size + 7) (.cells #[.string ⟨#[111, 110, 101]⟩, .int .i64 31, .int .i64 31, .string ⟨#[116, 119, 111]⟩, .int .i64 28, .int .i64 29] 43) ∧ Below w.heap.size w w'
theorem law_small (w : World) : Calls Tryd.prog 6 #[] w (Small w) := by
  go_enter Tryd.func6, Tryd.ntmps6
  go_wp2_with fail
  refine bodyPost_ret (v := .agg #[.string ⟨#[115, 109, 97, 108, 108]⟩, .int .i64 1, .int .i64 8, .int .i64 10, .int .i64 0, .slice (some ⟨w.heap.size + 5, 0, none⟩) 2 2, .slice (some ⟨w.heap.size + 7, 0, none⟩) 2 2]) (by simp [results, Tryd.results6, go_sem]) rfl ?_
  refine ⟨rfl, ?_, ?_, ?_, by (repeat' (first | exact Below.refl _ _ | assumption | refine Below.drew ?_ | refine below_drewN ?_ _ | refine below_new ?_ _ | refine below_set ?_ ?_ _ | refine below_then ?_ (by assumption) | refine below_drawn ?_ (by assumption) | exact Nat.le_refl _ | omega | (simp; done) | (simp; omega)))⟩
  · exact (((At.newAt _ _ _ (by simp)).alloc _).alloc _).alloc _
  · exact ((At.newAt _ _ _ (by simp)).alloc _).alloc _
  · exact At.newAt _ _ _ (by simp)
/-- The months of the rule that 'small' returns. -/
theorem small_field (W : World) (b : Nat) : (Instr.field 27 (.agg #[.string ⟨#[115, 109, 97, 108, 108]⟩, .int .i64 1, .int .i64 8, .int .i64 10, .int .i64 0, .slice (some ⟨b + 5, 0, none⟩) 2 2, .slice (some ⟨b + 7, 0, none⟩) 2 2]) 4).run Tryd.prog W = .ok (.slice (some ⟨b + 7, 0, none⟩) 2 2) W := by
  kernel_rfl
end Go.Proofs.YtchahccnmjaejacDoor
