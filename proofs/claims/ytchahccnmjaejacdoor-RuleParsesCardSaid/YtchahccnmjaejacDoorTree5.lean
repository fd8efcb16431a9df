/- The rule 'small' of the laws as a tree. -/
import Derived.Test.YtchahccnmjaejacDoorTree4
import Derived.Test.YtchahccnmjaejacDoorSmall
import Derived.Test.YtchahccnmjaejacDoorCalOpen
import Derived.Test.YtchahccnmjaejacDoorOne
namespace Go.Proofs.YtchahccnmjaejacDoor
set_option linter.unusedVariables false
set_option maxRecDepth 100000
open Go.RowKit

def smallKids : List Tree := [.node 8 0 [.node 2 0 [], .node 1 4 []], .node 1 0 []]
theorem small_tree {w : World} {b b2 : Nat} (hb2 : b2 < w.heap.size) (hb : b < w.heap.size)
    (h1 : At w b2 (.cells #[.int .i64 2, .int .i64 0, .slice none 0 0, .int .i64 1, .int .i64 4, .slice none 0 0] 24))
    (h2 : At w b (.cells #[.int .i64 8, .int .i64 0, .slice (some ⟨b2, 0, none⟩) 2 2, .int .i64 1, .int .i64 0, .slice none 0 0] 24)) :
    SubAt w w.heap.size (.node 10 0 smallKids) (some ⟨b, 0, none⟩) 2 := by
  have leaf : ∀ k m : Int, I64 k → I64 m → SubAt w w.heap.size (.node k m []) none 0 := by
    intro k m hk hm
    rw [SubAt]
    exact ⟨hk, hm, rfl, by omega, fun h => absurd h (by omega)⟩
  rw [SubAt]
  refine ⟨by unfold I64; omega, by unfold I64; omega, rfl, by omega, fun _ => ⟨b, 0, rfl, hb, ?_⟩⟩
  rw [smallKids, RowAt, RowAt, RowAt]
  refine ⟨⟨h2.cell 0, h2.cell 1, some ⟨b2, 0, none⟩, 2, 2, h2.cell 2, by omega, by omega, ?_⟩, ⟨h2.cell 3, h2.cell 4, none, 0, 0, h2.cell 5, by omega, by omega, leaf 1 0 (by unfold I64; omega) (by unfold I64; omega)⟩, trivial⟩
  rw [SubAt]
  refine ⟨by unfold I64; omega, by unfold I64; omega, rfl, by omega, fun _ => ⟨b2, 0, rfl, hb2, ?_⟩⟩
  rw [RowAt, RowAt, RowAt]
  exact ⟨⟨h1.cell 0, h1.cell 1, none, 0, 0, h1.cell 2, by omega, by omega, leaf 2 0 (by unfold I64; omega) (by unfold I64; omega)⟩, ⟨h1.cell 3, h1.cell 4, none, 0, 0, h1.cell 5, by omega, by omega, leaf 1 4 (by unfold I64; omega) (by unfold I64; omega)⟩, trivial⟩
theorem small_ok : ruleErr ⟨#[115, 109, 97, 108, 108]⟩ 1 8 (.node 10 0 smallKids) smallMonths = 0 := by decide +kernel
theorem small_bad : ruleErr ⟨#[115, 109, 97, 108, 108]⟩ 1 0 (.node 10 0 smallKids) smallMonths = 3 := by decide +kernel
end Go.Proofs.YtchahccnmjaejacDoor
