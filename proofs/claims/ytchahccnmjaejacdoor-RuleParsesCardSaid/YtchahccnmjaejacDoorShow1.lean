/- Contract of rule.show: the text of an expression. -/
import Derived.Test.YtchahccnmjaejacDoorShow0
import Derived.Test.YtchahccnmjaejacDoorTree1
import Derived.Test.YtchahccnmjaejacDoorTxt1
import Derived.Test.YtchahccnmjaejacDoorOne
import Derived.Laws.Concat
import Derived.Deep.Cut
import Derived.Outline
namespace Go.Proofs.YtchahccnmjaejacDoor
set_option linter.unusedVariables false
set_option maxRecDepth 100000
open Go.RowKit Go.Shelf Num

/-- The tables of levels and of signs are there. -/
def Lvl (w : World) : Prop := w.var? Tryd.prog "ephemeris/rule.levels" = some (lvlL.map fun z => Value.int .i64 z).toArray
def Sgn (w : World) : Prop := w.var? Tryd.prog "ephemeris/rule.signs" = some (sgnL.map fun l => Value.string ⟨l.toArray⟩).toArray
theorem Lvl.below {w w' : World} (h : Lvl w) (hb : Below w.heap.size w w') : Lvl w' := var_below h hb
theorem Sgn.below {w w' : World} (h : Sgn w) (hb : Below w.heap.size w w') : Sgn w' := var_below h hb
theorem Lvl.cell {w : World} (h : Lvl w) (i : Nat) (hi : i < 14) : w.cell? ⟨2, i, none⟩ = some (.int .i64 (lvl i)) := by
  have h0 := World.var?_cell (g := 2) (by kernel_rfl) h i
  rw [h0]
  have : i < lvlL.length := hi
  simp [lvl, this]
theorem Sgn.cell {w : World} (h : Sgn w) (i : Nat) (hi : i < 14) : w.cell? ⟨1, i, none⟩ = some (.string ⟨(sgn i).toArray⟩) := by
  have h0 := World.var?_cell (g := 1) (by kernel_rfl) h i
  rw [h0]
  have : i < sgnL.length := hi
  simp [sgn, this]
theorem arr_size (l : List UInt8) : (⟨l.toArray⟩ : ByteArray).size = l.length := by show l.toArray.size = _; simp
/-- Concatenation in a walk, of lists. -/
theorem add_list (x y z : List UInt8) (hz : x ++ y = z) (h : x.length + y.length ≤ 100000) : ∀ W, (Op.stringOp .add ⟨x.toArray⟩ ⟨y.toArray⟩).run Tryd.prog W = .ok (.string ⟨z.toArray⟩) W := fun W => by
  rw [← hz, ← ByteArray.mk_append_mk]; exact run_string_add_sum W _ _ (by rw [arr_size, arr_size]; omega)
def ShowPost (s : List UInt8) (w : World) (e : Ending) (w' : World) : Prop := e = .returned (.string ⟨s.toArray⟩) ∧ Below w.heap.size w w'
end Go.Proofs.YtchahccnmjaejacDoor
