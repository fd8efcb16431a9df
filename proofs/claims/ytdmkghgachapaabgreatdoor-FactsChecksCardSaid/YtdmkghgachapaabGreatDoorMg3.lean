/- Several texts in one: Show0, Show1. -/
import Derived.Test.YtdmkghgachapaabGreatDoorMgT
import Derived.Test.YtdmkghgachapaabGreatDoorMg2
import Derived.Lib.ItoaLen
import Derived.Test.YtdmkghgachapaabGreatDoorTree1
import Derived.Test.YtdmkghgachapaabGreatDoorTxt1
import Derived.Test.YtdmkghgachapaabGreatDoorMg5
import Derived.Laws.Concat
import Derived.Deep.Cut
import Derived.Outline
set_option linter.unusedSimpArgs false
namespace Go.Proofs.YtdmkghgachapaabGreatDoor
set_option linter.unusedVariables false
set_option maxRecDepth 100000
open Go.RowKit
def lvlL : List Int := [0, 7, 7, 6, 4, 4, 5, 5, 5, 3, 3, 2, 1, 0]
def lvl (k : Int) : Int := lvlL.getD k.toNat 0
def sgnL : List (List UInt8) := [[], [], [], [], [43], [45], [42], [47], [37], [60], [61], [], [97, 110, 100], [111, 114]]
def sgn (k : Int) : List UInt8 := sgnL.getD k.toNat []
end Go.Proofs.YtdmkghgachapaabGreatDoor

set_option linter.unusedSimpArgs false
namespace Go.Proofs.YtdmkghgachapaabGreatDoor
set_option linter.unusedVariables false
set_option maxRecDepth 100000
open Go.RowKit Go.Shelf Num
def Lvl (w : World) : Prop := w.var? Tryz.prog "ephemeris/rule.levels" = some (lvlL.map fun z => Value.int .i64 z).toArray
def Sgn (w : World) : Prop := w.var? Tryz.prog "ephemeris/rule.signs" = some (sgnL.map fun l => Value.string ⟨l.toArray⟩).toArray
theorem Lvl.below {w w' : World} (h : Lvl w) (hb : Below w.heap.size w w') : Lvl w' := var_below h hb
theorem Sgn.below {w w' : World} (h : Sgn w) (hb : Below w.heap.size w w') : Sgn w' := var_below h hb
theorem Lvl.cell {w : World} (h : Lvl w) (i : Nat) (hi : i < 14) : w.cell? ⟨6, i, none⟩ = some (.int .i64 (lvl i)) := by
  have h0 := World.var?_cell (g := 6) (by kernel_rfl) h i
  rw [h0]
  have : i < lvlL.length := hi
  simp [lvl, this]
theorem Sgn.cell {w : World} (h : Sgn w) (i : Nat) (hi : i < 14) : w.cell? ⟨5, i, none⟩ = some (.string ⟨(sgn i).toArray⟩) := by
  have h0 := World.var?_cell (g := 5) (by kernel_rfl) h i
  rw [h0]
  have : i < sgnL.length := hi
  simp [sgn, this]
end Go.Proofs.YtdmkghgachapaabGreatDoor
