/- One box of the call's own, and all that was there. -/
import Derived.Test.YthpiiocncdpimaaDoorQuiet
import Derived.Test.YthpiiocncdpimaaDoorStore
namespace Go.Proofs.YthpiiocncdpimaaDoor
set_option linter.unusedVariables false
set_option maxRecDepth 100000
open Go.RowKit

def One (w : World) (o : Obj) (W : World) : Prop := At W w.heap.size o ∧ Below w.heap.size w W
theorem One.new (w : World) (o : Obj) : One w o (w.alloc o) := ⟨At.new w o, below_new (Below.refl _ _) o⟩
theorem One.step {w W W' : World} {o : Obj} (h : One w o W) (hb : Below W.heap.size W W') : One w o W' := ⟨h.1.then_ hb, below_then h.2 hb⟩
theorem One.drew {w W : World} {o : Obj} (h : One w o W) : One w o W.drew := ⟨h.1.drew, h.2.drew⟩
theorem One.drewN {w W : World} {o : Obj} (h : One w o W) (n : Nat) : One w o (W.drewN n) := ⟨h.1.drewN n, below_drewN h.2 n⟩
theorem One.drawn {w W W' : World} {o : Obj} (h : One w o W) (d : Drawn W W') : One w o W' := by obtain ⟨n, rfl⟩ := d; exact h.drewN n
theorem One.alloc {w W : World} {o : Obj} (h : One w o W) (o' : Obj) : One w o (W.alloc o') := h.step (below_new (Below.refl _ _) o')
theorem One.set {w W : World} {o : Obj} (h : One w o W) {p : Addr} (hp : w.heap.size < p.block) (u : Value) : One w o (W.setCell p u) := ⟨h.1.apart (by omega) u, below_set h.2 (by omega) u⟩
theorem One.cells3 {w W : World} {t : TypeId} {v0 v1 v2 : Value} (h : One w (.cells #[v0, v1, v2] t) W) : W.cell? ⟨w.heap.size, 0, none⟩ = some v0 ∧ W.cell? ⟨w.heap.size, 1, none⟩ = some v1 ∧ W.cell? ⟨w.heap.size, 2, none⟩ = some v2 :=
  ⟨h.1.cell 0, h.1.cell 1, h.1.cell 2⟩
end Go.Proofs.YthpiiocncdpimaaDoor
