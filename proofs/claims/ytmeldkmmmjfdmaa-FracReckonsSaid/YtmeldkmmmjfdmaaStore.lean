/- Stores into a block of the call's own. -/
import Derived.Test.YtmeldkmmmjfdmaaMem2
namespace Go.Proofs.Ytmeldkmmmjfdmaa
set_option linter.unusedVariables false
set_option maxRecDepth 100000
open Go.RowKit
theorem At.store {w : World} {b : Nat} {cs : Array Value} {t : TypeId} {m : Nat × Nat} (h : At w b (.cells cs t m)) (i : Nat) (u : Value) : At (w.setCell ⟨b, i, none⟩ u) b (.cells (cs.setIfInBounds i u) t m) := by
  unfold At at h ⊢
  simp [World.setCell, Array.getElem?_modify, h]
theorem At.apart {w : World} {b : Nat} {o : Obj} (h : At w b o) {p : Addr} (hp : b ≠ p.block) (u : Value) : At (w.setCell p u) b o := (Below.heap_setCell w p u b hp).trans h
theorem At.store2 {w : World} {b : Nat} {x y : Value} {t : TypeId} {m : Nat × Nat} (h : At w b (.cells #[x, y] t m)) (u v : Value) : At ((w.setCell ⟨b, 0, none⟩ u).setCell ⟨b, 1, none⟩ v) b (.cells #[u, v] t m) := (h.store 0 u).store 1 v
end Go.Proofs.Ytmeldkmmmjfdmaa
