/- Stores into a block of the call's own. -/
import Derived.Test.YthpiiocncdpimaaDoorMem2
namespace Go.Proofs.YthpiiocncdpimaaDoor
set_option linter.unusedVariables false
set_option maxRecDepth 100000
open Go.RowKit
theorem At.store {w : World} {b : Nat} {cs : Array Value} {t : TypeId} {m : Nat × Nat} (h : At w b (.cells cs t m)) (i : Nat) (u : Value) : At (w.setCell ⟨b, i, none⟩ u) b (.cells (cs.setIfInBounds i u) t m) := by
  unfold At at h ⊢
  simp [World.setCell, Array.getElem?_modify, h]
theorem At.apart {w : World} {b : Nat} {o : Obj} (h : At w b o) {p : Addr} (hp : b ≠ p.block) (u : Value) : At (w.setCell p u) b o := (Below.heap_setCell w p u b hp).trans h
theorem At.store2 {w : World} {b : Nat} {x y : Value} {t : TypeId} {m : Nat × Nat} (h : At w b (.cells #[x, y] t m)) (u v : Value) : At ((w.setCell ⟨b, 0, none⟩ u).setCell ⟨b, 1, none⟩ v) b (.cells #[u, v] t m) := (h.store 0 u).store 1 v
theorem At.store3 {w : World} {b : Nat} {x0 x1 x2 : Value} {t : TypeId} {m : Nat × Nat} (h : At w b (.cells #[x0, x1, x2] t m)) (u0 u1 u2 : Value) : At (((w.setCell ⟨b, 0, none⟩ u0).setCell ⟨b, 1, none⟩ u1).setCell ⟨b, 2, none⟩ u2) b (.cells #[u0, u1, u2] t m) := by
  have k := (((h.store 0 u0).store 1 u1).store 2 u2)
  simpa using k
theorem At.apart3 {w : World} {b : Nat} {o : Obj} (h : At w b o) {p : Nat} (hp : b ≠ p) (u0 u1 u2 : Value) : At (((w.setCell ⟨p, 0, none⟩ u0).setCell ⟨p, 1, none⟩ u1).setCell ⟨p, 2, none⟩ u2) b o := (((h.apart hp _).apart hp _).apart hp _)
theorem below_set3 {B : Nat} {a w : World} (h : Below B a w) {p : Nat} (hp : B ≤ p) (u0 u1 u2 : Value) : Below B a (((w.setCell ⟨p, 0, none⟩ u0).setCell ⟨p, 1, none⟩ u1).setCell ⟨p, 2, none⟩ u2) := (below_set (below_set (below_set h hp _) hp _) hp _)
theorem size_set3 (w : World) (p : Nat) (u0 u1 u2 : Value) : (((w.setCell ⟨p, 0, none⟩ u0).setCell ⟨p, 1, none⟩ u1).setCell ⟨p, 2, none⟩ u2).heap.size = w.heap.size := by simp [World.setCell]
theorem At.store5 {w : World} {b : Nat} {x0 x1 x2 x3 x4 : Value} {t : TypeId} {m : Nat × Nat} (h : At w b (.cells #[x0, x1, x2, x3, x4] t m)) (u0 u1 u2 u3 u4 : Value) : At (((((w.setCell ⟨b, 0, none⟩ u0).setCell ⟨b, 1, none⟩ u1).setCell ⟨b, 2, none⟩ u2).setCell ⟨b, 3, none⟩ u3).setCell ⟨b, 4, none⟩ u4) b (.cells #[u0, u1, u2, u3, u4] t m) := by
  have k := (((((h.store 0 u0).store 1 u1).store 2 u2).store 3 u3).store 4 u4)
  simpa using k
theorem At.apart5 {w : World} {b : Nat} {o : Obj} (h : At w b o) {p : Nat} (hp : b ≠ p) (u0 u1 u2 u3 u4 : Value) : At (((((w.setCell ⟨p, 0, none⟩ u0).setCell ⟨p, 1, none⟩ u1).setCell ⟨p, 2, none⟩ u2).setCell ⟨p, 3, none⟩ u3).setCell ⟨p, 4, none⟩ u4) b o := (((((h.apart hp _).apart hp _).apart hp _).apart hp _).apart hp _)
theorem below_set5 {B : Nat} {a w : World} (h : Below B a w) {p : Nat} (hp : B ≤ p) (u0 u1 u2 u3 u4 : Value) : Below B a (((((w.setCell ⟨p, 0, none⟩ u0).setCell ⟨p, 1, none⟩ u1).setCell ⟨p, 2, none⟩ u2).setCell ⟨p, 3, none⟩ u3).setCell ⟨p, 4, none⟩ u4) := (below_set (below_set (below_set (below_set (below_set h hp _) hp _) hp _) hp _) hp _)
theorem size_set5 (w : World) (p : Nat) (u0 u1 u2 u3 u4 : Value) : (((((w.setCell ⟨p, 0, none⟩ u0).setCell ⟨p, 1, none⟩ u1).setCell ⟨p, 2, none⟩ u2).setCell ⟨p, 3, none⟩ u3).setCell ⟨p, 4, none⟩ u4).heap.size = w.heap.size := by simp [World.setCell]
theorem At.store9 {w : World} {b : Nat} {x0 x1 x2 x3 x4 x5 x6 x7 x8 : Value} {t : TypeId} {m : Nat × Nat} (h : At w b (.cells #[x0, x1, x2, x3, x4, x5, x6, x7, x8] t m)) (u0 u1 u2 u3 u4 u5 u6 u7 u8 : Value) : At (((((((((w.setCell ⟨b, 0, none⟩ u0).setCell ⟨b, 1, none⟩ u1).setCell ⟨b, 2, none⟩ u2).setCell ⟨b, 3, none⟩ u3).setCell ⟨b, 4, none⟩ u4).setCell ⟨b, 5, none⟩ u5).setCell ⟨b, 6, none⟩ u6).setCell ⟨b, 7, none⟩ u7).setCell ⟨b, 8, none⟩ u8) b (.cells #[u0, u1, u2, u3, u4, u5, u6, u7, u8] t m) := by
  have k := (((((((((h.store 0 u0).store 1 u1).store 2 u2).store 3 u3).store 4 u4).store 5 u5).store 6 u6).store 7 u7).store 8 u8)
  simpa using k
theorem At.apart9 {w : World} {b : Nat} {o : Obj} (h : At w b o) {p : Nat} (hp : b ≠ p) (u0 u1 u2 u3 u4 u5 u6 u7 u8 : Value) : At (((((((((w.setCell ⟨p, 0, none⟩ u0).setCell ⟨p, 1, none⟩ u1).setCell ⟨p, 2, none⟩ u2).setCell ⟨p, 3, none⟩ u3).setCell ⟨p, 4, none⟩ u4).setCell ⟨p, 5, none⟩ u5).setCell ⟨p, 6, none⟩ u6).setCell ⟨p, 7, none⟩ u7).setCell ⟨p, 8, none⟩ u8) b o := (((((((((h.apart hp _).apart hp _).apart hp _).apart hp _).apart hp _).apart hp _).apart hp _).apart hp _).apart hp _)
theorem below_set9 {B : Nat} {a w : World} (h : Below B a w) {p : Nat} (hp : B ≤ p) (u0 u1 u2 u3 u4 u5 u6 u7 u8 : Value) : Below B a (((((((((w.setCell ⟨p, 0, none⟩ u0).setCell ⟨p, 1, none⟩ u1).setCell ⟨p, 2, none⟩ u2).setCell ⟨p, 3, none⟩ u3).setCell ⟨p, 4, none⟩ u4).setCell ⟨p, 5, none⟩ u5).setCell ⟨p, 6, none⟩ u6).setCell ⟨p, 7, none⟩ u7).setCell ⟨p, 8, none⟩ u8) := (below_set (below_set (below_set (below_set (below_set (below_set (below_set (below_set (below_set h hp _) hp _) hp _) hp _) hp _) hp _) hp _) hp _) hp _)
theorem size_set9 (w : World) (p : Nat) (u0 u1 u2 u3 u4 u5 u6 u7 u8 : Value) : (((((((((w.setCell ⟨p, 0, none⟩ u0).setCell ⟨p, 1, none⟩ u1).setCell ⟨p, 2, none⟩ u2).setCell ⟨p, 3, none⟩ u3).setCell ⟨p, 4, none⟩ u4).setCell ⟨p, 5, none⟩ u5).setCell ⟨p, 6, none⟩ u6).setCell ⟨p, 7, none⟩ u7).setCell ⟨p, 8, none⟩ u8).heap.size = w.heap.size := by simp [World.setCell]
end Go.Proofs.YthpiiocncdpimaaDoor
