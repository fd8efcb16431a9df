/- A callee that writes one block of the caller's: everything else that was there is kept. -/
import Derived.Test.YtdmkghgachapaaaStore
namespace Go.Proofs.Ytdmkghgachapaaa
set_option linter.unusedVariables false
set_option maxRecDepth 100000
open Go.RowKit

/-- All blocks of w but b are kept. -/
structure OneKept (b : Nat) (w w' : World) : Prop where
  os : w'.os = w.os
  tape : w'.tape = w.tape
  output : w'.output = w.output
  size : w.heap.size ≤ w'.heap.size
  block : ∀ k, k < w.heap.size → k ≠ b → w'.heap[k]? = w.heap[k]?
theorem OneKept.refl (b : Nat) (w : World) : OneKept b w w := ⟨rfl, rfl, rfl, Nat.le_refl _, fun _ _ _ => rfl⟩
theorem OneKept.of_below {b : Nat} {w w' : World} (h : Below w.heap.size w w') : OneKept b w w' := ⟨h.os, h.tape, h.output, h.size, fun k hk _ => h.block k hk⟩
theorem OneKept.trans {b : Nat} {w w1 w2 : World} (h : OneKept b w w1) (k : OneKept b w1 w2) : OneKept b w w2 :=
  ⟨k.os.trans h.os, k.tape.trans h.tape, k.output.trans h.output, Nat.le_trans h.size k.size, fun i hi hb => (k.block i (Nat.lt_of_lt_of_le hi h.size) hb).trans (h.block i hi hb)⟩
theorem OneKept.then_ {b : Nat} {w w1 w2 : World} (h : OneKept b w w1) (k : Below w1.heap.size w1 w2) : OneKept b w w2 := h.trans (.of_below k)
theorem OneKept.drew {b : Nat} {w w1 : World} (h : OneKept b w w1) : OneKept b w w1.drew := ⟨h.os, h.tape, h.output, h.size, h.block⟩
theorem OneKept.drewN {b : Nat} {w w1 : World} (h : OneKept b w w1) (n : Nat) : OneKept b w (w1.drewN n) := ⟨h.os, h.tape, h.output, h.size, h.block⟩
theorem OneKept.alloc {b : Nat} {w w1 : World} (h : OneKept b w w1) (o : Obj) : OneKept b w (w1.alloc o) := h.then_ (below_new (Below.refl _ _) o)
theorem oneKept_set (w : World) (b i : Nat) (u : Value) : OneKept b w (w.setCell ⟨b, i, none⟩ u) :=
  ⟨rfl, rfl, rfl, by simp [World.setCell], fun k hk hb => Below.heap_setCell w ⟨b, i, none⟩ u k hb⟩
theorem OneKept.set {b : Nat} {w w1 : World} (h : OneKept b w w1) (i : Nat) (u : Value) : OneKept b w (w1.setCell ⟨b, i, none⟩ u) := h.trans (oneKept_set w1 b i u)
theorem OneKept.setNew {b c : Nat} {w w1 : World} (h : OneKept b w w1) (hc : w.heap.size ≤ c) (i : Nat) (u : Value) : OneKept b w (w1.setCell ⟨c, i, none⟩ u) :=
  ⟨h.os, h.tape, h.output, by simpa [World.setCell] using h.size, fun k hk hb => (Below.heap_setCell w1 ⟨c, i, none⟩ u k (by simp only; omega)).trans (h.block k hk hb)⟩
theorem At.oneKept {w w' : World} {b i : Nat} {o : Obj} (h : At w i o) (k : OneKept b w w') (hb : i ≠ b) : At w' i o := (k.block i h.lt hb).trans h
theorem OneKept.below {B b : Nat} {a w w' : World} (k : OneKept b w w') (h : Below B a w) (hb : B ≤ b) (hB : B ≤ w.heap.size) : Below B a w' :=
  ⟨k.os.trans h.os, k.tape.trans h.tape, k.output.trans h.output, Nat.le_trans h.size k.size, fun i hi => (k.block i (by omega) (by omega)).trans (h.block i hi)⟩
theorem OneKept.below_own {b : Nat} {a w w' : World} (k : OneKept b w w') (h : Below a.heap.size a w) (hb : a.heap.size ≤ b) : Below a.heap.size a w' := k.below h hb h.size
end Go.Proofs.Ytdmkghgachapaaa
