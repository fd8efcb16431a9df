/- Blocks that the call itself made, known whole; literal slices of integers. -/
import Derived.Test.YthpiiocncdpimaaDoorMem
namespace Go.Proofs.YthpiiocncdpimaaDoor
set_option linter.unusedVariables false
set_option maxRecDepth 100000
open Go.RowKit

/-- Block b of w is just the object o. -/
def At (w : World) (b : Nat) (o : Obj) : Prop := w.heap[b]? = some o
theorem At.lt {w : World} {b : Nat} {o : Obj} (h : At w b o) : b < w.heap.size := by
  rcases Nat.lt_or_ge b w.heap.size with hlt | hge
  · exact hlt
  · unfold At at h; rw [Array.getElem?_eq_none hge] at h; cases h
theorem At.new (w : World) (o : Obj) : At (w.alloc o) w.heap.size o := heap_alloc_new w o
theorem At.newAt (w : World) (o : Obj) (b : Nat) (h : b = w.heap.size) : At (w.alloc o) b o := by subst h; exact At.new w o
theorem At.new1 (w : World) (o o1 : Obj) : At ((w.alloc o).alloc o1) (w.heap.size + 1) o1 := by
  have := At.new (w.alloc o) o1; simpa using this
theorem At.new2 (w : World) (o o1 o2 : Obj) : At (((w.alloc o).alloc o1).alloc o2) (w.heap.size + 1 + 1) o2 := by
  have := At.new1 (w.alloc o) o1 o2; simpa using this
theorem At.new3 (w : World) (o o1 o2 o3 : Obj) : At ((((w.alloc o).alloc o1).alloc o2).alloc o3) (w.heap.size + 1 + 1 + 1) o3 := by
  have := At.new2 (w.alloc o) o1 o2 o3; simpa using this
theorem At.alloc {w : World} {b : Nat} {o : Obj} (h : At w b o) (o' : Obj) : At (w.alloc o') b o := (Below.heap_alloc w o' b h.lt).trans h
theorem At.drewN {w : World} {b : Nat} {o : Obj} (h : At w b o) (n : Nat) : At (w.drewN n) b o := h
theorem At.drew {w : World} {b : Nat} {o : Obj} (h : At w b o) : At w.drew b o := h
theorem At.drawn {w w' : World} {b : Nat} {o : Obj} (h : At w b o) (d : Drawn w w') : At w' b o := by obtain ⟨n, rfl⟩ := d; exact h
theorem At.then_ {w w' : World} {b : Nat} {o : Obj} (h : At w b o) (k : Below w.heap.size w w') : At w' b o := (k.block b h.lt).trans h
theorem At.below {B : Nat} {w w' : World} {b : Nat} {o : Obj} (h : At w b o) (hb : Below B w w') (hB : b < B) : At w' b o := (hb.block b hB).trans h
theorem At.cell {w : World} {b : Nat} {cs : Array Value} {t : TypeId} {m : Nat × Nat} (h : At w b (.cells cs t m)) (i : Nat) : w.cell? ⟨b, i, none⟩ = cs[i]? := cell_of_row w b i cs t m h
theorem At.frozen {w : World} {b : Nat} {cs : Array Value} {t : TypeId} (h : At w b (.cells cs t)) (i : Nat) : w.frozen? ⟨b, i, none⟩ = false := by
  unfold At at h
  simp [World.frozen?, h]
theorem At.ints {w : World} {b : Nat} {t : TypeId} {m : Nat × Nat} (zs : List Int) (h : At w b (.cells (zs.map (Value.int .i64)).toArray t m)) (hI : ∀ x ∈ zs, I64 x) (hn : zs.length ≤ 9223372036854775807) :
    Ints w w.heap.size (some ⟨b, 0, none⟩) zs.length zs :=
  ⟨rfl, hn, hI, fun _ => ⟨b, 0, rfl, h.lt, fun i hi => by
    rw [h.cell (0 + i)]
    simp [hi]⟩⟩

/-! What a region that draws its order keeps: some cells of a block of the caller's own, and all that was there. -/
theorem keep1 {w1 W w' : World} {b : Nat} {v0 : Value} (h : W.cell? ⟨b, 0, none⟩ = some v0 ∧ Below w1.heap.size w1 W) (hb : Below W.heap.size W w') (hB : b < w1.heap.size) : w'.cell? ⟨b, 0, none⟩ = some v0 ∧ Below w1.heap.size w1 w' := by
  obtain ⟨h0, hk⟩ := h
  have hlt : b < W.heap.size := Nat.lt_of_lt_of_le hB hk.size
  exact ⟨(hb.cell (p := ⟨b, 0, none⟩) hlt).trans h0, hk.trans (hb.mono hk.size)⟩
theorem keep2 {w1 W w' : World} {b : Nat} {v0 v1 : Value} (h : W.cell? ⟨b, 0, none⟩ = some v0 ∧ W.cell? ⟨b, 1, none⟩ = some v1 ∧ Below w1.heap.size w1 W) (hb : Below W.heap.size W w') (hB : b < w1.heap.size) : w'.cell? ⟨b, 0, none⟩ = some v0 ∧ w'.cell? ⟨b, 1, none⟩ = some v1 ∧ Below w1.heap.size w1 w' := by
  obtain ⟨h0, h1, hk⟩ := h
  have hlt : b < W.heap.size := Nat.lt_of_lt_of_le hB hk.size
  exact ⟨(hb.cell (p := ⟨b, 0, none⟩) hlt).trans h0, (hb.cell (p := ⟨b, 1, none⟩) hlt).trans h1, hk.trans (hb.mono hk.size)⟩
theorem keep3 {w1 W w' : World} {b : Nat} {v0 v1 v2 : Value} (h : W.cell? ⟨b, 0, none⟩ = some v0 ∧ W.cell? ⟨b, 1, none⟩ = some v1 ∧ W.cell? ⟨b, 2, none⟩ = some v2 ∧ Below w1.heap.size w1 W) (hb : Below W.heap.size W w') (hB : b < w1.heap.size) : w'.cell? ⟨b, 0, none⟩ = some v0 ∧ w'.cell? ⟨b, 1, none⟩ = some v1 ∧ w'.cell? ⟨b, 2, none⟩ = some v2 ∧ Below w1.heap.size w1 w' := by
  obtain ⟨h0, h1, h2, hk⟩ := h
  have hlt : b < W.heap.size := Nat.lt_of_lt_of_le hB hk.size
  exact ⟨(hb.cell (p := ⟨b, 0, none⟩) hlt).trans h0, (hb.cell (p := ⟨b, 1, none⟩) hlt).trans h1, (hb.cell (p := ⟨b, 2, none⟩) hlt).trans h2, hk.trans (hb.mono hk.size)⟩
theorem keep4 {w1 W w' : World} {b : Nat} {v0 v1 v2 v3 : Value} (h : W.cell? ⟨b, 0, none⟩ = some v0 ∧ W.cell? ⟨b, 1, none⟩ = some v1 ∧ W.cell? ⟨b, 2, none⟩ = some v2 ∧ W.cell? ⟨b, 3, none⟩ = some v3 ∧ Below w1.heap.size w1 W) (hb : Below W.heap.size W w') (hB : b < w1.heap.size) : w'.cell? ⟨b, 0, none⟩ = some v0 ∧ w'.cell? ⟨b, 1, none⟩ = some v1 ∧ w'.cell? ⟨b, 2, none⟩ = some v2 ∧ w'.cell? ⟨b, 3, none⟩ = some v3 ∧ Below w1.heap.size w1 w' := by
  obtain ⟨h0, h1, h2, h3, hk⟩ := h
  have hlt : b < W.heap.size := Nat.lt_of_lt_of_le hB hk.size
  exact ⟨(hb.cell (p := ⟨b, 0, none⟩) hlt).trans h0, (hb.cell (p := ⟨b, 1, none⟩) hlt).trans h1, (hb.cell (p := ⟨b, 2, none⟩) hlt).trans h2, (hb.cell (p := ⟨b, 3, none⟩) hlt).trans h3, hk.trans (hb.mono hk.size)⟩
theorem keep5 {w1 W w' : World} {b : Nat} {v0 v1 v2 v3 v4 : Value} (h : W.cell? ⟨b, 0, none⟩ = some v0 ∧ W.cell? ⟨b, 1, none⟩ = some v1 ∧ W.cell? ⟨b, 2, none⟩ = some v2 ∧ W.cell? ⟨b, 3, none⟩ = some v3 ∧ W.cell? ⟨b, 4, none⟩ = some v4 ∧ Below w1.heap.size w1 W) (hb : Below W.heap.size W w') (hB : b < w1.heap.size) : w'.cell? ⟨b, 0, none⟩ = some v0 ∧ w'.cell? ⟨b, 1, none⟩ = some v1 ∧ w'.cell? ⟨b, 2, none⟩ = some v2 ∧ w'.cell? ⟨b, 3, none⟩ = some v3 ∧ w'.cell? ⟨b, 4, none⟩ = some v4 ∧ Below w1.heap.size w1 w' := by
  obtain ⟨h0, h1, h2, h3, h4, hk⟩ := h
  have hlt : b < W.heap.size := Nat.lt_of_lt_of_le hB hk.size
  exact ⟨(hb.cell (p := ⟨b, 0, none⟩) hlt).trans h0, (hb.cell (p := ⟨b, 1, none⟩) hlt).trans h1, (hb.cell (p := ⟨b, 2, none⟩) hlt).trans h2, (hb.cell (p := ⟨b, 3, none⟩) hlt).trans h3, (hb.cell (p := ⟨b, 4, none⟩) hlt).trans h4, hk.trans (hb.mono hk.size)⟩
theorem keep6 {w1 W w' : World} {b : Nat} {v0 v1 v2 v3 v4 v5 : Value} (h : W.cell? ⟨b, 0, none⟩ = some v0 ∧ W.cell? ⟨b, 1, none⟩ = some v1 ∧ W.cell? ⟨b, 2, none⟩ = some v2 ∧ W.cell? ⟨b, 3, none⟩ = some v3 ∧ W.cell? ⟨b, 4, none⟩ = some v4 ∧ W.cell? ⟨b, 5, none⟩ = some v5 ∧ Below w1.heap.size w1 W) (hb : Below W.heap.size W w') (hB : b < w1.heap.size) : w'.cell? ⟨b, 0, none⟩ = some v0 ∧ w'.cell? ⟨b, 1, none⟩ = some v1 ∧ w'.cell? ⟨b, 2, none⟩ = some v2 ∧ w'.cell? ⟨b, 3, none⟩ = some v3 ∧ w'.cell? ⟨b, 4, none⟩ = some v4 ∧ w'.cell? ⟨b, 5, none⟩ = some v5 ∧ Below w1.heap.size w1 w' := by
  obtain ⟨h0, h1, h2, h3, h4, h5, hk⟩ := h
  have hlt : b < W.heap.size := Nat.lt_of_lt_of_le hB hk.size
  exact ⟨(hb.cell (p := ⟨b, 0, none⟩) hlt).trans h0, (hb.cell (p := ⟨b, 1, none⟩) hlt).trans h1, (hb.cell (p := ⟨b, 2, none⟩) hlt).trans h2, (hb.cell (p := ⟨b, 3, none⟩) hlt).trans h3, (hb.cell (p := ⟨b, 4, none⟩) hlt).trans h4, (hb.cell (p := ⟨b, 5, none⟩) hlt).trans h5, hk.trans (hb.mono hk.size)⟩
theorem keep7 {w1 W w' : World} {b : Nat} {v0 v1 v2 v3 v4 v5 v6 : Value} (h : W.cell? ⟨b, 0, none⟩ = some v0 ∧ W.cell? ⟨b, 1, none⟩ = some v1 ∧ W.cell? ⟨b, 2, none⟩ = some v2 ∧ W.cell? ⟨b, 3, none⟩ = some v3 ∧ W.cell? ⟨b, 4, none⟩ = some v4 ∧ W.cell? ⟨b, 5, none⟩ = some v5 ∧ W.cell? ⟨b, 6, none⟩ = some v6 ∧ Below w1.heap.size w1 W) (hb : Below W.heap.size W w') (hB : b < w1.heap.size) : w'.cell? ⟨b, 0, none⟩ = some v0 ∧ w'.cell? ⟨b, 1, none⟩ = some v1 ∧ w'.cell? ⟨b, 2, none⟩ = some v2 ∧ w'.cell? ⟨b, 3, none⟩ = some v3 ∧ w'.cell? ⟨b, 4, none⟩ = some v4 ∧ w'.cell? ⟨b, 5, none⟩ = some v5 ∧ w'.cell? ⟨b, 6, none⟩ = some v6 ∧ Below w1.heap.size w1 w' := by
  obtain ⟨h0, h1, h2, h3, h4, h5, h6, hk⟩ := h
  have hlt : b < W.heap.size := Nat.lt_of_lt_of_le hB hk.size
  exact ⟨(hb.cell (p := ⟨b, 0, none⟩) hlt).trans h0, (hb.cell (p := ⟨b, 1, none⟩) hlt).trans h1, (hb.cell (p := ⟨b, 2, none⟩) hlt).trans h2, (hb.cell (p := ⟨b, 3, none⟩) hlt).trans h3, (hb.cell (p := ⟨b, 4, none⟩) hlt).trans h4, (hb.cell (p := ⟨b, 5, none⟩) hlt).trans h5, (hb.cell (p := ⟨b, 6, none⟩) hlt).trans h6, hk.trans (hb.mono hk.size)⟩
theorem keep8 {w1 W w' : World} {b : Nat} {v0 v1 v2 v3 v4 v5 v6 v7 : Value} (h : W.cell? ⟨b, 0, none⟩ = some v0 ∧ W.cell? ⟨b, 1, none⟩ = some v1 ∧ W.cell? ⟨b, 2, none⟩ = some v2 ∧ W.cell? ⟨b, 3, none⟩ = some v3 ∧ W.cell? ⟨b, 4, none⟩ = some v4 ∧ W.cell? ⟨b, 5, none⟩ = some v5 ∧ W.cell? ⟨b, 6, none⟩ = some v6 ∧ W.cell? ⟨b, 7, none⟩ = some v7 ∧ Below w1.heap.size w1 W) (hb : Below W.heap.size W w') (hB : b < w1.heap.size) : w'.cell? ⟨b, 0, none⟩ = some v0 ∧ w'.cell? ⟨b, 1, none⟩ = some v1 ∧ w'.cell? ⟨b, 2, none⟩ = some v2 ∧ w'.cell? ⟨b, 3, none⟩ = some v3 ∧ w'.cell? ⟨b, 4, none⟩ = some v4 ∧ w'.cell? ⟨b, 5, none⟩ = some v5 ∧ w'.cell? ⟨b, 6, none⟩ = some v6 ∧ w'.cell? ⟨b, 7, none⟩ = some v7 ∧ Below w1.heap.size w1 w' := by
  obtain ⟨h0, h1, h2, h3, h4, h5, h6, h7, hk⟩ := h
  have hlt : b < W.heap.size := Nat.lt_of_lt_of_le hB hk.size
  exact ⟨(hb.cell (p := ⟨b, 0, none⟩) hlt).trans h0, (hb.cell (p := ⟨b, 1, none⟩) hlt).trans h1, (hb.cell (p := ⟨b, 2, none⟩) hlt).trans h2, (hb.cell (p := ⟨b, 3, none⟩) hlt).trans h3, (hb.cell (p := ⟨b, 4, none⟩) hlt).trans h4, (hb.cell (p := ⟨b, 5, none⟩) hlt).trans h5, (hb.cell (p := ⟨b, 6, none⟩) hlt).trans h6, (hb.cell (p := ⟨b, 7, none⟩) hlt).trans h7, hk.trans (hb.mono hk.size)⟩
theorem last1 {P0 R : Prop} (h : P0 ∧ R) : R := h.2
theorem last2 {P0 P1 R : Prop} (h : P0 ∧ P1 ∧ R) : R := h.2.2
theorem last3 {P0 P1 P2 R : Prop} (h : P0 ∧ P1 ∧ P2 ∧ R) : R := h.2.2.2
theorem last4 {P0 P1 P2 P3 R : Prop} (h : P0 ∧ P1 ∧ P2 ∧ P3 ∧ R) : R := h.2.2.2.2
theorem last5 {P0 P1 P2 P3 P4 R : Prop} (h : P0 ∧ P1 ∧ P2 ∧ P3 ∧ P4 ∧ R) : R := h.2.2.2.2.2
theorem last6 {P0 P1 P2 P3 P4 P5 R : Prop} (h : P0 ∧ P1 ∧ P2 ∧ P3 ∧ P4 ∧ P5 ∧ R) : R := h.2.2.2.2.2.2
theorem last7 {P0 P1 P2 P3 P4 P5 P6 R : Prop} (h : P0 ∧ P1 ∧ P2 ∧ P3 ∧ P4 ∧ P5 ∧ P6 ∧ R) : R := h.2.2.2.2.2.2.2
theorem last8 {P0 P1 P2 P3 P4 P5 P6 P7 R : Prop} (h : P0 ∧ P1 ∧ P2 ∧ P3 ∧ P4 ∧ P5 ∧ P6 ∧ P7 ∧ R) : R := h.2.2.2.2.2.2.2.2
end Go.Proofs.YthpiiocncdpimaaDoor
