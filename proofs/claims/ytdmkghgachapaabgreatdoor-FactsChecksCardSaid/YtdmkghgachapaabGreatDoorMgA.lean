/- Several texts in one: Mem, Mem2, Store, Kept, Lex. -/
import Derived.Test.YtdmkghgachapaabGreatDoorBase
import Derived.ProofKit
import Derived.OpenShut
import Derived.Lib.SmallJoins
import Derived.Deep.RegionHeld3
set_option linter.unusedSimpArgs false
namespace Go.Proofs.YtdmkghgachapaabGreatDoor
set_option linter.unusedVariables false
set_option maxRecDepth 100000
open Go.RowKit Go.ChangeShapes Go.WideShapes
def Ints (w : World) (B : Nat) (a : Option Addr) (n : Nat) (xs : List Int) : Prop :=
  xs.length = n ∧ n ≤ 9223372036854775807 ∧ (∀ x ∈ xs, I64 x) ∧ (0 < n → ∃ b off, a = some ⟨b, off, none⟩ ∧ b < B ∧ ∀ i, i < n → w.cell? ⟨b, off + i, none⟩ = some (.int .i64 (xs.getD i 0)))
theorem Ints.below {w w' : World} {B B' : Nat} {a : Option Addr} {n : Nat} {xs : List Int} (h : Ints w B a n xs) (hb : Below B' w w') (hB : B ≤ B') : Ints w' B a n xs :=
  ⟨h.1, h.2.1, h.2.2.1, fun hn => by
    obtain ⟨b, off, e, hlt, hc⟩ := h.2.2.2 hn
    exact ⟨b, off, e, hlt, fun i hi => (hb.cell (p := ⟨b, off + i, none⟩) (Nat.lt_of_lt_of_le hlt hB)).trans (hc i hi)⟩⟩
theorem Ints.more {w : World} {B B' : Nat} {a : Option Addr} {n : Nat} {xs : List Int} (h : Ints w B a n xs) (hB : B ≤ B') : Ints w B' a n xs :=
  ⟨h.1, h.2.1, h.2.2.1, fun hn => by
    obtain ⟨b, off, e, hlt, hc⟩ := h.2.2.2 hn
    exact ⟨b, off, e, by omega, hc⟩⟩
theorem Ints.alloc {w : World} {B : Nat} {a : Option Addr} {n : Nat} {xs : List Int} (h : Ints w B a n xs) (hB : B ≤ w.heap.size) (o : Obj) : Ints (w.alloc o) B a n xs :=
  h.below ((Below.refl _ _).alloc (Nat.le_refl _) o) hB
theorem Ints.drewN {w : World} {B : Nat} {a : Option Addr} {n : Nat} {xs : List Int} (h : Ints w B a n xs) (m : Nat) : Ints (w.drewN m) B a n xs := h
theorem Ints.len {w : World} {B : Nat} {a : Option Addr} {n : Nat} {xs : List Int} (h : Ints w B a n xs) : xs.length = n := h.1
theorem Ints.at_ {w : World} {B : Nat} {a : Option Addr} {n : Nat} {xs : List Int} (h : Ints w B a n xs) {k : Nat} (hk : k < n) :
    ∃ b off x, a = some ⟨b, off, none⟩ ∧ b < B ∧ w.cell? ⟨b, off + k, none⟩ = some (.int .i64 x) ∧ xs[k]? = some x ∧ -9223372036854775808 ≤ x ∧ x ≤ 9223372036854775807 := by
  obtain ⟨b, off, e, hlt, hc⟩ := h.2.2.2 (by omega)
  have hl : k < xs.length := by have := h.1; omega
  have hx := List.getElem?_eq_getElem hl
  refine ⟨b, off, xs[k], e, hlt, ?_, hx, h.2.2.1 _ (List.getElem_mem hl)⟩
  have := hc k hk
  rwa [List.getD_eq_getElem?_getD, hx, Option.getD_some] at this
theorem Ints.far {w w1 w2 : World} {a : Option Addr} {n : Nat} {xs : List Int} (h : Ints w w.heap.size a n xs) (b : Below w.heap.size w w1) (b' : Below w1.heap.size w1 w2) : Ints w2 w2.heap.size a n xs :=
  ((h.below b (Nat.le_refl _)).below b' b.size).more (Nat.le_trans b.size b'.size)
theorem Ints.take {w : World} {B : Nat} {a : Option Addr} {n : Nat} {xs : List Int} (h : Ints w B a n xs) {k : Nat} (hk : k ≤ n) : Ints w B a k (xs.take k) :=
  ⟨by rw [List.length_take, h.1]; omega, Nat.le_trans hk h.2.1, fun x hx => h.2.2.1 x (List.mem_of_mem_take hx), fun hn => by
    obtain ⟨b, off, e, hlt, hc⟩ := h.2.2.2 (by omega)
    refine ⟨b, off, e, hlt, fun i hi => ?_⟩
    rw [hc i (by omega)]
    simp [List.getD_eq_getElem?_getD, hi]⟩
end Go.Proofs.YtdmkghgachapaabGreatDoor

set_option linter.unusedSimpArgs false
namespace Go.Proofs.YtdmkghgachapaabGreatDoor
set_option linter.unusedVariables false
set_option maxRecDepth 100000
open Go.RowKit
def At (w : World) (b : Nat) (o : Obj) : Prop := w.heap[b]? = some o
theorem At.lt {w : World} {b : Nat} {o : Obj} (h : At w b o) : b < w.heap.size := by
  rcases Nat.lt_or_ge b w.heap.size with hlt | hge
  · exact hlt
  · unfold At at h; rw [Array.getElem?_eq_none hge] at h; cases h
theorem At.new (w : World) (o : Obj) : At (w.alloc o) w.heap.size o := heap_alloc_new w o
theorem At.newAt (w : World) (o : Obj) (b : Nat) (h : b = w.heap.size) : At (w.alloc o) b o := by subst h; exact At.new w o
theorem At.new1 (w : World) (o o1 : Obj) : At ((w.alloc o).alloc o1) (w.heap.size + 1) o1 := by
  have := At.new (w.alloc o) o1; simpa using this
theorem At.new2 (w : World) (o o1 o2 : Obj) : At (((w.alloc o).alloc o1).alloc o2) (w.heap.size + 1 + 1) o2 := by
  have := At.new1 (w.alloc o) o1 o2; simpa using this
theorem At.new3 (w : World) (o o1 o2 o3 : Obj) : At ((((w.alloc o).alloc o1).alloc o2).alloc o3) (w.heap.size + 1 + 1 + 1) o3 := by
  have := At.new2 (w.alloc o) o1 o2 o3; simpa using this
theorem At.alloc {w : World} {b : Nat} {o : Obj} (h : At w b o) (o' : Obj) : At (w.alloc o') b o := (Below.heap_alloc w o' b h.lt).trans h
theorem At.drewN {w : World} {b : Nat} {o : Obj} (h : At w b o) (n : Nat) : At (w.drewN n) b o := h
theorem At.drew {w : World} {b : Nat} {o : Obj} (h : At w b o) : At w.drew b o := h
theorem At.then_ {w w' : World} {b : Nat} {o : Obj} (h : At w b o) (k : Below w.heap.size w w') : At w' b o := (k.block b h.lt).trans h
theorem At.below {B : Nat} {w w' : World} {b : Nat} {o : Obj} (h : At w b o) (hb : Below B w w') (hB : b < B) : At w' b o := (hb.block b hB).trans h
theorem At.cell {w : World} {b : Nat} {cs : Array Value} {t : TypeId} {m : Nat × Nat} (h : At w b (.cells cs t m)) (i : Nat) : w.cell? ⟨b, i, none⟩ = cs[i]? := cell_of_row w b i cs t m h
theorem At.frozen {w : World} {b : Nat} {cs : Array Value} {t : TypeId} (h : At w b (.cells cs t)) (i : Nat) : w.frozen? ⟨b, i, none⟩ = false := by
  unfold At at h
  simp [World.frozen?, h]
theorem At.ints {w : World} {b : Nat} {t : TypeId} {m : Nat × Nat} (zs : List Int) (h : At w b (.cells (zs.map (Value.int .i64)).toArray t m)) (hI : ∀ x ∈ zs, I64 x) (hn : zs.length ≤ 9223372036854775807) :
    Ints w w.heap.size (some ⟨b, 0, none⟩) zs.length zs :=
  ⟨rfl, hn, hI, fun _ => ⟨b, 0, rfl, h.lt, fun i hi => by
    rw [h.cell (0 + i)]
    simp [hi]⟩⟩
end Go.Proofs.YtdmkghgachapaabGreatDoor

set_option linter.unusedSimpArgs false
namespace Go.Proofs.YtdmkghgachapaabGreatDoor
set_option linter.unusedVariables false
set_option maxRecDepth 100000
open Go.RowKit
theorem At.store {w : World} {b : Nat} {cs : Array Value} {t : TypeId} {m : Nat × Nat} (h : At w b (.cells cs t m)) (i : Nat) (u : Value) : At (w.setCell ⟨b, i, none⟩ u) b (.cells (cs.setIfInBounds i u) t m) := by
  unfold At at h ⊢
  simp [World.setCell, Array.getElem?_modify, h]
theorem At.apart {w : World} {b : Nat} {o : Obj} (h : At w b o) {p : Addr} (hp : b ≠ p.block) (u : Value) : At (w.setCell p u) b o := (Below.heap_setCell w p u b hp).trans h
theorem At.store3 {w : World} {b : Nat} {x0 x1 x2 : Value} {t : TypeId} {m : Nat × Nat} (h : At w b (.cells #[x0, x1, x2] t m)) (u0 u1 u2 : Value) : At (((w.setCell ⟨b, 0, none⟩ u0).setCell ⟨b, 1, none⟩ u1).setCell ⟨b, 2, none⟩ u2) b (.cells #[u0, u1, u2] t m) := by
  have k := (((h.store 0 u0).store 1 u1).store 2 u2)
  simpa using k
theorem At.apart3 {w : World} {b : Nat} {o : Obj} (h : At w b o) {p : Nat} (hp : b ≠ p) (u0 u1 u2 : Value) : At (((w.setCell ⟨p, 0, none⟩ u0).setCell ⟨p, 1, none⟩ u1).setCell ⟨p, 2, none⟩ u2) b o := (((h.apart hp _).apart hp _).apart hp _)
theorem At.store5 {w : World} {b : Nat} {x0 x1 x2 x3 x4 : Value} {t : TypeId} {m : Nat × Nat} (h : At w b (.cells #[x0, x1, x2, x3, x4] t m)) (u0 u1 u2 u3 u4 : Value) : At (((((w.setCell ⟨b, 0, none⟩ u0).setCell ⟨b, 1, none⟩ u1).setCell ⟨b, 2, none⟩ u2).setCell ⟨b, 3, none⟩ u3).setCell ⟨b, 4, none⟩ u4) b (.cells #[u0, u1, u2, u3, u4] t m) := by
  have k := (((((h.store 0 u0).store 1 u1).store 2 u2).store 3 u3).store 4 u4)
  simpa using k
theorem At.apart5 {w : World} {b : Nat} {o : Obj} (h : At w b o) {p : Nat} (hp : b ≠ p) (u0 u1 u2 u3 u4 : Value) : At (((((w.setCell ⟨p, 0, none⟩ u0).setCell ⟨p, 1, none⟩ u1).setCell ⟨p, 2, none⟩ u2).setCell ⟨p, 3, none⟩ u3).setCell ⟨p, 4, none⟩ u4) b o := (((((h.apart hp _).apart hp _).apart hp _).apart hp _).apart hp _)
theorem below_set5 {B : Nat} {a w : World} (h : Below B a w) {p : Nat} (hp : B ≤ p) (u0 u1 u2 u3 u4 : Value) : Below B a (((((w.setCell ⟨p, 0, none⟩ u0).setCell ⟨p, 1, none⟩ u1).setCell ⟨p, 2, none⟩ u2).setCell ⟨p, 3, none⟩ u3).setCell ⟨p, 4, none⟩ u4) := (below_set (below_set (below_set (below_set (below_set h hp _) hp _) hp _) hp _) hp _)
theorem At.store9 {w : World} {b : Nat} {x0 x1 x2 x3 x4 x5 x6 x7 x8 : Value} {t : TypeId} {m : Nat × Nat} (h : At w b (.cells #[x0, x1, x2, x3, x4, x5, x6, x7, x8] t m)) (u0 u1 u2 u3 u4 u5 u6 u7 u8 : Value) : At (((((((((w.setCell ⟨b, 0, none⟩ u0).setCell ⟨b, 1, none⟩ u1).setCell ⟨b, 2, none⟩ u2).setCell ⟨b, 3, none⟩ u3).setCell ⟨b, 4, none⟩ u4).setCell ⟨b, 5, none⟩ u5).setCell ⟨b, 6, none⟩ u6).setCell ⟨b, 7, none⟩ u7).setCell ⟨b, 8, none⟩ u8) b (.cells #[u0, u1, u2, u3, u4, u5, u6, u7, u8] t m) := by
  have k := (((((((((h.store 0 u0).store 1 u1).store 2 u2).store 3 u3).store 4 u4).store 5 u5).store 6 u6).store 7 u7).store 8 u8)
  simpa using k
theorem At.apart9 {w : World} {b : Nat} {o : Obj} (h : At w b o) {p : Nat} (hp : b ≠ p) (u0 u1 u2 u3 u4 u5 u6 u7 u8 : Value) : At (((((((((w.setCell ⟨p, 0, none⟩ u0).setCell ⟨p, 1, none⟩ u1).setCell ⟨p, 2, none⟩ u2).setCell ⟨p, 3, none⟩ u3).setCell ⟨p, 4, none⟩ u4).setCell ⟨p, 5, none⟩ u5).setCell ⟨p, 6, none⟩ u6).setCell ⟨p, 7, none⟩ u7).setCell ⟨p, 8, none⟩ u8) b o := (((((((((h.apart hp _).apart hp _).apart hp _).apart hp _).apart hp _).apart hp _).apart hp _).apart hp _).apart hp _)
theorem below_set9 {B : Nat} {a w : World} (h : Below B a w) {p : Nat} (hp : B ≤ p) (u0 u1 u2 u3 u4 u5 u6 u7 u8 : Value) : Below B a (((((((((w.setCell ⟨p, 0, none⟩ u0).setCell ⟨p, 1, none⟩ u1).setCell ⟨p, 2, none⟩ u2).setCell ⟨p, 3, none⟩ u3).setCell ⟨p, 4, none⟩ u4).setCell ⟨p, 5, none⟩ u5).setCell ⟨p, 6, none⟩ u6).setCell ⟨p, 7, none⟩ u7).setCell ⟨p, 8, none⟩ u8) := (below_set (below_set (below_set (below_set (below_set (below_set (below_set (below_set (below_set h hp _) hp _) hp _) hp _) hp _) hp _) hp _) hp _) hp _)
end Go.Proofs.YtdmkghgachapaabGreatDoor

set_option linter.unusedSimpArgs false
namespace Go.Proofs.YtdmkghgachapaabGreatDoor
set_option linter.unusedVariables false
set_option maxRecDepth 100000
open Go.RowKit
structure OneKept (b : Nat) (w w' : World) : Prop where
  os : w'.os = w.os
  tape : w'.tape = w.tape
  output : w'.output = w.output
  size : w.heap.size ≤ w'.heap.size
  block : ∀ k, k < w.heap.size → k ≠ b → w'.heap[k]? = w.heap[k]?
theorem OneKept.refl (b : Nat) (w : World) : OneKept b w w := ⟨rfl, rfl, rfl, Nat.le_refl _, fun _ _ _ => rfl⟩
theorem OneKept.of_below {b : Nat} {w w' : World} (h : Below w.heap.size w w') : OneKept b w w' := ⟨h.os, h.tape, h.output, h.size, fun k hk _ => h.block k hk⟩
theorem OneKept.trans {b : Nat} {w w1 w2 : World} (h : OneKept b w w1) (k : OneKept b w1 w2) : OneKept b w w2 :=
  ⟨k.os.trans h.os, k.tape.trans h.tape, k.output.trans h.output, Nat.le_trans h.size k.size, fun i hi hb => (k.block i (Nat.lt_of_lt_of_le hi h.size) hb).trans (h.block i hi hb)⟩
theorem OneKept.then_ {b : Nat} {w w1 w2 : World} (h : OneKept b w w1) (k : Below w1.heap.size w1 w2) : OneKept b w w2 := h.trans (.of_below k)
theorem OneKept.drew {b : Nat} {w w1 : World} (h : OneKept b w w1) : OneKept b w w1.drew := ⟨h.os, h.tape, h.output, h.size, h.block⟩
theorem OneKept.drewN {b : Nat} {w w1 : World} (h : OneKept b w w1) (n : Nat) : OneKept b w (w1.drewN n) := ⟨h.os, h.tape, h.output, h.size, h.block⟩
theorem OneKept.alloc {b : Nat} {w w1 : World} (h : OneKept b w w1) (o : Obj) : OneKept b w (w1.alloc o) := h.then_ (below_new (Below.refl _ _) o)
theorem oneKept_set (w : World) (b i : Nat) (u : Value) : OneKept b w (w.setCell ⟨b, i, none⟩ u) :=
  ⟨rfl, rfl, rfl, by simp [World.setCell], fun k hk hb => Below.heap_setCell w ⟨b, i, none⟩ u k hb⟩
theorem OneKept.set {b : Nat} {w w1 : World} (h : OneKept b w w1) (i : Nat) (u : Value) : OneKept b w (w1.setCell ⟨b, i, none⟩ u) := h.trans (oneKept_set w1 b i u)
theorem OneKept.setNew {b c : Nat} {w w1 : World} (h : OneKept b w w1) (hc : w.heap.size ≤ c) (i : Nat) (u : Value) : OneKept b w (w1.setCell ⟨c, i, none⟩ u) :=
  ⟨h.os, h.tape, h.output, by simpa [World.setCell] using h.size, fun k hk hb => (Below.heap_setCell w1 ⟨c, i, none⟩ u k (by simp only; omega)).trans (h.block k hk hb)⟩
theorem At.oneKept {w w' : World} {b i : Nat} {o : Obj} (h : At w i o) (k : OneKept b w w') (hb : i ≠ b) : At w' i o := (k.block i h.lt hb).trans h
theorem OneKept.below {B b : Nat} {a w w' : World} (k : OneKept b w w') (h : Below B a w) (hb : B ≤ b) (hB : B ≤ w.heap.size) : Below B a w' :=
  ⟨k.os.trans h.os, k.tape.trans h.tape, k.output.trans h.output, Nat.le_trans h.size k.size, fun i hi => (k.block i (by omega) (by omega)).trans (h.block i hi)⟩
theorem OneKept.below_own {b : Nat} {a w w' : World} (k : OneKept b w w') (h : Below a.heap.size a w) (hb : a.heap.size ≤ b) : Below a.heap.size a w' := k.below h hb h.size
end Go.Proofs.YtdmkghgachapaabGreatDoor

set_option linter.unusedSimpArgs false
namespace Go.Proofs.YtdmkghgachapaabGreatDoor
set_option linter.unusedVariables false
open Go.RowKit
section
variable {P : Program} {l : List Oper} {Q : Exit → Act → World → Prop} {md : Region.Mode} {S : World → Prop}
theorem lex_take {i : Nat} {oi : Oper} {v : Value} {fuel : Nat} {listed : Array Bool} {a : Act} {w : World} (hi : l[i]? = some oi) (hs : Region.noSelect l.toArray = true) (hf : Region.free md l.toArray listed i = true)
    (hr : (Region.ready md l.toArray listed).contains i = true) (hQ : ∀ c a w, Q (.panic c) (a.put oi.dst v) w → Q (.panic c) a w) (hw : Region.wanted oi (yielded l.toArray a.tmps) = true)
    (hv : ∀ w, S w → (execOp a.eval oi).run P w = .ok (.value v) w) (hS : S w) (h : wpAnyH P md l.toArray Q S fuel (listed.setIfInBounds i true) (a.put oi.dst v) w) : wpAnyH P md l.toArray Q S (fuel + 1) listed a w :=
  wpAnyH_take (by simpa using hi) hs hf hr hQ (Or.inl ⟨hw, hv⟩) hS h
theorem lex_step {i : Nat} {oi : Oper} {fuel : Nat} {listed : Array Bool} {a : Act} {w : World} (hi : l[i]? = some oi) (hr : Region.ready md l.toArray listed = [i]) (hw : Region.wanted oi (yielded l.toArray a.tmps) = true)
    (h : ∀ K' : Act → World → Prop, Shut (∀ a w, S w → (S w → wpAnyH P md l.toArray Q S fuel (listed.setIfInBounds i true) a w) → K' a w) → Oper.wp P oi a w K' Q) : wpAnyH P md l.toArray Q S (fuel + 1) listed a w :=
  wpAnyH_ready hr (by simp) (AllReadyH.cons (o := oi) (by simpa using hi) (fun K hK => by rw [if_pos hw]; exact h K hK) AllReadyH.nil)
end
end Go.Proofs.YtdmkghgachapaabGreatDoor
