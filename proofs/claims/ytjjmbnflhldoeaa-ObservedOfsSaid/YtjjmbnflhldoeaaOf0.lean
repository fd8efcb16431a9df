/- A table of first days under construction: a box with two rows of the call's own; the lists of a rule's table, plain. -/
import Derived.Test.YtjjmbnflhldoeaaMonths
import Derived.Test.YtjjmbnflhldoeaaStore
import Derived.Deep.AppendLies
namespace Go.Proofs.Ytjjmbnflhldoeaa
set_option linter.unusedVariables false
set_option maxRecDepth 100000
open Go.RowKit

abbrev iv (xs : List Int) : List Value := xs.map (Value.int .i64)
theorem iv_snoc (xs : List Int) (x : Int) : iv (xs ++ [x]) = iv xs ++ [.int .i64 x] := by simp [iv]
theorem At.grown {w w' : World} {b : Nat} {o : Obj} {row : Option Nat} (h : At w b o) (hg : w.grownBy w' row) (hr : row ≠ some b) : At w' b o := (hg.block b h.lt (Ne.symm hr)).trans h
theorem own_block {w : World} {base : Nat} {e : TypeId} {size : Nat} {v : Value} {n : Nat} {xs : List Value} (h : w.ownsRow base e size v n xs) {g : Nat} (hb : v.ownBlock = some g) : base ≤ g ∧ g < w.heap.size := by
  rcases h.2 with ⟨rfl, _⟩ | ⟨g', cap, cur, rfl, hg, hat, _⟩
  · cases hb
  · cases hb; exact ⟨hg, (show At w g' _ from hat).lt⟩
theorem own_move {w w' : World} {base : Nat} {e : TypeId} {size : Nat} {v : Value} {n : Nat} {xs : List Value} (h : w.ownsRow base e size v n xs) (k : ∀ g o, v.ownBlock = some g → At w g o → At w' g o) : w'.ownsRow base e size v n xs := by
  refine ⟨h.1, ?_⟩
  rcases h.2 with h0 | ⟨g, cap, cur, rfl, hg, hat, rest⟩
  · exact .inl h0
  · exact .inr ⟨g, cap, cur, rfl, hg, k g _ rfl hat, rest⟩
/-- The box B with its two lists. -/
structure Tab (W : World) (B : Nat) (s : ByteArray) (f : Int) (p q : Value) (ms ds : List Int) : Prop where
  box : At W B (.cells #[.string s, .int .i64 f, p, q] 44)
  row1 : W.ownsRow (B + 1) 3 1 p ms.length (iv ms)
  row2 : W.ownsRow (B + 1) 3 1 q ds.length (iv ds)
  dist : ∀ g, p.ownBlock = some g → q.ownBlock ≠ some g
theorem Tab.then_ {W W' : World} {B : Nat} {s : ByteArray} {f : Int} {p q : Value} {ms ds : List Int} (h : Tab W B s f p q ms ds) (k : Below W.heap.size W W') : Tab W' B s f p q ms ds :=
  ⟨h.box.then_ k, own_move h.row1 fun g o _ a => a.then_ k, own_move h.row2 fun g o _ a => a.then_ k, h.dist⟩
theorem Tab.put1 {W w4 : World} {B : Nat} {s : ByteArray} {f : Int} {p q : Value} {ms ds : List Int} {x : Int} {o : Obj} (h : Tab W B s f p q ms ds) {g cap : Nat}
    (hown : w4.ownsRow (B + 1) 3 1 (.slice (some ⟨g, 0, none⟩) (ms.length + 1) cap) (ms.length + 1) (iv ms ++ [.int .i64 x])) (hg : (W.alloc o).grownBy w4 p.ownBlock) (hl : p.ownBlock = some g ∨ g = (W.alloc o).heap.size) :
    Tab (w4.setCell ⟨B, 2, none⟩ (.slice (some ⟨g, 0, none⟩) (ms.length + 1) cap)) B s f (.slice (some ⟨g, 0, none⟩) (ms.length + 1) cap) q (ms ++ [x]) ds := by
  have hp : ∀ b, p.ownBlock = some b → B + 1 ≤ b := fun b e => (own_block h.row1 e).1
  have hgB : g ≠ B := by
    rcases hl with e | e
    · have := hp g e; omega
    · have := h.box.lt; have : g = W.heap.size + 1 := by rw [e]; simp
      omega
  refine ⟨((h.box.alloc o).grown hg (fun e => by have := hp B e; omega)).store 2 _, ?_, ?_, ?_⟩
  · rw [List.length_append, iv_snoc]
    exact own_move hown fun g' o' e a => by cases e; exact a.apart hgB _
  · refine own_move h.row2 fun g' o' e a => ?_
    have hq := own_block h.row2 e
    exact ((a.alloc o).grown hg (fun e' => h.dist g' e' e)).apart (by show g' ≠ B; omega) _
  · intro g' e1 e2
    cases e1
    rcases hl with e | e
    · exact h.dist g e e2
    · have h2 : g < W.heap.size := (own_block h.row2 e2).2
      have : g = W.heap.size + 1 := by rw [e]; simp
      omega
theorem Tab.put2 {W w4 : World} {B : Nat} {s : ByteArray} {f : Int} {p q : Value} {ms ds : List Int} {x : Int} {o : Obj} (h : Tab W B s f p q ms ds) {g cap : Nat}
    (hown : w4.ownsRow (B + 1) 3 1 (.slice (some ⟨g, 0, none⟩) (ds.length + 1) cap) (ds.length + 1) (iv ds ++ [.int .i64 x])) (hg : (W.alloc o).grownBy w4 q.ownBlock) (hl : q.ownBlock = some g ∨ g = (W.alloc o).heap.size) :
    Tab (w4.setCell ⟨B, 3, none⟩ (.slice (some ⟨g, 0, none⟩) (ds.length + 1) cap)) B s f p (.slice (some ⟨g, 0, none⟩) (ds.length + 1) cap) ms (ds ++ [x]) := by
  have hp : ∀ b, q.ownBlock = some b → B + 1 ≤ b := fun b e => (own_block h.row2 e).1
  have hgB : g ≠ B := by
    rcases hl with e | e
    · have := hp g e; omega
    · have := h.box.lt; have : g = W.heap.size + 1 := by rw [e]; simp
      omega
  refine ⟨((h.box.alloc o).grown hg (fun e => by have := hp B e; omega)).store 3 _, ?_, ?_, ?_⟩
  · refine own_move h.row1 fun g' o' e a => ?_
    have hq := own_block h.row1 e
    exact ((a.alloc o).grown hg (fun e' => h.dist g' e e')).apart (by show g' ≠ B; omega) _
  · rw [List.length_append, iv_snoc]
    exact own_move hown fun g' o' e a => by cases e; exact a.apart hgB _
  · intro g' e1 e2
    cases e2
    rcases hl with e | e
    · exact h.dist g e1 e
    · have h2 : g < W.heap.size := (own_block h.row1 e1).2
      have : g = W.heap.size + 1 := by rw [e]; simp
      omega
/-- A block that was there before the box is as it was. -/
theorem Tab.old {W w4 : World} {B : Nat} {p : Value} {b : Nat} {o o' : Obj} (hb : b < B) (hp : ∀ g, p.ownBlock = some g → B + 1 ≤ g) (a : At W b o) (hg : (W.alloc o').grownBy w4 p.ownBlock) (i : Nat) (v : Value) : At (w4.setCell ⟨B, i, none⟩ v) b o :=
  ((a.alloc o').grown hg (fun e => by have := hp b e; omega)).apart (by show b ≠ B; omega) _
theorem below_put {A : Nat} {w W w4 : World} {B : Nat} {p : Value} {o' : Obj} (hA : A ≤ B) (hB : B < W.heap.size) (hp : ∀ g, p.ownBlock = some g → B + 1 ≤ g) (h : Below A w W) (hg : (W.alloc o').grownBy w4 p.ownBlock) (i : Nat) (v : Value) : Below A w (w4.setCell ⟨B, i, none⟩ v) :=
  below_set ((h.alloc (by omega) o').grown hg (by simp; omega) (fun k e => by have := hp k e; omega)) hA v
theorem iv_ints {w : World} {base : Nat} {v : Value} {xs : List Int} (h : w.ownsRow base 3 1 v xs.length (iv xs)) (hI : ∀ x ∈ xs, I64 x) : ∃ a c, v = .slice a xs.length c ∧ Ints w w.heap.size a xs.length xs := by
  rcases h.2 with ⟨rfl, h0⟩ | ⟨g, cap, cur, rfl, hg, hat, hnc, hcm, hcs, htake⟩
  · have hz : xs = [] := List.length_eq_zero_iff.1 h0
    subst hz
    exact ⟨none, 0, rfl, rfl, by simp, by simp, fun h => absurd h (by simp)⟩
  · have hAt : At w g (.cells cur 3) := hat
    have hl := hAt.lt
    unfold maxLen at hcm
    refine ⟨some ⟨g, 0, none⟩, cap, rfl, rfl, by omega, hI, fun hn => ⟨g, 0, rfl, hl, fun i hi => ?_⟩⟩
    have hi' : i < xs.length := hi
    rw [hAt.cell, Nat.zero_add]
    have h1 : (cur.toList.take (xs.length * 1))[i]? = (iv xs)[i]? := by rw [htake]
    rw [List.getElem?_take, if_pos (by omega), Array.getElem?_toList] at h1
    rw [h1]
    simp [iv, hi']
end Go.Proofs.Ytjjmbnflhldoeaa
