/- Several texts in one: Base, Mem, Mem2, Rows2, Months, Ref, Tree0, Store, Kept, Whole, Line, Name. -/
import Derived.Test.YtchahccnmjaejacDoorProg
import Derived.WalkKit
import Derived.Deep.QuietTactic
import Derived.BigQuiet
import Derived.Lib.Hide
import Derived.ProofKit
import Derived.OpenShut
import Derived.Lib.SmallJoins
import Derived.Deep.RegionHeld3
import Derived.Deep.Fields
import Derived.WalkSpells
import Derived.WalkLawsBesides
/- Small words that all texts of this seat share: a world that has only drawn; endings; integers within 64 bits. -/
namespace Go.Proofs.YtchahccnmjaejacDoor
set_option linter.unusedVariables false
set_option maxRecDepth 100000
open Go.RowKit

/-- 'w'' is 'w' after some draws. -/
def Drawn (w w' : World) : Prop := ∃ n, w' = w.drewN n
theorem Drawn.refl (w : World) : Drawn w w := ⟨0, rfl⟩
theorem Drawn.drew {w w' : World} (h : Drawn w w') : Drawn w w'.drew := by
  obtain ⟨n, rfl⟩ := h; exact ⟨n + 1, rfl⟩
theorem Drawn.drewN {w w' : World} (h : Drawn w w') (m : Nat) : Drawn w (w'.drewN m) := by
  obtain ⟨n, rfl⟩ := h; exact ⟨n + m, by rw [World.drewN_drewN]⟩
theorem Drawn.trans {a b c : World} (h : Drawn a b) (k : Drawn b c) : Drawn a c := by
  obtain ⟨n, rfl⟩ := h; obtain ⟨m, rfl⟩ := k; exact ⟨n + m, by rw [World.drewN_drewN]⟩
theorem Drawn.below {w w' : World} (h : Drawn w w') (B : Nat) : Below B w w' := by
  obtain ⟨n, rfl⟩ := h; exact ⟨rfl, rfl, rfl, Nat.le_refl _, fun _ _ => rfl⟩

theorem ret_of {v v' : Value} (h : v = v') : Ending.returned v = .returned v' := by rw [h]
theorem ret_int {k : IntKind} {a b : Int} (h : a = b) : Ending.returned (.int k a) = .returned (.int k b) := by rw [h]
theorem ret_bool {a b : Bool} (h : a = b) : Ending.returned (.bool a) = .returned (.bool b) := by rw [h]
theorem ret_ints2 {k l : IntKind} {a b c d : Int} (h : a = b) (h' : c = d) : Ending.returned (.tuple #[.int k a, .int l c]) = .returned (.tuple #[.int k b, .int l d]) := by rw [h, h']
theorem ret_ints3 {k l m : IntKind} {a b c d x y : Int} (h : a = b) (h' : c = d) (h'' : x = y) : Ending.returned (.tuple #[.int k a, .int l c, .int m x]) = .returned (.tuple #[.int k b, .int l d, .int m y]) := by rw [h, h', h'']

theorem below_drewN {B : Nat} {a w : World} (h : Below B a w) (n : Nat) : Below B a (w.drewN n) := ⟨h.os, h.tape, h.output, h.size, h.block⟩
/-- A callee that leaves the world alone, or only draws, inside a region that draws its order. -/
theorem quiet_left {P : Program} {f : FuncId} {args : Array Value} {w : World} {n : Nat} {v : Value}
    (h : Calls P f args (w.drewN n) fun e w' => e = .returned v ∧ w.drewN n = w') : Calls P f args (w.drewN n) fun e w'' => e = .returned v ∧ ∃ m, w'' = w.drewN m :=
  h.mono fun _ _ ⟨he, hm⟩ => ⟨he, n, hm.symm⟩
theorem quiet_add_left {P : Program} {f : FuncId} {args : Array Value} {w : World} {a n : Nat} {v : Value}
    (h : Calls P f args (w.drewN (a + n)) fun e w' => e = .returned v ∧ w.drewN (a + n) = w') :
    Calls P f args (w.drewN (a + n)) fun e w'' => e = .returned v ∧ ∃ m, w'' = w.drewN (a + m) :=
  h.mono fun _ _ ⟨he, hm⟩ => ⟨he, n, hm.symm⟩
theorem quiet_add {P : Program} {f : FuncId} {args : Array Value} {w : World} {a n : Nat} {v : Value}
    (h : Calls P f args (w.drewN (a + n)) fun e w' => e = .returned v ∧ Drawn (w.drewN (a + n)) w') :
    Calls P f args (w.drewN (a + n)) fun e w'' => e = .returned v ∧ ∃ m, w'' = w.drewN (a + m) :=
  h.mono fun _ _ ⟨he, m, hm⟩ => ⟨he, n + m, by rw [hm, World.drewN_drewN, Nat.add_assoc]⟩

/-! Steps of 'Below', each for a call of its own. -/
theorem below_new {a w : World} (h : Below a.heap.size a w) (o : Obj) : Below a.heap.size a (w.alloc o) := h.alloc h.size o
theorem below_set {B : Nat} {a w : World} (h : Below B a w) {p : Addr} (hp : B ≤ p.block) (u : Value) : Below B a (w.setCell p u) := h.setCell hp u
theorem below_then {a b c : World} (h : Below a.heap.size a b) (k : Below b.heap.size b c) : Below a.heap.size a c := h.trans (k.mono h.size)
theorem below_drawn {B : Nat} {a b c : World} (h : Below B a b) (k : Drawn b c) : Below B a c := by
  obtain ⟨n, rfl⟩ := k; exact below_drewN h n

/-- An int of Go. -/
def I64 (n : Int) : Prop := -9223372036854775808 ≤ n ∧ n ≤ 9223372036854775807

end Go.Proofs.YtchahccnmjaejacDoor

/- Slices of integers that came in, as lists: what the walks are told of memory. -/
namespace Go.Proofs.YtchahccnmjaejacDoor
set_option linter.unusedVariables false
set_option maxRecDepth 100000
open Go.RowKit Go.ChangeShapes Go.WideShapes

/-- The slice '.slice a n _' holds the numbers xs, below block B. -/
def Ints (w : World) (B : Nat) (a : Option Addr) (n : Nat) (xs : List Int) : Prop :=
  xs.length = n ∧ n ≤ 9223372036854775807 ∧ (∀ x ∈ xs, I64 x) ∧ (0 < n → ∃ b off, a = some ⟨b, off, none⟩ ∧ b < B ∧ ∀ i, i < n → w.cell? ⟨b, off + i, none⟩ = some (.int .i64 (xs.getD i 0)))
theorem Ints.below {w w' : World} {B B' : Nat} {a : Option Addr} {n : Nat} {xs : List Int} (h : Ints w B a n xs) (hb : Below B' w w') (hB : B ≤ B') : Ints w' B a n xs :=
  ⟨h.1, h.2.1, h.2.2.1, fun hn => by
    obtain ⟨b, off, e, hlt, hc⟩ := h.2.2.2 hn
    exact ⟨b, off, e, hlt, fun i hi => (hb.cell (p := ⟨b, off + i, none⟩) (Nat.lt_of_lt_of_le hlt hB)).trans (hc i hi)⟩⟩
theorem Ints.more {w : World} {B B' : Nat} {a : Option Addr} {n : Nat} {xs : List Int} (h : Ints w B a n xs) (hB : B ≤ B') : Ints w B' a n xs :=
  ⟨h.1, h.2.1, h.2.2.1, fun hn => by
    obtain ⟨b, off, e, hlt, hc⟩ := h.2.2.2 hn
    exact ⟨b, off, e, by omega, hc⟩⟩
theorem Ints.alloc {w : World} {B : Nat} {a : Option Addr} {n : Nat} {xs : List Int} (h : Ints w B a n xs) (hB : B ≤ w.heap.size) (o : Obj) : Ints (w.alloc o) B a n xs :=
  h.below ((Below.refl _ _).alloc (Nat.le_refl _) o) hB
theorem Ints.drewN {w : World} {B : Nat} {a : Option Addr} {n : Nat} {xs : List Int} (h : Ints w B a n xs) (m : Nat) : Ints (w.drewN m) B a n xs := h
theorem Ints.len {w : World} {B : Nat} {a : Option Addr} {n : Nat} {xs : List Int} (h : Ints w B a n xs) : xs.length = n := h.1
theorem Ints.at_ {w : World} {B : Nat} {a : Option Addr} {n : Nat} {xs : List Int} (h : Ints w B a n xs) {k : Nat} (hk : k < n) :
    ∃ b off x, a = some ⟨b, off, none⟩ ∧ b < B ∧ w.cell? ⟨b, off + k, none⟩ = some (.int .i64 x) ∧ xs[k]? = some x ∧ -9223372036854775808 ≤ x ∧ x ≤ 9223372036854775807 := by
  obtain ⟨b, off, e, hlt, hc⟩ := h.2.2.2 (by omega)
  have hl : k < xs.length := by have := h.1; omega
  have hx := List.getElem?_eq_getElem hl
  refine ⟨b, off, xs[k], e, hlt, ?_, hx, h.2.2.1 _ (List.getElem_mem hl)⟩
  have := hc k hk
  rwa [List.getD_eq_getElem?_getD, hx, Option.getD_some] at this

theorem Ints.far {w w1 w2 : World} {a : Option Addr} {n : Nat} {xs : List Int} (h : Ints w w.heap.size a n xs) (b : Below w.heap.size w w1) (b' : Below w1.heap.size w1 w2) : Ints w2 w2.heap.size a n xs :=
  ((h.below b (Nat.le_refl _)).below b' b.size).more (Nat.le_trans b.size b'.size)
theorem Ints.take {w : World} {B : Nat} {a : Option Addr} {n : Nat} {xs : List Int} (h : Ints w B a n xs) {k : Nat} (hk : k ≤ n) : Ints w B a k (xs.take k) :=
  ⟨by rw [List.length_take, h.1]; omega, Nat.le_trans hk h.2.1, fun x hx => h.2.2.1 x (List.mem_of_mem_take hx), fun hn => by
    obtain ⟨b, off, e, hlt, hc⟩ := h.2.2.2 (by omega)
    refine ⟨b, off, e, hlt, fun i hi => ?_⟩
    rw [hc i (by omega)]
    simp [List.getD_eq_getElem?_getD, hi]⟩
end Go.Proofs.YtchahccnmjaejacDoor

/- Blocks that the call itself made, known whole; literal slices of integers. -/
namespace Go.Proofs.YtchahccnmjaejacDoor
set_option linter.unusedVariables false
set_option maxRecDepth 100000
open Go.RowKit

/-- Block b of w is just the object o. -/
def At (w : World) (b : Nat) (o : Obj) : Prop := w.heap[b]? = some o
theorem At.lt {w : World} {b : Nat} {o : Obj} (h : At w b o) : b < w.heap.size := by
  rcases Nat.lt_or_ge b w.heap.size with hlt | hge
  · exact hlt
  · unfold At at h; rw [Array.getElem?_eq_none hge] at h; cases h
theorem At.new (w : World) (o : Obj) : At (w.alloc o) w.heap.size o := heap_alloc_new w o
theorem At.newAt (w : World) (o : Obj) (b : Nat) (h : b = w.heap.size) : At (w.alloc o) b o := by subst h; exact At.new w o
theorem At.new1 (w : World) (o o1 : Obj) : At ((w.alloc o).alloc o1) (w.heap.size + 1) o1 := by
  have := At.new (w.alloc o) o1; simpa using this
theorem At.new2 (w : World) (o o1 o2 : Obj) : At (((w.alloc o).alloc o1).alloc o2) (w.heap.size + 1 + 1) o2 := by
  have := At.new1 (w.alloc o) o1 o2; simpa using this
theorem At.new3 (w : World) (o o1 o2 o3 : Obj) : At ((((w.alloc o).alloc o1).alloc o2).alloc o3) (w.heap.size + 1 + 1 + 1) o3 := by
  have := At.new2 (w.alloc o) o1 o2 o3; simpa using this
theorem At.alloc {w : World} {b : Nat} {o : Obj} (h : At w b o) (o' : Obj) : At (w.alloc o') b o := (Below.heap_alloc w o' b h.lt).trans h
theorem At.drewN {w : World} {b : Nat} {o : Obj} (h : At w b o) (n : Nat) : At (w.drewN n) b o := h
theorem At.drew {w : World} {b : Nat} {o : Obj} (h : At w b o) : At w.drew b o := h
theorem At.drawn {w w' : World} {b : Nat} {o : Obj} (h : At w b o) (d : Drawn w w') : At w' b o := by obtain ⟨n, rfl⟩ := d; exact h
theorem At.then_ {w w' : World} {b : Nat} {o : Obj} (h : At w b o) (k : Below w.heap.size w w') : At w' b o := (k.block b h.lt).trans h
theorem At.below {B : Nat} {w w' : World} {b : Nat} {o : Obj} (h : At w b o) (hb : Below B w w') (hB : b < B) : At w' b o := (hb.block b hB).trans h
theorem At.cell {w : World} {b : Nat} {cs : Array Value} {t : TypeId} {m : Nat × Nat} (h : At w b (.cells cs t m)) (i : Nat) : w.cell? ⟨b, i, none⟩ = cs[i]? := cell_of_row w b i cs t m h
theorem At.frozen {w : World} {b : Nat} {cs : Array Value} {t : TypeId} (h : At w b (.cells cs t)) (i : Nat) : w.frozen? ⟨b, i, none⟩ = false := by
  unfold At at h
  simp [World.frozen?, h]
theorem At.ints {w : World} {b : Nat} {t : TypeId} {m : Nat × Nat} (zs : List Int) (h : At w b (.cells (zs.map (Value.int .i64)).toArray t m)) (hI : ∀ x ∈ zs, I64 x) (hn : zs.length ≤ 9223372036854775807) :
    Ints w w.heap.size (some ⟨b, 0, none⟩) zs.length zs :=
  ⟨rfl, hn, hI, fun _ => ⟨b, 0, rfl, h.lt, fun i hi => by
    rw [h.cell (0 + i)]
    simp [hi]⟩⟩

/-! What a region that draws its order keeps: some cells of a block of the caller's own, and all that was there. -/
theorem keep1 {w1 W w' : World} {b : Nat} {v0 : Value} (h : W.cell? ⟨b, 0, none⟩ = some v0 ∧ Below w1.heap.size w1 W) (hb : Below W.heap.size W w') (hB : b < w1.heap.size) : w'.cell? ⟨b, 0, none⟩ = some v0 ∧ Below w1.heap.size w1 w' := by
  obtain ⟨h0, hk⟩ := h
  have hlt : b < W.heap.size := Nat.lt_of_lt_of_le hB hk.size
  exact ⟨(hb.cell (p := ⟨b, 0, none⟩) hlt).trans h0, hk.trans (hb.mono hk.size)⟩
theorem keep2 {w1 W w' : World} {b : Nat} {v0 v1 : Value} (h : W.cell? ⟨b, 0, none⟩ = some v0 ∧ W.cell? ⟨b, 1, none⟩ = some v1 ∧ Below w1.heap.size w1 W) (hb : Below W.heap.size W w') (hB : b < w1.heap.size) : w'.cell? ⟨b, 0, none⟩ = some v0 ∧ w'.cell? ⟨b, 1, none⟩ = some v1 ∧ Below w1.heap.size w1 w' := by
  obtain ⟨h0, h1, hk⟩ := h
  have hlt : b < W.heap.size := Nat.lt_of_lt_of_le hB hk.size
  exact ⟨(hb.cell (p := ⟨b, 0, none⟩) hlt).trans h0, (hb.cell (p := ⟨b, 1, none⟩) hlt).trans h1, hk.trans (hb.mono hk.size)⟩
theorem keep3 {w1 W w' : World} {b : Nat} {v0 v1 v2 : Value} (h : W.cell? ⟨b, 0, none⟩ = some v0 ∧ W.cell? ⟨b, 1, none⟩ = some v1 ∧ W.cell? ⟨b, 2, none⟩ = some v2 ∧ Below w1.heap.size w1 W) (hb : Below W.heap.size W w') (hB : b < w1.heap.size) : w'.cell? ⟨b, 0, none⟩ = some v0 ∧ w'.cell? ⟨b, 1, none⟩ = some v1 ∧ w'.cell? ⟨b, 2, none⟩ = some v2 ∧ Below w1.heap.size w1 w' := by
  obtain ⟨h0, h1, h2, hk⟩ := h
  have hlt : b < W.heap.size := Nat.lt_of_lt_of_le hB hk.size
  exact ⟨(hb.cell (p := ⟨b, 0, none⟩) hlt).trans h0, (hb.cell (p := ⟨b, 1, none⟩) hlt).trans h1, (hb.cell (p := ⟨b, 2, none⟩) hlt).trans h2, hk.trans (hb.mono hk.size)⟩
theorem keep4 {w1 W w' : World} {b : Nat} {v0 v1 v2 v3 : Value} (h : W.cell? ⟨b, 0, none⟩ = some v0 ∧ W.cell? ⟨b, 1, none⟩ = some v1 ∧ W.cell? ⟨b, 2, none⟩ = some v2 ∧ W.cell? ⟨b, 3, none⟩ = some v3 ∧ Below w1.heap.size w1 W) (hb : Below W.heap.size W w') (hB : b < w1.heap.size) : w'.cell? ⟨b, 0, none⟩ = some v0 ∧ w'.cell? ⟨b, 1, none⟩ = some v1 ∧ w'.cell? ⟨b, 2, none⟩ = some v2 ∧ w'.cell? ⟨b, 3, none⟩ = some v3 ∧ Below w1.heap.size w1 w' := by
  obtain ⟨h0, h1, h2, h3, hk⟩ := h
  have hlt : b < W.heap.size := Nat.lt_of_lt_of_le hB hk.size
  exact ⟨(hb.cell (p := ⟨b, 0, none⟩) hlt).trans h0, (hb.cell (p := ⟨b, 1, none⟩) hlt).trans h1, (hb.cell (p := ⟨b, 2, none⟩) hlt).trans h2, (hb.cell (p := ⟨b, 3, none⟩) hlt).trans h3, hk.trans (hb.mono hk.size)⟩
theorem keep5 {w1 W w' : World} {b : Nat} {v0 v1 v2 v3 v4 : Value} (h : W.cell? ⟨b, 0, none⟩ = some v0 ∧ W.cell? ⟨b, 1, none⟩ = some v1 ∧ W.cell? ⟨b, 2, none⟩ = some v2 ∧ W.cell? ⟨b, 3, none⟩ = some v3 ∧ W.cell? ⟨b, 4, none⟩ = some v4 ∧ Below w1.heap.size w1 W) (hb : Below W.heap.size W w') (hB : b < w1.heap.size) : w'.cell? ⟨b, 0, none⟩ = some v0 ∧ w'.cell? ⟨b, 1, none⟩ = some v1 ∧ w'.cell? ⟨b, 2, none⟩ = some v2 ∧ w'.cell? ⟨b, 3, none⟩ = some v3 ∧ w'.cell? ⟨b, 4, none⟩ = some v4 ∧ Below w1.heap.size w1 w' := by
  obtain ⟨h0, h1, h2, h3, h4, hk⟩ := h
  have hlt : b < W.heap.size := Nat.lt_of_lt_of_le hB hk.size
  exact ⟨(hb.cell (p := ⟨b, 0, none⟩) hlt).trans h0, (hb.cell (p := ⟨b, 1, none⟩) hlt).trans h1, (hb.cell (p := ⟨b, 2, none⟩) hlt).trans h2, (hb.cell (p := ⟨b, 3, none⟩) hlt).trans h3, (hb.cell (p := ⟨b, 4, none⟩) hlt).trans h4, hk.trans (hb.mono hk.size)⟩
theorem keep6 {w1 W w' : World} {b : Nat} {v0 v1 v2 v3 v4 v5 : Value} (h : W.cell? ⟨b, 0, none⟩ = some v0 ∧ W.cell? ⟨b, 1, none⟩ = some v1 ∧ W.cell? ⟨b, 2, none⟩ = some v2 ∧ W.cell? ⟨b, 3, none⟩ = some v3 ∧ W.cell? ⟨b, 4, none⟩ = some v4 ∧ W.cell? ⟨b, 5, none⟩ = some v5 ∧ Below w1.heap.size w1 W) (hb : Below W.heap.size W w') (hB : b < w1.heap.size) : w'.cell? ⟨b, 0, none⟩ = some v0 ∧ w'.cell? ⟨b, 1, none⟩ = some v1 ∧ w'.cell? ⟨b, 2, none⟩ = some v2 ∧ w'.cell? ⟨b, 3, none⟩ = some v3 ∧ w'.cell? ⟨b, 4, none⟩ = some v4 ∧ w'.cell? ⟨b, 5, none⟩ = some v5 ∧ Below w1.heap.size w1 w' := by
  obtain ⟨h0, h1, h2, h3, h4, h5, hk⟩ := h
  have hlt : b < W.heap.size := Nat.lt_of_lt_of_le hB hk.size
  exact ⟨(hb.cell (p := ⟨b, 0, none⟩) hlt).trans h0, (hb.cell (p := ⟨b, 1, none⟩) hlt).trans h1, (hb.cell (p := ⟨b, 2, none⟩) hlt).trans h2, (hb.cell (p := ⟨b, 3, none⟩) hlt).trans h3, (hb.cell (p := ⟨b, 4, none⟩) hlt).trans h4, (hb.cell (p := ⟨b, 5, none⟩) hlt).trans h5, hk.trans (hb.mono hk.size)⟩
theorem keep7 {w1 W w' : World} {b : Nat} {v0 v1 v2 v3 v4 v5 v6 : Value} (h : W.cell? ⟨b, 0, none⟩ = some v0 ∧ W.cell? ⟨b, 1, none⟩ = some v1 ∧ W.cell? ⟨b, 2, none⟩ = some v2 ∧ W.cell? ⟨b, 3, none⟩ = some v3 ∧ W.cell? ⟨b, 4, none⟩ = some v4 ∧ W.cell? ⟨b, 5, none⟩ = some v5 ∧ W.cell? ⟨b, 6, none⟩ = some v6 ∧ Below w1.heap.size w1 W) (hb : Below W.heap.size W w') (hB : b < w1.heap.size) : w'.cell? ⟨b, 0, none⟩ = some v0 ∧ w'.cell? ⟨b, 1, none⟩ = some v1 ∧ w'.cell? ⟨b, 2, none⟩ = some v2 ∧ w'.cell? ⟨b, 3, none⟩ = some v3 ∧ w'.cell? ⟨b, 4, none⟩ = some v4 ∧ w'.cell? ⟨b, 5, none⟩ = some v5 ∧ w'.cell? ⟨b, 6, none⟩ = some v6 ∧ Below w1.heap.size w1 w' := by
  obtain ⟨h0, h1, h2, h3, h4, h5, h6, hk⟩ := h
  have hlt : b < W.heap.size := Nat.lt_of_lt_of_le hB hk.size
  exact ⟨(hb.cell (p := ⟨b, 0, none⟩) hlt).trans h0, (hb.cell (p := ⟨b, 1, none⟩) hlt).trans h1, (hb.cell (p := ⟨b, 2, none⟩) hlt).trans h2, (hb.cell (p := ⟨b, 3, none⟩) hlt).trans h3, (hb.cell (p := ⟨b, 4, none⟩) hlt).trans h4, (hb.cell (p := ⟨b, 5, none⟩) hlt).trans h5, (hb.cell (p := ⟨b, 6, none⟩) hlt).trans h6, hk.trans (hb.mono hk.size)⟩
theorem keep8 {w1 W w' : World} {b : Nat} {v0 v1 v2 v3 v4 v5 v6 v7 : Value} (h : W.cell? ⟨b, 0, none⟩ = some v0 ∧ W.cell? ⟨b, 1, none⟩ = some v1 ∧ W.cell? ⟨b, 2, none⟩ = some v2 ∧ W.cell? ⟨b, 3, none⟩ = some v3 ∧ W.cell? ⟨b, 4, none⟩ = some v4 ∧ W.cell? ⟨b, 5, none⟩ = some v5 ∧ W.cell? ⟨b, 6, none⟩ = some v6 ∧ W.cell? ⟨b, 7, none⟩ = some v7 ∧ Below w1.heap.size w1 W) (hb : Below W.heap.size W w') (hB : b < w1.heap.size) : w'.cell? ⟨b, 0, none⟩ = some v0 ∧ w'.cell? ⟨b, 1, none⟩ = some v1 ∧ w'.cell? ⟨b, 2, none⟩ = some v2 ∧ w'.cell? ⟨b, 3, none⟩ = some v3 ∧ w'.cell? ⟨b, 4, none⟩ = some v4 ∧ w'.cell? ⟨b, 5, none⟩ = some v5 ∧ w'.cell? ⟨b, 6, none⟩ = some v6 ∧ w'.cell? ⟨b, 7, none⟩ = some v7 ∧ Below w1.heap.size w1 w' := by
  obtain ⟨h0, h1, h2, h3, h4, h5, h6, h7, hk⟩ := h
  have hlt : b < W.heap.size := Nat.lt_of_lt_of_le hB hk.size
  exact ⟨(hb.cell (p := ⟨b, 0, none⟩) hlt).trans h0, (hb.cell (p := ⟨b, 1, none⟩) hlt).trans h1, (hb.cell (p := ⟨b, 2, none⟩) hlt).trans h2, (hb.cell (p := ⟨b, 3, none⟩) hlt).trans h3, (hb.cell (p := ⟨b, 4, none⟩) hlt).trans h4, (hb.cell (p := ⟨b, 5, none⟩) hlt).trans h5, (hb.cell (p := ⟨b, 6, none⟩) hlt).trans h6, (hb.cell (p := ⟨b, 7, none⟩) hlt).trans h7, hk.trans (hb.mono hk.size)⟩
theorem last1 {P0 R : Prop} (h : P0 ∧ R) : R := h.2
theorem last2 {P0 P1 R : Prop} (h : P0 ∧ P1 ∧ R) : R := h.2.2
theorem last3 {P0 P1 P2 R : Prop} (h : P0 ∧ P1 ∧ P2 ∧ R) : R := h.2.2.2
theorem last4 {P0 P1 P2 P3 R : Prop} (h : P0 ∧ P1 ∧ P2 ∧ P3 ∧ R) : R := h.2.2.2.2
theorem last5 {P0 P1 P2 P3 P4 R : Prop} (h : P0 ∧ P1 ∧ P2 ∧ P3 ∧ P4 ∧ R) : R := h.2.2.2.2.2
theorem last6 {P0 P1 P2 P3 P4 P5 R : Prop} (h : P0 ∧ P1 ∧ P2 ∧ P3 ∧ P4 ∧ P5 ∧ R) : R := h.2.2.2.2.2.2
theorem last7 {P0 P1 P2 P3 P4 P5 P6 R : Prop} (h : P0 ∧ P1 ∧ P2 ∧ P3 ∧ P4 ∧ P5 ∧ P6 ∧ R) : R := h.2.2.2.2.2.2.2
theorem last8 {P0 P1 P2 P3 P4 P5 P6 P7 R : Prop} (h : P0 ∧ P1 ∧ P2 ∧ P3 ∧ P4 ∧ P5 ∧ P6 ∧ P7 ∧ R) : R := h.2.2.2.2.2.2.2.2
end Go.Proofs.YtchahccnmjaejacDoor

/- Slices of structs that came in: every field of every element is a cell of its own, and reads as data. -/
namespace Go.Proofs.YtchahccnmjaejacDoor
set_option linter.unusedVariables false
set_option maxRecDepth 100000
open Go.RowKit Go.ChangeShapes Go.WideShapes Go.Deep

/-- A list out of what holds at each index. -/
theorem listOf {α : Type} {n : Nat} {P : Nat → α → Prop} (h : ∀ i, i < n → ∃ x, P i x) : ∃ xs : List α, xs.length = n ∧ ∀ (i : Nat) (x : α), xs[i]? = some x → P i x := by
  induction n with
  | zero => exact ⟨[], rfl, fun i x hx => by simp at hx⟩
  | succ n ih =>
    obtain ⟨xs, h1, h2⟩ := ih fun i hi => h i (by omega)
    obtain ⟨x, hx⟩ := h n (by omega)
    refine ⟨xs ++ [x], by simp [h1], fun i y hy => ?_⟩
    rcases Nat.lt_trichotomy i n with hlt | heq | hgt
    · rw [List.getElem?_append_left (by omega)] at hy
      exact h2 i y hy
    · subst heq
      rw [← h1, List.getElem?_append_right (Nat.le_refl _)] at hy
      simp at hy
      subst hy
      exact hx
    · rw [List.getElem?_eq_none (by simp; omega)] at hy
      cases hy
theorem add_none (b off k : Nat) : (⟨b, off, none⟩ : Addr).add k = ⟨b, off + k, none⟩ := by
  by_cases h : k = 0
  · subst h; simp [Addr.add]
  · simp [Addr.add, h]
theorem open_rows {H : Type} {enc : TypeId × Value → H} {W : World} {fuel : Nat} {v : Value} {x : DataW H × List MemPlace} {t e : TypeId} {fs : Array Field}
    (ht : Tryd.prog.underlying t = some (.slice e)) (he : Tryd.prog.underlying e = some (.struct fs)) (hone : oneCellFields Tryd.prog fs = true) (hC : Tryd.prog.cellsOf e = fs.size) (hpos : 0 < fs.size)
    (h : DataW.trod enc Tryd.prog W 0 (fun _ => true) true fuel t [v] = some x) :
    ∃ a len cap, v = .slice a len cap ∧ len ≤ 9223372036854775807 ∧ (0 < len → ∃ b off, a = some ⟨b, off, none⟩ ∧ b < W.heap.size ∧ ∀ i, i < len → ∃ n, ∀ j f, fs[j]? = some f →
      ∃ u y, W.cell? ⟨b, off + i * fs.size + j, none⟩ = some u ∧ DataW.trod enc Tryd.prog W 0 (fun _ => true) true n f.type [u] = some y) := by
  rcases open_slice ht h with ⟨hcs, _⟩ | ⟨a, len, cap, m, n, D, Pl, hcs, _, hl, hm, hmm, _, hi⟩
  · simp at hcs
    subst hcs
    exact ⟨none, 0, 0, rfl, by omega, fun h => absurd h (by omega)⟩
  · simp at hcs
    subst hcs
    unfold maxLen at hm
    refine ⟨some a, len, cap, rfl, by omega, fun hn => ?_⟩
    have hrec : ∀ i, i < len → ∃ n, ∀ j f, fs[j]? = some f → ∃ u y, W.cell? (a.add (i * fs.size + j)) = some u ∧ DataW.trod enc Tryd.prog W 0 (fun _ => true) true n f.type [u] = some y := by
      intro i him
      obtain ⟨cs', hc, ht'⟩ := hi i (by rw [hmm]; simp; omega)
      rw [hC] at hc
      obtain ⟨ys, n', hn', hy, hlen, hyl, hf⟩ := DataW.trod_struct he ht'
      obtain ⟨_, hcl, hat⟩ := World.cells?_some hc
      refine ⟨n', fun j f hj => ?_⟩
      obtain ⟨ho, hk⟩ := hone_of hone j f hj
      have hjl : j < fs.size := (Array.getElem?_eq_some_iff.1 hj).1
      have hcell := hat j hjl
      have hv : cs'[j]? = some (cs'[j]'(by omega)) := List.getElem?_eq_getElem (by omega)
      have h1 := hf j f hj
      rw [ho, hk] at h1
      have hone' : (cs'.drop j).take 1 = [cs'[j]'(by omega)] := by
        rw [List.drop_eq_getElem_cons (by omega)]
        rfl
      rw [hone'] at h1
      have hys : ys[j]? = some (ys[j]'(by omega)) := List.getElem?_eq_getElem (by omega)
      refine ⟨_, _, ?_, h1.trans hys⟩
      rw [← Go.Deep.add_add, hcell, hv]
    obtain ⟨b, off, spot⟩ := a
    obtain ⟨n0, h0⟩ := hrec 0 hn
    obtain ⟨u, y, hu, _⟩ := h0 0 _ (Array.getElem?_eq_getElem hpos)
    have hspot : spot = none := by simpa [Addr.add] using World.cell?_spot hu
    subst hspot
    have hb : b < W.heap.size := by
      rcases Nat.lt_or_ge b W.heap.size with h' | h'
      · exact h'
      · simp [World.cell?, Addr.add, Array.getElem?_eq_none h'] at hu
    refine ⟨b, off, rfl, hb, fun i hi' => ?_⟩
    obtain ⟨n1, h1⟩ := hrec i hi'
    refine ⟨n1, fun j f hj => ?_⟩
    obtain ⟨u, y, hu, hy⟩ := h1 j f hj
    rw [add_none, ← Nat.add_assoc] at hu
    exact ⟨u, y, hu, hy⟩
theorem open_str {H : Type} {enc : TypeId × Value → H} {W : World} {n : Nat} {u : Value} {y : DataW H × List MemPlace} (h : DataW.trod enc Tryd.prog W 0 (fun _ => true) true n 9 [u] = some y) : ∃ s : ByteArray, u = .string s ∧ s.size ≤ 9223372036854775807 := by
  obtain ⟨s, hs, _, hm⟩ := DataW.trod_string Tryd.underlying9 h
  simp at hs
  unfold maxLen at hm
  exact ⟨s, hs, hm⟩
theorem open_num {H : Type} {enc : TypeId × Value → H} {W : World} {n : Nat} {u : Value} {y : DataW H × List MemPlace} (h : DataW.trod enc Tryd.prog W 0 (fun _ => true) true n 3 [u] = some y) : ∃ k : Int, u = .int .i64 k ∧ I64 k := by
  obtain ⟨k, hs, _, hm⟩ := DataW.trod_int Tryd.underlying3 h
  simp at hs
  exact ⟨k, hs, bounds_i64 hm⟩
/-- A struct by value, each field one cell. -/
theorem open_agg {H : Type} {enc : TypeId × Value → H} {W : World} {r : Reach} {b0 : Nat} {t : TypeId} {fs : Array Field} {v : Value} {d : DataW H} {p : List MemPlace}
    (hs : Tryd.prog.underlying t = some (.struct fs)) (hone : oneCellFields Tryd.prog fs = true) (hC : Tryd.prog.cellsOf t = fs.size)
    (hv : Value.okWide Tryd.prog W r b0 t v) (h : DataW.Trod enc Tryd.prog W 0 (fun _ => true) true t v d p) :
    ∃ (cs : List Value) (n : Nat), v = .agg cs.toArray ∧ cs.length = fs.size ∧ ∀ (j : Nat) (f : Field), fs[j]? = some f → ∃ u y, cs[j]? = some u ∧ DataW.trod enc Tryd.prog W 0 (fun _ => true) true n f.type [u] = some y := by
  obtain ⟨cs, rfl, hsz⟩ := okWide_struct hs hv
  obtain ⟨l⟩ := cs
  obtain ⟨fuel, hf⟩ := h
  obtain ⟨ys, n', hn', hy, hlen, hyl, hg⟩ := DataW.trod_struct hs hf
  have hl : l.length = fs.size := by have := hsz.trans hC; simpa using this
  refine ⟨l, n', rfl, hl, fun j f hj => ?_⟩
  obtain ⟨ho, hk⟩ := hone_of hone j f hj
  have hjl : j < fs.size := (Array.getElem?_eq_some_iff.1 hj).1
  have h1 := hg j f hj
  rw [ho, hk] at h1
  have hone' : List.take 1 (List.drop j (Value.agg (⟨l⟩ : Array Value)).cells.toList) = [l[j]'(by omega)] := by
    show (l.drop j).take 1 = _
    rw [List.drop_eq_getElem_cons (by omega)]
    rfl
  rw [hone'] at h1
  have hys : ys[j]? = some (ys[j]'(by omega)) := List.getElem?_eq_getElem (by omega)
  exact ⟨_, _, List.getElem?_eq_getElem (by omega), h1.trans hys⟩
end Go.Proofs.YtchahccnmjaejacDoor

/- Slices of structs as lists, in general; slices of api.RuleMonth. -/
namespace Go.Proofs.YtchahccnmjaejacDoor
set_option linter.unusedVariables false
set_option maxRecDepth 100000
open Go.RowKit Go.ChangeShapes Go.WideShapes Go.Deep

/-- The slice '.slice a n _' holds these elements, 'sz' cells each, below block B. -/
def RowsOf {α : Type} (sz : Nat) (enc : α → List Value) (w : World) (B : Nat) (a : Option Addr) (n : Nat) (xs : List α) : Prop :=
  xs.length = n ∧ n ≤ 9223372036854775807 ∧ (0 < n → ∃ b off, a = some ⟨b, off, none⟩ ∧ b < B ∧ ∀ i x, xs[i]? = some x → ∀ j v, (enc x)[j]? = some v → w.cell? ⟨b, off + i * sz + j, none⟩ = some v)
section
variable {α : Type} {sz : Nat} {enc : α → List Value} {w w' w1 w2 : World} {B B' : Nat} {a : Option Addr} {n : Nat} {xs : List α}
theorem RowsOf.below (h : RowsOf sz enc w B a n xs) (hb : Below B' w w') (hB : B ≤ B') : RowsOf sz enc w' B a n xs :=
  ⟨h.1, h.2.1, fun hn => by
    obtain ⟨b, off, e, hlt, hc⟩ := h.2.2 hn
    exact ⟨b, off, e, hlt, fun i x hx j v hv => (hb.cell (p := ⟨b, _, none⟩) (Nat.lt_of_lt_of_le hlt hB)).trans (hc i x hx j v hv)⟩⟩
theorem RowsOf.more (h : RowsOf sz enc w B a n xs) (hB : B ≤ B') : RowsOf sz enc w B' a n xs :=
  ⟨h.1, h.2.1, fun hn => by
    obtain ⟨b, off, e, hlt, hc⟩ := h.2.2 hn
    exact ⟨b, off, e, by omega, hc⟩⟩
theorem RowsOf.far (h : RowsOf sz enc w w.heap.size a n xs) (b : Below w.heap.size w w1) (b' : Below w1.heap.size w1 w2) : RowsOf sz enc w2 w2.heap.size a n xs :=
  ((h.below b (Nat.le_refl _)).below b' b.size).more (Nat.le_trans b.size b'.size)
theorem RowsOf.take (h : RowsOf sz enc w B a n xs) {k : Nat} (hk : k ≤ n) : RowsOf sz enc w B a k (xs.take k) :=
  ⟨by rw [List.length_take, h.1]; omega, Nat.le_trans hk h.2.1, fun hn => by
    obtain ⟨b, off, e, hlt, hc⟩ := h.2.2 (by omega)
    refine ⟨b, off, e, hlt, fun i x hx => hc i x ?_⟩
    rw [List.getElem?_take] at hx
    split at hx
    · exact hx
    · cases hx⟩
end

/-- A month: its name and its two lengths. -/
abbrev Mon := ByteArray × Int × Int
def encM (x : Mon) : List Value := [.string x.1, .int .i64 x.2.1, .int .i64 x.2.2]
def okM (x : Mon) : Prop := x.1.size ≤ 9223372036854775807 ∧ I64 x.2.1 ∧ I64 x.2.2
def Months (w : World) (B : Nat) (a : Option Addr) (n : Nat) (xs : List Mon) : Prop := RowsOf 3 encM w B a n xs ∧ ∀ x ∈ xs, okM x
section
variable {w w' w1 w2 : World} {B B' : Nat} {a : Option Addr} {n : Nat} {xs : List Mon}
theorem Months.below (h : Months w B a n xs) (hb : Below B' w w') (hB : B ≤ B') : Months w' B a n xs := ⟨h.1.below hb hB, h.2⟩
theorem Months.more (h : Months w B a n xs) (hB : B ≤ B') : Months w B' a n xs := ⟨h.1.more hB, h.2⟩
theorem Months.far (h : Months w w.heap.size a n xs) (b : Below w.heap.size w w1) (b' : Below w1.heap.size w1 w2) : Months w2 w2.heap.size a n xs := ⟨h.1.far b b', h.2⟩
theorem Months.take (h : Months w B a n xs) {k : Nat} (hk : k ≤ n) : Months w B a k (xs.take k) := ⟨h.1.take hk, fun x hx => h.2 x (List.mem_of_mem_take hx)⟩
theorem Months.len (h : Months w B a n xs) : xs.length = n := h.1.1
theorem Months.max (h : Months w B a n xs) : n ≤ 9223372036854775807 := h.1.2.1
theorem Months.open_ (h : Months w B a n xs) (hn : 0 < n) :
    ∃ b off, a = some ⟨b, off, none⟩ ∧ b < B ∧ ∀ k, k < n → ∃ s f g, w.cell? ⟨b, off + k * 3, none⟩ = some (.string s) ∧ w.cell? ⟨b, off + k * 3 + 1, none⟩ = some (.int .i64 f) ∧ w.cell? ⟨b, off + k * 3 + 2, none⟩ = some (.int .i64 g) ∧
      xs[k]? = some (s, f, g) ∧ s.size ≤ 9223372036854775807 ∧ -9223372036854775808 ≤ f ∧ f ≤ 9223372036854775807 ∧ -9223372036854775808 ≤ g ∧ g ≤ 9223372036854775807 := by
  obtain ⟨b, off, e, hlt, hc⟩ := h.1.2.2 hn
  refine ⟨b, off, e, hlt, fun k hk => ?_⟩
  have hl : k < xs.length := by have := h.len; omega
  have hx := List.getElem?_eq_getElem hl
  have hm := h.2 _ (List.getElem_mem hl)
  exact ⟨xs[k].1, xs[k].2.1, xs[k].2.2, hc k _ hx 0 _ rfl, hc k _ hx 1 _ rfl, hc k _ hx 2 _ rfl, hx, hm.1, hm.2.1.1, hm.2.1.2, hm.2.2.1, hm.2.2.2⟩
end
/-- A slice's length and capacity. -/
theorem open_cap {H : Type} {enc : TypeId × Value → H} {W : World} {fuel : Nat} {v : Value} {x : DataW H × List MemPlace} {t e : TypeId} (ht : Tryd.prog.underlying t = some (.slice e))
    (h : DataW.trod enc Tryd.prog W 0 (fun _ => true) true fuel t [v] = some x) : ∃ a len cap, v = .slice a len cap ∧ len ≤ cap ∧ cap ≤ 9223372036854775807 := by
  rcases open_slice ht h with ⟨hcs, _⟩ | ⟨a, len, cap, m, n, D, Pl, hcs, _, hl, hm, hmm, _, hi⟩
  · simp at hcs
    subst hcs
    exact ⟨none, 0, 0, rfl, by omega, by omega⟩
  · simp at hcs
    subst hcs
    unfold maxLen at hm
    exact ⟨some a, len, cap, rfl, hl, by omega⟩
/-- A parameter, or a field, of type []api.RuleMonth. -/
theorem open_Months {H : Type} {enc : TypeId × Value → H} {W : World} {fuel : Nat} {v : Value} {x : DataW H × List MemPlace}
    (h : DataW.trod enc Tryd.prog W 0 (fun _ => true) true fuel 25 [v] = some x) :
    ∃ a n c xs, v = .slice a n c ∧ n ≤ c ∧ c ≤ 9223372036854775807 ∧ Months W W.heap.size a n xs := by
  obtain ⟨a', len', cap', e', hlc, hcm⟩ := open_cap Tryd.underlying25 h
  obtain ⟨a, len, cap, rfl, hl, hrow⟩ := open_rows Tryd.underlying25 Tryd.underlying43 (by kernel_rfl) (by kernel_rfl) (by decide) h
  obtain ⟨rfl, rfl, rfl⟩ : a = a' ∧ len = len' ∧ cap = cap' := by injection e' with x y z; exact ⟨x, y, z⟩
  by_cases hn : 0 < len
  · obtain ⟨b, off, rfl, hb, hc⟩ := hrow hn
    have hs : ∀ i, i < len → ∃ x : Mon, (∀ j v, (encM x)[j]? = some v → W.cell? ⟨b, off + i * 3 + j, none⟩ = some v) ∧ okM x := by
      intro i hi
      obtain ⟨n, hf⟩ := hc i hi
      obtain ⟨u0, y0, c0, t0⟩ := hf 0 _ rfl
      obtain ⟨u1, y1, c1, t1⟩ := hf 1 _ rfl
      obtain ⟨u2, y2, c2, t2⟩ := hf 2 _ rfl
      obtain ⟨s, rfl, hs⟩ := open_str t0
      obtain ⟨k, rfl, hk⟩ := open_num t1
      obtain ⟨k', rfl, hk'⟩ := open_num t2
      refine ⟨(s, k, k'), fun j v hv => ?_, hs, hk, hk'⟩
      match j, hv with
      | 0, hv => simp [encM] at hv; subst hv; exact c0
      | 1, hv => simp [encM] at hv; subst hv; exact c1
      | 2, hv => simp [encM] at hv; subst hv; exact c2
    obtain ⟨xs, hx1, hx2⟩ := listOf hs
    refine ⟨_, len, cap, xs, rfl, hlc, hcm, ⟨hx1, hl, fun _ => ⟨b, off, rfl, hb, fun i x hx => (hx2 i x hx).1⟩⟩, fun x hx => ?_⟩
    obtain ⟨i, hi, rfl⟩ := List.getElem_of_mem hx
    exact (hx2 i _ (List.getElem?_eq_getElem hi)).2
  · obtain rfl : len = 0 := by omega
    exact ⟨a, 0, cap, [], rfl, hlc, hcm, ⟨rfl, by omega, fun h => absurd h (by omega)⟩, by simp⟩
end Go.Proofs.YtchahccnmjaejacDoor

/- Contracts of the reference's numbers. -/
namespace Go.Proofs.YtchahccnmjaejacDoor
set_option linter.unusedVariables false
set_option maxRecDepth 100000
open Go.RowKit

/-- Whether a number lies in a range. -/
def inB (l h x : Int) : Bool := decide (l ≤ x ∧ x ≤ h)
theorem inB_yes {l h x : Int} (h1 : l ≤ x) (h2 : x ≤ h) : inB l h x = true := decide_eq_true ⟨h1, h2⟩
theorem inB_no {l h x : Int} (h1 : ¬ (l ≤ x ∧ x ≤ h)) : inB l h x = false := decide_eq_false h1
theorem inB_iff {l h x : Int} : inB l h x = true ↔ l ≤ x ∧ x ≤ h := decide_eq_true_iff
theorem inB_cases (l h x : Int) : (inB l h x = true ∧ l ≤ x ∧ x ≤ h) ∨ (inB l h x = false ∧ ¬ (l ≤ x ∧ x ≤ h)) := by
  by_cases c : l ≤ x ∧ x ≤ h
  · exact .inl ⟨decide_eq_true c, c⟩
  · exact .inr ⟨decide_eq_false c, c⟩
theorem ref_In (x l h : Int) (w : World) :
    Calls Tryd.prog 41 #[.int .i64 x, .int .i64 l, .int .i64 h] w fun e w' => e = .returned (.bool (inB l h x)) ∧ w = w' := by
  by_cases h1 : l ≤ x
  · by_cases h2 : x ≤ h
    · go_enter Tryd.func41, Tryd.ntmps41
      go_wp2
      go_ret
      exact ⟨ret_bool (inB_yes h1 h2).symm, rfl⟩
    · go_enter Tryd.func41, Tryd.ntmps41
      go_wp2
      go_ret
      exact ⟨ret_bool (inB_no (by omega)).symm, rfl⟩
  · go_enter Tryd.func41, Tryd.ntmps41
    go_wp2
    go_ret
    exact ⟨ret_bool (inB_no (by omega)).symm, rfl⟩
theorem ref_Day (x : Int) (w : World) :
    Calls Tryd.prog 40 #[.int .i64 x] w fun e w' => e = .returned (.bool (inB (-4000000) 4000000 x)) ∧ w = w' := by
  go_enter Tryd.func40, Tryd.ntmps40
  go_wp2_with (go_at_call 41; refine (ref_In _ _ _ _).mono ?_; rintro e w' ⟨rfl, rfl⟩)
  go_ret
  exact ⟨rfl, rfl⟩
/-- Floor division, and its remainder, for every divisor but 0. -/
def dq (a b : Int) : Int := if 0 < b then a / b else (-a) / (-b)
def dr (a b : Int) : Int := if 0 < b then a % b else -((-a) % (-b))

theorem nat_up (a : Int) (y : Nat) (h : 0 ≤ a) : a / y = ((a.natAbs / y : Nat) : Int) ∧ a % y = ((a.natAbs % y : Nat) : Int) := by
  obtain ⟨x, rfl⟩ := Int.eq_ofNat_of_zero_le h
  simp
theorem nat_down (a : Int) (y : Nat) (hy : 1 ≤ y) (h : a ≤ 0) :
    (a.natAbs % y = 0 → a / y = -((a.natAbs / y : Nat) : Int) ∧ a % y = 0) ∧ (a.natAbs % y ≠ 0 → a / y = -((a.natAbs / y : Nat) : Int) - 1 ∧ a % y = y - ((a.natAbs % y : Nat) : Int)) := by
  obtain ⟨x, hx⟩ := Int.eq_ofNat_of_zero_le (show 0 ≤ -a by omega)
  obtain rfl : a = -(x : Int) := by omega
  have h1 := Nat.div_add_mod x y
  have h2 := Nat.mod_lt x (show 0 < y by omega)
  have h3 := Int.emod_add_mul_ediv (-(x : Int)) y
  have h4 := Int.emod_nonneg (-(x : Int)) (show (y : Int) ≠ 0 by omega)
  have h5 := Int.emod_lt_of_pos (-(x : Int)) (show 0 < (y : Int) by omega)
  simp only [Int.natAbs_neg, Int.natAbs_natCast]
  have h1' : (y : Int) * ((x / y : Nat) : Int) + ((x % y : Nat) : Int) = x := by rw [← Int.natCast_mul]; omega
  generalize x / y = q at *
  generalize x % y = r at *
  generalize -(x : Int) / (y : Int) = q' at *
  generalize -(x : Int) % (y : Int) = r' at *
  have h7 : (y : Int) * (q + q') = - r' - r := by rw [Int.mul_add]; omega
  constructor
  · intro hr
    have : (q : Int) + q' = 0 := by
      rcases Int.lt_trichotomy ((q : Int) + q') 0 with h | h | h
      · have := Int.mul_le_mul_of_nonneg_left (show (q : Int) + q' ≤ -1 by omega) (show 0 ≤ (y : Int) by omega); omega
      · exact h
      · have := Int.mul_le_mul_of_nonneg_left (show 1 ≤ (q : Int) + q' by omega) (show 0 ≤ (y : Int) by omega); omega
    rw [this] at h7; omega
  · intro hr
    have : (q : Int) + q' = -1 := by
      rcases Int.lt_trichotomy ((q : Int) + q') (-1) with h | h | h
      · have := Int.mul_le_mul_of_nonneg_left (show (q : Int) + q' ≤ -2 by omega) (show 0 ≤ (y : Int) by omega); omega
      · exact h
      · have := Int.mul_le_mul_of_nonneg_left (show 0 ≤ (q : Int) + q' by omega) (show 0 ≤ (y : Int) by omega); omega
    rw [this] at h7; omega

theorem bit_in (x k : Nat) (hx : x ≤ 18446744073709551615) : bits .and .u64 ((x : Int) / 2 ^ k) 1 = ((x / 2 ^ k % 2 : Nat) : Int) := by
  have h : ((x : Int) / 2 ^ k) = ((x / 2 ^ k : Nat) : Int) := by simp
  have h2 : x / 2 ^ k ≤ x := Nat.div_le_self _ _
  rw [h, show (1 : Int) = ((1 : Nat) : Int) from rfl, u64_and_nat _ _ (by omega) (by omega), nat_mask1]
theorem or_bit (r c : Nat) (hr : r ≤ 9223372036854775807) (hc : c ≤ 1) : bits .or .u64 ((r : Int) * 2) (c : Int) = ((2 * r + c : Nat) : Int) := by
  rw [show (r : Int) * 2 = ((2 * r : Nat) : Int) by omega, u64_or_nat _ _ (by omega) (by omega), nat_join 1 (2 * r) c (by omega) (by omega)]
theorem or_pow (q k : Nat) (hk : k ≤ 63) (hq : q ≤ 18446744073709551615) (hm : q % 2 ^ (k + 1) = 0) : bits .or .u64 (q : Int) (2 ^ k) = ((q + 2 ^ k : Nat) : Int) := by
  have h1 : 2 ^ k ≤ 2 ^ 63 := Nat.pow_le_pow_right (by omega) hk
  rw [show ((2 : Int) ^ k) = ((2 ^ k : Nat) : Int) by simp, u64_or_nat _ _ (by omega) (by omega), nat_join (k + 1) q (2 ^ k) hm (by rw [Nat.pow_succ]; have := Nat.two_pow_pos k; omega)]

theorem wrap_pow (k : Nat) (hk : k ≤ 63) : IntKind.u64.wrap (2 ^ k) = 2 ^ k := by
  have h1 : 2 ^ k ≤ 2 ^ 63 := Nat.pow_le_pow_right (by omega) hk
  have h2 : ((2 : Int) ^ k) = ((2 ^ k : Nat) : Int) := by simp
  rw [h2]
  generalize 2 ^ k = n at h1
  exact IntWalk.u64_in _ (by omega)
theorem long_step (x y j : Nat) (hy : 1 ≤ y) :
    (2 * (x / 2 ^ (j + 1) % y) + x / 2 ^ j % 2 < y → x / 2 ^ j / y = 2 * (x / 2 ^ (j + 1) / y) ∧ x / 2 ^ j % y = 2 * (x / 2 ^ (j + 1) % y) + x / 2 ^ j % 2) ∧
    (y ≤ 2 * (x / 2 ^ (j + 1) % y) + x / 2 ^ j % 2 → x / 2 ^ j / y = 2 * (x / 2 ^ (j + 1) / y) + 1 ∧ x / 2 ^ j % y = 2 * (x / 2 ^ (j + 1) % y) + x / 2 ^ j % 2 - y) := by
  have h0 : x / 2 ^ (j + 1) = x / 2 ^ j / 2 := by rw [Nat.pow_succ, Nat.div_div_eq_div_mul]
  rw [h0]
  generalize x / 2 ^ j = X
  have h1 := Nat.div_add_mod (X / 2) y
  have h2 := Nat.mod_lt (X / 2) (show 0 < y by omega)
  generalize X / 2 / y = q at *
  generalize X / 2 % y = r at *
  constructor
  · intro h
    have : X = y * (2 * q) + (2 * r + X % 2) := by
      have : y * (2 * q) = 2 * (y * q) := by rw [Nat.mul_left_comm]
      omega
    constructor
    · rw [this, Nat.mul_add_div (by omega), Nat.div_eq_of_lt (by omega)]; omega
    · rw [this, Nat.mul_add_mod, Nat.mod_eq_of_lt (by omega)]; omega
  · intro h
    have : X = y * (2 * q + 1) + (2 * r + X % 2 - y) := by
      have : y * (2 * q + 1) = 2 * (y * q) + y := by rw [Nat.mul_add, Nat.mul_left_comm, Nat.mul_one]
      omega
    constructor
    · rw [this, Nat.mul_add_div (by omega), Nat.div_eq_of_lt (by omega)]
    · rw [this, Nat.mul_add_mod, Nat.mod_eq_of_lt (by omega)]; omega

theorem neg_back (q : Int) (h0 : 0 ≤ q) (h : q ≤ 9223372036854775808) : wrap64 (IntKind.u64.wrap (-q)) = -q := by
  rw [IntKind.wrap_u64]; unfold wrap64; omega
/-- What the two functions Div return. -/
def divOut (a b : Int) : Value := if b = 0 then .tuple #[.int .i64 0, .int .i64 0, .int .i64 1] else if a = -9223372036854775808 ∧ b = -1 then .tuple #[.int .i64 0, .int .i64 0, .int .i64 14] else .tuple #[.int .i64 (dq a b), .int .i64 (dr a b), .int .i64 0]
theorem divOut_pos (a b : Int) (h : 1 ≤ b) : divOut a b = .tuple #[.int .i64 (a / b), .int .i64 (a % b), .int .i64 0] := by
  rw [divOut, if_neg (by omega), if_neg (by omega), dq, dr, if_pos (by omega), if_pos (by omega)]
theorem divOut_over (a b : Int) (x y : Nat) (hx : x = a.natAbs) (hy : y = b.natAbs) (h1 : -9223372036854775808 ≤ a) (h2 : a ≤ 9223372036854775807) (hb : b ≠ 0) (hs : a < 0 ↔ b < 0) (hq : 9223372036854775807 < x / y) : divOut a b = .tuple #[.int .i64 0, .int .i64 0, .int .i64 14] := by
  have h3 := Nat.div_le_self x y
  have h4 : x = 9223372036854775808 := by omega
  have h5 : y = 1 := by
    rcases Nat.lt_or_ge y 2 with h | h
    · omega
    · have := Nat.div_le_div_left (a := x) h (by omega); omega
  rw [divOut, if_neg hb, if_pos (by omega)]
theorem divOut_up (a b : Int) (x y : Nat) (hx : x = a.natAbs) (hy : y = b.natAbs) (hb : b ≠ 0) (hs : a < 0 ↔ b < 0) (hq : x / y ≤ 9223372036854775807) : divOut a b = .tuple #[.int .i64 ((x / y : Nat) : Int), .int .i64 (if b < 0 then -((x % y : Nat) : Int) else ((x % y : Nat) : Int)), .int .i64 0] := by
  rw [divOut, if_neg hb, if_neg (by rintro ⟨rfl, rfl⟩; subst hx hy; simp at hq)]
  subst hx hy
  by_cases h : b < 0
  · have e := nat_up (-a) b.natAbs (by omega)
    rw [show ((b.natAbs : Nat) : Int) = -b by omega, Int.natAbs_neg] at e
    rw [dq, dr, if_neg (by omega), if_neg (by omega), if_pos h, e.1, e.2]
  · have e := nat_up a b.natAbs (by omega)
    rw [show ((b.natAbs : Nat) : Int) = b by omega] at e
    rw [dq, dr, if_pos (by omega), if_pos (by omega), if_neg h, e.1, e.2]
theorem divOut_down (a b : Int) (x y : Nat) (hx : x = a.natAbs) (hy : y = b.natAbs) (hb : b ≠ 0) (hs : a < 0 ↔ ¬ b < 0) :
    (x % y = 0 → divOut a b = .tuple #[.int .i64 (-((x / y : Nat) : Int)), .int .i64 0, .int .i64 0]) ∧
    (x % y ≠ 0 → divOut a b = .tuple #[.int .i64 (-((x / y : Nat) : Int) - 1), .int .i64 (if b < 0 then -((y : Int) - ((x % y : Nat) : Int)) else (y : Int) - ((x % y : Nat) : Int)), .int .i64 0]) := by
  rw [divOut, if_neg hb, if_neg (by omega)]
  subst hx hy
  by_cases h : b < 0
  · have e := nat_down (-a) b.natAbs (by omega) (by omega)
    rw [show ((b.natAbs : Nat) : Int) = -b by omega, Int.natAbs_neg] at e
    rw [dq, dr, if_neg (by omega), if_neg (by omega), if_pos h, show ((b.natAbs : Nat) : Int) = -b by omega]
    exact ⟨fun h => by rw [(e.1 h).1, (e.1 h).2]; simp, fun h => by rw [(e.2 h).1, (e.2 h).2]⟩
  · have e := nat_down a b.natAbs (by omega) (by omega)
    rw [show ((b.natAbs : Nat) : Int) = b by omega] at e
    rw [dq, dr, if_pos (by omega), if_pos (by omega), if_neg h, show ((b.natAbs : Nat) : Int) = b by omega]
    exact ⟨fun h => by rw [(e.1 h).1, (e.1 h).2], fun h => by rw [(e.2 h).1, (e.2 h).2]⟩
theorem div_plus_le (x y : Nat) (hx : x ≤ 9223372036854775808) (h : x % y ≠ 0) : x / y + 1 ≤ 9223372036854775808 := by
  have h1 := Nat.div_add_mod x y
  rcases Nat.lt_or_ge y 1 with h0 | h0
  · obtain rfl : y = 0 := by omega
    simp
  · have := Nat.mul_le_mul_right (x / y) h0
    omega

theorem and_one (m : Nat) (h : m ≤ 18446744073709551615) : bits .and .u64 (m : Int) 1 = ((m % 2 : Nat) : Int) := by
  rw [show (1 : Int) = ((1 : Nat) : Int) from rfl, u64_and_nat _ _ (by omega) (by omega), nat_mask1]
theorem gcd_half (x y : Nat) (hx : x % 2 = 0) (hy : y % 2 = 1) : Nat.gcd (x / 2) y = Nat.gcd x y := by
  obtain ⟨k, rfl⟩ : ∃ k, x = 2 * k := ⟨x / 2, by omega⟩
  rw [Nat.mul_div_cancel_left _ (by omega)]
  have h : Nat.Coprime 2 y := by
    unfold Nat.Coprime
    rw [Nat.gcd_rec, hy, Nat.gcd_one_left]
  exact (Nat.Coprime.gcd_mul_left_cancel k h).symm
theorem gcd_halves (x y : Nat) (hx : x % 2 = 0) (hy : y % 2 = 0) : 2 * Nat.gcd (x / 2) (y / 2) = Nat.gcd x y := by
  obtain ⟨k, rfl⟩ : ∃ k, x = 2 * k := ⟨x / 2, by omega⟩
  obtain ⟨l, rfl⟩ : ∃ k, y = 2 * k := ⟨y / 2, by omega⟩
  rw [Nat.mul_div_cancel_left _ (by omega), Nat.mul_div_cancel_left _ (by omega), Nat.gcd_mul_left]
theorem gcd_less (x y : Nat) (h : y ≤ x) : Nat.gcd (x - y) y = Nat.gcd x y := by
  obtain ⟨k, rfl⟩ : ∃ k, x = k + y := ⟨x - y, by omega⟩
  rw [Nat.add_sub_cancel, Nat.gcd_add_self_left]

end Go.Proofs.YtchahccnmjaejacDoor

/- Expressions of rules as trees, in memory; what their error is, plain. -/
namespace Go.Proofs.YtchahccnmjaejacDoor
set_option linter.unusedVariables false
set_option maxRecDepth 100000
open Go.RowKit Go.ChangeShapes Go.WideShapes Go.Deep

inductive Tree : Type
  | node (k n : Int) (ks : List Tree) : Tree
def Tree.kind : Tree → Int | .node k _ _ => k
def Tree.num : Tree → Int | .node _ n _ => n
def Tree.kids : Tree → List Tree | .node _ _ ks => ks
mutual
def Tree.high : Tree → Nat
  | .node _ _ ks => Tree.highs ks + 1
def Tree.highs : List Tree → Nat
  | [] => 0
  | t :: ts => max (Tree.high t) (Tree.highs ts)
end
theorem Tree.high_mem : ∀ (ts : List Tree) (t : Tree), t ∈ ts → t.high ≤ Tree.highs ts
  | [], t, h => by cases h
  | x :: ts, t, h => by
    rw [Tree.highs]
    rcases List.mem_cons.1 h with rfl | h
    · exact Nat.le_max_left _ _
    · exact Nat.le_trans (Tree.high_mem ts t h) (Nat.le_max_right _ _)
/-- What holds of a tree whose kids it holds of holds of all trees. -/
theorem Tree.all {P : Tree → Prop} (h : ∀ k n ks, (∀ t ∈ ks, P t) → P (.node k n ks)) (t : Tree) : P t := by
  have key : ∀ m (t : Tree), t.high ≤ m → P t := by
    intro m
    induction m with
    | zero => intro t ht; cases t; rw [Tree.high] at ht; omega
    | succ m ih =>
      intro t ht
      cases t with
      | node k n ks =>
        rw [Tree.high] at ht
        exact h k n ks fun t hm => ih t (by have := Tree.high_mem ks t hm; omega)
  exact key _ t (Nat.le_refl _)
mutual
/-- The slice '.slice a len _' holds the kids of this tree, below block B. -/
def SubAt (w : World) (B : Nat) : Tree → Option Addr → Nat → Prop
  | .node k n ks, a, len => I64 k ∧ I64 n ∧ ks.length = len ∧ len ≤ 9223372036854775807 ∧ (0 < len → ∃ b off, a = some ⟨b, off, none⟩ ∧ b < B ∧ RowAt w B ks b off)
def RowAt (w : World) (B : Nat) : List Tree → Nat → Nat → Prop
  | [], _, _ => True
  | t :: ts, b, off => (w.cell? ⟨b, off, none⟩ = some (.int .i64 t.kind) ∧ w.cell? ⟨b, off + 1, none⟩ = some (.int .i64 t.num) ∧ ∃ a n c, w.cell? ⟨b, off + 2, none⟩ = some (.slice a n c) ∧ n ≤ c ∧ c ≤ 9223372036854775807 ∧ SubAt w B t a n) ∧ RowAt w B ts b (off + 3)
end
mutual
theorem SubAt.move {w w' : World} {B B' B2 : Nat} (hb : Below B' w w') (hB : B ≤ B') (hB2 : B ≤ B2) : ∀ (t : Tree) (a : Option Addr) (n : Nat), SubAt w B t a n → SubAt w' B2 t a n
  | .node k n ks, a, len, h => by
    rw [SubAt] at h ⊢
    obtain ⟨i1, i2, h1, h2, h3⟩ := h
    refine ⟨i1, i2, h1, h2, fun hn => ?_⟩
    obtain ⟨b, off, e, hlt, hr⟩ := h3 hn
    exact ⟨b, off, e, by omega, RowAt.move hb hB hB2 ks b off hlt hr⟩
theorem RowAt.move {w w' : World} {B B' B2 : Nat} (hb : Below B' w w') (hB : B ≤ B') (hB2 : B ≤ B2) : ∀ (ts : List Tree) (b off : Nat), b < B → RowAt w B ts b off → RowAt w' B2 ts b off
  | [], b, off, hlt, h => by rw [RowAt]; trivial
  | t :: ts, b, off, hlt, h => by
    rw [RowAt] at h ⊢
    obtain ⟨⟨c0, c1, a, n, c, c2, h1, h2, h3⟩, h4⟩ := h
    refine ⟨⟨(hb.cell (p := ⟨b, _, none⟩) (Nat.lt_of_lt_of_le hlt hB)).trans c0, (hb.cell (p := ⟨b, _, none⟩) (Nat.lt_of_lt_of_le hlt hB)).trans c1, a, n, c, (hb.cell (p := ⟨b, _, none⟩) (Nat.lt_of_lt_of_le hlt hB)).trans c2, h1, h2, SubAt.move hb hB hB2 t a n h3⟩, RowAt.move hb hB hB2 ts b (off + 3) hlt h4⟩
end
theorem SubAt.then_ {w w' : World} {t : Tree} {a : Option Addr} {n : Nat} (h : SubAt w w.heap.size t a n) (b : Below w.heap.size w w') : SubAt w' w'.heap.size t a n :=
  h.move b (Nat.le_refl _) b.size t a n
theorem SubAt.below {w w' : World} {B B' : Nat} {t : Tree} {a : Option Addr} {n : Nat} (h : SubAt w B t a n) (b : Below B' w w') (hB : B ≤ B') : SubAt w' B t a n :=
  h.move b hB (Nat.le_refl _) t a n
theorem SubAt.more {w : World} {B B' : Nat} {t : Tree} {a : Option Addr} {n : Nat} (h : SubAt w B t a n) (hB : B ≤ B') : SubAt w B' t a n :=
  h.move (Below.refl B w) (Nat.le_refl _) hB t a n
theorem SubAt.len {w : World} {B : Nat} {t : Tree} {a : Option Addr} {n : Nat} (h : SubAt w B t a n) : t.kids.length = n ∧ n ≤ 9223372036854775807 ∧ I64 t.kind ∧ I64 t.num := by
  cases t with
  | node k n ks => rw [SubAt] at h; exact ⟨h.2.2.1, h.2.2.2.1, h.1, h.2.1⟩
theorem RowAt.get {w : World} {B : Nat} : ∀ (ts : List Tree) (b off i : Nat) (t : Tree), RowAt w B ts b off → ts[i]? = some t →
    w.cell? ⟨b, off + i * 3, none⟩ = some (.int .i64 t.kind) ∧ w.cell? ⟨b, off + i * 3 + 1, none⟩ = some (.int .i64 t.num) ∧ ∃ a n c, w.cell? ⟨b, off + i * 3 + 2, none⟩ = some (.slice a n c) ∧ n ≤ c ∧ c ≤ 9223372036854775807 ∧ SubAt w B t a n
  | [], b, off, i, t, h, hi => by simp at hi
  | x :: ts, b, off, 0, t, h, hi => by
    rw [RowAt] at h
    simp at hi
    subst hi
    simpa using h.1
  | x :: ts, b, off, i + 1, t, h, hi => by
    rw [RowAt] at h
    have := RowAt.get ts b (off + 3) i t h.2 (by simpa using hi)
    rw [show off + (i + 1) * 3 = off + 3 + i * 3 by omega]
    exact this
theorem RowAt.of {w : World} {B b : Nat} : ∀ (ts : List Tree) (off : Nat), (∀ i t, ts[i]? = some t → w.cell? ⟨b, off + i * 3, none⟩ = some (.int .i64 t.kind) ∧ w.cell? ⟨b, off + i * 3 + 1, none⟩ = some (.int .i64 t.num) ∧ ∃ a n c, w.cell? ⟨b, off + i * 3 + 2, none⟩ = some (.slice a n c) ∧ n ≤ c ∧ c ≤ 9223372036854775807 ∧ SubAt w B t a n) → RowAt w B ts b off
  | [], off, h => by rw [RowAt]; trivial
  | x :: ts, off, h => by
    rw [RowAt]
    refine ⟨by simpa using h 0 x rfl, RowAt.of ts (off + 3) fun i t hi => ?_⟩
    have := h (i + 1) t (by simpa using hi)
    rw [show off + (i + 1) * 3 = off + 3 + i * 3 by omega] at this
    exact this
/-- A kid of a tree, as it lies in memory. -/
theorem SubAt.kid {w : World} {B : Nat} {k m : Int} {ks : List Tree} {a : Option Addr} {n : Nat} (h : SubAt w B (.node k m ks) a n) (hn : 0 < n) :
    ∃ b off, a = some ⟨b, off, none⟩ ∧ b < B ∧ ∀ i, i < n → ∃ k' m' ks' a' n' c', w.cell? ⟨b, off + i * 3, none⟩ = some (.int .i64 k') ∧ w.cell? ⟨b, off + i * 3 + 1, none⟩ = some (.int .i64 m') ∧ w.cell? ⟨b, off + i * 3 + 2, none⟩ = some (.slice a' n' c') ∧ ks[i]? = some (.node k' m' ks') ∧ n' ≤ c' ∧ c' ≤ 9223372036854775807 ∧ SubAt w B (.node k' m' ks') a' n' := by
  rw [SubAt] at h
  obtain ⟨_, _, h1, h2, h3⟩ := h
  obtain ⟨b, off, e, hlt, hr⟩ := h3 hn
  refine ⟨b, off, e, hlt, fun i hi => ?_⟩
  have hx : ks[i]? = some (ks[i]'(by omega)) := List.getElem?_eq_getElem (by omega)
  obtain ⟨c0, c1, a', n', c', c2, q1, q2, q3⟩ := RowAt.get ks b off i _ hr hx
  generalize (ks[i]'(by omega)) = t at *
  cases t with
  | node k' m' ks' => exact ⟨k', m', ks', a', n', c', c0, c1, c2, hx, q1, q2, q3⟩

/-! What is asked of an expression. -/
def opsOf (k : Int) : Nat := if k = 1 ∨ k = 2 then 0 else if k = 3 ∨ k = 11 then 1 else 2
def nodeB (k n : Int) (len : Nat) : Bool := inB 1 13 k && (decide (len = opsOf k) && (if k = 1 then inB 0 2147483647 n else decide (n = 0)))
mutual
/-- The error of an expression at a depth, c nodes being before it; and how many nodes were seen. -/
def exprGo : Tree → Int → Int → Int × Int
  | .node k n ks, d, c => if 60 < c + 1 ∨ 12 < d then (2, c + 1) else if nodeB k n ks.length = false then (8, c + 1) else exprRow ks (d + 1) (c + 1)
def exprRow : List Tree → Int → Int → Int × Int
  | [], _, c => (0, c)
  | t :: ts, d, c => if (exprGo t d c).1 ≠ 0 then exprGo t d c else exprRow ts d (exprGo t d c).2
end
def exprErr (t : Tree) : Int := (exprGo t 1 0).1
theorem exprGo_node (k n : Int) (ks : List Tree) (d c : Int) : exprGo (.node k n ks) d c = if 60 < c + 1 ∨ 12 < d then (2, c + 1) else if nodeB k n ks.length = false then (8, c + 1) else exprRow ks (d + 1) (c + 1) := by rw [exprGo]
theorem exprRow_cons (t : Tree) (ts : List Tree) (d c : Int) : exprRow (t :: ts) d c = if (exprGo t d c).1 ≠ 0 then exprGo t d c else exprRow ts d (exprGo t d c).2 := by rw [exprRow]
/-- A stack of expressions, each with its depth, the first one on top. -/
def exprStack : List (Tree × Int) → Int → Int
  | [], _ => 0
  | x :: xs, c => if (exprGo x.1 x.2 c).1 ≠ 0 then (exprGo x.1 x.2 c).1 else exprStack xs (exprGo x.1 x.2 c).2
theorem exprStack_cons (t : Tree) (d : Int) (xs : List (Tree × Int)) (c : Int) : exprStack ((t, d) :: xs) c = if (exprGo t d c).1 ≠ 0 then (exprGo t d c).1 else exprStack xs (exprGo t d c).2 := by rw [exprStack]
theorem exprStack_row (d : Int) : ∀ (ts : List Tree) (xs : List (Tree × Int)) (c : Int), exprStack (ts.map (fun t => (t, d)) ++ xs) c = if (exprRow ts d c).1 ≠ 0 then (exprRow ts d c).1 else exprStack xs (exprRow ts d c).2
  | [], xs, c => by rw [exprRow]; simp
  | t :: ts, xs, c => by
    rw [List.map_cons, List.cons_append, exprStack_cons, exprRow_cons, exprStack_row d ts xs]
    by_cases h : (exprGo t d c).1 ≠ 0
    · rw [if_pos h, if_pos h, if_pos h]
    · rw [if_neg h, if_neg h]
theorem exprStack_large {k n d c : Int} {ks : List Tree} {xs : List (Tree × Int)} (h : 60 < c + 1 ∨ 12 < d) : exprStack ((.node k n ks, d) :: xs) c = 2 := by
  rw [exprStack_cons, exprGo_node, if_pos h]; rfl
theorem exprStack_form {k n d c : Int} {ks : List Tree} {xs : List (Tree × Int)} (h : ¬ (60 < c + 1 ∨ 12 < d)) (h' : nodeB k n ks.length = false) : exprStack ((.node k n ks, d) :: xs) c = 8 := by
  rw [exprStack_cons, exprGo_node, if_neg h, if_pos h']; rfl
theorem exprStack_next {k n d c : Int} {ks : List Tree} {xs : List (Tree × Int)} (h : ¬ (60 < c + 1 ∨ 12 < d)) (h' : nodeB k n ks.length = true) :
    exprStack ((.node k n ks, d) :: xs) c = exprStack (ks.map (fun t => (t, d + 1)) ++ xs) (c + 1) := by
  have e : exprGo (.node k n ks) d c = exprRow ks (d + 1) (c + 1) := by rw [exprGo_node, if_neg h, if_neg (by rw [h']; simp)]
  rw [exprStack_cons, e, exprStack_row]
theorem exprErr_stack (t : Tree) : exprErr t = exprStack [(t, 1)] 0 := by
  rw [exprStack_cons, exprErr]
  by_cases h : (exprGo t 1 0).1 ≠ 0
  · rw [if_pos h]
  · rw [if_neg h, exprStack]; omega
/-- What the error of a row is behind i of its trees. -/
theorem exprRow_drop {ts : List Tree} {i : Nat} {t : Tree} (d c : Int) (h : ts[i]? = some t) : exprRow (ts.drop i) d c = if (exprGo t d c).1 ≠ 0 then exprGo t d c else exprRow (ts.drop (i + 1)) d (exprGo t d c).2 := by
  obtain ⟨hl, rfl⟩ := List.getElem?_eq_some_iff.1 h
  rw [List.drop_eq_getElem_cons hl, exprRow_cons]

/-! The count stays small: at most 61 nodes are counted. -/
mutual
theorem exprGo_count : ∀ (t : Tree) (d c : Int), 0 ≤ c → c ≤ 60 → c ≤ (exprGo t d c).2 ∧ (exprGo t d c).2 ≤ 61 ∧ ((exprGo t d c).1 = 0 → (exprGo t d c).2 ≤ 60)
  | .node k n ks, d, c, h0, h1 => by
    rw [exprGo_node]
    by_cases h : 60 < c + 1 ∨ 12 < d
    · rw [if_pos h]; exact ⟨by simp only; omega, by simp only; omega, fun h => by cases h⟩
    rw [if_neg h]
    by_cases h' : nodeB k n ks.length = false
    · rw [if_pos h']; exact ⟨by simp only; omega, by simp only; omega, fun h => by cases h⟩
    rw [if_neg h']
    have := exprRow_count ks (d + 1) (c + 1) (by omega) (by omega)
    exact ⟨by omega, this.2.1, this.2.2⟩
theorem exprRow_count : ∀ (ts : List Tree) (d c : Int), 0 ≤ c → c ≤ 60 → c ≤ (exprRow ts d c).2 ∧ (exprRow ts d c).2 ≤ 61 ∧ ((exprRow ts d c).1 = 0 → (exprRow ts d c).2 ≤ 60)
  | [], d, c, h0, h1 => by rw [exprRow]; exact ⟨by simp, by simp only; omega, fun _ => h1⟩
  | t :: ts, d, c, h0, h1 => by
    rw [exprRow_cons]
    have ht := exprGo_count t d c h0 h1
    by_cases h : (exprGo t d c).1 ≠ 0
    · rw [if_pos h]; exact ht
    · rw [if_neg h]
      have := exprRow_count ts d (exprGo t d c).2 (by omega) (ht.2.2 (by omega))
      exact ⟨by omega, this.2.1, this.2.2⟩
end
theorem opsOf_le (k : Int) : opsOf k ≤ 2 := by
  unfold opsOf
  split
  · omega
  · split <;> omega
theorem nodeB_len {k n : Int} {len : Nat} (h : nodeB k n len = true) : len ≤ 2 ∧ len = opsOf k := by
  unfold nodeB at h
  simp only [Bool.and_eq_true, decide_eq_true_eq] at h
  have := opsOf_le k
  exact ⟨by omega, h.2.1⟩
end Go.Proofs.YtchahccnmjaejacDoor

/- Stores into a block of the call's own. -/
namespace Go.Proofs.YtchahccnmjaejacDoor
set_option linter.unusedVariables false
set_option maxRecDepth 100000
open Go.RowKit
theorem At.store {w : World} {b : Nat} {cs : Array Value} {t : TypeId} {m : Nat × Nat} (h : At w b (.cells cs t m)) (i : Nat) (u : Value) : At (w.setCell ⟨b, i, none⟩ u) b (.cells (cs.setIfInBounds i u) t m) := by
  unfold At at h ⊢
  simp [World.setCell, Array.getElem?_modify, h]
theorem At.apart {w : World} {b : Nat} {o : Obj} (h : At w b o) {p : Addr} (hp : b ≠ p.block) (u : Value) : At (w.setCell p u) b o := (Below.heap_setCell w p u b hp).trans h
theorem At.store2 {w : World} {b : Nat} {x y : Value} {t : TypeId} {m : Nat × Nat} (h : At w b (.cells #[x, y] t m)) (u v : Value) : At ((w.setCell ⟨b, 0, none⟩ u).setCell ⟨b, 1, none⟩ v) b (.cells #[u, v] t m) := (h.store 0 u).store 1 v
theorem At.store3 {w : World} {b : Nat} {x0 x1 x2 : Value} {t : TypeId} {m : Nat × Nat} (h : At w b (.cells #[x0, x1, x2] t m)) (u0 u1 u2 : Value) : At (((w.setCell ⟨b, 0, none⟩ u0).setCell ⟨b, 1, none⟩ u1).setCell ⟨b, 2, none⟩ u2) b (.cells #[u0, u1, u2] t m) := by
  have k := (((h.store 0 u0).store 1 u1).store 2 u2)
  simpa using k
theorem At.apart3 {w : World} {b : Nat} {o : Obj} (h : At w b o) {p : Nat} (hp : b ≠ p) (u0 u1 u2 : Value) : At (((w.setCell ⟨p, 0, none⟩ u0).setCell ⟨p, 1, none⟩ u1).setCell ⟨p, 2, none⟩ u2) b o := (((h.apart hp _).apart hp _).apart hp _)
theorem below_set3 {B : Nat} {a w : World} (h : Below B a w) {p : Nat} (hp : B ≤ p) (u0 u1 u2 : Value) : Below B a (((w.setCell ⟨p, 0, none⟩ u0).setCell ⟨p, 1, none⟩ u1).setCell ⟨p, 2, none⟩ u2) := (below_set (below_set (below_set h hp _) hp _) hp _)
theorem size_set3 (w : World) (p : Nat) (u0 u1 u2 : Value) : (((w.setCell ⟨p, 0, none⟩ u0).setCell ⟨p, 1, none⟩ u1).setCell ⟨p, 2, none⟩ u2).heap.size = w.heap.size := by simp [World.setCell]
theorem At.store5 {w : World} {b : Nat} {x0 x1 x2 x3 x4 : Value} {t : TypeId} {m : Nat × Nat} (h : At w b (.cells #[x0, x1, x2, x3, x4] t m)) (u0 u1 u2 u3 u4 : Value) : At (((((w.setCell ⟨b, 0, none⟩ u0).setCell ⟨b, 1, none⟩ u1).setCell ⟨b, 2, none⟩ u2).setCell ⟨b, 3, none⟩ u3).setCell ⟨b, 4, none⟩ u4) b (.cells #[u0, u1, u2, u3, u4] t m) := by
  have k := (((((h.store 0 u0).store 1 u1).store 2 u2).store 3 u3).store 4 u4)
  simpa using k
theorem At.apart5 {w : World} {b : Nat} {o : Obj} (h : At w b o) {p : Nat} (hp : b ≠ p) (u0 u1 u2 u3 u4 : Value) : At (((((w.setCell ⟨p, 0, none⟩ u0).setCell ⟨p, 1, none⟩ u1).setCell ⟨p, 2, none⟩ u2).setCell ⟨p, 3, none⟩ u3).setCell ⟨p, 4, none⟩ u4) b o := (((((h.apart hp _).apart hp _).apart hp _).apart hp _).apart hp _)
theorem below_set5 {B : Nat} {a w : World} (h : Below B a w) {p : Nat} (hp : B ≤ p) (u0 u1 u2 u3 u4 : Value) : Below B a (((((w.setCell ⟨p, 0, none⟩ u0).setCell ⟨p, 1, none⟩ u1).setCell ⟨p, 2, none⟩ u2).setCell ⟨p, 3, none⟩ u3).setCell ⟨p, 4, none⟩ u4) := (below_set (below_set (below_set (below_set (below_set h hp _) hp _) hp _) hp _) hp _)
theorem size_set5 (w : World) (p : Nat) (u0 u1 u2 u3 u4 : Value) : (((((w.setCell ⟨p, 0, none⟩ u0).setCell ⟨p, 1, none⟩ u1).setCell ⟨p, 2, none⟩ u2).setCell ⟨p, 3, none⟩ u3).setCell ⟨p, 4, none⟩ u4).heap.size = w.heap.size := by simp [World.setCell]
theorem At.store9 {w : World} {b : Nat} {x0 x1 x2 x3 x4 x5 x6 x7 x8 : Value} {t : TypeId} {m : Nat × Nat} (h : At w b (.cells #[x0, x1, x2, x3, x4, x5, x6, x7, x8] t m)) (u0 u1 u2 u3 u4 u5 u6 u7 u8 : Value) : At (((((((((w.setCell ⟨b, 0, none⟩ u0).setCell ⟨b, 1, none⟩ u1).setCell ⟨b, 2, none⟩ u2).setCell ⟨b, 3, none⟩ u3).setCell ⟨b, 4, none⟩ u4).setCell ⟨b, 5, none⟩ u5).setCell ⟨b, 6, none⟩ u6).setCell ⟨b, 7, none⟩ u7).setCell ⟨b, 8, none⟩ u8) b (.cells #[u0, u1, u2, u3, u4, u5, u6, u7, u8] t m) := by
  have k := (((((((((h.store 0 u0).store 1 u1).store 2 u2).store 3 u3).store 4 u4).store 5 u5).store 6 u6).store 7 u7).store 8 u8)
  simpa using k
theorem At.apart9 {w : World} {b : Nat} {o : Obj} (h : At w b o) {p : Nat} (hp : b ≠ p) (u0 u1 u2 u3 u4 u5 u6 u7 u8 : Value) : At (((((((((w.setCell ⟨p, 0, none⟩ u0).setCell ⟨p, 1, none⟩ u1).setCell ⟨p, 2, none⟩ u2).setCell ⟨p, 3, none⟩ u3).setCell ⟨p, 4, none⟩ u4).setCell ⟨p, 5, none⟩ u5).setCell ⟨p, 6, none⟩ u6).setCell ⟨p, 7, none⟩ u7).setCell ⟨p, 8, none⟩ u8) b o := (((((((((h.apart hp _).apart hp _).apart hp _).apart hp _).apart hp _).apart hp _).apart hp _).apart hp _).apart hp _)
theorem below_set9 {B : Nat} {a w : World} (h : Below B a w) {p : Nat} (hp : B ≤ p) (u0 u1 u2 u3 u4 u5 u6 u7 u8 : Value) : Below B a (((((((((w.setCell ⟨p, 0, none⟩ u0).setCell ⟨p, 1, none⟩ u1).setCell ⟨p, 2, none⟩ u2).setCell ⟨p, 3, none⟩ u3).setCell ⟨p, 4, none⟩ u4).setCell ⟨p, 5, none⟩ u5).setCell ⟨p, 6, none⟩ u6).setCell ⟨p, 7, none⟩ u7).setCell ⟨p, 8, none⟩ u8) := (below_set (below_set (below_set (below_set (below_set (below_set (below_set (below_set (below_set h hp _) hp _) hp _) hp _) hp _) hp _) hp _) hp _) hp _)
theorem size_set9 (w : World) (p : Nat) (u0 u1 u2 u3 u4 u5 u6 u7 u8 : Value) : (((((((((w.setCell ⟨p, 0, none⟩ u0).setCell ⟨p, 1, none⟩ u1).setCell ⟨p, 2, none⟩ u2).setCell ⟨p, 3, none⟩ u3).setCell ⟨p, 4, none⟩ u4).setCell ⟨p, 5, none⟩ u5).setCell ⟨p, 6, none⟩ u6).setCell ⟨p, 7, none⟩ u7).setCell ⟨p, 8, none⟩ u8).heap.size = w.heap.size := by simp [World.setCell]
end Go.Proofs.YtchahccnmjaejacDoor

/- A callee that writes one block of the caller's: everything else that was there is kept. -/
namespace Go.Proofs.YtchahccnmjaejacDoor
set_option linter.unusedVariables false
set_option maxRecDepth 100000
open Go.RowKit

/-- All blocks of w but b are kept. -/
structure OneKept (b : Nat) (w w' : World) : Prop where
  os : w'.os = w.os
  tape : w'.tape = w.tape
  output : w'.output = w.output
  size : w.heap.size ≤ w'.heap.size
  block : ∀ k, k < w.heap.size → k ≠ b → w'.heap[k]? = w.heap[k]?
theorem OneKept.refl (b : Nat) (w : World) : OneKept b w w := ⟨rfl, rfl, rfl, Nat.le_refl _, fun _ _ _ => rfl⟩
theorem OneKept.of_below {b : Nat} {w w' : World} (h : Below w.heap.size w w') : OneKept b w w' := ⟨h.os, h.tape, h.output, h.size, fun k hk _ => h.block k hk⟩
theorem OneKept.trans {b : Nat} {w w1 w2 : World} (h : OneKept b w w1) (k : OneKept b w1 w2) : OneKept b w w2 :=
  ⟨k.os.trans h.os, k.tape.trans h.tape, k.output.trans h.output, Nat.le_trans h.size k.size, fun i hi hb => (k.block i (Nat.lt_of_lt_of_le hi h.size) hb).trans (h.block i hi hb)⟩
theorem OneKept.then_ {b : Nat} {w w1 w2 : World} (h : OneKept b w w1) (k : Below w1.heap.size w1 w2) : OneKept b w w2 := h.trans (.of_below k)
theorem OneKept.drew {b : Nat} {w w1 : World} (h : OneKept b w w1) : OneKept b w w1.drew := ⟨h.os, h.tape, h.output, h.size, h.block⟩
theorem OneKept.drewN {b : Nat} {w w1 : World} (h : OneKept b w w1) (n : Nat) : OneKept b w (w1.drewN n) := ⟨h.os, h.tape, h.output, h.size, h.block⟩
theorem OneKept.alloc {b : Nat} {w w1 : World} (h : OneKept b w w1) (o : Obj) : OneKept b w (w1.alloc o) := h.then_ (below_new (Below.refl _ _) o)
theorem oneKept_set (w : World) (b i : Nat) (u : Value) : OneKept b w (w.setCell ⟨b, i, none⟩ u) :=
  ⟨rfl, rfl, rfl, by simp [World.setCell], fun k hk hb => Below.heap_setCell w ⟨b, i, none⟩ u k hb⟩
theorem OneKept.set {b : Nat} {w w1 : World} (h : OneKept b w w1) (i : Nat) (u : Value) : OneKept b w (w1.setCell ⟨b, i, none⟩ u) := h.trans (oneKept_set w1 b i u)
theorem OneKept.setNew {b c : Nat} {w w1 : World} (h : OneKept b w w1) (hc : w.heap.size ≤ c) (i : Nat) (u : Value) : OneKept b w (w1.setCell ⟨c, i, none⟩ u) :=
  ⟨h.os, h.tape, h.output, by simpa [World.setCell] using h.size, fun k hk hb => (Below.heap_setCell w1 ⟨c, i, none⟩ u k (by simp only; omega)).trans (h.block k hk hb)⟩
theorem At.oneKept {w w' : World} {b i : Nat} {o : Obj} (h : At w i o) (k : OneKept b w w') (hb : i ≠ b) : At w' i o := (k.block i h.lt hb).trans h
theorem OneKept.below {B b : Nat} {a w w' : World} (k : OneKept b w w') (h : Below B a w) (hb : B ≤ b) (hB : B ≤ w.heap.size) : Below B a w' :=
  ⟨k.os.trans h.os, k.tape.trans h.tape, k.output.trans h.output, Nat.le_trans h.size k.size, fun i hi => (k.block i (by omega) (by omega)).trans (h.block i hi)⟩
theorem OneKept.below_own {b : Nat} {a w w' : World} (k : OneKept b w w') (h : Below a.heap.size a w) (hb : a.heap.size ≤ b) : Below a.heap.size a w' := k.below h hb h.size
end Go.Proofs.YtchahccnmjaejacDoor

/- Contracts of package whole. -/
namespace Go.Proofs.YtchahccnmjaejacDoor
set_option linter.unusedVariables false
set_option maxRecDepth 100000
open Go.RowKit

theorem neg_wrap (a : Int) (h1 : -9223372036854775808 ≤ a) (h : a < 0) : IntKind.u64.wrap (-IntKind.u64.wrap a) = (a.natAbs : Int) := by
  rw [IntKind.wrap_u64, IntKind.wrap_u64]; omega
theorem tmod_neg_eq (a b : Int) (ha : a < 0) (hb : 1 ≤ b) : (a.tmod b = 0 ∧ a.tdiv b = a / b ∧ a % b = 0) ∨ (a.tmod b < 0 ∧ a.tdiv b - 1 = a / b ∧ a.tmod b + b = a % b) := by
  have h1 := Int.mul_tdiv_add_tmod a b
  have h2 := Int.emod_add_mul_ediv a b
  have h3 := Int.emod_nonneg a (show b ≠ 0 by omega)
  have h4 := Int.emod_lt_of_pos a (show 0 < b by omega)
  have h5 : a.tmod b ≤ 0 := by have := Int.tmod_nonneg (a := -a) b (by omega); rw [Int.neg_tmod] at this; omega
  have h6 : -b < a.tmod b := by
    have := Int.tmod_lt_of_pos (-a) (b := b) (by omega); rw [Int.neg_tmod] at this; omega
  generalize a.tmod b = r at *
  generalize a.tdiv b = q at *
  generalize a / b = q' at *
  generalize a % b = r' at *
  have h7 : b * (q - q') = r' - r := by rw [Int.mul_sub]; omega
  by_cases hr : r = 0
  · left
    have : q - q' = 0 := by
      rcases Int.lt_trichotomy (q - q') 0 with h | h | h
      · have := Int.mul_le_mul_of_nonneg_left (show q - q' ≤ -1 by omega) (show 0 ≤ b by omega); omega
      · exact h
      · have := Int.mul_le_mul_of_nonneg_left (show 1 ≤ q - q' by omega) (show 0 ≤ b by omega); omega
    rw [this] at h7; omega
  · right
    have : q - q' = 1 := by
      rcases Int.lt_trichotomy (q - q') 1 with h | h | h
      · have := Int.mul_le_mul_of_nonneg_left (show q - q' ≤ 0 by omega) (show 0 ≤ b by omega); omega
      · exact h
      · have := Int.mul_le_mul_of_nonneg_left (show 2 ≤ q - q' by omega) (show 0 ≤ b by omega); omega
    rw [this] at h7; omega
theorem tdiv_bounds (a b : Int) (h1 : -9223372036854775808 ≤ a) (h2 : a < 0) (hb : 1 ≤ b) : -9223372036854775808 ≤ a.tdiv b ∧ a.tdiv b ≤ 0 := by
  have h := Int.neg_tdiv a b
  rw [Int.tdiv_eq_ediv_of_nonneg (show 0 ≤ -a by omega)] at h
  have h3 := Int.ediv_nonneg (show 0 ≤ -a by omega) (show 0 ≤ b by omega)
  have h4 := Int.ediv_le_self b (show 0 ≤ -a by omega)
  omega
theorem tmod_bounds (a b : Int) (h2 : a < 0) (hb : 1 ≤ b) : -b < a.tmod b ∧ a.tmod b ≤ 0 := by
  have h5 : a.tmod b ≤ 0 := by have := Int.tmod_nonneg (a := -a) b (by omega); rw [Int.neg_tmod] at this; omega
  have h6 : -b < a.tmod b := by
    have := Int.tmod_lt_of_pos (-a) (b := b) (by omega); rw [Int.neg_tmod] at this; omega
  exact ⟨h6, h5⟩

/-- Gcd: the greatest common divisor, or an error where it is 2^63. -/
def gcdOut (a b : Int) : Value := if Int.gcd a b ≤ 9223372036854775807 then .tuple #[.int .i64 (Int.gcd a b), .int .i64 0] else .tuple #[.int .i64 0, .int .i64 14]
theorem gcd_mod_step (m n : Nat) : Nat.gcd n (m % n) = Nat.gcd m n := by
  rw [Nat.gcd_comm m n, Nat.gcd_rec n m, Nat.gcd_comm]
end Go.Proofs.YtchahccnmjaejacDoor

/- Contracts of package line, first part, and of the reference's days. -/
namespace Go.Proofs.YtchahccnmjaejacDoor
set_option linter.unusedVariables false
set_option maxRecDepth 100000
open Go.RowKit

theorem line_Is (x : Int) (w : World) :
    Calls Tryd.prog 50 #[.int .i64 x] w fun e w' => e = .returned (.bool (inB (-4000000) 4000000 x)) ∧ w = w' := by
  by_cases h1 : -4000000 ≤ x
  · by_cases h2 : x ≤ 4000000
    · go_enter Tryd.func50, Tryd.ntmps50
      go_wp2
      go_ret
      exact ⟨ret_bool (inB_yes h1 h2).symm, rfl⟩
    · go_enter Tryd.func50, Tryd.ntmps50
      go_wp2
      go_ret
      exact ⟨ret_bool (inB_no (by omega)).symm, rfl⟩
  · go_enter Tryd.func50, Tryd.ntmps50
    go_wp2
    go_ret
    exact ⟨ret_bool (inB_no (by omega)).symm, rfl⟩
/-- The error of a day. -/
def chk (x : Int) : Int := if -4000000 ≤ x ∧ x ≤ 4000000 then 0 else 3
theorem chk_yes {x : Int} (h1 : -4000000 ≤ x) (h2 : x ≤ 4000000) : chk x = 0 := if_pos ⟨h1, h2⟩
theorem chk_no {x : Int} (h : ¬ (-4000000 ≤ x ∧ x ≤ 4000000)) : chk x = 3 := if_neg h
end Go.Proofs.YtchahccnmjaejacDoor

/- Contracts of rule.IsName and of the reference's Name. -/
namespace Go.Proofs.YtchahccnmjaejacDoor
set_option linter.unusedVariables false
set_option maxRecDepth 100000
open Go.RowKit

/-- The bytes of a name: small letters alone. -/
def small (c : UInt8) : Bool := decide (97 ≤ c.toNat ∧ c.toNat ≤ 122)
def word (s : ByteArray) : Bool := s.toList == [121] || s.toList == [97, 110, 100] || s.toList == [111, 114] || s.toList == [110, 111, 116]
def isName (s : ByteArray) : Bool := decide (1 ≤ s.size ∧ s.size ≤ 12) && !word s && s.data.toList.all small

theorem all_bad (s : ByteArray) (k : Nat) (h : k < s.size) (hb : small s[k] = false) : s.data.toList.all small = false := by
  rw [List.all_eq_false]
  exact ⟨s[k], by exact Array.getElem_mem_toList (by simpa using h), by rw [hb]; simp⟩
theorem all_good (s : ByteArray) (h : ∀ k (h : k < s.size), small s[k] = true) : s.data.toList.all small = true := by
  rw [List.all_eq_true]
  intro x hx
  obtain ⟨i, hi, rfl⟩ := List.getElem_of_mem hx
  exact h i (by simpa using hi)

theorem toList_empty (s : ByteArray) : s.toList.isEmpty = decide (s.size = 0) := by
  rw [ByteArray.toList_eq]
  have : s.size = s.data.toList.length := by rw [Array.length_toList]; rfl
  rw [this]
  cases s.data.toList <;> simp
theorem word_cases (s : ByteArray) : ((s.toList == [121]) = true ∨ ((s.toList == [121]) = false ∧ (s.toList == [97, 110, 100]) = true) ∨ ((s.toList == [121]) = false ∧ (s.toList == [97, 110, 100]) = false ∧ (s.toList == [111, 114]) = true) ∨
    ((s.toList == [121]) = false ∧ (s.toList == [97, 110, 100]) = false ∧ (s.toList == [111, 114]) = false ∧ (s.toList == [110, 111, 116]) = true)) ∧ word s = true ∨
    ((s.toList == [121]) = false ∧ (s.toList == [97, 110, 100]) = false ∧ (s.toList == [111, 114]) = false ∧ (s.toList == [110, 111, 116]) = false) ∧ word s = false := by
  unfold word
  cases s.toList == [121] <;> cases s.toList == [97, 110, 100] <;> cases s.toList == [111, 114] <;> cases s.toList == [110, 111, 116] <;> simp
theorem isName_size {s : ByteArray} (h : ¬ (1 ≤ s.size ∧ s.size ≤ 12)) : isName s = false := by simp only [isName, decide_eq_false h, Bool.false_and]
theorem isName_word {s : ByteArray} (h : word s = true) : isName s = false := by simp [isName, h]
theorem isName_all {s : ByteArray} (h1 : 1 ≤ s.size) (h2 : s.size ≤ 12) (h : word s = false) : isName s = s.data.toList.all small := by
  rw [isName, h, decide_eq_true ⟨h1, h2⟩]; rfl

theorem rule_IsName (s : ByteArray) (w : World) (hs : s.size ≤ 9223372036854775807) :
    Calls Tryd.prog 49 #[.string s] w fun e w' => e = .returned (.bool (isName s)) ∧ w = w' := by
  by_cases hn : 1 ≤ s.size ∧ s.size ≤ 12
  case neg =>
    have ho := Lib.hid (isName_size hn)
    have hn' : s.size < 1 ∨ 12 < s.size := by omega
    clear hn
    rcases hn' with h | h
    all_goals
      go_enter Tryd.func49, Tryd.ntmps49
      go_wp2_with fail
      go_ret
      exact ⟨ret_bool (by rw [ho.out]), rfl⟩
  obtain ⟨n1, n2⟩ := hn
  rcases word_cases s with ⟨hc, hw⟩ | ⟨⟨w1, w2, w3, w4⟩, hw⟩
  · have ho := Lib.hid (isName_word hw); clear hw
    rcases hc with w1 | ⟨w1, w2⟩ | ⟨w1, w2, w3⟩ | ⟨w1, w2, w3, w4⟩
    all_goals
      go_enter Tryd.func49, Tryd.ntmps49
      go_wp2_with fail
      go_ret
      exact ⟨ret_bool (by rw [ho.out]), rfl⟩
  · have ho := Lib.hid (isName_all n1 n2 hw); clear hw
    go_enter Tryd.func49, Tryd.ntmps49
    go_wp2_with fail
    go_loop [3, 30] (fun _ i => ∃ k : Nat, k ≤ s.size ∧ i = .int .i64 k ∧ ∀ j (h : j < s.size), j < k → small s[j] = true) (fun _ i => s.size - (intOf i).toNat)
    case atStart => exact ⟨0, by omega, rfl, fun j _ h => absurd h (by omega)⟩
    case round =>
      clear w1 w2 w3 w4
      obtain ⟨k, hk, rfl, hall⟩ := hrel
      have HA := Lib.hid hall; clear hall
      by_cases hlt : k < s.size
      · obtain ⟨c, hc⟩ : ∃ c, c = s[k] := ⟨_, rfl⟩
        by_cases hq : 97 ≤ s[k].toNat ∧ s[k].toNat ≤ 122
        · have q1 : (97 : Int) ≤ (s[k].toNat : Int) := by omega
          have q2 : (s[k].toNat : Int) ≤ 122 := by omega
          have HQ := Lib.hid hq; clear hq hc
          go_wp2_with fail
          go_round
          case rel =>
            refine ⟨k + 1, by omega, by go_num, fun j h hj => ?_⟩
            by_cases hjk : j = k
            · subst hjk; exact decide_eq_true HQ.out
            · exact HA.out j h (by omega)
          case measure => simp [intOf]; omega
        · have hb := Lib.hid (all_bad s k hlt (decide_eq_false hq))
          have hq' : (s[k].toNat : Int) < 97 ∨ (122 : Int) < (s[k].toNat : Int) := by omega
          clear hq hc
          rcases hq' with q | q
          all_goals
            go_wp2_with fail
            go_ret
            exact ⟨ret_bool (by rw [ho.out, hb.out]), rfl⟩
      · have hg := Lib.hid (all_good s (fun j h => HA.out j h (by omega)))
        go_wp2_with fail
        go_ret
        exact ⟨ret_bool (by rw [ho.out, hg.out]), rfl⟩
theorem ref_Name (s : ByteArray) (w : World) (hs : s.size ≤ 9223372036854775807) :
    Calls Tryd.prog 39 #[.string s] w fun e w' => e = .returned (.bool (isName s)) ∧ w = w' := by
  by_cases hz : s.size = 0
  · have ho := Lib.hid (isName_size (s := s) (by omega))
    have he' : s.toList.isEmpty = true := by rw [toList_empty, decide_eq_true hz]
    clear hz
    go_enter Tryd.func39, Tryd.ntmps39
    go_wp2_with fail
    go_ret
    exact ⟨ret_bool (by rw [ho.out]), rfl⟩
  have he' : s.toList.isEmpty = false := by rw [toList_empty, decide_eq_false hz]
  by_cases hn : 12 < s.size
  · have ho := Lib.hid (isName_size (s := s) (by omega))
    clear hz
    go_enter Tryd.func39, Tryd.ntmps39
    go_wp2_with fail
    go_ret
    exact ⟨ret_bool (by rw [ho.out]), rfl⟩
  have n1 : 1 ≤ s.size := by omega
  have n2 : s.size ≤ 12 := by omega
  clear hn hz
  have hfin := Lib.hid (word_cases s)
  go_enter Tryd.func39, Tryd.ntmps39
  go_wp2_with fail
  go_loop [3, 13] (fun _ i => ∃ k : Nat, k ≤ s.size ∧ i = .int .i64 k ∧ ∀ j (h : j < s.size), j < k → small s[j] = true) (fun _ i => s.size - (intOf i).toNat)
  case atStart => exact ⟨0, by omega, rfl, fun j _ h => absurd h (by omega)⟩
  case round =>
    obtain ⟨k, hk, rfl, hall⟩ := hrel
    have HA := Lib.hid hall; clear hall
    by_cases hlt : k < s.size
    · by_cases hq : 97 ≤ s[k].toNat ∧ s[k].toNat ≤ 122
      · have q1 : (97 : Int) ≤ (s[k].toNat : Int) := by omega
        have q2 : (s[k].toNat : Int) ≤ 122 := by omega
        have HQ := Lib.hid hq; clear hq
        go_wp2_with fail
        go_round
        case rel =>
          refine ⟨k + 1, by omega, by go_num, fun j h hj => ?_⟩
          by_cases hjk : j = k
          · subst hjk; exact decide_eq_true HQ.out
          · exact HA.out j h (by omega)
        case measure => simp [intOf]; omega
      · have hb := Lib.hid (all_bad s k hlt (decide_eq_false hq))
        have ho : isName s = false := by rw [isName, hb.out]; simp
        have HO := Lib.hid ho
        have hq' : (s[k].toNat : Int) < 97 ∨ (122 : Int) < (s[k].toNat : Int) := by omega
        clear hq ho
        rcases hq' with q | q
        all_goals
          go_wp2_with fail
          go_ret
          exact ⟨ret_bool (by rw [HO.out]), rfl⟩
    · have hg := Lib.hid (all_good s (fun j h => HA.out j h (by omega)))
      rcases hfin.out with ⟨hc, hw⟩ | ⟨⟨w1, w2, w3, w4⟩, hw⟩
      · have ho := Lib.hid (isName_word hw); clear hw
        rcases hc with w1 | ⟨w1, w2⟩ | ⟨w1, w2, w3⟩ | ⟨w1, w2, w3, w4⟩
        all_goals
          go_wp2_with fail
          go_ret
          exact ⟨ret_bool (by rw [ho.out]), rfl⟩
      · have ho := Lib.hid (isName_all n1 n2 hw); clear hw
        go_wp2_with fail
        go_ret
        exact ⟨ret_bool (by rw [ho.out, hg.out]), rfl⟩
end Go.Proofs.YtchahccnmjaejacDoor
