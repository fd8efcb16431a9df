/- Several texts in one: Tree0, Tree3. -/
import Derived.Test.YtdmkghgachapaabGreatDoorMgB
import Derived.Test.YtdmkghgachapaabGreatDoorMgW
set_option linter.unusedSimpArgs false
namespace Go.Proofs.YtdmkghgachapaabGreatDoor
set_option linter.unusedVariables false
set_option maxRecDepth 100000
open Go.RowKit Go.ChangeShapes Go.WideShapes Go.Deep
inductive Tree : Type
  | node (k n : Int) (ks : List Tree) : Tree
def Tree.kind : Tree → Int | .node k _ _ => k
def Tree.num : Tree → Int | .node _ n _ => n
def Tree.kids : Tree → List Tree | .node _ _ ks => ks
mutual
def Tree.high : Tree → Nat
  | .node _ _ ks => Tree.highs ks + 1
def Tree.highs : List Tree → Nat
  | [] => 0
  | t :: ts => max (Tree.high t) (Tree.highs ts)
end
theorem Tree.high_mem : ∀ (ts : List Tree) (t : Tree), t ∈ ts → t.high ≤ Tree.highs ts
  | [], t, h => by cases h
  | x :: ts, t, h => by
    rw [Tree.highs]
    rcases List.mem_cons.1 h with rfl | h
    · exact Nat.le_max_left _ _
    · exact Nat.le_trans (Tree.high_mem ts t h) (Nat.le_max_right _ _)
theorem Tree.all {P : Tree → Prop} (h : ∀ k n ks, (∀ t ∈ ks, P t) → P (.node k n ks)) (t : Tree) : P t := by
  have key : ∀ m (t : Tree), t.high ≤ m → P t := by
    intro m
    induction m with
    | zero => intro t ht; cases t; rw [Tree.high] at ht; omega
    | succ m ih =>
      intro t ht
      cases t with
      | node k n ks =>
        rw [Tree.high] at ht
        exact h k n ks fun t hm => ih t (by have := Tree.high_mem ks t hm; omega)
  exact key _ t (Nat.le_refl _)
mutual
def SubAt (w : World) (B : Nat) : Tree → Option Addr → Nat → Prop
  | .node k n ks, a, len => I64 k ∧ I64 n ∧ ks.length = len ∧ len ≤ 9223372036854775807 ∧ (0 < len → ∃ b off, a = some ⟨b, off, none⟩ ∧ b < B ∧ RowAt w B ks b off)
def RowAt (w : World) (B : Nat) : List Tree → Nat → Nat → Prop
  | [], _, _ => True
  | t :: ts, b, off => (w.cell? ⟨b, off, none⟩ = some (.int .i64 t.kind) ∧ w.cell? ⟨b, off + 1, none⟩ = some (.int .i64 t.num) ∧ ∃ a n c, w.cell? ⟨b, off + 2, none⟩ = some (.slice a n c) ∧ n ≤ c ∧ c ≤ 9223372036854775807 ∧ SubAt w B t a n) ∧ RowAt w B ts b (off + 3)
end
mutual
theorem SubAt.move {w w' : World} {B B' B2 : Nat} (hb : Below B' w w') (hB : B ≤ B') (hB2 : B ≤ B2) : ∀ (t : Tree) (a : Option Addr) (n : Nat), SubAt w B t a n → SubAt w' B2 t a n
  | .node k n ks, a, len, h => by
    rw [SubAt] at h ⊢
    obtain ⟨i1, i2, h1, h2, h3⟩ := h
    refine ⟨i1, i2, h1, h2, fun hn => ?_⟩
    obtain ⟨b, off, e, hlt, hr⟩ := h3 hn
    exact ⟨b, off, e, by omega, RowAt.move hb hB hB2 ks b off hlt hr⟩
theorem RowAt.move {w w' : World} {B B' B2 : Nat} (hb : Below B' w w') (hB : B ≤ B') (hB2 : B ≤ B2) : ∀ (ts : List Tree) (b off : Nat), b < B → RowAt w B ts b off → RowAt w' B2 ts b off
  | [], b, off, hlt, h => by rw [RowAt]; trivial
  | t :: ts, b, off, hlt, h => by
    rw [RowAt] at h ⊢
    obtain ⟨⟨c0, c1, a, n, c, c2, h1, h2, h3⟩, h4⟩ := h
    refine ⟨⟨(hb.cell (p := ⟨b, _, none⟩) (Nat.lt_of_lt_of_le hlt hB)).trans c0, (hb.cell (p := ⟨b, _, none⟩) (Nat.lt_of_lt_of_le hlt hB)).trans c1, a, n, c, (hb.cell (p := ⟨b, _, none⟩) (Nat.lt_of_lt_of_le hlt hB)).trans c2, h1, h2, SubAt.move hb hB hB2 t a n h3⟩, RowAt.move hb hB hB2 ts b (off + 3) hlt h4⟩
end
theorem SubAt.then_ {w w' : World} {t : Tree} {a : Option Addr} {n : Nat} (h : SubAt w w.heap.size t a n) (b : Below w.heap.size w w') : SubAt w' w'.heap.size t a n :=
  h.move b (Nat.le_refl _) b.size t a n
theorem SubAt.below {w w' : World} {B B' : Nat} {t : Tree} {a : Option Addr} {n : Nat} (h : SubAt w B t a n) (b : Below B' w w') (hB : B ≤ B') : SubAt w' B t a n :=
  h.move b hB (Nat.le_refl _) t a n
theorem SubAt.more {w : World} {B B' : Nat} {t : Tree} {a : Option Addr} {n : Nat} (h : SubAt w B t a n) (hB : B ≤ B') : SubAt w B' t a n :=
  h.move (Below.refl B w) (Nat.le_refl _) hB t a n
theorem SubAt.len {w : World} {B : Nat} {t : Tree} {a : Option Addr} {n : Nat} (h : SubAt w B t a n) : t.kids.length = n ∧ n ≤ 9223372036854775807 ∧ I64 t.kind ∧ I64 t.num := by
  cases t with
  | node k n ks => rw [SubAt] at h; exact ⟨h.2.2.1, h.2.2.2.1, h.1, h.2.1⟩
theorem RowAt.get {w : World} {B : Nat} : ∀ (ts : List Tree) (b off i : Nat) (t : Tree), RowAt w B ts b off → ts[i]? = some t →
    w.cell? ⟨b, off + i * 3, none⟩ = some (.int .i64 t.kind) ∧ w.cell? ⟨b, off + i * 3 + 1, none⟩ = some (.int .i64 t.num) ∧ ∃ a n c, w.cell? ⟨b, off + i * 3 + 2, none⟩ = some (.slice a n c) ∧ n ≤ c ∧ c ≤ 9223372036854775807 ∧ SubAt w B t a n
  | [], b, off, i, t, h, hi => by simp at hi
  | x :: ts, b, off, 0, t, h, hi => by
    rw [RowAt] at h
    simp at hi
    subst hi
    simpa using h.1
  | x :: ts, b, off, i + 1, t, h, hi => by
    rw [RowAt] at h
    have := RowAt.get ts b (off + 3) i t h.2 (by simpa using hi)
    rw [show off + (i + 1) * 3 = off + 3 + i * 3 by omega]
    exact this
theorem RowAt.of {w : World} {B b : Nat} : ∀ (ts : List Tree) (off : Nat), (∀ i t, ts[i]? = some t → w.cell? ⟨b, off + i * 3, none⟩ = some (.int .i64 t.kind) ∧ w.cell? ⟨b, off + i * 3 + 1, none⟩ = some (.int .i64 t.num) ∧ ∃ a n c, w.cell? ⟨b, off + i * 3 + 2, none⟩ = some (.slice a n c) ∧ n ≤ c ∧ c ≤ 9223372036854775807 ∧ SubAt w B t a n) → RowAt w B ts b off
  | [], off, h => by rw [RowAt]; trivial
  | x :: ts, off, h => by
    rw [RowAt]
    refine ⟨by simpa using h 0 x rfl, RowAt.of ts (off + 3) fun i t hi => ?_⟩
    have := h (i + 1) t (by simpa using hi)
    rw [show off + (i + 1) * 3 = off + 3 + i * 3 by omega] at this
    exact this
theorem SubAt.kid {w : World} {B : Nat} {k m : Int} {ks : List Tree} {a : Option Addr} {n : Nat} (h : SubAt w B (.node k m ks) a n) (hn : 0 < n) :
    ∃ b off, a = some ⟨b, off, none⟩ ∧ b < B ∧ ∀ i, i < n → ∃ k' m' ks' a' n' c', w.cell? ⟨b, off + i * 3, none⟩ = some (.int .i64 k') ∧ w.cell? ⟨b, off + i * 3 + 1, none⟩ = some (.int .i64 m') ∧ w.cell? ⟨b, off + i * 3 + 2, none⟩ = some (.slice a' n' c') ∧ ks[i]? = some (.node k' m' ks') ∧ n' ≤ c' ∧ c' ≤ 9223372036854775807 ∧ SubAt w B (.node k' m' ks') a' n' := by
  rw [SubAt] at h
  obtain ⟨_, _, h1, h2, h3⟩ := h
  obtain ⟨b, off, e, hlt, hr⟩ := h3 hn
  refine ⟨b, off, e, hlt, fun i hi => ?_⟩
  have hx : ks[i]? = some (ks[i]'(by omega)) := List.getElem?_eq_getElem (by omega)
  obtain ⟨c0, c1, a', n', c', c2, q1, q2, q3⟩ := RowAt.get ks b off i _ hr hx
  generalize (ks[i]'(by omega)) = t at *
  cases t with
  | node k' m' ks' => exact ⟨k', m', ks', a', n', c', c0, c1, c2, hx, q1, q2, q3⟩
def opsOf (k : Int) : Nat := if k = 1 ∨ k = 2 then 0 else if k = 3 ∨ k = 11 then 1 else 2
def nodeB (k n : Int) (len : Nat) : Bool := inB 1 13 k && (decide (len = opsOf k) && (if k = 1 then inB 0 2147483647 n else decide (n = 0)))
mutual
def exprGo : Tree → Int → Int → Int × Int
  | .node k n ks, d, c => if 60 < c + 1 ∨ 12 < d then (2, c + 1) else if nodeB k n ks.length = false then (8, c + 1) else exprRow ks (d + 1) (c + 1)
def exprRow : List Tree → Int → Int → Int × Int
  | [], _, c => (0, c)
  | t :: ts, d, c => if (exprGo t d c).1 ≠ 0 then exprGo t d c else exprRow ts d (exprGo t d c).2
end
def exprErr (t : Tree) : Int := (exprGo t 1 0).1
theorem exprGo_node (k n : Int) (ks : List Tree) (d c : Int) : exprGo (.node k n ks) d c = if 60 < c + 1 ∨ 12 < d then (2, c + 1) else if nodeB k n ks.length = false then (8, c + 1) else exprRow ks (d + 1) (c + 1) := by rw [exprGo]
theorem exprRow_cons (t : Tree) (ts : List Tree) (d c : Int) : exprRow (t :: ts) d c = if (exprGo t d c).1 ≠ 0 then exprGo t d c else exprRow ts d (exprGo t d c).2 := by rw [exprRow]
def exprStack : List (Tree × Int) → Int → Int
  | [], _ => 0
  | x :: xs, c => if (exprGo x.1 x.2 c).1 ≠ 0 then (exprGo x.1 x.2 c).1 else exprStack xs (exprGo x.1 x.2 c).2
theorem exprStack_cons (t : Tree) (d : Int) (xs : List (Tree × Int)) (c : Int) : exprStack ((t, d) :: xs) c = if (exprGo t d c).1 ≠ 0 then (exprGo t d c).1 else exprStack xs (exprGo t d c).2 := by rw [exprStack]
theorem exprStack_row (d : Int) : ∀ (ts : List Tree) (xs : List (Tree × Int)) (c : Int), exprStack (ts.map (fun t => (t, d)) ++ xs) c = if (exprRow ts d c).1 ≠ 0 then (exprRow ts d c).1 else exprStack xs (exprRow ts d c).2
  | [], xs, c => by rw [exprRow]; simp
  | t :: ts, xs, c => by
    rw [List.map_cons, List.cons_append, exprStack_cons, exprRow_cons, exprStack_row d ts xs]
    by_cases h : (exprGo t d c).1 ≠ 0
    · rw [if_pos h, if_pos h, if_pos h]
    · rw [if_neg h, if_neg h]
theorem exprStack_large {k n d c : Int} {ks : List Tree} {xs : List (Tree × Int)} (h : 60 < c + 1 ∨ 12 < d) : exprStack ((.node k n ks, d) :: xs) c = 2 := by
  rw [exprStack_cons, exprGo_node, if_pos h]; rfl
theorem exprStack_form {k n d c : Int} {ks : List Tree} {xs : List (Tree × Int)} (h : ¬ (60 < c + 1 ∨ 12 < d)) (h' : nodeB k n ks.length = false) : exprStack ((.node k n ks, d) :: xs) c = 8 := by
  rw [exprStack_cons, exprGo_node, if_neg h, if_pos h']; rfl
theorem exprStack_next {k n d c : Int} {ks : List Tree} {xs : List (Tree × Int)} (h : ¬ (60 < c + 1 ∨ 12 < d)) (h' : nodeB k n ks.length = true) :
    exprStack ((.node k n ks, d) :: xs) c = exprStack (ks.map (fun t => (t, d + 1)) ++ xs) (c + 1) := by
  have e : exprGo (.node k n ks) d c = exprRow ks (d + 1) (c + 1) := by rw [exprGo_node, if_neg h, if_neg (by rw [h']; simp)]
  rw [exprStack_cons, e, exprStack_row]
theorem exprErr_stack (t : Tree) : exprErr t = exprStack [(t, 1)] 0 := by
  rw [exprStack_cons, exprErr]
  by_cases h : (exprGo t 1 0).1 ≠ 0
  · rw [if_pos h]
  · rw [if_neg h, exprStack]; omega
theorem exprRow_drop {ts : List Tree} {i : Nat} {t : Tree} (d c : Int) (h : ts[i]? = some t) : exprRow (ts.drop i) d c = if (exprGo t d c).1 ≠ 0 then exprGo t d c else exprRow (ts.drop (i + 1)) d (exprGo t d c).2 := by
  obtain ⟨hl, rfl⟩ := List.getElem?_eq_some_iff.1 h
  rw [List.drop_eq_getElem_cons hl, exprRow_cons]
mutual
theorem exprGo_count : ∀ (t : Tree) (d c : Int), 0 ≤ c → c ≤ 60 → c ≤ (exprGo t d c).2 ∧ (exprGo t d c).2 ≤ 61 ∧ ((exprGo t d c).1 = 0 → (exprGo t d c).2 ≤ 60)
  | .node k n ks, d, c, h0, h1 => by
    rw [exprGo_node]
    by_cases h : 60 < c + 1 ∨ 12 < d
    · rw [if_pos h]; exact ⟨by simp only; omega, by simp only; omega, fun h => by cases h⟩
    rw [if_neg h]
    by_cases h' : nodeB k n ks.length = false
    · rw [if_pos h']; exact ⟨by simp only; omega, by simp only; omega, fun h => by cases h⟩
    rw [if_neg h']
    have := exprRow_count ks (d + 1) (c + 1) (by omega) (by omega)
    exact ⟨by omega, this.2.1, this.2.2⟩
theorem exprRow_count : ∀ (ts : List Tree) (d c : Int), 0 ≤ c → c ≤ 60 → c ≤ (exprRow ts d c).2 ∧ (exprRow ts d c).2 ≤ 61 ∧ ((exprRow ts d c).1 = 0 → (exprRow ts d c).2 ≤ 60)
  | [], d, c, h0, h1 => by rw [exprRow]; exact ⟨by simp, by simp only; omega, fun _ => h1⟩
  | t :: ts, d, c, h0, h1 => by
    rw [exprRow_cons]
    have ht := exprGo_count t d c h0 h1
    by_cases h : (exprGo t d c).1 ≠ 0
    · rw [if_pos h]; exact ht
    · rw [if_neg h]
      have := exprRow_count ts d (exprGo t d c).2 (by omega) (ht.2.2 (by omega))
      exact ⟨by omega, this.2.1, this.2.2⟩
end
theorem opsOf_le (k : Int) : opsOf k ≤ 2 := by
  unfold opsOf
  split
  · omega
  · split <;> omega
theorem nodeB_len {k n : Int} {len : Nat} (h : nodeB k n len = true) : len ≤ 2 ∧ len = opsOf k := by
  unfold nodeB at h
  simp only [Bool.and_eq_true, decide_eq_true_eq] at h
  have := opsOf_le k
  exact ⟨by omega, h.2.1⟩
end Go.Proofs.YtdmkghgachapaabGreatDoor

set_option linter.unusedSimpArgs false
namespace Go.Proofs.YtdmkghgachapaabGreatDoor
set_option linter.unusedVariables false
set_option maxRecDepth 100000
open Go.RowKit
def bitOf (b : Bool) : Int := if b then 1 else 0
def rawVal (k n y a b : Int) : Int × Int :=
  if k = 1 then (n, 0) else if k = 2 then (y, 0) else if k = 3 then (-a, 0) else if k = 4 then (a + b, 0) else if k = 5 then (a - b, 0) else if k = 6 then (a * b, 0)
  else if k = 7 then (if b = 0 then (0, 1) else (dq a b, 0)) else if k = 8 then (if b = 0 then (0, 1) else (dr a b, 0))
  else if k = 9 then (bitOf (decide (a < b)), 0) else if k = 10 then (bitOf (a == b), 0) else if k = 11 then (bitOf (a == 0), 0)
  else if k = 12 then (bitOf (!(a == 0) && !(b == 0)), 0) else (bitOf (!(a == 0) || !(b == 0)), 0)
def finVal (r : Int × Int) : Int × Int := if r.2 ≠ 0 then (0, r.2) else if inB (-2147483647) 2147483647 r.1 = false then (0, 14) else (r.1, 0)
def evalGo : Tree → Int → Int × Int
  | .node k n [], y => finVal (rawVal k n y 0 0)
  | .node k n [t], y => if (evalGo t y).2 ≠ 0 then (0, (evalGo t y).2) else finVal (rawVal k n y (evalGo t y).1 0)
  | .node k n (t :: u :: _), y => if (evalGo t y).2 ≠ 0 then (0, (evalGo t y).2) else if (evalGo u y).2 ≠ 0 then (0, (evalGo u y).2) else finVal (rawVal k n y (evalGo t y).1 (evalGo u y).1)
theorem evalGo_0 (k n y : Int) : evalGo (.node k n []) y = finVal (rawVal k n y 0 0) := by rw [evalGo]
theorem evalGo_1 (k n y : Int) (t : Tree) : evalGo (.node k n [t]) y = if (evalGo t y).2 ≠ 0 then (0, (evalGo t y).2) else finVal (rawVal k n y (evalGo t y).1 0) := by rw [evalGo]
theorem evalGo_2 (k n y : Int) (t u : Tree) (l : List Tree) : evalGo (.node k n (t :: u :: l)) y = if (evalGo t y).2 ≠ 0 then (0, (evalGo t y).2) else if (evalGo u y).2 ≠ 0 then (0, (evalGo u y).2) else finVal (rawVal k n y (evalGo t y).1 (evalGo u y).1) := by rw [evalGo]
theorem finVal_ok (r : Int × Int) : -2147483647 ≤ (finVal r).1 ∧ (finVal r).1 ≤ 2147483647 := by
  unfold finVal
  split
  · simp only; omega
  · rcases inB_cases (-2147483647) 2147483647 r.1 with ⟨h, h1, h2⟩ | ⟨h, h1⟩
    · rw [if_neg (by rw [h]; simp)]; exact ⟨h1, h2⟩
    · rw [if_pos h]; simp only; omega
theorem evalGo_bound (t : Tree) (y : Int) : -2147483647 ≤ (evalGo t y).1 ∧ (evalGo t y).1 ≤ 2147483647 := by
  cases t with
  | node k n ks =>
    match ks with
    | [] => rw [evalGo_0]; exact finVal_ok _
    | [t] =>
      rw [evalGo_1]
      split
      · simp only; omega
      · exact finVal_ok _
    | t :: u :: l =>
      rw [evalGo_2]
      split
      · simp only; omega
      · split
        · simp only; omega
        · exact finVal_ok _
def Tree.ok : Tree → Prop
  | .node k n ks => nodeB k n ks.length = true ∧ ∀ t ∈ ks, t.ok
theorem Tree.ok_node {k n : Int} {ks : List Tree} : (Tree.node k n ks).ok ↔ nodeB k n ks.length = true ∧ ∀ t ∈ ks, t.ok := by rw [Tree.ok]
mutual
theorem exprGo_ok : ∀ (t : Tree) (d c : Int), (exprGo t d c).1 = 0 → t.ok
  | .node k n ks, d, c, h => by
    rw [exprGo_node] at h
    by_cases h1 : 60 < c + 1 ∨ 12 < d
    · rw [if_pos h1] at h; cases h
    rw [if_neg h1] at h
    by_cases h2 : nodeB k n ks.length = false
    · rw [if_pos h2] at h; cases h
    rw [if_neg h2] at h
    rw [Tree.ok]
    exact ⟨by simpa using h2, exprRow_ok ks (d + 1) (c + 1) h⟩
theorem exprRow_ok : ∀ (ts : List Tree) (d c : Int), (exprRow ts d c).1 = 0 → ∀ t ∈ ts, t.ok
  | [], d, c, h => by simp
  | t :: ts, d, c, h => by
    rw [exprRow_cons] at h
    by_cases h1 : (exprGo t d c).1 ≠ 0
    · rw [if_pos h1] at h; exact absurd h h1
    rw [if_neg h1] at h
    intro x hx
    rcases List.mem_cons.1 hx with hx | hx
    · rw [hx]; exact exprGo_ok t d c (by omega)
    · exact exprRow_ok ts d _ h x hx
end
theorem exprErr_ok {t : Tree} (h : exprErr t = 0) : t.ok := exprGo_ok t 1 0 h
end Go.Proofs.YtdmkghgachapaabGreatDoor
