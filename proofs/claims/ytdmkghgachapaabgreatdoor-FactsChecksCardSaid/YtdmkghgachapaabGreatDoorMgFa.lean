/- Several texts in one: Fst0, FstOpen, Fst1, Fst2, Fst2b. -/
import Derived.Test.YtdmkghgachapaabGreatDoorMgT
import Derived.Test.YtdmkghgachapaabGreatDoorMgX
import Derived.Test.YtdmkghgachapaabGreatDoorMgB
import Derived.Test.YtdmkghgachapaabGreatDoorMg5
import Derived.Test.YtdmkghgachapaabGreatDoorMgW
import Derived.Deep.CutRange
import Derived.Test.YtdmkghgachapaabGreatDoorMgA
namespace Go.Proofs.YtdmkghgachapaabGreatDoor
set_option linter.unusedVariables false
set_option linter.unusedSimpArgs false
set_option maxRecDepth 100000
open Go.RowKit Go.ChangeShapes Go.WideShapes Go.Deep
inductive Fst : Type
  | node (k a b : Int) (s : ByteArray) (ks : List Fst) : Fst
def Fst.kind : Fst → Int | .node k _ _ _ _ => k
def Fst.va : Fst → Int | .node _ a _ _ _ => a
def Fst.vb : Fst → Int | .node _ _ b _ _ => b
def Fst.nm : Fst → ByteArray | .node _ _ _ s _ => s
def Fst.kids : Fst → List Fst | .node _ _ _ _ ks => ks
mutual
def Fst.high : Fst → Nat
  | .node _ _ _ _ ks => Fst.highs ks + 1
def Fst.highs : List Fst → Nat
  | [] => 0
  | t :: ts => max (Fst.high t) (Fst.highs ts)
end
theorem Fst.high_mem : ∀ (ts : List Fst) (t : Fst), t ∈ ts → t.high ≤ Fst.highs ts
  | [], t, h => by cases h
  | x :: ts, t, h => by
    rw [Fst.highs]
    rcases List.mem_cons.1 h with rfl | h
    · exact Nat.le_max_left _ _
    · exact Nat.le_trans (Fst.high_mem ts t h) (Nat.le_max_right _ _)
theorem Fst.all {P : Fst → Prop} (h : ∀ k a b s ks, (∀ t ∈ ks, P t) → P (.node k a b s ks)) (t : Fst) : P t := by
  have key : ∀ m (t : Fst), t.high ≤ m → P t := by
    intro m
    induction m with
    | zero => intro t ht; cases t; rw [Fst.high] at ht; omega
    | succ m ih =>
      intro t ht
      cases t with
      | node k a b s ks =>
        rw [Fst.high] at ht
        exact h k a b s ks fun t hm => ih t (by have := Fst.high_mem ks t hm; omega)
  exact key _ t (Nat.le_refl _)
def FCell (w : World) (t : Fst) (b off : Nat) (a : Option Addr) (n c : Nat) : Prop :=
  w.cell? ⟨b, off, none⟩ = some (.int .i64 t.kind) ∧ w.cell? ⟨b, off + 1, none⟩ = some (.int .i64 t.va) ∧ w.cell? ⟨b, off + 2, none⟩ = some (.int .i64 t.vb) ∧ w.cell? ⟨b, off + 3, none⟩ = some (.string t.nm) ∧ w.cell? ⟨b, off + 4, none⟩ = some (.slice a n c) ∧ n ≤ c ∧ c ≤ 9223372036854775807
theorem FCell.move {w w' : World} {B b off : Nat} {t : Fst} {a : Option Addr} {n c : Nat} (hb : Below B w w') (hlt : b < B) (h : FCell w t b off a n c) : FCell w' t b off a n c := by
  obtain ⟨c0, c1, c2, c3, c4, h1, h2⟩ := h
  exact ⟨(hb.cell (p := ⟨b, _, none⟩) hlt).trans c0, (hb.cell (p := ⟨b, _, none⟩) hlt).trans c1, (hb.cell (p := ⟨b, _, none⟩) hlt).trans c2, (hb.cell (p := ⟨b, _, none⟩) hlt).trans c3, (hb.cell (p := ⟨b, _, none⟩) hlt).trans c4, h1, h2⟩
mutual
def FSub (w : World) (B : Nat) : Fst → Option Addr → Nat → Prop
  | .node k x y s ks, a, len => (I64 k ∧ I64 x ∧ I64 y ∧ s.size ≤ 9223372036854775807) ∧ ks.length = len ∧ len ≤ 9223372036854775807 ∧ (0 < len → ∃ b off, a = some ⟨b, off, none⟩ ∧ b < B ∧ FRow w B ks b off)
def FRow (w : World) (B : Nat) : List Fst → Nat → Nat → Prop
  | [], _, _ => True
  | t :: ts, b, off => (∃ a n c, FCell w t b off a n c ∧ FSub w B t a n) ∧ FRow w B ts b (off + 5)
end
mutual
theorem FSub.move {w w' : World} {B B' B2 : Nat} (hb : Below B' w w') (hB : B ≤ B') (hB2 : B ≤ B2) : ∀ (t : Fst) (a : Option Addr) (n : Nat), FSub w B t a n → FSub w' B2 t a n
  | .node k x y s ks, a, len, h => by
    rw [FSub] at h ⊢
    obtain ⟨i1, h1, h2, h3⟩ := h
    refine ⟨i1, h1, h2, fun hn => ?_⟩
    obtain ⟨b, off, e, hlt, hr⟩ := h3 hn
    exact ⟨b, off, e, by omega, FRow.move hb hB hB2 ks b off hlt hr⟩
theorem FRow.move {w w' : World} {B B' B2 : Nat} (hb : Below B' w w') (hB : B ≤ B') (hB2 : B ≤ B2) : ∀ (ts : List Fst) (b off : Nat), b < B → FRow w B ts b off → FRow w' B2 ts b off
  | [], b, off, hlt, h => by rw [FRow]; trivial
  | t :: ts, b, off, hlt, h => by
    rw [FRow] at h ⊢
    obtain ⟨⟨a, n, c, hc, h3⟩, h4⟩ := h
    exact ⟨⟨a, n, c, hc.move hb (Nat.lt_of_lt_of_le hlt hB), FSub.move hb hB hB2 t a n h3⟩, FRow.move hb hB hB2 ts b (off + 5) hlt h4⟩
end
theorem FSub.below {w w' : World} {B B' : Nat} {t : Fst} {a : Option Addr} {n : Nat} (h : FSub w B t a n) (b : Below B' w w') (hB : B ≤ B') : FSub w' B t a n :=
  h.move b hB (Nat.le_refl _) t a n
theorem FSub.more {w : World} {B B' : Nat} {t : Fst} {a : Option Addr} {n : Nat} (h : FSub w B t a n) (hB : B ≤ B') : FSub w B' t a n :=
  h.move (Below.refl B w) (Nat.le_refl _) hB t a n
theorem FSub.len {w : World} {B : Nat} {k x y : Int} {s : ByteArray} {ks : List Fst} {a : Option Addr} {n : Nat} (h : FSub w B (.node k x y s ks) a n) : ks.length = n ∧ n ≤ 9223372036854775807 ∧ I64 k ∧ I64 x ∧ I64 y ∧ s.size ≤ 9223372036854775807 := by
  rw [FSub] at h; exact ⟨h.2.1, h.2.2.1, h.1⟩
theorem FRow.get {w : World} {B : Nat} : ∀ (ts : List Fst) (b off i : Nat) (t : Fst), FRow w B ts b off → ts[i]? = some t → ∃ a n c, FCell w t b (off + i * 5) a n c ∧ FSub w B t a n
  | [], b, off, i, t, h, hi => by simp at hi
  | x :: ts, b, off, 0, t, h, hi => by
    rw [FRow] at h
    simp at hi
    subst hi
    simpa using h.1
  | x :: ts, b, off, i + 1, t, h, hi => by
    rw [FRow] at h
    have := FRow.get ts b (off + 5) i t h.2 (by simpa using hi)
    rw [show off + (i + 1) * 5 = off + 5 + i * 5 by omega]
    exact this
theorem FRow.of {w : World} {B b : Nat} : ∀ (ts : List Fst) (off : Nat), (∀ i t, ts[i]? = some t → ∃ a n c, FCell w t b (off + i * 5) a n c ∧ FSub w B t a n) → FRow w B ts b off
  | [], off, h => by rw [FRow]; trivial
  | x :: ts, off, h => by
    rw [FRow]
    refine ⟨by simpa using h 0 x rfl, FRow.of ts (off + 5) fun i t hi => ?_⟩
    have := h (i + 1) t (by simpa using hi)
    rw [show off + (i + 1) * 5 = off + 5 + i * 5 by omega] at this
    exact this
theorem FSub.kid {w : World} {B : Nat} {k x y : Int} {s : ByteArray} {ks : List Fst} {a : Option Addr} {n : Nat} (h : FSub w B (.node k x y s ks) a n) (hn : 0 < n) :
    ∃ b off, a = some ⟨b, off, none⟩ ∧ b < B ∧ ∀ i, i < n → ∃ k' x' y' s' ks' a' n' c', ks[i]? = some (.node k' x' y' s' ks') ∧ FCell w (.node k' x' y' s' ks') b (off + i * 5) a' n' c' ∧ FSub w B (.node k' x' y' s' ks') a' n' := by
  rw [FSub] at h
  obtain ⟨_, h1, h2, h3⟩ := h
  obtain ⟨b, off, e, hlt, hr⟩ := h3 hn
  refine ⟨b, off, e, hlt, fun i hi => ?_⟩
  have hx : ks[i]? = some (ks[i]'(by omega)) := List.getElem?_eq_getElem (by omega)
  obtain ⟨a', n', c', q1, q2⟩ := FRow.get ks b off i _ hr hx
  generalize (ks[i]'(by omega)) = t at *
  cases t with
  | node k' x' y' s' ks' => exact ⟨k', x', y', s', ks', a', n', c', hx, q1, q2⟩
def kidsN (k : Int) : Nat := if k = 7 ∨ k = 8 ∨ k = 12 then 1 else if k = 9 ∨ k = 10 ∨ k = 11 then 2 else 0
def usesA (k : Int) : Bool := !decide (k = 9 ∨ k = 10 ∨ k = 11)
def usesB (k : Int) : Bool := decide (k = 1 ∨ k = 12 ∨ k = 4 ∨ k = 6)
def usesN (k : Int) : Bool := decide (k = 1 ∨ k = 12 ∨ k = 2)
def wideB (k : Int) : Bool := decide (k = 8 ∨ k = 12)
def wideI (k : Int) : Int := if wideB k = true then 1 else 0
def formB (k a b : Int) (s : ByteArray) (len : Nat) : Bool := inB 1 12 k && (decide (len = kidsN k) && ((usesA k || decide (a = 0)) && ((usesB k || decide (b = 0)) && (usesN k || decide (s.size = 0)))))
def monthsN (s : ByteArray) : Nat := match rowOf s.data.toList with
  | none => 0
  | some r => (msL r).length
def mostN (k : Int) (s : ByteArray) : Int := if usesN k = true then (monthsN s : Int) else 0
def rangeB (k a b m : Int) : Bool := if k = 1 then inB 1 m a && inB 1 400 b else if k = 2 then inB 1 m a else if k = 3 ∨ k = 8 then inB 0 6 a else if k = 4 then inB 1 100000 a && inB 0 (a - 1) b else if k = 5 then inB (-4000000) 4000000 a
  else if k = 6 then inB (-4000000) 4000000 a && (inB (-4000000) 4000000 b && decide (a ≤ b)) else if k = 7 then inB (-400) 400 a else if k = 12 then inB (-50) 50 a && (decide (a ≠ 0) && inB 0 m b) else true
def nodeErr (k a b : Int) (s : ByteArray) (len : Nat) (d u c : Int) : Int := if 40 < c + 1 ∨ 10 < d ∨ (wideB k = true ∧ 2 ≤ u) then 2 else if formB k a b s len = false then 8 else if usesN k = true ∧ monthsN s = 0 then 5 else if rangeB k a b (mostN k s) = false then 3 else 0
mutual
def fstGo : Fst → Int → Int → Int → Int × Int
  | .node k a b s ks, d, u, c => if nodeErr k a b s ks.length d u c ≠ 0 then (nodeErr k a b s ks.length d u c, c + 1) else fstRow ks (d + 1) (u + wideI k) (c + 1)
def fstRow : List Fst → Int → Int → Int → Int × Int
  | [], _, _, c => (0, c)
  | t :: ts, d, u, c => if (fstGo t d u c).1 ≠ 0 then fstGo t d u c else fstRow ts d u (fstGo t d u c).2
end
def fstErr (t : Fst) : Int := (fstGo t 1 0 0).1
theorem fstGo_node (k a b : Int) (s : ByteArray) (ks : List Fst) (d u c : Int) : fstGo (.node k a b s ks) d u c = if nodeErr k a b s ks.length d u c ≠ 0 then (nodeErr k a b s ks.length d u c, c + 1) else fstRow ks (d + 1) (u + wideI k) (c + 1) := by rw [fstGo]
theorem fstRow_cons (t : Fst) (ts : List Fst) (d u c : Int) : fstRow (t :: ts) d u c = if (fstGo t d u c).1 ≠ 0 then fstGo t d u c else fstRow ts d u (fstGo t d u c).2 := by rw [fstRow]
theorem fstRow_drop {ts : List Fst} {i : Nat} {t : Fst} (d u c : Int) (h : ts[i]? = some t) : fstRow (ts.drop i) d u c = if (fstGo t d u c).1 ≠ 0 then fstGo t d u c else fstRow (ts.drop (i + 1)) d u (fstGo t d u c).2 := by
  obtain ⟨hl, rfl⟩ := List.getElem?_eq_some_iff.1 h
  rw [List.drop_eq_getElem_cons hl, fstRow_cons]
def fstStack : List (Fst × Int × Int) → Int → Int
  | [], _ => 0
  | x :: xs, c => if (fstGo x.1 x.2.1 x.2.2 c).1 ≠ 0 then (fstGo x.1 x.2.1 x.2.2 c).1 else fstStack xs (fstGo x.1 x.2.1 x.2.2 c).2
theorem fstStack_cons (t : Fst) (d u : Int) (xs : List (Fst × Int × Int)) (c : Int) : fstStack ((t, d, u) :: xs) c = if (fstGo t d u c).1 ≠ 0 then (fstGo t d u c).1 else fstStack xs (fstGo t d u c).2 := by rw [fstStack]
theorem fstStack_row (d u : Int) : ∀ (ts : List Fst) (xs : List (Fst × Int × Int)) (c : Int), fstStack (ts.map (fun t => (t, d, u)) ++ xs) c = if (fstRow ts d u c).1 ≠ 0 then (fstRow ts d u c).1 else fstStack xs (fstRow ts d u c).2
  | [], xs, c => by rw [fstRow]; simp
  | t :: ts, xs, c => by
    rw [List.map_cons, List.cons_append, fstStack_cons, fstRow_cons, fstStack_row d u ts xs]
    by_cases h : (fstGo t d u c).1 ≠ 0
    · rw [if_pos h, if_pos h, if_pos h]
    · rw [if_neg h, if_neg h]
theorem fstStack_bad {k a b d u c : Int} {s : ByteArray} {ks : List Fst} {xs : List (Fst × Int × Int)} (h : nodeErr k a b s ks.length d u c ≠ 0) : fstStack ((.node k a b s ks, d, u) :: xs) c = nodeErr k a b s ks.length d u c := by
  rw [fstStack_cons, fstGo_node, if_pos h, if_pos h]
theorem fstStack_next {k a b d u c : Int} {s : ByteArray} {ks : List Fst} {xs : List (Fst × Int × Int)} (h : nodeErr k a b s ks.length d u c = 0) :
    fstStack ((.node k a b s ks, d, u) :: xs) c = fstStack (ks.map (fun t => (t, d + 1, u + wideI k)) ++ xs) (c + 1) := by
  have e : fstGo (.node k a b s ks) d u c = fstRow ks (d + 1) (u + wideI k) (c + 1) := by rw [fstGo_node, if_neg (by omega)]
  rw [fstStack_cons, e, fstStack_row]
theorem fstErr_stack (t : Fst) : fstErr t = fstStack [(t, 1, 0)] 0 := by
  rw [fstStack_cons, fstErr]
  by_cases h : (fstGo t 1 0 0).1 ≠ 0
  · rw [if_pos h]
  · rw [if_neg h, fstStack]; omega
theorem nodeErr_zero {k a b : Int} {s : ByteArray} {len : Nat} {d u c : Int} (h : nodeErr k a b s len d u c = 0) : c + 1 ≤ 40 ∧ d ≤ 10 ∧ (wideB k = true → u < 2) ∧ formB k a b s len = true ∧ (usesN k = true → monthsN s ≠ 0) ∧ rangeB k a b (mostN k s) = true := by
  unfold nodeErr at h
  by_cases h1 : 40 < c + 1 ∨ 10 < d ∨ (wideB k = true ∧ 2 ≤ u)
  · rw [if_pos h1] at h; omega
  rw [if_neg h1] at h
  by_cases h2 : formB k a b s len = false
  · rw [if_pos h2] at h; omega
  rw [if_neg h2] at h
  by_cases h3 : usesN k = true ∧ monthsN s = 0
  · rw [if_pos h3] at h; omega
  rw [if_neg h3] at h
  by_cases h4 : rangeB k a b (mostN k s) = false
  · rw [if_pos h4] at h; omega
  exact ⟨by omega, by omega, fun hw => Int.not_le.1 fun hu => h1 (.inr (.inr ⟨hw, hu⟩)), by simpa using h2, fun hu h0 => h3 ⟨hu, h0⟩, by simpa using h4⟩
theorem kidsN_le (k : Int) : kidsN k ≤ 2 := by
  unfold kidsN
  split
  · omega
  · split <;> omega
theorem formB_len {k a b : Int} {s : ByteArray} {len : Nat} (h : formB k a b s len = true) : 1 ≤ k ∧ k ≤ 12 ∧ len = kidsN k ∧ len ≤ 2 := by
  unfold formB at h
  simp only [Bool.and_eq_true, decide_eq_true_eq, inB] at h
  have := kidsN_le k
  exact ⟨h.1.1, h.1.2, h.2.1, by omega⟩
mutual
theorem fstGo_count : ∀ (t : Fst) (d u c : Int), 0 ≤ c → c ≤ 40 → c ≤ (fstGo t d u c).2 ∧ (fstGo t d u c).2 ≤ 41 ∧ ((fstGo t d u c).1 = 0 → (fstGo t d u c).2 ≤ 40)
  | .node k a b s ks, d, u, c, h0, h1 => by
    rw [fstGo_node]
    by_cases h : nodeErr k a b s ks.length d u c ≠ 0
    · rw [if_pos h]; exact ⟨by simp only; omega, by simp only; omega, fun h' => absurd h' h⟩
    rw [if_neg h]
    have hz := nodeErr_zero (Classical.not_not.1 h)
    have := fstRow_count ks (d + 1) (u + wideI k) (c + 1) (by omega) (by omega)
    exact ⟨by omega, this.2.1, this.2.2⟩
theorem fstRow_count : ∀ (ts : List Fst) (d u c : Int), 0 ≤ c → c ≤ 40 → c ≤ (fstRow ts d u c).2 ∧ (fstRow ts d u c).2 ≤ 41 ∧ ((fstRow ts d u c).1 = 0 → (fstRow ts d u c).2 ≤ 40)
  | [], d, u, c, h0, h1 => by rw [fstRow]; exact ⟨by simp, by simp only; omega, fun _ => h1⟩
  | t :: ts, d, u, c, h0, h1 => by
    rw [fstRow_cons]
    have ht := fstGo_count t d u c h0 h1
    by_cases h : (fstGo t d u c).1 ≠ 0
    · rw [if_pos h]; exact ht
    · rw [if_neg h]
      have := fstRow_count ts d u (fstGo t d u c).2 (by omega) (ht.2.2 (by omega))
      exact ⟨by omega, this.2.1, this.2.2⟩
end
end Go.Proofs.YtdmkghgachapaabGreatDoor

namespace Go.Proofs.YtdmkghgachapaabGreatDoor
set_option linter.unusedVariables false
set_option linter.unusedSimpArgs false
set_option maxRecDepth 100000
open Go.RowKit Go.ChangeShapes Go.WideShapes Go.Deep
theorem fcells_int : Tryz.prog.cellsOf 3 = 1 := by kernel_rfl
theorem fcells_str : Tryz.prog.cellsOf 9 = 1 := by kernel_rfl
theorem fcells_kids : Tryz.prog.cellsOf 23 = 1 := by kernel_rfl
theorem fcells_F : Tryz.prog.cellsOf 33 = 5 := by kernel_rfl
theorem ffield_at {H : Type} {enc : TypeId × Value → H} {W : World} {fs : Array Field} {n : Nat} {cs : List Value} {xs : List (DataW H × List MemPlace)}
    (hg : ∀ (i : Nat) (f : Field), fs[i]? = some f → DataW.trod enc Tryz.prog W 0 (fun _ => true) true n f.type ((cs.drop f.offset).take (Tryz.prog.cellsOf f.type)) = xs[i]?)
    (i T off k : Nat) (hT : fs[i]?.map (fun f => (f.type, f.offset)) = some (T, off)) (hk : Tryz.prog.cellsOf T = k) (hi : i < xs.length) : DataW.trod enc Tryz.prog W 0 (fun _ => true) true n T ((cs.drop off).take k) = some xs[i] := by
  cases hf : fs[i]? with
  | none => rw [hf] at hT; cases hT
  | some f =>
    rw [hf] at hT
    simp only [Option.map_some, Option.some.injEq, Prod.mk.injEq] at hT
    have := hg i f hf
    rw [hT.1, hT.2, hk, List.getElem?_eq_getElem hi] at this
    exact this
theorem open_fst {H : Type} {enc : TypeId × Value → H} {W : World} : ∀ (d fuel : Nat), fuel ≤ d → ∀ (cs : List Value) (x : DataW H × List MemPlace),
    DataW.trod enc Tryz.prog W 0 (fun _ => true) true fuel 33 cs = some x →
    ∃ t a n c, cs = [.int .i64 t.kind, .int .i64 t.va, .int .i64 t.vb, .string t.nm, .slice a n c] ∧ n ≤ c ∧ c ≤ 9223372036854775807 ∧ FSub W W.heap.size t a n := by
  intro d
  induction d with
  | zero =>
    intro fuel hf cs x h
    obtain ⟨_, n, hn, _⟩ := DataW.trod_struct Tryz.underlying33 h
    omega
  | succ d ih =>
    intro fuel hf cs x h
    obtain ⟨xs, n, hn, _, hcl, hlen, hg⟩ := DataW.trod_struct Tryz.underlying33 h
    have hl : xs.length = 5 := hlen
    rw [fcells_F] at hcl
    match cs, hcl with
    | [v0, v1, v2, v3, v4], _ =>
      have g0 := ffield_at hg 0 3 0 1 rfl fcells_int (by omega)
      have g1 := ffield_at hg 1 3 1 1 rfl fcells_int (by omega)
      have g2 := ffield_at hg 2 3 2 1 rfl fcells_int (by omega)
      have g3 := ffield_at hg 3 9 3 1 rfl fcells_str (by omega)
      have g4 := ffield_at hg 4 23 4 1 rfl fcells_kids (by omega)
      dsimp only [List.drop, List.take] at g0 g1 g2 g3 g4
      obtain ⟨k, rfl, hk⟩ := open_num g0
      obtain ⟨p, rfl, hp⟩ := open_num g1
      obtain ⟨q, rfl, hq⟩ := open_num g2
      obtain ⟨s, rfl, hs⟩ := open_str g3
      rcases DataW.trod_slice Tryz.underlying23 g4 with ⟨hcs, _⟩ | ⟨a, len, cap, elems, rest, n', hn', hcs, _, hb, hlc, hcm, hlen', hel, _⟩
      · simp at hcs
        subst hcs
        refine ⟨.node k p q s [], none, 0, 0, rfl, by omega, by omega, ?_⟩
        rw [FSub]
        exact ⟨⟨hk, hp, hq, hs⟩, rfl, by omega, fun h => absurd h (by omega)⟩
      · simp at hcs
        subst hcs
        unfold maxLen at hcm
        obtain ⟨b, off, spot⟩ := a
        have hrow : ∀ i, i < len → ∃ t : Fst, ∃ a n c, W.cell? ((⟨b, off, spot⟩ : Addr).add (i * 5)) = some (.int .i64 t.kind) ∧ W.cell? ((⟨b, off, spot⟩ : Addr).add (i * 5 + 1)) = some (.int .i64 t.va) ∧ W.cell? ((⟨b, off, spot⟩ : Addr).add (i * 5 + 2)) = some (.int .i64 t.vb) ∧ W.cell? ((⟨b, off, spot⟩ : Addr).add (i * 5 + 3)) = some (.string t.nm) ∧ W.cell? ((⟨b, off, spot⟩ : Addr).add (i * 5 + 4)) = some (.slice a n c) ∧ n ≤ c ∧ c ≤ 9223372036854775807 ∧ FSub W W.heap.size t a n := by
          intro i hi
          have key := hel i hi
          rw [fcells_F, List.getElem?_eq_getElem (by omega)] at key
          obtain ⟨cs', hc1, hc2⟩ := Option.bind_eq_some_iff.1 key
          obtain ⟨t, a', n1, c1, rfl, q1, q2, q3⟩ := ih n' (by omega) cs' _ hc2
          obtain ⟨_, _, hat⟩ := World.cells?_some hc1
          have z0 := hat 0 (by omega)
          have z1 := hat 1 (by omega)
          have z2 := hat 2 (by omega)
          have z3 := hat 3 (by omega)
          have z4 := hat 4 (by omega)
          rw [Go.Deep.add_add] at z0 z1 z2 z3 z4
          exact ⟨t, a', n1, c1, by simpa using z0, by simpa using z1, by simpa using z2, by simpa using z3, by simpa using z4, q1, q2, q3⟩
        obtain ⟨ts, ht1, ht2⟩ := listOf hrow
        by_cases h0 : 0 < len
        · obtain ⟨t0, _, _, _, hc0, _⟩ := hrow 0 h0
          have hspot : spot = none := by simpa [Addr.add] using World.cell?_spot hc0
          subst hspot
          have hbl : b < W.heap.size := by
            rcases Nat.lt_or_ge b W.heap.size with h' | h'
            · exact h'
            · simp [World.cell?, Addr.add, Array.getElem?_eq_none h'] at hc0
          refine ⟨.node k p q s ts, some ⟨b, off, none⟩, len, cap, rfl, hlc, by omega, ?_⟩
          rw [FSub]
          refine ⟨⟨hk, hp, hq, hs⟩, ht1, by omega, fun _ => ⟨b, off, rfl, hbl, FRow.of ts off fun i t hi => ?_⟩⟩
          obtain ⟨a', n1, cc, c0, c1, c2, c3, c4, q1, q2, q3⟩ := ht2 i t hi
          rw [add_none] at c0 c1 c2 c3 c4
          exact ⟨a', n1, cc, ⟨c0, by rw [Nat.add_assoc]; exact c1, by rw [Nat.add_assoc]; exact c2, by rw [Nat.add_assoc]; exact c3, by rw [Nat.add_assoc]; exact c4, q1, q2⟩, q3⟩
        · refine ⟨.node k p q s [], some ⟨b, off, spot⟩, len, cap, rfl, hlc, by omega, ?_⟩
          rw [FSub]
          exact ⟨⟨hk, hp, hq, hs⟩, by simp; omega, by omega, fun h => absurd h h0⟩
end Go.Proofs.YtdmkghgachapaabGreatDoor

namespace Go.Proofs.YtdmkghgachapaabGreatDoor
set_option linter.unusedVariables false
set_option linter.unusedSimpArgs false
set_option maxRecDepth 100000
open Go.RowKit
theorem kne {k n : Int} (h : k ≠ n) : (k == n) = false := by simpa using h
theorem kind_of {k : Int} (h1 : 1 ≤ k) (h2 : k ≤ 12) : k = 1 ∨ k = 2 ∨ k = 3 ∨ k = 4 ∨ k = 5 ∨ k = 6 ∨ k = 7 ∨ k = 8 ∨ k = 9 ∨ k = 10 ∨ k = 11 ∨ k = 12 := by omega
theorem feast_kids (k : Int) (w : World) : Calls Tryz.prog 53 #[.int .i64 k] w fun e w' => e = .returned (.int .i64 (kidsN k : Int)) ∧ w = w' := by
  by_cases h : k = 7 ∨ k = 8 ∨ k = 12 ∨ k = 9 ∨ k = 10 ∨ k = 11
  · rcases h with rfl | rfl | rfl | rfl | rfl | rfl
    all_goals
      go_enter Tryz.func53, Tryz.ntmps53
      go_wp2_with fail
      go_ret
      exact ⟨rfl, rfl⟩
  · have ho := Lib.hid (show kidsN k = 0 by unfold kidsN; rw [if_neg (by omega), if_neg (by omega)])
    have h7 := kne (show k ≠ 7 by omega)
    have h8 := kne (show k ≠ 8 by omega)
    have h9 := kne (show k ≠ 9 by omega)
    have h10 := kne (show k ≠ 10 by omega)
    have h11 := kne (show k ≠ 11 by omega)
    have h12 := kne (show k ≠ 12 by omega)
    clear h
    go_enter Tryz.func53, Tryz.ntmps53
    go_wp2_with fail
    go_ret
    exact ⟨ret_int (by rw [ho.out]; rfl), rfl⟩
theorem feast_fields (k : Int) (w : World) : Calls Tryz.prog 51 #[.int .i64 k] w fun e w' => e = .returned (.tuple #[.bool (usesA k), .bool (usesB k), .bool (usesN k)]) ∧ w = w' := by
  by_cases h : k = 1 ∨ k = 12 ∨ k = 2 ∨ k = 4 ∨ k = 6 ∨ k = 9 ∨ k = 10 ∨ k = 11
  · rcases h with rfl | rfl | rfl | rfl | rfl | rfl | rfl | rfl
    all_goals
      go_enter Tryz.func51, Tryz.ntmps51
      go_wp2_with fail
      go_ret3
      exact ⟨rfl, rfl⟩
  · have ha := Lib.hid (show usesA k = true by unfold usesA; rw [decide_eq_false (by omega)]; rfl)
    have hb := Lib.hid (show usesB k = false by unfold usesB; rw [decide_eq_false (by omega)])
    have hn := Lib.hid (show usesN k = false by unfold usesN; rw [decide_eq_false (by omega)])
    have h1 := kne (show k ≠ 1 by omega)
    have h2 := kne (show k ≠ 2 by omega)
    have h4 := kne (show k ≠ 4 by omega)
    have h6 := kne (show k ≠ 6 by omega)
    have h9 := kne (show k ≠ 9 by omega)
    have h10 := kne (show k ≠ 10 by omega)
    have h11 := kne (show k ≠ 11 by omega)
    have h12 := kne (show k ≠ 12 by omega)
    clear h
    go_enter Tryz.func51, Tryz.ntmps51
    go_wp2_with fail
    go_ret3
    exact ⟨by rw [ha.out, hb.out, hn.out]; rfl, rfl⟩
theorem feast_within (x l h : Int) (w : World) : Calls Tryz.prog 52 #[.int .i64 x, .int .i64 l, .int .i64 h] w fun e w' => e = .returned (.bool (inB l h x)) ∧ w = w' := by
  by_cases h2 : l ≤ x
  · by_cases h3 : x ≤ h
    · go_enter Tryz.func52, Tryz.ntmps52
      go_wp2
      go_ret
      exact ⟨ret_bool (inB_yes h2 h3).symm, rfl⟩
    · go_enter Tryz.func52, Tryz.ntmps52
      go_wp2
      go_ret
      exact ⟨ret_bool (inB_no (by omega)).symm, rfl⟩
  · go_enter Tryz.func52, Tryz.ntmps52
    go_wp2
    go_ret
    exact ⟨ret_bool (inB_no (by omega)).symm, rfl⟩
abbrev fV (k a b : Int) (s : ByteArray) (ad : Option Addr) (n c : Nat) : Array Value := #[.int .i64 k, .int .i64 a, .int .i64 b, .string s, .slice ad n c]
abbrev fO (k a b : Int) (s : ByteArray) (ad : Option Addr) (n c : Nat) : Obj := .cells (fV k a b s ad n c) 33
set_option maxHeartbeats 4000000 in
theorem feast_ranges (k a b m : Int) (s : ByteArray) (ad : Option Addr) (n c : Nat) (w : World) (hk1 : 1 ≤ k) (hk2 : k ≤ 12) (ha : I64 a) :
    Calls Tryz.prog 55 #[.agg (fV k a b s ad n c), .int .i64 m] w fun e w' => e = .returned (.bool (rangeB k a b m)) ∧ Below w.heap.size w w' := by
  have o0 := One.new w (fO k a b s ad n c)
  rcases kind_of hk1 hk2 with rfl | rfl | rfl | rfl | rfl | rfl | rfl | rfl | rfl | rfl | rfl | rfl
  all_goals clear hk1 hk2
  · -- 1
    obtain ⟨b0, hb0⟩ : ∃ x, x = inB 1 m a := ⟨_, rfl⟩
    obtain ⟨b1, hb1⟩ : ∃ x, x = inB 1 400 b := ⟨_, rfl⟩
    have HO := Lib.hid (show rangeB 1 a b m = (b0 && b1) by rw [hb0, hb1]; rfl)
    have C0 := Lib.hid (show ∀ W : World, Calls Tryz.prog 52 #[.int .i64 a, .int .i64 1, .int .i64 m] W fun e w' => e = .returned (.bool b0) ∧ W = w' from fun W => by rw [hb0]; exact feast_within a 1 m W)
    have C1 := Lib.hid (show ∀ W : World, Calls Tryz.prog 52 #[.int .i64 b, .int .i64 1, .int .i64 400] W fun e w' => e = .returned (.bool b1) ∧ W = w' from fun W => by rw [hb1]; exact feast_within b 1 400 W)
    clear hb0 hb1
    cases b0 <;> cases b1
    all_goals
      go_enter Tryz.func55, Tryz.ntmps55
      go_upto_region 1 with fail
      generalize World.alloc w _ = W0 at o0 ⊢
      have O0 := Lib.hid o0.2
      have o1 := o0.1
      clear o0
      have d0 := o1.cell 0; have d1 := o1.cell 1; have d2 := o1.cell 2; have d3 := o1.cell 3; have d4 := o1.cell 4; simp at d0 d1 d2 d3 d4
      clear o1
      go_wp2_with ((first | (go_at_call 52; with_reducible refine (C0.out _).mono ?_) | (go_at_call 52; with_reducible refine (C1.out _).mono ?_)); rintro e w' ⟨rfl, rfl⟩)
      go_ret
      exact ⟨ret_bool (by rw [HO.out] <;> rfl), O0.out⟩
  · -- 2
    obtain ⟨b0, hb0⟩ : ∃ x, x = inB 1 m a := ⟨_, rfl⟩
    have HO := Lib.hid (show rangeB 2 a b m = b0 by rw [hb0]; rfl)
    have C0 := Lib.hid (show ∀ W : World, Calls Tryz.prog 52 #[.int .i64 a, .int .i64 1, .int .i64 m] W fun e w' => e = .returned (.bool b0) ∧ W = w' from fun W => by rw [hb0]; exact feast_within a 1 m W)
    clear hb0
    cases b0
    all_goals
      go_enter Tryz.func55, Tryz.ntmps55
      go_upto_region 1 with fail
      generalize World.alloc w _ = W0 at o0 ⊢
      have O0 := Lib.hid o0.2
      have o1 := o0.1
      clear o0
      have d0 := o1.cell 0; have d1 := o1.cell 1; have d2 := o1.cell 2; have d3 := o1.cell 3; have d4 := o1.cell 4; simp at d0 d1 d2 d3 d4
      clear o1
      go_wp2_with ((first | (go_at_call 52; with_reducible refine (C0.out _).mono ?_)); rintro e w' ⟨rfl, rfl⟩)
      go_ret
      exact ⟨ret_bool (by rw [HO.out] <;> rfl), O0.out⟩
  · -- 3
    obtain ⟨b0, hb0⟩ : ∃ x, x = inB 0 6 a := ⟨_, rfl⟩
    have HO := Lib.hid (show rangeB 3 a b m = b0 by rw [hb0]; rfl)
    have C0 := Lib.hid (show ∀ W : World, Calls Tryz.prog 52 #[.int .i64 a, .int .i64 0, .int .i64 6] W fun e w' => e = .returned (.bool b0) ∧ W = w' from fun W => by rw [hb0]; exact feast_within a 0 6 W)
    clear hb0
    cases b0
    all_goals
      go_enter Tryz.func55, Tryz.ntmps55
      go_upto_region 1 with fail
      generalize World.alloc w _ = W0 at o0 ⊢
      have O0 := Lib.hid o0.2
      have o1 := o0.1
      clear o0
      have d0 := o1.cell 0; have d1 := o1.cell 1; have d2 := o1.cell 2; have d3 := o1.cell 3; have d4 := o1.cell 4; simp at d0 d1 d2 d3 d4
      clear o1
      go_wp2_with ((first | (go_at_call 52; with_reducible refine (C0.out _).mono ?_)); rintro e w' ⟨rfl, rfl⟩)
      go_ret
      exact ⟨ret_bool (by rw [HO.out] <;> rfl), O0.out⟩
  · -- 4
    obtain ⟨b0, hb0⟩ : ∃ x, x = inB 1 100000 a := ⟨_, rfl⟩
    obtain ⟨b1, hb1⟩ : ∃ x, x = inB 0 (a - 1) b := ⟨_, rfl⟩
    have HO := Lib.hid (show rangeB 4 a b m = (b0 && b1) by rw [hb0, hb1]; rfl)
    have C0 := Lib.hid (show ∀ W : World, Calls Tryz.prog 52 #[.int .i64 a, .int .i64 1, .int .i64 100000] W fun e w' => e = .returned (.bool b0) ∧ W = w' from fun W => by rw [hb0]; exact feast_within a 1 100000 W)
    have C1 := Lib.hid (show ∀ W : World, Calls Tryz.prog 52 #[.int .i64 b, .int .i64 0, .int .i64 (a - 1)] W fun e w' => e = .returned (.bool b1) ∧ W = w' from fun W => by rw [hb1]; exact feast_within b 0 (a - 1) W)
    have B0 := Lib.hid hb0
    clear hb0 hb1
    cases b0 <;> cases b1
    all_goals
      have hz : IntKind.i64.wrap (a - 1) = a - 1 ∨ inB 1 100000 a = false := by
        by_cases h : 1 ≤ a
        · exact .inl (IntWalk.i64_in _ (by have := ha; unfold I64 at this; omega))
        · exact .inr (inB_no (by omega))
      first | (have hz1 : IntKind.i64.wrap (a - 1) = a - 1 := by rcases hz with h | h; exact h; rw [← B0.out] at h; cases h) | skip
      clear hz B0
      go_enter Tryz.func55, Tryz.ntmps55
      go_upto_region 1 with fail
      generalize World.alloc w _ = W0 at o0 ⊢
      have O0 := Lib.hid o0.2
      have o1 := o0.1
      clear o0
      have d0 := o1.cell 0; have d1 := o1.cell 1; have d2 := o1.cell 2; have d3 := o1.cell 3; have d4 := o1.cell 4; simp at d0 d1 d2 d3 d4
      clear o1
      go_wp2_with ((first | (go_at_call 52; with_reducible refine (C0.out _).mono ?_) | (go_at_call 52; with_reducible refine (C1.out _).mono ?_)); rintro e w' ⟨rfl, rfl⟩)
      go_ret
      exact ⟨ret_bool (by rw [HO.out] <;> rfl), O0.out⟩
  · -- 5
    obtain ⟨b0, hb0⟩ : ∃ x, x = inB (-4000000) 4000000 a := ⟨_, rfl⟩
    have HO := Lib.hid (show rangeB 5 a b m = b0 by rw [hb0]; rfl)
    have C0 := Lib.hid (show ∀ W : World, Calls Tryz.prog 71 #[.int .i64 a] W fun e w' => e = .returned (.bool b0) ∧ W = w' from fun W => by rw [hb0]; exact line_Is a W)
    clear hb0
    cases b0
    all_goals
      go_enter Tryz.func55, Tryz.ntmps55
      go_upto_region 1 with fail
      generalize World.alloc w _ = W0 at o0 ⊢
      have O0 := Lib.hid o0.2
      have o1 := o0.1
      clear o0
      have d0 := o1.cell 0; have d1 := o1.cell 1; have d2 := o1.cell 2; have d3 := o1.cell 3; have d4 := o1.cell 4; simp at d0 d1 d2 d3 d4
      clear o1
      go_wp2_with ((first | (go_at_call 71; with_reducible refine (C0.out _).mono ?_)); rintro e w' ⟨rfl, rfl⟩)
      go_ret
      exact ⟨ret_bool (by rw [HO.out] <;> rfl), O0.out⟩
  · -- 6
    obtain ⟨b0, hb0⟩ : ∃ x, x = inB (-4000000) 4000000 a := ⟨_, rfl⟩
    obtain ⟨b1, hb1⟩ : ∃ x, x = inB (-4000000) 4000000 b := ⟨_, rfl⟩
    obtain ⟨b2, hb2⟩ : ∃ x, x = decide (a ≤ b) := ⟨_, rfl⟩
    have HO := Lib.hid (show rangeB 6 a b m = (b0 && (b1 && b2)) by rw [hb0, hb1, hb2]; rfl)
    have C0 := Lib.hid (show ∀ W : World, Calls Tryz.prog 71 #[.int .i64 a] W fun e w' => e = .returned (.bool b0) ∧ W = w' from fun W => by rw [hb0]; exact line_Is a W)
    have C1 := Lib.hid (show ∀ W : World, Calls Tryz.prog 71 #[.int .i64 b] W fun e w' => e = .returned (.bool b1) ∧ W = w' from fun W => by rw [hb1]; exact line_Is b W)
    have hL : decide (a ≤ b) = b2 := hb2.symm
    clear hb0 hb1 hb2
    cases b0 <;> cases b1 <;> cases b2
    all_goals
      go_enter Tryz.func55, Tryz.ntmps55
      go_upto_region 1 with fail
      generalize World.alloc w _ = W0 at o0 ⊢
      have O0 := Lib.hid o0.2
      have o1 := o0.1
      clear o0
      have d0 := o1.cell 0; have d1 := o1.cell 1; have d2 := o1.cell 2; have d3 := o1.cell 3; have d4 := o1.cell 4; simp at d0 d1 d2 d3 d4
      clear o1
      go_wp2_with ((first | (go_at_call 71; with_reducible refine (C0.out _).mono ?_) | (go_at_call 71; with_reducible refine (C1.out _).mono ?_)); rintro e w' ⟨rfl, rfl⟩)
      go_ret
      exact ⟨ret_bool (by rw [HO.out] <;> rfl), O0.out⟩
  · -- 7
    obtain ⟨b0, hb0⟩ : ∃ x, x = inB (-400) 400 a := ⟨_, rfl⟩
    have HO := Lib.hid (show rangeB 7 a b m = b0 by rw [hb0]; rfl)
    have C0 := Lib.hid (show ∀ W : World, Calls Tryz.prog 52 #[.int .i64 a, .int .i64 (-400), .int .i64 400] W fun e w' => e = .returned (.bool b0) ∧ W = w' from fun W => by rw [hb0]; exact feast_within a (-400) 400 W)
    clear hb0
    cases b0
    all_goals
      go_enter Tryz.func55, Tryz.ntmps55
      go_upto_region 1 with fail
      generalize World.alloc w _ = W0 at o0 ⊢
      have O0 := Lib.hid o0.2
      have o1 := o0.1
      clear o0
      have d0 := o1.cell 0; have d1 := o1.cell 1; have d2 := o1.cell 2; have d3 := o1.cell 3; have d4 := o1.cell 4; simp at d0 d1 d2 d3 d4
      clear o1
      go_wp2_with ((first | (go_at_call 52; with_reducible refine (C0.out _).mono ?_)); rintro e w' ⟨rfl, rfl⟩)
      go_ret
      exact ⟨ret_bool (by rw [HO.out] <;> rfl), O0.out⟩
  · -- 8
    obtain ⟨b0, hb0⟩ : ∃ x, x = inB 0 6 a := ⟨_, rfl⟩
    have HO := Lib.hid (show rangeB 8 a b m = b0 by rw [hb0]; rfl)
    have C0 := Lib.hid (show ∀ W : World, Calls Tryz.prog 52 #[.int .i64 a, .int .i64 0, .int .i64 6] W fun e w' => e = .returned (.bool b0) ∧ W = w' from fun W => by rw [hb0]; exact feast_within a 0 6 W)
    clear hb0
    cases b0
    all_goals
      go_enter Tryz.func55, Tryz.ntmps55
      go_upto_region 1 with fail
      generalize World.alloc w _ = W0 at o0 ⊢
      have O0 := Lib.hid o0.2
      have o1 := o0.1
      clear o0
      have d0 := o1.cell 0; have d1 := o1.cell 1; have d2 := o1.cell 2; have d3 := o1.cell 3; have d4 := o1.cell 4; simp at d0 d1 d2 d3 d4
      clear o1
      go_wp2_with ((first | (go_at_call 52; with_reducible refine (C0.out _).mono ?_)); rintro e w' ⟨rfl, rfl⟩)
      go_ret
      exact ⟨ret_bool (by rw [HO.out] <;> rfl), O0.out⟩
  · -- 9
    have HO := Lib.hid (show rangeB 9 a b m = true by rfl)
    all_goals
      go_enter Tryz.func55, Tryz.ntmps55
      go_upto_region 1 with fail
      generalize World.alloc w _ = W0 at o0 ⊢
      have O0 := Lib.hid o0.2
      have o1 := o0.1
      clear o0
      have d0 := o1.cell 0; have d1 := o1.cell 1; have d2 := o1.cell 2; have d3 := o1.cell 3; have d4 := o1.cell 4; simp at d0 d1 d2 d3 d4
      clear o1
      go_wp2_with fail
      go_ret
      exact ⟨ret_bool (by rw [HO.out] <;> rfl), O0.out⟩
  · -- 10
    have HO := Lib.hid (show rangeB 10 a b m = true by rfl)
    all_goals
      go_enter Tryz.func55, Tryz.ntmps55
      go_upto_region 1 with fail
      generalize World.alloc w _ = W0 at o0 ⊢
      have O0 := Lib.hid o0.2
      have o1 := o0.1
      clear o0
      have d0 := o1.cell 0; have d1 := o1.cell 1; have d2 := o1.cell 2; have d3 := o1.cell 3; have d4 := o1.cell 4; simp at d0 d1 d2 d3 d4
      clear o1
      go_wp2_with fail
      go_ret
      exact ⟨ret_bool (by rw [HO.out] <;> rfl), O0.out⟩
  · -- 11
    have HO := Lib.hid (show rangeB 11 a b m = true by rfl)
    all_goals
      go_enter Tryz.func55, Tryz.ntmps55
      go_upto_region 1 with fail
      generalize World.alloc w _ = W0 at o0 ⊢
      have O0 := Lib.hid o0.2
      have o1 := o0.1
      clear o0
      have d0 := o1.cell 0; have d1 := o1.cell 1; have d2 := o1.cell 2; have d3 := o1.cell 3; have d4 := o1.cell 4; simp at d0 d1 d2 d3 d4
      clear o1
      go_wp2_with fail
      go_ret
      exact ⟨ret_bool (by rw [HO.out] <;> rfl), O0.out⟩
  · -- 12
    obtain ⟨b0, hb0⟩ : ∃ x, x = inB (-50) 50 a := ⟨_, rfl⟩
    obtain ⟨b1, hb1⟩ : ∃ x, x = decide (a ≠ 0) := ⟨_, rfl⟩
    obtain ⟨b2, hb2⟩ : ∃ x, x = inB 0 m b := ⟨_, rfl⟩
    have HO := Lib.hid (show rangeB 12 a b m = (b0 && (b1 && b2)) by rw [hb0, hb1, hb2]; rfl)
    have C0 := Lib.hid (show ∀ W : World, Calls Tryz.prog 52 #[.int .i64 a, .int .i64 (-50), .int .i64 50] W fun e w' => e = .returned (.bool b0) ∧ W = w' from fun W => by rw [hb0]; exact feast_within a (-50) 50 W)
    have C2 := Lib.hid (show ∀ W : World, Calls Tryz.prog 52 #[.int .i64 b, .int .i64 0, .int .i64 m] W fun e w' => e = .returned (.bool b2) ∧ W = w' from fun W => by rw [hb2]; exact feast_within b 0 m W)
    have hL : (a != 0) = b1 := by rw [hb1]; by_cases h : a = 0 <;> simp [h]
    clear hb0 hb1 hb2
    cases b0 <;> cases b1 <;> cases b2
    all_goals
      go_enter Tryz.func55, Tryz.ntmps55
      go_upto_region 1 with fail
      generalize World.alloc w _ = W0 at o0 ⊢
      have O0 := Lib.hid o0.2
      have o1 := o0.1
      clear o0
      have d0 := o1.cell 0; have d1 := o1.cell 1; have d2 := o1.cell 2; have d3 := o1.cell 3; have d4 := o1.cell 4; simp at d0 d1 d2 d3 d4
      clear o1
      go_wp2_with ((first | (go_at_call 52; with_reducible refine (C0.out _).mono ?_) | (go_at_call 52; with_reducible refine (C2.out _).mono ?_)); rintro e w' ⟨rfl, rfl⟩)
      go_ret
      exact ⟨ret_bool (by rw [HO.out] <;> rfl), O0.out⟩
end Go.Proofs.YtdmkghgachapaabGreatDoor

namespace Go.Proofs.YtdmkghgachapaabGreatDoor
set_option linter.unusedVariables false
set_option linter.unusedSimpArgs false
set_option maxRecDepth 100000
open Go.RowKit Go.Shelf
theorem fst_bad {k a b d u c E : Int} {s : ByteArray} {ks : List Fst} (h : nodeErr k a b s ks.length d u c = E) (h0 : E ≠ 0) : fstGo (.node k a b s ks) d u c = (E, c + 1) := by
  rw [fstGo_node, h, if_pos h0]
theorem eq_str {s : ByteArray} (h : s.size = 0) : s = ⟨#[]⟩ := by
  obtain ⟨d⟩ := s
  have : d.size = 0 := h
  rw [Array.size_eq_zero_iff] at this
  rw [this]
theorem fstr_ne (s : ByteArray) : (!s.toList.isEmpty) = !decide (s.size = 0) := by
  by_cases h : s.size = 0
  · rw [decide_eq_true h, eq_str h, str_list]; rfl
  · rw [decide_eq_false h, str_ne s (by omega)]
theorem formB_bits : ∀ z0 z1 uA zA uB zB uN zN : Bool, (z0 = false ∧ (z0 && (!z1 && ((uA || !zA) && ((uB || !zB) && (uN || !zN))))) = false) ∨ (z0 = true ∧ z1 = true ∧ (z0 && (!z1 && ((uA || !zA) && ((uB || !zB) && (uN || !zN))))) = false) ∨
    (z0 = true ∧ z1 = false ∧ uA = false ∧ zA = true ∧ (z0 && (!z1 && ((uA || !zA) && ((uB || !zB) && (uN || !zN))))) = false) ∨
    (z0 = true ∧ z1 = false ∧ (uA = true ∨ (uA = false ∧ zA = false)) ∧ uB = false ∧ zB = true ∧ (z0 && (!z1 && ((uA || !zA) && ((uB || !zB) && (uN || !zN))))) = false) ∨
    (z0 = true ∧ z1 = false ∧ (uA = true ∨ (uA = false ∧ zA = false)) ∧ (uB = true ∨ (uB = false ∧ zB = false)) ∧ uN = false ∧ zN = true ∧ (z0 && (!z1 && ((uA || !zA) && ((uB || !zB) && (uN || !zN))))) = false) ∨
    (z0 = true ∧ z1 = false ∧ (uA = true ∨ (uA = false ∧ zA = false)) ∧ (uB = true ∨ (uB = false ∧ zB = false)) ∧ (uN = true ∨ (uN = false ∧ zN = false)) ∧ (z0 && (!z1 && ((uA || !zA) && ((uB || !zB) && (uN || !zN))))) = true) := by decide
theorem formB_eq (k a b : Int) (s : ByteArray) (len : Nat) : formB k a b s len = (inB 1 12 k && (!((len : Int) != (kidsN k : Int)) && ((usesA k || !(a != 0)) && ((usesB k || !(b != 0)) && (usesN k || !(!s.toList.isEmpty)))))) := by
  unfold formB
  rw [fstr_ne]
  have h1 : decide (len = kidsN k) = !((len : Int) != (kidsN k : Int)) := by
    by_cases h : len = kidsN k
    · rw [h]; simp
    · rw [decide_eq_false h]; simp; omega
  have h2 : ∀ x : Int, decide (x = 0) = !(x != 0) := fun x => by by_cases h : x = 0 <;> simp [h]
  rw [h1, h2, h2]
  simp
theorem rows_months : ∀ r ∈ rowsL, decide (1 ≤ (msL r).length ∧ (msL r).length ≤ 20) = true := by decide +kernel
theorem row_months {r : List UInt8} (h : r ∈ rowsL) : 1 ≤ (msL r).length ∧ (msL r).length ≤ 20 := of_decide_eq_true (rows_months r h)
theorem monthsN_some {s : ByteArray} {r : List UInt8} (h : rowOf s.data.toList = some r) : monthsN s = (msL r).length := by unfold monthsN; rw [h]
theorem wideI_t {k : Int} (h : wideB k = true) : wideI k = 1 := if_pos h
theorem wideI_f {k : Int} (h : wideB k = false) : wideI k = 0 := if_neg (by rw [h]; simp)
theorem CalAt.n1 {w : World} {a1 a2 : Option Addr} {n1 n2 : Nat} {ms : List Mon} {ls : List Int} (h : CalAt w a1 a2 n1 n2 ms ls) : ms.length = n1 := h.1.len
end Go.Proofs.YtdmkghgachapaabGreatDoor

namespace Go.Proofs.YtdmkghgachapaabGreatDoor
set_option linter.unusedVariables false
set_option linter.unusedSimpArgs false
set_option maxRecDepth 100000
open Go.RowKit Go.Shelf
def FPost (w0 : World) (t : Fst) (d u c : Int) (g : Nat) (e : Ending) (w' : World) : Prop :=
  e = .returned (.int .i64 (fstGo t d u c).1) ∧ At w' g (.cells #[.int .i64 (fstGo t d u c).2] 3) ∧ Below w0.heap.size w0 w'
theorem fPost_of {w0 : World} {t : Fst} {d u c r r2 : Int} {g : Nat} {w' : World} (h : fstGo t d u c = (r, r2)) (a : At w' g (.cells #[.int .i64 r2] 3)) (o : Below w0.heap.size w0 w') : FPost w0 t d u c g (.returned (.int .i64 r)) w' := by
  unfold FPost; rw [h]; exact ⟨rfl, a, o⟩
set_option maxHeartbeats 16000000 in
theorem feast_node (w0 : World) (m : Int) (hm : w0.cell? ⟨0, 0, none⟩ = some (.int .i64 m)) (hlv : Lvl w0) (hsg : Sgn w0) : ∀ (t : Fst) (w : World) (ad : Option Addr) (len cap : Nat) (d u c : Int) (g : Nat), FSub w0 w0.heap.size t ad len → Below w0.heap.size w0 w → w0.heap.size ≤ g → len ≤ cap → cap ≤ 9223372036854775807 → 0 ≤ d → d ≤ 11 → 0 ≤ u → u ≤ 2 → 0 ≤ c → c ≤ 40 → At w g (.cells #[.int .i64 c] 3) →
    Calls Tryz.prog 34 #[.agg (fV t.kind t.va t.vb t.nm ad len cap), .int .i64 d, .int .i64 u, .pointer (some ⟨g, 0, none⟩)] w (FPost w0 t d u c g) := by
  intro t
  refine Fst.all (P := fun t => ∀ (w : World) (ad : Option Addr) (len cap : Nat) (d u c : Int) (g : Nat), FSub w0 w0.heap.size t ad len → Below w0.heap.size w0 w → w0.heap.size ≤ g → len ≤ cap → cap ≤ 9223372036854775807 → 0 ≤ d → d ≤ 11 → 0 ≤ u → u ≤ 2 → 0 ≤ c → c ≤ 40 → At w g (.cells #[.int .i64 c] 3) →
    Calls Tryz.prog 34 #[.agg (fV t.kind t.va t.vb t.nm ad len cap), .int .i64 d, .int .i64 u, .pointer (some ⟨g, 0, none⟩)] w (FPost w0 t d u c g)) ?_ t
  intro k a b s ks ih w ad len cap d u c g hsub hbw hg0 hlc hcap hd0 hd1 hu0 hu1 hc0 hc1 hg
  have hgm := World.block_lt_of_cell? _ _ hm
  have CC := Lib.hid (fun (W : World) (hW : Below w0.heap.size w0 W) => show Calls Tryz.prog 54 #[.string s] W (CalPost s.data.toList W) from by
    have h := cat_Calendar s.data.toList W m ((hW.cell (p := ⟨0, 0, none⟩) hgm).trans hm) (hlv.below hW) (hsg.below hW)
    have e : (⟨s.data.toList.toArray⟩ : ByteArray) = s := by simp
    rw [e] at h; exact h)
  clear hm hlv hsg hgm
  have IH := Lib.hid ih; clear ih
  have SL := hsub.len
  simp only [Fst.kind, Fst.va, Fst.vb, Fst.nm] at SL ⊢
  obtain ⟨hlen, hlm, _, hIa, _, _⟩ := SL
  have HS := Lib.hid hsub; clear hsub
  have LN := Lib.hid hlen; clear hlen
  have HIA := Lib.hid hIa; clear hIa
  have hgl := hg.lt
  have a0 := At.new w (fO k a b s ad len cap)
  have g0 := hg.alloc (fO k a b s ad len cap)
  have b0 := below_new hbw (fO k a b s ad len cap)
  have hgB : g < w.heap.size := hgl
  clear hg hbw hgl
  obtain ⟨wd, hwd⟩ : ∃ x, x = wideB k := ⟨_, rfl⟩
  have HWD := Lib.hid hwd
  have hk8 : wd = decide (k = 8 ∨ k = 12) := hwd
  clear hwd
  go_enter Tryz.func34, Tryz.ntmps34
  go_upto_region 1 with fail
  obtain ⟨T, hT⟩ : ∃ T, T = w.heap.size := ⟨_, rfl⟩
  rw [← hT] at a0 hgB ⊢
  generalize World.alloc w _ = W0 at a0 g0 b0 ⊢
  clear hT
  have A0 := Lib.hid a0; have G0 := Lib.hid g0; have B0 := Lib.hid b0
  have hgc : W0.cell? ⟨g, 0, none⟩ = some (.int .i64 c) := g0.cell 0
  have hgf : W0.frozen? ⟨g, 0, none⟩ = false := g0.frozen 0
  have hgl := g0.lt
  have d0 := a0.cell 0; have d1 := a0.cell 1; have d2 := a0.cell 2; have d3 := a0.cell 3; have d4 := a0.cell 4; simp at d0 d1 d2 d3 d4
  clear a0 g0 b0
  go_cut [9] from 19 (fun y wx => y = .bool wd ∧ W0 = wx)
  case first =>
    as_aux_lemma =>
    clear hgc hgf
    by_cases h8 : k = 8
    · have hb : (k == 8) = true := by simpa using h8
      have hw : wd = true := by rw [hk8, decide_eq_true (.inl h8)]
      clear h8 hk8
      go_wp2_with fail
      go_meet
      case rel => exact ⟨by rw [hw], rfl⟩
    by_cases h12 : k = 12
    · have hb : (k == 8) = false := kne h8
      have hb2 : (k == 12) = true := by simpa using h12
      have hw : wd = true := by rw [hk8, decide_eq_true (.inr h12)]
      clear h8 h12 hk8
      go_wp2_with fail
      go_meet
      case rel => exact ⟨by rw [hw], rfl⟩
    · have hb : (k == 8) = false := kne h8
      have hb2 : (k == 12) = false := kne h12
      have hw : wd = false := by rw [hk8, decide_eq_false (by omega)]
      clear h8 h12 hk8
      go_wp2_with fail
      go_meet
      case rel => exact ⟨by rw [hw], rfl⟩
  case rest =>
  obtain ⟨rfl, rfl⟩ := hcut
  clear hk8
  have hwc : IntKind.i64.wrap (c + 1) = c + 1 := IntWalk.i64_in _ (by omega)
  go_upto_region 3 with fail
  have hTl := A0.out.lt
  have a1 : At (World.setCell W0 ⟨g, 0, none⟩ (.int .i64 (c + 1))) T (fO k a b s ad len cap) := A0.out.apart (by simp only; omega) _
  have g1 : At (World.setCell W0 ⟨g, 0, none⟩ (.int .i64 (c + 1))) g (.cells #[.int .i64 (c + 1)] 3) := G0.out.store 0 _
  have b1 : Below w0.heap.size w0 (World.setCell W0 ⟨g, 0, none⟩ (.int .i64 (c + 1))) := below_set B0.out (by simp only; omega) _
  generalize World.setCell W0 ⟨g, 0, none⟩ (.int .i64 (c + 1)) = W1 at a1 g1 b1 ⊢
  clear A0 G0 B0 hgc hgf hgl d0 d1 d2 d3 d4 hTl
  have A1 := Lib.hid a1; have G1 := Lib.hid g1; have B1 := Lib.hid b1
  have hgc : W1.cell? ⟨g, 0, none⟩ = some (.int .i64 (c + 1)) := g1.cell 0
  have d0 := a1.cell 0; have d1 := a1.cell 1; have d2 := a1.cell 2; have d3 := a1.cell 3; have d4 := a1.cell 4; simp at d0 d1 d2 d3 d4
  clear a1 g1 b1
  obtain ⟨big, hbig⟩ : ∃ x, x = decide (40 < c + 1 ∨ 10 < d ∨ (wd = true ∧ 2 ≤ u)) := ⟨_, rfl⟩
  have HBIG := Lib.hid hbig; clear hbig
  go_upto_region 3 with fail
  go_cut [46] from 32 (fun y wx => y = .bool big ∧ W1 = wx)
  case first =>
    as_aux_lemma =>
    by_cases h40 : 40 < c + 1
    · have hB := Lib.hid (show big = true by rw [HBIG.out, decide_eq_true (.inl h40)])
      have q1 : decide (40 < c + 1) = true := by simpa using h40
      clear h40
      go_wp2_with fail
      go_meet
      case rel => exact ⟨by rw [hB.out], rfl⟩
    have q1 : decide (40 < c + 1) = false := by simpa using h40
    by_cases h10 : 10 < d
    · have hB := Lib.hid (show big = true by rw [HBIG.out, decide_eq_true (.inr (.inl h10))])
      have q2 : decide (10 < d) = true := by simpa using h10
      clear h40 h10
      go_wp2_with fail
      go_meet
      case rel => exact ⟨by rw [hB.out], rfl⟩
    have q2 : decide (10 < d) = false := by simpa using h10
    cases wd with
    | false =>
      have hB := Lib.hid (show big = false by rw [HBIG.out, decide_eq_false (by rintro (h | h | h); omega; omega; cases h.1)])
      clear h40 h10
      go_wp2_with fail
      go_meet
      case rel => exact ⟨by rw [hB.out], rfl⟩
    | true =>
      by_cases h2 : 2 ≤ u
      · have hB := Lib.hid (show big = true by rw [HBIG.out, decide_eq_true (.inr (.inr ⟨rfl, h2⟩))])
        have q3 : decide (2 ≤ u) = true := by simpa using h2
        clear h40 h10 h2
        go_wp2_with fail
        go_meet
        case rel => exact ⟨by rw [hB.out], rfl⟩
      · have hB := Lib.hid (show big = false by rw [HBIG.out, decide_eq_false (by rintro (h | h | h); omega; omega; exact h2 h.2)])
        have q3 : decide (2 ≤ u) = false := by simpa using h2
        clear h40 h10 h2
        go_wp2_with fail
        go_meet
        case rel => exact ⟨by rw [hB.out], rfl⟩
  case rest =>
  obtain ⟨rfl, rfl⟩ := hcut
  cases big with
  | true =>
    have hE := Lib.hid (show fstGo (.node k a b s ks) d u c = (2, c + 1) from fst_bad (by unfold nodeErr; rw [if_pos (by rw [← HWD.out]; exact of_decide_eq_true HBIG.out.symm)]) (by omega))
    go_wp2_with fail
    go_ret
    exact fPost_of hE.out G1.out B1.out
  | false =>
  have hns := Lib.hid (show ¬ (40 < c + 1 ∨ 10 < d ∨ (wideB k = true ∧ 2 ≤ u)) by rw [← HWD.out]; exact of_decide_eq_false HBIG.out.symm)
  have hc39 : c + 1 ≤ 40 := by have := hns.out; omega
  have hd10 : d ≤ 10 := by have := hns.out; omega
  have hu2 : wd = true → u < 2 := fun h => Int.not_le.1 fun hu => hns.out (.inr (.inr ⟨by rw [← HWD.out]; exact h, hu⟩))
  have HU2 := Lib.hid hu2; clear hu2
  clear HBIG
  have HN := Lib.hid (show nodeErr k a b s ks.length d u c = if formB k a b s len = false then 8 else if usesN k = true ∧ monthsN s = 0 then 5 else if rangeB k a b (mostN k s) = false then 3 else 0 by
    unfold nodeErr; rw [if_neg hns.out, LN.out])
  clear hns
  obtain ⟨uA, hA⟩ : ∃ x, x = usesA k := ⟨_, rfl⟩
  obtain ⟨uB, hB⟩ : ∃ x, x = usesB k := ⟨_, rfl⟩
  obtain ⟨uN, hNm⟩ : ∃ x, x = usesN k := ⟨_, rfl⟩
  have CF := Lib.hid (show ∀ W : World, Calls Tryz.prog 51 #[.int .i64 k] W fun e w' => e = .returned (.tuple #[.bool uA, .bool uB, .bool uN]) ∧ W = w' from fun W => by rw [hA, hB, hNm]; exact feast_fields k W)
  have CK := Lib.hid (fun W : World => feast_kids k W)
  obtain ⟨kn, hkn⟩ : ∃ x, x = kidsN k := ⟨_, rfl⟩
  rw [← hkn] at CK
  obtain ⟨z0, hz0⟩ : ∃ x, x = inB 1 12 k := ⟨_, rfl⟩
  have CW := Lib.hid (show ∀ W : World, Calls Tryz.prog 52 #[.int .i64 k, .int .i64 1, .int .i64 12] W fun e w' => e = .returned (.bool z0) ∧ W = w' from fun W => by rw [hz0]; exact feast_within k 1 12 W)
  obtain ⟨fb, hfb⟩ : ∃ x, x = formB k a b s len := ⟨_, rfl⟩
  have HFE := Lib.hid (show fb = (z0 && (!((len : Int) != (kn : Int)) && ((uA || !(a != 0)) && ((uB || !(b != 0)) && (uN || !(!s.toList.isEmpty)))))) by rw [hfb, hz0, hA, hB, hNm, hkn]; exact formB_eq k a b s len)
  have HFB := Lib.hid hfb; have HNM := Lib.hid hNm
  clear hA hB hNm hkn hz0 hfb
  have hwl : IntKind.i64.wrap (len : Int) = (len : Int) := IntWalk.i64_in _ (by omega)
  go_upto_region 6 with (go_at_call 51; refine (CF.out _).mono ?_; rintro e w' ⟨rfl, rfl⟩)
  go_cut [93] from 54 to 94 (fun y wx => y = .bool (!fb) ∧ Drawn W1 wx)
  case first =>
    as_aux_lemma =>
    clear CF
    obtain ⟨z1, hz1⟩ : ∃ x, ((len : Int) != (kn : Int)) = x := ⟨_, rfl⟩
    obtain ⟨zA, hzA⟩ : ∃ x, (a != 0) = x := ⟨_, rfl⟩
    obtain ⟨zB, hzB⟩ : ∃ x, (b != 0) = x := ⟨_, rfl⟩
    obtain ⟨zN, hzN⟩ : ∃ x, (!s.toList.isEmpty) = x := ⟨_, rfl⟩
    have HF := HFE.out
    rw [hz1, hzA, hzB, hzN] at HF
    have key := formB_bits z0 z1 uA zA uB zB uN zN
    rw [← HF] at key
    clear HF HFE HFB HNM HN
    rcases key with ⟨rfl, e⟩ | ⟨rfl, rfl, e⟩ | ⟨rfl, rfl, rfl, rfl, e⟩ | ⟨rfl, rfl, rfl | ⟨rfl, rfl⟩, rfl, rfl, e⟩ | ⟨rfl, rfl, rfl | ⟨rfl, rfl⟩, rfl | ⟨rfl, rfl⟩, rfl, rfl, e⟩ | ⟨rfl, rfl, rfl | ⟨rfl, rfl⟩, rfl | ⟨rfl, rfl⟩, rfl | ⟨rfl, rfl⟩, e⟩
    all_goals
      have HE := Lib.hid e; clear e
      go_quiet (first | (go_at_call 52; exact quiet_left (CW.out _)) | (go_at_call 53; exact quiet_left (CK.out _)))
      go_wp2_with fail
      go_meet
      case rel => exact ⟨by rw [HE.out]; rfl, ⟨_, rfl⟩⟩
  case rest =>
  obtain ⟨rfl, ⟨nd, rfl⟩⟩ := hcut
  have a2 := A1.out.drewN nd
  have g2 := G1.out.drewN nd
  have b2 := below_drewN B1.out nd
  generalize World.drewN W1 nd = W2 at a2 g2 b2 ⊢
  clear A1 G1 B1 d0 d1 d2 d3 d4 hgc CK CW HFE
  have A2 := Lib.hid a2; have G2 := Lib.hid g2; have B2 := Lib.hid b2
  have d0 := a2.cell 0; have d1 := a2.cell 1; have d2 := a2.cell 2; have d3 := a2.cell 3; have d4 := a2.cell 4; simp at d0 d1 d2 d3 d4
  clear a2 g2 b2
  cases fb with
  | false =>
    have hE := Lib.hid (show fstGo (.node k a b s ks) d u c = (8, c + 1) from fst_bad (by rw [HN.out, if_pos HFB.out.symm]) (by omega))
    go_wp2_with fail
    go_ret
    exact fPost_of hE.out G2.out B2.out
  | true =>
  have hlen2 := formB_len HFB.out.symm
  obtain ⟨k1, k2, -, hln2⟩ := hlen2
  have HN1 := Lib.hid (HN.out.trans (if_neg (by rw [← HFB.out]; simp)))
  clear HN HFB CF
  simp only [Bool.not_true]
  obtain ⟨M, hM⟩ : ∃ x, x = mostN k s := ⟨_, rfl⟩
  have HM := Lib.hid hM; clear hM
  have CS := Lib.hid (CC.out W2 B2.out)
  by_cases hbad : uN = true ∧ monthsN s = 0
  · obtain ⟨rfl, hz⟩ := hbad
    have hE := Lib.hid (show fstGo (.node k a b s ks) d u c = (5, c + 1) from fst_bad (HN1.out.trans (if_pos ⟨HNM.out.symm, hz⟩)) (by omega))
    have hcp := CS.out
    unfold CalPost at hcp
    cases hro : rowOf s.data.toList with
    | some r =>
      have h1 := (row_months (List.mem_of_find?_eq_some hro)).1
      rw [monthsN_some hro] at hz
      omega
    | none =>
      rw [hro] at hcp
      have CP := Lib.hid (show Calls Tryz.prog 54 #[.string s] W2 (fun e w' => e = .returned (.tuple #[zCalV, .int .i64 5]) ∧ Below W2.heap.size W2 w') from hcp)
      clear hcp hro hz HN1 CS
      go_wp2_with (go_at_call 54; refine CP.out.mono ?_; rintro e w3 ⟨rfl, hb⟩)
      go_ret
      exact fPost_of hE.out ((G2.out.then_ hb).alloc _) (below_new (below_then B2.out hb) _)
  have HN2 := Lib.hid (HN1.out.trans (if_neg (by rw [← HNM.out]; exact hbad)))
  have HBAD := Lib.hid hbad
  clear hbad HN1
  go_upto_if 94 with fail
  go_cut [13] from 94 to 106 (fun y wx => y = .int .i64 M ∧ At wx g (.cells #[.int .i64 (c + 1)] 3) ∧ At wx T (fO k a b s ad len cap) ∧ Below w0.heap.size w0 wx)
  case first =>
    as_aux_lemma =>
    cases uN with
    | false =>
      have HM0 := Lib.hid (show M = 0 by rw [HM.out]; unfold mostN; rw [if_neg (by rw [← HNM.out]; simp)])
      go_wp2_with fail
      go_meet
      case rel => exact ⟨by rw [HM0.out], G2.out, A2.out, B2.out⟩
    | true =>
      have hcp := CS.out
      unfold CalPost at hcp
      cases hro : rowOf s.data.toList with
      | none => exact absurd ⟨rfl, by unfold monthsN; rw [hro]⟩ HBAD.out
      | some r =>
        rw [hro] at hcp
        have CP := Lib.hid (show Calls Tryz.prog 54 #[.string s] W2 (fun e w' => ∃ v, e = .returned (.tuple #[v, .int .i64 0]) ∧ CalRet r W2 v w') from hcp)
        have HM0 := Lib.hid (show M = ((msL r).length : Int) by rw [HM.out]; unfold mostN; rw [if_pos HNM.out.symm, monthsN_some hro])
        have hml := Lib.hid (row_months (List.mem_of_find?_eq_some hro))
        clear hcp hro CS HBAD
        go_upto_region 11 with (go_at_call 54; refine CP.out.mono ?_; rintro e w3 ⟨v, rfl, a1, n1, c1, a2, n2, c2, rfl, j1, j2, hcal, hb⟩)
        have o3 := At.new w3 (.cells #[.string (tkS (ruleL r).nm), .int .i64 (ruleL r).ep, .int .i64 (calN r : Int), .slice a1 n1 c1, .slice a2 n2 c2] 92)
        have G3 := Lib.hid ((G2.out.then_ hb).alloc (.cells #[.string (tkS (ruleL r).nm), .int .i64 (ruleL r).ep, .int .i64 (calN r : Int), .slice a1 n1 c1, .slice a2 n2 c2] 92))
        have A3 := Lib.hid ((A2.out.then_ hb).alloc (.cells #[.string (tkS (ruleL r).nm), .int .i64 (ruleL r).ep, .int .i64 (calN r : Int), .slice a1 n1 c1, .slice a2 n2 c2] 92))
        have B3 := Lib.hid (below_new (below_then B2.out hb) (.cells #[.string (tkS (ruleL r).nm), .int .i64 (ruleL r).ep, .int .i64 (calN r : Int), .slice a1 n1 c1, .slice a2 n2 c2] 92))
        have hn1 := Lib.hid hcal.n1
        have hwn : IntKind.i64.wrap (n1 : Int) = (n1 : Int) := IntWalk.i64_in _ (by have := hn1.out; have := hml.out; omega)
        clear hb hcal
        generalize World.alloc w3 _ = W3 at o3 G3 A3 B3 ⊢
        have y3 := o3.cell 3
        simp at y3
        clear o3
        go_wp2_with fail
        go_meet
        case rel => exact ⟨by rw [HM0.out, hn1.out], G3.out, A3.out, B3.out⟩
  case rest =>
  obtain ⟨rfl, g3, a3, b3⟩ := hcut
  clear CS CC HBAD A2 B2 G2 d0 d1 d2 d3 d4
  have A3 := Lib.hid a3; have G3 := Lib.hid g3; have B3 := Lib.hid b3
  have d0 := a3.cell 0; have d1 := a3.cell 1; have d2 := a3.cell 2; have d3 := a3.cell 3; have d4 := a3.cell 4; simp at d0 d1 d2 d3 d4
  clear a3 g3 b3
  obtain ⟨rb, hrb⟩ : ∃ x, x = rangeB k a b M := ⟨_, rfl⟩
  have CR := Lib.hid (show ∀ W : World, Calls Tryz.prog 55 #[.agg (fV k a b s ad len cap), .int .i64 M] W fun e w' => e = .returned (.bool rb) ∧ Below W.heap.size W w' from fun W => by rw [hrb]; exact feast_ranges k a b M s ad len cap W k1 k2 HIA.out)
  rw [HM.out] at hrb
  have HRB := Lib.hid hrb; clear hrb HM HNM
  cases rb with
  | false =>
    have hE := Lib.hid (show fstGo (.node k a b s ks) d u c = (3, c + 1) from fst_bad (HN2.out.trans (if_pos HRB.out.symm)) (by omega))
    go_wp2_with (go_at_call 55; refine (CR.out _).mono ?_; rintro e w4 ⟨rfl, hb⟩)
    go_ret
    exact fPost_of hE.out (G3.out.then_ hb) (below_then B3.out hb)
  | true =>
  have hG := Lib.hid (show fstGo (.node k a b s ks) d u c = fstRow ks (d + 1) (u + wideI k) (c + 1) by rw [fstGo_node, if_neg (by rw [HN2.out, ← HRB.out]; simp)])
  clear HN2 HRB
  obtain ⟨u', hu'⟩ : ∃ x, x = u + wideI k := ⟨_, rfl⟩
  rw [← hu'] at hG
  have HU := Lib.hid hu'; clear hu'
  have hu02 : 0 ≤ u' ∧ u' ≤ 2 := by
    have h1 := HU.out
    cases wd with
    | true => rw [wideI_t HWD.out.symm] at h1; have := HU2.out rfl; omega
    | false => rw [wideI_f HWD.out.symm] at h1; omega
  obtain ⟨hu0', hu2'⟩ := hu02
  go_upto_region 16 with (go_at_call 55; refine (CR.out _).mono ?_; rintro e w4 ⟨rfl, hb⟩)
  have a4 := A3.out.then_ hb
  have G4 := Lib.hid (G3.out.then_ hb)
  have B4 := Lib.hid (below_then B3.out hb)
  clear hb CR A3 G3 B3 d0 d1 d2 d3 d4
  have d0 := a4.cell 0; have d1 := a4.cell 1; have d2 := a4.cell 2; have d3 := a4.cell 3; have d4 := a4.cell 4; simp at d0 d1 d2 d3 d4
  clear a4
  have hwu : IntKind.i64.wrap (u + 1) = u + 1 := IntWalk.i64_in _ (by omega)
  go_upto_if 110 with fail
  go_cut [2] from 110 to 113 (fun y wx => y = .int .i64 u' ∧ w4 = wx)
  case first =>
    as_aux_lemma =>
    cases wd with
    | true =>
      have HU3 := Lib.hid (show u' = u + 1 by rw [HU.out, wideI_t HWD.out.symm])
      go_wp2_with fail
      go_meet
      case rel => exact ⟨by rw [HU3.out], rfl⟩
    | false =>
      have HU3 := Lib.hid (show u' = u by rw [HU.out, wideI_f HWD.out.symm]; omega)
      go_wp2_with fail
      go_meet
      case rel => exact ⟨by rw [HU3.out], rfl⟩
  case rest =>
  obtain ⟨rfl, rfl⟩ := hcut
  clear HU HU2 HWD d0 d1 d2 d3 hu0 hu1 hwu
  have hwd : IntKind.i64.wrap (d + 1) = d + 1 := IntWalk.i64_in _ (by omega)
  go_wp2_with fail
  clear d4
  go_loopw [17, 18, 116] (fun _ _ i wr => ∃ (j : Nat) (c' : Int), j ≤ len ∧ i = .int .i64 j ∧ fstRow ks (d + 1) u' (c + 1) = fstRow (ks.drop j) (d + 1) u' c' ∧ 0 ≤ c' ∧ c' ≤ 40 ∧ At wr g (.cells #[.int .i64 c'] 3) ∧ Below w0.heap.size w0 wr) (fun _ _ i _ => len - (intOf i).toNat)
  case atStart => exact ⟨0, c + 1, by omega, rfl, rfl, by omega, hc39, G4.out, B4.out⟩
  case round =>
    clear G4 B4
    obtain ⟨j, c', hj, rfl, hrow, c0, c1, ag, ok⟩ := hrel
    have HR := Lib.hid hrow; clear hrow
    by_cases hlt : j < len
    · obtain ⟨bb, off, rfl, hbB, hcs⟩ := HS.out.kid (by omega)
      obtain ⟨k', x', y', s', ks', ad', n', cc, hx, ⟨z0, z1, z2, z3, z4, q1, q2⟩, hk⟩ := hcs j hlt
      have hz := ok.size
      have hbz : bb < wr.heap.size := by omega
      replace z0 := (ok.cell (p := ⟨bb, _, none⟩) hbB).trans z0
      replace z1 := (ok.cell (p := ⟨bb, _, none⟩) hbB).trans z1
      replace z2 := (ok.cell (p := ⟨bb, _, none⟩) hbB).trans z2
      replace z3 := (ok.cell (p := ⟨bb, _, none⟩) hbB).trans z3
      replace z4 := (ok.cell (p := ⟨bb, _, none⟩) hbB).trans z4
      simp only [Fst.kind, Fst.va, Fst.vb, Fst.nm] at z0 z1 z2 z3
      have hstep := Lib.hid (HR.out.trans (fstRow_drop (d + 1) u' c' hx))
      have hcall := IH.out (.node k' x' y' s' ks') (List.mem_of_getElem? hx) (wr.alloc (fO k' x' y' s' ad' n' cc)) ad' n' cc (d + 1) u' c' g hk (below_new ok _) hg0 q1 q2 (by omega) (by omega) hu0' hu2' c0 c1 (ag.alloc _)
      have hcnt := fstGo_count (.node k' x' y' s' ks') (d + 1) u' c' c0 c1
      simp only [Fst.kind, Fst.va, Fst.vb, Fst.nm] at hcall
      unfold FPost at hcall
      have HCL := Lib.hid hcall; have HCN := Lib.hid hcnt
      clear hcall hcnt hcs hx hk ag ok
      obtain ⟨r, hr⟩ : ∃ r, r = fstGo (.node k' x' y' s' ks') (d + 1) u' c' := ⟨_, rfl⟩
      have hcl := HCL.out
      have hst := hstep.out
      have hcn := HCN.out
      rw [← hr] at hcl hst hcn
      obtain ⟨r1, rc⟩ := r
      simp only at hcl hst hcn
      have HST := Lib.hid hst; have HCL2 := Lib.hid hcl; have HCN2 := Lib.hid hcn
      clear hr hcl hst hcn HCL hstep HCN
      by_cases hz0 : r1 = 0
      · subst hz0
        have HN := Lib.hid (show fstRow ks (d + 1) u' (c + 1) = fstRow (ks.drop (j + 1)) (d + 1) u' rc by rw [HST.out, if_neg (by omega)])
        have hr40 : rc ≤ 40 := HCN2.out.2.2 rfl
        have hr0 : 0 ≤ rc := by have := HCN2.out.1; omega
        go_wp2_with (go_at_call 34; refine HCL2.out.mono ?_; rintro e w5 ⟨rfl, ag2, ok2⟩)
        go_roundw
        case rel => exact ⟨j + 1, rc, by omega, by go_num, HN.out, hr0, hr40, ag2, ok2⟩
        case measure => simp [intOf]; omega
      · have hz0' : (r1 != 0) = true := by simpa using hz0
        have HN := Lib.hid (show fstGo (.node k a b s ks) d u c = (r1, rc) by rw [hG.out, HST.out, if_pos hz0])
        clear hz0
        go_wp2_with (go_at_call 34; refine HCL2.out.mono ?_; rintro e w5 ⟨rfl, ag2, ok2⟩)
        go_ret
        exact fPost_of HN.out ag2 ok2
    · have HN := Lib.hid (show fstGo (.node k a b s ks) d u c = (0, c') by rw [hG.out, HR.out, List.drop_eq_nil_of_le (by have := LN.out; omega), fstRow])
      go_wp2_with fail
      go_ret
      exact fPost_of HN.out ag ok
theorem feast_Check (w : World) (m : Int) (hm : w.cell? ⟨0, 0, none⟩ = some (.int .i64 m)) (hlv : Lvl w) (hsg : Sgn w) (k a b : Int) (s : ByteArray) (ks : List Fst) (ad : Option Addr) (n c : Nat) (h : FSub w w.heap.size (.node k a b s ks) ad n) (hc : n ≤ c) (hm' : c ≤ 9223372036854775807) :
    Calls Tryz.prog 18 #[.agg (fV k a b s ad n c)] w fun e w' => e = .returned (.int .i64 (fstErr (.node k a b s ks))) ∧ Below w.heap.size w w' := by
  have hcall := feast_node w m hm hlv hsg (.node k a b s ks) ((w.alloc (fO k a b s ad n c)).alloc (.cells #[.int .i64 0] 3)) ad n c 1 0 0 (w.heap.size + 1) h (below_new (below_new (Below.refl _ w) _) _) (by omega) hc hm' (by omega) (by omega) (by omega) (by omega) (by omega) (by omega) (At.newAt _ _ _ (by simp))
  simp only [Fst.kind, Fst.va, Fst.vb, Fst.nm] at hcall
  unfold FPost at hcall
  have HC := Lib.hid hcall; clear hcall h hm hlv hsg
  go_enter Tryz.func18, Tryz.ntmps18
  go_wp2_with (go_at_call 34; refine HC.out.mono ?_; rintro e w2 ⟨rfl, ag2, ok2⟩)
  go_ret
  exact ⟨rfl, ok2⟩
end Go.Proofs.YtdmkghgachapaabGreatDoor
