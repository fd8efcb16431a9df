/- A recurrence under construction: a box with three rows of the call's own (for the law RecurNormals). -/
import Derived.Test.YtjjmbnflhldoeaaNorm
namespace Go.Proofs.Ytjjmbnflhldoeaa
set_option linter.unusedVariables false
set_option maxRecDepth 100000
open Go.RowKit

/-- A slice of the call's own, from block L on. -/
def RS (w : World) (L : Nat) (a : Option Addr) (n : Nat) (xs : List Int) : Prop := (a = none ∧ n = 0 ∧ xs = []) ∨ ∃ g, a = some ⟨g, 0, none⟩ ∧ L ≤ g ∧ RowI w g n xs
theorem row_own2 {w : World} {base : Nat} {v : Value} {n : Nat} {xs : List Int} (h : w.ownsRow base 3 1 v n (xs.map (Value.int .i64))) (hl : xs.length = n) :
    ∃ a c, v = .slice a n c ∧ RS w base a n xs := by
  rcases row_own h hl with ⟨rfl, rfl⟩ | ⟨g, cap, rfl, hg, _, _, hr⟩
  · exact ⟨none, 0, rfl, .inl ⟨rfl, rfl, List.length_eq_zero_iff.1 hl⟩⟩
  · exact ⟨_, cap, rfl, .inr ⟨g, rfl, hg, hr⟩⟩
theorem RS.len {w : World} {L n : Nat} {a : Option Addr} {xs : List Int} (h : RS w L a n xs) : xs.length = n := by
  rcases h with ⟨_, h1, h2⟩ | ⟨g, _, _, h⟩
  · rw [h1, h2]; rfl
  · exact h.1
theorem RowI.kept {w w' : World} {g b n : Nat} {xs : List Int} (h : RowI w g n xs) (k : OneKept b w w') (hb : g ≠ b) : RowI w' g n xs := by
  obtain ⟨hl, cur, ha, hs, hc⟩ := h
  exact ⟨hl, cur, ha.oneKept k hb, hs, hc⟩
theorem RS.kept {w w' : World} {L b n : Nat} {a : Option Addr} {xs : List Int} (h : RS w L a n xs) (k : OneKept b w w') (hb : ∀ g, a = some ⟨g, 0, none⟩ → g ≠ b) : RS w' L a n xs := by
  rcases h with h | ⟨g, e, hL, h⟩
  · exact .inl h
  · exact .inr ⟨g, e, hL, h.kept k (hb g e)⟩
theorem RS.then_ {w w' : World} {L n : Nat} {a : Option Addr} {xs : List Int} (h : RS w L a n xs) (k : Below w.heap.size w w') : RS w' L a n xs := by
  rcases h with h | ⟨g, e, hL, h⟩
  · exact .inl h
  · exact .inr ⟨g, e, hL, h.then_ k⟩
theorem RS.lower {w : World} {L M n : Nat} {a : Option Addr} {xs : List Int} (h : RS w L a n xs) (hm : M ≤ L) : RS w M a n xs := by
  rcases h with h | ⟨g, e, hL, h⟩
  · exact .inl h
  · exact .inr ⟨g, e, Nat.le_trans hm hL, h⟩
theorem RS.at_ {w : World} {L n g : Nat} {a : Option Addr} {xs : List Int} (h : RS w L a n xs) (e : a = some ⟨g, 0, none⟩) : L ≤ g ∧ RowI w g n xs := by
  rcases h with ⟨h, _⟩ | ⟨g', e', hL, h⟩
  · rw [h] at e; cases e
  · rw [e'] at e; injection e with e; injection e with e; subst e; exact ⟨hL, h⟩
theorem RS.ints {w : World} {L n : Nat} {a : Option Addr} {xs : List Int} (h : RS w L a n xs) (hI : ∀ x ∈ xs, I64 x) (hn : n ≤ 9223372036854775807) : Ints w w.heap.size a n xs := by
  rcases h with ⟨h1, h2, h3⟩ | ⟨g, e, hL, h⟩
  · subst h1 h2 h3; exact ⟨rfl, by omega, by simp, fun h => absurd h (by omega)⟩
  · subst e; exact h.ints hI hn
def Dist (p q : Option Addr) : Prop := ∀ g h, p = some ⟨g, 0, none⟩ → q = some ⟨h, 0, none⟩ → g ≠ h
/-- The box W8 with its three lists. -/
def Want (w : World) (W8 : Nat) (u ev f cn un : Int) (xs ys zs : List Int) : Prop :=
  ∃ q1 k1 e1 q2 k2 e2 q3 k3 e3, At w W8 (.cells #[.int .i64 u, .int .i64 ev, .int .i64 f, .int .i64 cn, .int .i64 un, .slice q1 k1 e1, .slice q2 k2 e2, .slice q3 k3 e3] 24) ∧
    RS w (W8 + 1) q1 k1 xs ∧ RS w (W8 + 1) q2 k2 ys ∧ RS w (W8 + 1) q3 k3 zs ∧ Dist q1 q2 ∧ Dist q1 q3 ∧ Dist q2 q3
theorem Want.then_ {w w' : World} {W8 : Nat} {u ev f cn un : Int} {xs ys zs : List Int} (h : Want w W8 u ev f cn un xs ys zs) (k : Below w.heap.size w w') : Want w' W8 u ev f cn un xs ys zs := by
  obtain ⟨q1, k1, e1, q2, k2, e2, q3, k3, e3, ha, h1, h2, h3, d⟩ := h
  exact ⟨q1, k1, e1, q2, k2, e2, q3, k3, e3, ha.then_ k, h1.then_ k, h2.then_ k, h3.then_ k, d⟩
theorem RS.far {w : World} {W8 n : Nat} {a : Option Addr} {xs : List Int} (h : RS w (W8 + 1) a n xs) : ∀ g, a = some ⟨g, 0, none⟩ → g ≠ W8 := fun g e => by have := (h.at_ e).1; omega
theorem rs_new {w' : World} {L g : Nat} {v : Int} (h : At w' g (.cells #[.int .i64 v] 3)) (hL : L ≤ g) : RS w' L (some ⟨g, 0, none⟩) 1 [v] :=
  .inr ⟨g, rfl, hL, rfl, _, h, by simp, fun k x hk => by
    match k, hk with
    | 0, hk => simp at hk; subst hk; rfl⟩
theorem RS.old {w : World} {L n N : Nat} {a : Option Addr} {xs : List Int} (h : RS w L a n xs) (hN : w.heap.size ≤ N) : Dist (some ⟨N, 0, none⟩) a := fun g h' e1 e2 => by
  injection e1 with e1; injection e1 with e1
  have := (h.at_ e2).2.lt
  omega
theorem Dist.symm {p q : Option Addr} (h : Dist p q) : Dist q p := fun g h' e1 e2 => Ne.symm (h h' g e2 e1)
theorem Want.put1 {w : World} {W8 : Nat} {u ev f cn un : Int} {xs ys zs : List Int} (h : Want w W8 u ev f cn un xs ys zs) (v : Int) :
    Want (((w.setCell ⟨W8, 5, none⟩ (.slice (some ⟨w.heap.size, 0, none⟩) 1 1))).alloc (.cells #[.int .i64 v] 3)) W8 u ev f cn un [v] ys zs := by
  obtain ⟨q1, k1, e1, q2, k2, e2, q3, k3, e3, ha, h1, h2, h3, d12, d13, d23⟩ := h
  have kx := (((OneKept.refl W8 w).set 5 (.slice (some ⟨w.heap.size, 0, none⟩) 1 1)).alloc (.cells #[.int .i64 v] 3))
  have tx := ((ha.store 5 (.slice (some ⟨w.heap.size, 0, none⟩) 1 1)).alloc (.cells #[.int .i64 v] 3))
  have nx := (At.newAt (w.setCell ⟨W8, 5, none⟩ (.slice (some ⟨w.heap.size, 0, none⟩) 1 1)) (.cells #[.int .i64 v] 3) w.heap.size (by simp [World.setCell]))
  exact ⟨_, _, _, _, _, _, _, _, _, tx, rs_new nx (Nat.succ_le_of_lt ha.lt), h2.kept kx h2.far, h3.kept kx h3.far, (h2.old (Nat.le_refl _)), (h3.old (Nat.le_refl _)), d23⟩
theorem Want.put2 {w : World} {W8 : Nat} {u ev f cn un : Int} {xs ys zs : List Int} (h : Want w W8 u ev f cn un xs ys zs) (v : Int) :
    Want (((w.setCell ⟨W8, 6, none⟩ (.slice (some ⟨w.heap.size, 0, none⟩) 1 1))).alloc (.cells #[.int .i64 v] 3)) W8 u ev f cn un xs [v] zs := by
  obtain ⟨q1, k1, e1, q2, k2, e2, q3, k3, e3, ha, h1, h2, h3, d12, d13, d23⟩ := h
  have kx := (((OneKept.refl W8 w).set 6 (.slice (some ⟨w.heap.size, 0, none⟩) 1 1)).alloc (.cells #[.int .i64 v] 3))
  have tx := ((ha.store 6 (.slice (some ⟨w.heap.size, 0, none⟩) 1 1)).alloc (.cells #[.int .i64 v] 3))
  have nx := (At.newAt (w.setCell ⟨W8, 6, none⟩ (.slice (some ⟨w.heap.size, 0, none⟩) 1 1)) (.cells #[.int .i64 v] 3) w.heap.size (by simp [World.setCell]))
  exact ⟨_, _, _, _, _, _, _, _, _, tx, h1.kept kx h1.far, rs_new nx (Nat.succ_le_of_lt ha.lt), h3.kept kx h3.far, (h1.old (Nat.le_refl _)).symm, d13, (h3.old (Nat.le_refl _))⟩
theorem Want.put3 {w : World} {W8 : Nat} {u ev f cn un : Int} {xs ys zs : List Int} (h : Want w W8 u ev f cn un xs ys zs) (v : Int) :
    Want (((w.setCell ⟨W8, 7, none⟩ (.slice (some ⟨w.heap.size, 0, none⟩) 1 1))).alloc (.cells #[.int .i64 v] 3)) W8 u ev f cn un xs ys [v] := by
  obtain ⟨q1, k1, e1, q2, k2, e2, q3, k3, e3, ha, h1, h2, h3, d12, d13, d23⟩ := h
  have kx := (((OneKept.refl W8 w).set 7 (.slice (some ⟨w.heap.size, 0, none⟩) 1 1)).alloc (.cells #[.int .i64 v] 3))
  have tx := ((ha.store 7 (.slice (some ⟨w.heap.size, 0, none⟩) 1 1)).alloc (.cells #[.int .i64 v] 3))
  have nx := (At.newAt (w.setCell ⟨W8, 7, none⟩ (.slice (some ⟨w.heap.size, 0, none⟩) 1 1)) (.cells #[.int .i64 v] 3) w.heap.size (by simp [World.setCell]))
  exact ⟨_, _, _, _, _, _, _, _, _, tx, h1.kept kx h1.far, h2.kept kx h2.far, rs_new nx (Nat.succ_le_of_lt ha.lt), d12, (h1.old (Nat.le_refl _)).symm, (h2.old (Nat.le_refl _)).symm⟩
theorem Want.putC {w : World} {W8 : Nat} {u ev f cn un : Int} {xs ys zs : List Int} (h : Want w W8 u ev f cn un xs ys zs) (v : Int) :
    Want (((((w.setCell ⟨W8, 0, none⟩ (.int .i64 2)).setCell ⟨W8, 1, none⟩ (.int .i64 (ev / 7))).setCell ⟨W8, 5, none⟩ (.slice (some ⟨w.heap.size, 0, none⟩) 1 1))).alloc (.cells #[.int .i64 v] 3)).drew W8 2 (ev / 7) f cn un [v] ys zs := by
  obtain ⟨q1, k1, e1, q2, k2, e2, q3, k3, e3, ha, h1, h2, h3, d12, d13, d23⟩ := h
  have kx := (((((OneKept.refl W8 w).set 0 (.int .i64 2)).set 1 (.int .i64 (ev / 7))).set 5 (.slice (some ⟨w.heap.size, 0, none⟩) 1 1)).alloc (.cells #[.int .i64 v] 3)).drew
  have tx := ((((ha.store 0 (.int .i64 2)).store 1 (.int .i64 (ev / 7))).store 5 (.slice (some ⟨w.heap.size, 0, none⟩) 1 1)).alloc (.cells #[.int .i64 v] 3)).drew
  have nx := (At.newAt (((w.setCell ⟨W8, 0, none⟩ (.int .i64 2)).setCell ⟨W8, 1, none⟩ (.int .i64 (ev / 7))).setCell ⟨W8, 5, none⟩ (.slice (some ⟨w.heap.size, 0, none⟩) 1 1)) (.cells #[.int .i64 v] 3) w.heap.size (by simp [World.setCell])).drew
  exact ⟨_, _, _, _, _, _, _, _, _, tx, rs_new nx (Nat.succ_le_of_lt ha.lt), h2.kept kx h2.far, h3.kept kx h3.far, (h2.old (Nat.le_refl _)), (h3.old (Nat.le_refl _)), d23⟩
theorem Want.put23 {w : World} {W8 : Nat} {u ev f cn un : Int} {xs ys zs : List Int} (h : Want w W8 u ev f cn un xs ys zs) (v v2 : Int) :
    Want ((((w.setCell ⟨W8, 6, none⟩ (.slice (some ⟨w.heap.size, 0, none⟩) 1 1)).setCell ⟨W8, 7, none⟩ (.slice (some ⟨w.heap.size + 1, 0, none⟩) 1 1)).alloc (.cells #[.int .i64 v] 3)).alloc (.cells #[.int .i64 v2] 3)) W8 u ev f cn un xs [v] [v2] := by
  obtain ⟨q1, k1, e1, q2, k2, e2, q3, k3, e3, ha, h1, h2, h3, d12, d13, d23⟩ := h
  have kx := ((((OneKept.refl W8 w).set 6 (.slice (some ⟨w.heap.size, 0, none⟩) 1 1)).set 7 (.slice (some ⟨w.heap.size + 1, 0, none⟩) 1 1)).alloc (.cells #[.int .i64 v] 3)).alloc (.cells #[.int .i64 v2] 3)
  have tx := (((ha.store 6 (.slice (some ⟨w.heap.size, 0, none⟩) 1 1)).store 7 (.slice (some ⟨w.heap.size + 1, 0, none⟩) 1 1)).alloc (.cells #[.int .i64 v] 3)).alloc (.cells #[.int .i64 v2] 3)
  have n6 := (At.newAt ((w.setCell ⟨W8, 6, none⟩ (.slice (some ⟨w.heap.size, 0, none⟩) 1 1)).setCell ⟨W8, 7, none⟩ (.slice (some ⟨w.heap.size + 1, 0, none⟩) 1 1)) (.cells #[.int .i64 v] 3) w.heap.size (by simp [World.setCell])).alloc (.cells #[.int .i64 v2] 3)
  have n7 := At.newAt (((w.setCell ⟨W8, 6, none⟩ (.slice (some ⟨w.heap.size, 0, none⟩) 1 1)).setCell ⟨W8, 7, none⟩ (.slice (some ⟨w.heap.size + 1, 0, none⟩) 1 1)).alloc (.cells #[.int .i64 v] 3)) (.cells #[.int .i64 v2] 3) (w.heap.size + 1) (by simp [World.setCell])
  exact ⟨_, _, _, _, _, _, _, _, _, tx, h1.kept kx h1.far, rs_new n6 (Nat.succ_le_of_lt ha.lt), rs_new n7 (by have := ha.lt; omega), (h1.old (Nat.le_refl _)).symm, (h1.old (by omega)).symm, fun g h e1 e2 => by
    injection e1 with e1; injection e1 with e1; injection e2 with e2; injection e2 with e2; omega⟩
/-- A row of the call's own is sorted in place. -/
def SortRS (L : Nat) (a : Option Addr) (n : Nat) (xs : List Int) (w : World) (e : Ending) (w' : World) : Prop :=
  e = .returned (.tuple #[]) ∧ RS w' L a n (sortI xs) ∧ ∃ g, OneKept g w w' ∧ ((a = none ∧ w.heap.size ≤ g) ∨ (a = some ⟨g, 0, none⟩ ∧ L ≤ g))
theorem sort_rs (w : World) (L : Nat) (a : Option Addr) (n c : Nat) (xs : List Int) (h : RS w L a n xs) (hn : n ≤ 100000) :
    Calls Try.prog 14 #[.slice a n c] w (SortRS L a n xs w) := by
  rcases h with ⟨rfl, rfl, rfl⟩ | ⟨g, rfl, hL, hr⟩
  · refine (sort_none w none c).mono ?_
    rintro e w' ⟨rfl, rfl⟩
    exact ⟨rfl, .inl ⟨rfl, rfl, by simp [sortI]⟩, w'.heap.size, OneKept.refl _ _, .inl ⟨rfl, Nat.le_refl _⟩⟩
  · refine (sort_ints w g c n xs hr hn).mono ?_
    rintro e w' ⟨rfl, hr', hk⟩
    exact ⟨rfl, .inr ⟨g, rfl, hL, hr'⟩, g, hk, .inr ⟨rfl, hL⟩⟩
theorem RS.sorted_far {w w' : World} {L n m g : Nat} {a b : Option Addr} {xs : List Int} (h : RS w L b m xs) (k : OneKept g w w') (hg : (a = none ∧ w.heap.size ≤ g) ∨ (a = some ⟨g, 0, none⟩ ∧ L ≤ g)) (d : Dist a b) : RS w' L b m xs :=
  h.kept k fun g' e => by
    rcases hg with ⟨_, hg⟩ | ⟨ha, _⟩
    · have := (h.at_ e).2.lt; omega
    · exact Ne.symm (d g g' ha e)
end Go.Proofs.Ytjjmbnflhldoeaa
