import Derived.Test.YtdmkghgachapaabGreatDoorTree1
import Derived.Test.YtdmkghgachapaabGreatDoorMgO
import Derived.StillTailTactics
set_option linter.unusedSimpArgs false
namespace Go.Proofs.YtdmkghgachapaabGreatDoor
set_option linter.unusedVariables false
set_option maxRecDepth 100000
open Go.RowKit
theorem At.ungrown {w w' : World} {b : Nat} {o : Obj} {row : Option Nat} (h : At w b o) (hg : w.grownBy w' row) (hne : some b ≠ row) : At w' b o := (hg.block b h.lt hne).trans h
theorem own_apart {w : World} {base : Nat} {e : TypeId} {size : Nat} {v : Value} {n : Nat} {xs : List Value} (h : w.ownsRow base e size v n xs) {b : Nat} (hb : b < base) : some b ≠ v.ownBlock := by
  rcases h.2 with ⟨rfl, _⟩ | ⟨g, cap, cur, rfl, hg, _⟩
  · simp [Value.ownBlock]
  · simp [Value.ownBlock]; omega
theorem own_cut {w : World} {base : Nat} {e : TypeId} {size : Nat} {g n m cap : Nat} {xs ys : List Value} (h : w.ownsRow base e size (.slice (some ⟨g, 0, none⟩) n cap) n (xs ++ ys)) (hm : m ≤ n) (hx : xs.length = m * size) :
    w.ownsRow base e size (.slice (some ⟨g, 0, none⟩) m cap) m xs := by
  refine ⟨hx, .inr ?_⟩
  rcases h.2 with ⟨h0, _⟩ | ⟨g', cap', cur, hv, hb, hg, hn, hc, hs, ht⟩
  · cases h0
  · injection hv with e1 e2 e3
    injection e1 with e1; injection e1 with e1
    subst e1 e3
    refine ⟨g, cap, cur, rfl, hb, hg, by omega, hc, hs, ?_⟩
    have := congrArg (List.take (m * size)) ht
    rw [List.take_take, Nat.min_eq_left (Nat.mul_le_mul_right size hm), List.take_left' hx] at this
    exact this
theorem own_cell {w : World} {base : Nat} {e : TypeId} {size : Nat} {g n cap : Nat} {xs : List Value} (h : w.ownsRow base e size (.slice (some ⟨g, 0, none⟩) n cap) n xs) (i : Nat) {v : Value} (hv : xs[i]? = some v) : w.cell? ⟨g, i, none⟩ = some v := by
  rcases h.2 with ⟨h0, _⟩ | ⟨g', cap', cur, hv', hb, hg, hn, hc, hs, ht⟩
  · cases h0
  · injection hv' with e1 e2 e3
    injection e1 with e1; injection e1 with e1
    subst e1
    have hat : At w g (.cells cur e) := hg
    rw [hat.cell i, ← Array.getElem?_toList]
    rw [← ht, List.getElem?_take] at hv
    split at hv
    · exact hv
    · cases hv
theorem own_size {w : World} {base : Nat} {e : TypeId} {size : Nat} {v : Value} {n : Nat} {xs : List Value} (h : w.ownsRow base e size v n xs) (hn : 0 < n) (hs : 0 < size) : ∃ g cap, v = .slice (some ⟨g, 0, none⟩) n cap ∧ base ≤ g ∧ g < w.heap.size ∧ n ≤ cap ∧ cap ≤ 9223372036854775807 := by
  rcases h.2 with ⟨_, h0⟩ | ⟨g, cap, cur, hv, hb, hg, hnc, hcm, _⟩
  · omega
  · unfold maxLen at hcm
    refine ⟨g, cap, hv, hb, (show At w g (.cells cur e) from hg).lt, hnc, by omega⟩
def refOps (k : Int) : Int := if inB 1 13 k = true then (opsOf k : Int) else -1
theorem ref_operands (k : Int) (w : World) : Calls Tryz.prog 141 #[.int .i64 k] w fun e w' => e = .returned (.int .i64 (refOps k)) ∧ w = w' := by
  by_cases h1 : k = 1
  · subst h1
    go_enter Tryz.func141, Tryz.ntmps141
    go_wp2_with fail
    go_ret
    exact ⟨rfl, rfl⟩
  have h1' : (k == 1) = false := by simpa using h1
  by_cases h2 : k = 2
  · subst h2
    go_enter Tryz.func141, Tryz.ntmps141
    go_wp2_with fail
    go_ret
    exact ⟨rfl, rfl⟩
  have h2' : (k == 2) = false := by simpa using h2
  by_cases h3 : k = 3
  · subst h3
    go_enter Tryz.func141, Tryz.ntmps141
    go_wp2_with fail
    go_ret
    exact ⟨rfl, rfl⟩
  have h3' : (k == 3) = false := by simpa using h3
  by_cases h4 : k = 11
  · subst h4
    go_enter Tryz.func141, Tryz.ntmps141
    go_wp2_with fail
    go_ret
    exact ⟨rfl, rfl⟩
  have h4' : (k == 11) = false := by simpa using h4
  rcases inB_cases 4 13 k with ⟨hb, b1, b2⟩ | ⟨hb, hb'⟩
  · have hr := Lib.hid (show refOps k = 2 by rw [refOps, if_pos (inB_yes (by omega) (by omega)), opsOf_2 (by omega) (by omega)]; rfl)
    clear h1 h2 h3 h4
    go_enter Tryz.func141, Tryz.ntmps141
    go_wp2_with fail
    refine (ref_In _ _ _ _).mono ?_; rw [hb]; rintro e w1 ⟨rfl, rfl⟩
    go_wp2_with fail
    go_ret
    exact ⟨ret_int (by rw [hr.out]), rfl⟩
  · have hr := Lib.hid (show refOps k = -1 by rw [refOps, if_neg (by rw [inB_no (by omega)]; simp)])
    clear h1 h2 h3 h4
    go_enter Tryz.func141, Tryz.ntmps141
    go_wp2_with fail
    refine (ref_In _ _ _ _).mono ?_; rw [hb]; rintro e w1 ⟨rfl, rfl⟩
    go_wp2_with fail
    go_ret
    exact ⟨ret_int (by rw [hr.out]), rfl⟩
abbrev Item := Tree × Option Addr × Nat × Nat × Int
def encItem (x : Item) : List Value := [.int .i64 x.1.kind, .int .i64 x.1.num, .slice x.2.1 x.2.2.1 x.2.2.2.1, .int .i64 x.2.2.2.2]
def itemOk (w : World) (x : Item) : Prop := SubAt w w.heap.size x.1 x.2.1 x.2.2.1 ∧ x.2.2.1 ≤ x.2.2.2.1 ∧ x.2.2.2.1 ≤ 9223372036854775807 ∧ 1 ≤ x.2.2.2.2 ∧ x.2.2.2.2 ≤ 13
def itemsOf (l : List Item) : List (Tree × Int) := l.reverse.map fun x => (x.1, x.2.2.2.2)
theorem items_len (l : List Item) : (l.flatMap encItem).length = l.length * 4 := by
  induction l with
  | nil => rfl
  | cons x l ih => rw [List.flatMap_cons, List.length_append, ih, List.length_cons, Nat.add_mul]; simp [encItem]; omega
theorem items_snoc (l : List Item) (x : Item) : itemsOf (l ++ [x]) = (x.1, x.2.2.2.2) :: itemsOf l := by
  unfold itemsOf; rw [List.reverse_append]; rfl
theorem items_flat (l : List Item) (x : Item) : (l ++ [x]).flatMap encItem = l.flatMap encItem ++ encItem x := by
  rw [List.flatMap_append]; simp
theorem items_at (l : List Item) (x : Item) (i : Nat) (v : Value) (h : (encItem x)[i]? = some v) : ((l ++ [x]).flatMap encItem)[l.length * 4 + i]? = some v := by
  rw [items_flat, List.getElem?_append_right (by rw [items_len]; omega), items_len, Nat.add_sub_cancel_left]
  exact h
end Go.Proofs.YtdmkghgachapaabGreatDoor
