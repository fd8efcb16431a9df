import Derived.Test.YtfbmlbenffkpfaaGreatDoorMgT
import Derived.Test.YtfbmlbenffkpfaaGreatDoorNum
import Derived.Lib.ItoaLen
set_option linter.unusedSimpArgs false
namespace Go.Proofs.YtfbmlbenffkpfaaGreatDoor
set_option linter.unusedVariables false
set_option maxRecDepth 100000
open Go.RowKit
def lvlL : List Int := [0, 7, 7, 6, 4, 4, 5, 5, 5, 3, 3, 2, 1, 0]
def lvl (k : Int) : Int := lvlL.getD k.toNat 0
def sgnL : List (List UInt8) := [[], [], [], [], [43], [45], [42], [47], [37], [60], [61], [], [97, 110, 100], [111, 114]]
def sgn (k : Int) : List UInt8 := sgnL.getD k.toNat []
def fst2 (k : Int) : Int := if lvl k = 3 then lvl k + 1 else lvl k
def par (least k : Int) (s : List UInt8) : List UInt8 := if lvl k < least then 40 :: (s ++ [41]) else s
def pre1 (k : Int) : List UInt8 := if k = 3 then [45] else [110, 111, 116, 32]
def bodyT : Tree → List UInt8
  | .node k n [] => if k = 1 then Lib.itoa n else [121]
  | .node k n [t] => pre1 k ++ par (lvl k) t.kind (bodyT t)
  | .node k n (t :: u :: _) => par (fst2 k) t.kind (bodyT t) ++ (32 :: (sgn k ++ (32 :: par (lvl k + 1) u.kind (bodyT u))))
theorem bodyT_0 (k n : Int) : bodyT (.node k n []) = if k = 1 then Lib.itoa n else [121] := by rw [bodyT]
theorem bodyT_1 (k n : Int) (t : Tree) : bodyT (.node k n [t]) = pre1 k ++ par (lvl k) t.kind (bodyT t) := by rw [bodyT]
theorem bodyT_2 (k n : Int) (t u : Tree) (l : List Tree) : bodyT (.node k n (t :: u :: l)) = par (fst2 k) t.kind (bodyT t) ++ (32 :: (sgn k ++ (32 :: par (lvl k + 1) u.kind (bodyT u)))) := by rw [bodyT]
theorem par_len (least k : Int) (s : List UInt8) : s.length ≤ (par least k s).length ∧ (par least k s).length ≤ s.length + 2 := by
  unfold par; split <;> simp <;> omega
theorem lvl_all : ∀ i : Fin 14, 0 ≤ lvl i.val ∧ lvl i.val ≤ 7 ∧ (sgn i.val).length ≤ 3 ∧ (4 ≤ i.val → i.val ≠ 11 → 1 ≤ (sgn i.val).length) := by decide +kernel
theorem lvl_in {k : Int} (h1 : 1 ≤ k) (h2 : k ≤ 13) : 0 ≤ lvl k ∧ lvl k ≤ 7 ∧ (sgn k).length ≤ 3 := by
  obtain ⟨i, rfl⟩ : ∃ i : Nat, k = (i : Int) := ⟨k.toNat, by omega⟩
  have := lvl_all ⟨i, by omega⟩
  exact ⟨this.1, this.2.1, this.2.2.1⟩
theorem bodyT_kid {k n : Int} {ks : List Tree} (h : nodeB k n ks.length = true) : ∀ t ∈ ks, (bodyT t).length ≤ (bodyT (.node k n ks)).length := by
  intro t ht
  match ks, ht with
  | [x], ht =>
    simp at ht; subst ht
    rw [bodyT_1]
    have := par_len (lvl k) t.kind (bodyT t)
    rw [List.length_append]; omega
  | x :: y :: l, ht =>
    have hl : l = [] := by
      have := (nodeB_len h).1
      cases l with
      | nil => rfl
      | cons _ _ => simp at this
    subst hl
    rw [bodyT_2]
    have h1 := par_len (fst2 k) x.kind (bodyT x)
    have h2 := par_len (lvl k + 1) y.kind (bodyT y)
    simp only [List.length_append, List.length_cons]
    rcases List.mem_cons.1 ht with rfl | ht
    · omega
    · simp at ht; subst ht; omega
theorem nodeB_kind' {k n : Int} {len : Nat} (h : nodeB k n len = true) : 1 ≤ k ∧ k ≤ 13 := by
  unfold nodeB at h
  simp only [Bool.and_eq_true] at h
  exact inB_iff.1 h.1
theorem nodeB_num {k n : Int} {len : Nat} (h : nodeB k n len = true) : 0 ≤ n ∧ n ≤ 2147483647 := by
  unfold nodeB at h
  simp only [Bool.and_eq_true] at h
  have h2 := h.2.2
  by_cases hk : k = 1
  · rw [if_pos hk] at h2; exact inB_iff.1 h2
  · rw [if_neg hk] at h2
    have : n = 0 := by simpa using h2
    omega
theorem body_size : ∀ (t : Tree) (d c : Int), (exprGo t d c).1 = 0 → ((bodyT t).length : Int) + 10 ≤ 40 * ((exprGo t d c).2 - c) ∧ (exprGo t d c).2 ≤ 60 ∧ c ≤ (exprGo t d c).2 := by
  intro t
  refine Tree.all (P := fun t => ∀ (d c : Int), (exprGo t d c).1 = 0 → ((bodyT t).length : Int) + 10 ≤ 40 * ((exprGo t d c).2 - c) ∧ (exprGo t d c).2 ≤ 60 ∧ c ≤ (exprGo t d c).2) ?_ t
  intro k n ks ih d c h
  rw [exprGo_node] at h ⊢
  by_cases h1 : 60 < c + 1 ∨ 12 < d
  · rw [if_pos h1] at h; simp at h
  rw [if_neg h1] at h ⊢
  by_cases h2 : nodeB k n ks.length = false
  · rw [if_pos h2] at h; simp at h
  rw [if_neg h2] at h ⊢
  have hb : nodeB k n ks.length = true := by simpa using h2
  have hl := (nodeB_len hb).1
  have hk := nodeB_kind' hb
  obtain ⟨l0, l1, l2⟩ := lvl_in hk.1 hk.2
  match ks, ih with
  | [], ih =>
    rw [exprRow, bodyT_0]
    have hn : 0 ≤ n ∧ n ≤ 2147483647 := nodeB_num hb
    have := Lib.itoa_length_le n (by omega) (by omega)
    refine ⟨?_, by omega, by omega⟩
    split
    · omega
    · simp; omega
  | [x], ih =>
    rw [exprRow_cons] at h ⊢
    by_cases hx : (exprGo x (d + 1) (c + 1)).1 ≠ 0
    · rw [if_pos hx] at h; exact absurd h hx
    rw [if_neg hx] at h ⊢
    have hx' : (exprGo x (d + 1) (c + 1)).1 = 0 := by simpa using hx
    obtain ⟨i1, i2, i3⟩ := ih x (by simp) (d + 1) (c + 1) hx'
    rw [exprRow] at h ⊢
    rw [bodyT_1]
    have hp := par_len (lvl k) x.kind (bodyT x)
    have hq : (pre1 k).length ≤ 4 := by unfold pre1; split <;> simp
    rw [List.length_append]
    refine ⟨?_, i2, by simp only; omega⟩
    simp only
    omega
  | x :: y :: l, ih =>
    have hl0 : l = [] := by
      cases l with
      | nil => rfl
      | cons _ _ => simp at hl
    subst hl0
    rw [exprRow_cons] at h ⊢
    by_cases hx : (exprGo x (d + 1) (c + 1)).1 ≠ 0
    · rw [if_pos hx] at h; exact absurd h hx
    rw [if_neg hx] at h ⊢
    have hx' : (exprGo x (d + 1) (c + 1)).1 = 0 := by simpa using hx
    obtain ⟨i1, i2, i3⟩ := ih x (by simp) (d + 1) (c + 1) hx'
    generalize (exprGo x (d + 1) (c + 1)).2 = c2 at *
    rw [exprRow_cons] at h ⊢
    by_cases hy : (exprGo y (d + 1) c2).1 ≠ 0
    · rw [if_pos hy] at h; exact absurd h hy
    rw [if_neg hy] at h ⊢
    have hy' : (exprGo y (d + 1) c2).1 = 0 := by simpa using hy
    obtain ⟨j1, j2, j3⟩ := ih y (by simp) (d + 1) c2 hy'
    rw [exprRow] at h ⊢
    rw [bodyT_2]
    have hp := par_len (fst2 k) x.kind (bodyT x)
    have hp2 := par_len (lvl k + 1) y.kind (bodyT y)
    simp only [List.length_append, List.length_cons]
    refine ⟨?_, j2, by omega⟩
    omega
theorem body_le {t : Tree} (h : exprErr t = 0) : (bodyT t).length ≤ 2400 := by
  have := body_size t 1 0 h
  omega
end Go.Proofs.YtfbmlbenffkpfaaGreatDoor
