/- The lists of a rule's table, plain. -/
import Derived.Test.YtjjmbnflhldoeaaLuni0
namespace Go.Proofs.Ytjjmbnflhldoeaa
set_option linter.unusedVariables false

def nxt (mt : Int → Int) (g : Int → Int → Int) (y m : Int) : Int := if mt y < m then g (y + 1) 1 else g y m
def yearS (mt : Int → Int) (g : Int → Int → Int) (y : Int) : List Int := (List.range (mt y).toNat).map fun j : Nat => g y ((j : Int) + 1)
def refS (mt : Int → Int) (g : Int → Int → Int) (first : Int) (k : Nat) : List Int := (List.range k).flatMap fun i : Nat => yearS mt g (first + (i : Int))
def preS (mt : Int → Int) (g : Int → Int → Int) (first : Int) (k j : Nat) : List Int := refS mt g first k ++ (List.range j).map fun i : Nat => g (first + (k : Int)) ((i : Int) + 1)
def codeS (mt : Int → Int) (g : Int → Int → Int) (first : Int) (k j : Nat) : List Int := if k = 0 ∧ j = 0 then [] else preS mt g first k j ++ [nxt mt g (first + (k : Int)) ((j : Int) + 1)]
def fullS (mt : Int → Int) (g : Int → Int → Int) (first : Int) (n : Nat) : List Int := refS mt g first n ++ [g (first + (n : Int)) 1]
def monS (mt : Int → Int) (first : Int) (k : Nat) : List Int := (List.range k).map fun i : Nat => mt (first + (i : Int))
section
variable {mt : Int → Int} {g : Int → Int → Int} {first : Int} (hm : ∀ y, mt y = 12 ∨ mt y = 13)
theorem monS_succ (k : Nat) : monS mt first (k + 1) = monS mt first k ++ [mt (first + (k : Int))] := by simp [monS, List.range_succ]
theorem monS_len (k : Nat) : (monS mt first k).length = k := by simp [monS]
theorem refS_succ (k : Nat) : refS mt g first (k + 1) = refS mt g first k ++ yearS mt g (first + (k : Int)) := by simp [refS, List.range_succ]
theorem preS_succ (k j : Nat) : preS mt g first k (j + 1) = preS mt g first k j ++ [g (first + (k : Int)) ((j : Int) + 1)] := by simp [preS, List.range_succ]
theorem preS_zero (k : Nat) : preS mt g first k 0 = refS mt g first k := by simp [preS]
theorem preS_year (k : Nat) : preS mt g first k (mt (first + (k : Int))).toNat = refS mt g first (k + 1) := by rw [refS_succ]; rfl
theorem nxt_in {y m : Int} (h : m ≤ mt y) : nxt mt g y m = g y m := by unfold nxt; rw [if_neg (by omega)]
theorem nxt_out {y m : Int} (h : mt y < m) : nxt mt g y m = g (y + 1) 1 := by unfold nxt; rw [if_pos h]
theorem code_zero : codeS mt g first 0 0 = [] := rfl
theorem code_pos {k j : Nat} (h : ¬ (k = 0 ∧ j = 0)) : codeS mt g first k j = preS mt g first k j ++ [nxt mt g (first + (k : Int)) ((j : Int) + 1)] := if_neg h
theorem code_first (hj : (1 : Int) ≤ mt first) : codeS mt g first 0 1 = [nxt mt g first 1] ++ [nxt mt g first 2] := by
  rw [code_pos (by omega), preS_succ, preS_zero, nxt_in (y := first) (m := 1) hj]
  simp [refS]
theorem code_step {k j : Nat} (h : ¬ (k = 0 ∧ j = 0)) (hj : (j : Int) + 1 ≤ mt (first + (k : Int))) : codeS mt g first k (j + 1) = codeS mt g first k j ++ [nxt mt g (first + (k : Int)) ((j : Int) + 1 + 1)] := by
  rw [code_pos (by omega), code_pos h, preS_succ, nxt_in hj, Int.natCast_add]; rfl
include hm in
theorem code_year (k : Nat) : codeS mt g first k (mt (first + (k : Int))).toNat = codeS mt g first (k + 1) 0 := by
  have h1 := hm (first + (k : Int))
  have h2 := hm (first + ((k + 1 : Nat) : Int))
  rw [code_pos (by omega), code_pos (by omega), preS_year, preS_zero, nxt_out (by omega), nxt_in (by omega)]
  rw [show first + (k : Int) + 1 = first + ((k + 1 : Nat) : Int) by omega]; rfl
include hm in
theorem code_full {n : Nat} (hn : 0 < n) : codeS mt g first n 0 = fullS mt g first n := by
  have h2 := hm (first + (n : Int))
  rw [code_pos (by omega), preS_zero, nxt_in (by omega)]; rfl
include hm in
theorem refS_len (k : Nat) : (refS mt g first k).length ≤ 13 * k := by
  induction k with
  | zero => simp [refS]
  | succ k ih =>
    have := hm (first + (k : Int))
    rw [refS_succ, List.length_append]
    simp only [yearS, List.length_map, List.length_range]
    omega
include hm in
theorem preS_len (k j : Nat) : (preS mt g first k j).length ≤ 13 * k + j := by
  have := refS_len (g := g) (first := first) hm k
  simp only [preS, List.length_append, List.length_map, List.length_range]; omega
include hm in
theorem code_len (k j : Nat) : (codeS mt g first k j).length ≤ 13 * k + j + 1 := by
  have := preS_len (g := g) (first := first) hm k j
  unfold codeS
  split
  · simp
  · rw [List.length_append, List.length_singleton]; omega
theorem mem_full {n k j : Nat} (hk : k < n) (hj : (j : Int) + 1 ≤ mt (first + (k : Int))) : g (first + (k : Int)) ((j : Int) + 1) ∈ fullS mt g first n := by
  unfold fullS refS
  rw [List.mem_append, List.mem_flatMap]
  exact .inl ⟨k, List.mem_range.2 hk, List.mem_map.2 ⟨j, List.mem_range.2 (by omega), rfl⟩⟩
include hm in
theorem mem_begin {n k : Nat} (hk : k ≤ n) : g (first + (k : Int)) 1 ∈ fullS mt g first n := by
  rcases Nat.lt_or_ge k n with h | h
  · have := mem_full (g := g) (mt := mt) (first := first) (j := 0) h (by have := hm (first + (k : Int)); omega)
    simpa using this
  · obtain rfl : k = n := by omega
    unfold fullS; simp
include hm in
theorem mem_nxt {n k j : Nat} (hk : k < n) (hj : (j : Int) ≤ mt (first + (k : Int))) : nxt mt g (first + (k : Int)) ((j : Int) + 1) ∈ fullS mt g first n := by
  by_cases h : mt (first + (k : Int)) < (j : Int) + 1
  · rw [nxt_out h, show first + (k : Int) + 1 = first + ((k + 1 : Nat) : Int) by omega]
    exact mem_begin hm (by omega)
  · rw [nxt_in (by omega)]
    exact mem_full hk (by omega)
end
end Go.Proofs.Ytjjmbnflhldoeaa
