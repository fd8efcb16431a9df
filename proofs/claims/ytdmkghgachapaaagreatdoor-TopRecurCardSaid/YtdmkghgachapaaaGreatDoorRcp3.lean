/- Contract of the reference's RecurText: the same text as recur.show writes. -/
import Derived.Test.YtdmkghgachapaaaGreatDoorRcp2
import Derived.Test.YtdmkghgachapaaaGreatDoorMgA
import Derived.Deep.CutRange
namespace Go.Proofs.YtdmkghgachapaaaGreatDoor
set_option linter.unusedVariables false
set_option linter.unusedSimpArgs false
set_option maxRecDepth 100000
open Go.RowKit Go.Shelf

theorem join_snoc (c : UInt8) (xs : List (List UInt8)) (y : List UInt8) (h : xs ≠ []) : Lib.join (xs ++ [y]) [c] = Lib.join xs [c] ++ ([c] ++ y) := by
  cases xs with
  | nil => exact absurd rfl h
  | cons a ps =>
    rw [List.cons_append, join_glue, join_glue, glue_app]
    simp [glue]
theorem numsS_snoc (l : List Int) (x : Int) (h : l ≠ []) : numsS (l ++ [x]) = numsS l ++ ([44] ++ Lib.itoa x) := by
  unfold numsS
  rw [List.map_append]
  exact join_snoc 44 _ _ (by simpa using h)
theorem numsS_one (x : Int) : numsS [x] = Lib.itoa x := by unfold numsS; rw [List.map_cons, join_glue]; simp [glue]
/-- The text behind j numbers of a list. -/
def partT (A w : List UInt8) (l : List Int) (j : Nat) : List UInt8 := if j = 0 then A else A ++ [32] ++ w ++ [32] ++ numsS (l.take j)
theorem partT_end (A w : List UInt8) (l : List Int) : partT A w l l.length = A ++ glue 32 (partP w l) := by
  unfold partT partP
  by_cases h : l = []
  · rw [if_pos (by rw [h]; rfl), if_pos h]; simp [glue]
  · rw [if_neg (fun e => h (List.length_eq_zero_iff.1 e)), if_neg h, List.take_length]; simp [glue]
theorem partT_succ (A w : List UInt8) (l : List Int) (j : Nat) (x : Int) (hx : l[j]? = some x) : partT A w l (j + 1) = partT A w l j ++ ((if j = 0 then [32] ++ w ++ [32] else [44]) ++ Lib.itoa x) := by
  have ht : l.take (j + 1) = l.take j ++ [x] := by rw [List.take_add_one, hx]; rfl
  unfold partT
  rw [if_neg (by omega), ht]
  by_cases h : j = 0
  · subst h
    rw [if_pos rfl, if_pos rfl, List.take_zero, List.nil_append, numsS_one]; simp
  · have hne : l.take j ≠ [] := by
      intro e
      have h1 := (List.getElem?_eq_some_iff.1 hx).1
      have h2 := congrArg List.length e
      rw [List.length_take] at h2
      simp at h2
      rcases h2 with h2 | h2
      · exact h h2
      · rw [h2] at h1; simp at h1
    rw [if_neg h, if_neg h, numsS_snoc _ _ hne]; simp
theorem unit_cell (k : Nat) (h1 : 1 ≤ k) (h2 : k < 5) : (#[Value.string ⟨#[]⟩, .string ⟨#[32, 100, 97, 121]⟩, .string ⟨#[32, 119, 101, 101, 107]⟩, .string ⟨#[32, 109, 111, 110, 116, 104]⟩, .string ⟨#[32, 121, 101, 97, 114]⟩] : Array Value)[k]? = some (.string ⟨([32] ++ unitS (k : Int)).toArray⟩) := by
  rcases (show k = 1 ∨ k = 2 ∨ k = 3 ∨ k = 4 by omega) with rfl | rfl | rfl | rfl <;> rfl
theorem numsS_take (l : List Int) (h : ∀ x ∈ l, I64 x) (j : Nat) : (numsS (l.take j)).length ≤ 22 * l.length := by
  have h1 := numsS_len (l.take j) (fun x hx => h x (List.mem_of_mem_take hx))
  have h2 : (l.take j).length ≤ l.length := by rw [List.length_take]; omega
  have h3 := Nat.mul_le_mul_left 22 h2
  omega
theorem partT_len (A w : List UInt8) (l : List Int) (h : ∀ x ∈ l, I64 x) (j : Nat) : (partT A w l j).length ≤ A.length + w.length + 2 + 22 * l.length := by
  unfold partT
  split
  · omega
  · have := numsS_take l h j
    simp only [List.length_append, List.length_cons, List.length_nil]
    omega
/-- List q of the three, with its word. -/
def wordQ (q : Nat) : List UInt8 := if q = 0 then wWeek else if q = 1 then wMonth else wMonths
def listQ (ws ms ns : List Int) (q : Nat) : List Int := if q = 0 then ws else if q = 1 then ms else ns
theorem acc_step (T : List UInt8) (ws ms ns : List Int) (q : Nat) (hq : q < 3) : accT T ws ms ns (q + 1) = accT T ws ms ns q ++ glue 32 (partP (wordQ q) (listQ ws ms ns q)) := by
  rcases (show q = 0 ∨ q = 1 ∨ q = 2 by omega) with rfl | rfl | rfl <;> rfl
theorem word_cell (q : Nat) (hq : q < 3) : (#[Value.string ⟨#[32, 119, 101, 101, 107, 100, 97, 121, 115, 32]⟩, .string ⟨#[32, 109, 111, 110, 116, 104, 100, 97, 121, 115, 32]⟩, .string ⟨#[32, 109, 111, 110, 116, 104, 115, 32]⟩] : Array Value)[q]? = some (.string ⟨([32] ++ wordQ q ++ [32]).toArray⟩) := by
  rcases (show q = 0 ∨ q = 1 ∨ q = 2 by omega) with rfl | rfl | rfl <;> rfl
theorem wordQ_len (q : Nat) : (wordQ q).length ≤ 9 := by unfold wordQ; split <;> (try split) <;> decide
theorem acc_len (T : List UInt8) (ws ms ns : List Int) (hT : T.length ≤ 300) (g1 : (numsS ws).length ≤ 96757023244288) (g2 : (numsS ms).length ≤ 96757023244288) (g3 : (numsS ns).length ≤ 96757023244288) (j : Nat) : (accT T ws ms ns j).length ≤ 400000000000000 := by
  have g : ∀ (w : List UInt8) (l : List Int), w.length ≤ 9 → (numsS l).length ≤ 96757023244288 → (glue 32 (partP w l)).length ≤ 96757023244300 := by
    intro w l hw hl
    unfold partP
    split
    · simp [glue]
    · simp [glue]; omega
  have g1 := g wWeek ws (by decide) g1
  have g2 := g wMonth ms (by decide) g2
  have g3 := g wMonths ns (by decide) g3
  match j with
  | 0 => show T.length ≤ _; omega
  | 1 => simp only [accT, List.length_append]; omega
  | 2 => simp only [accT, List.length_append]; omega
  | j + 3 => simp only [accT, List.length_append]; omega
end Go.Proofs.YtdmkghgachapaaaGreatDoor
