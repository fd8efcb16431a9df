/- A text cut at each byte of a kind, and joined again, plain. -/
import Derived.Lib.SplitLaws
import Derived.Lib.Join
import Derived.Test.YthpiiocncdpimabDoorNum
namespace Go.Proofs.YthpiiocncdpimabDoor
set_option linter.unusedVariables false
set_option linter.unusedSimpArgs false
open Go

/-- The pieces of a text between the bytes c. -/
def spl (c : UInt8) : List UInt8 → List (List UInt8)
  | [] => [[]]
  | b :: r => if b = c then [] :: spl c r else (b :: (spl c r).headD []) :: (spl c r).tail
theorem spl_cons (c : UInt8) : ∀ l : List UInt8, ∃ h t, spl c l = h :: t
  | [] => ⟨[], [], rfl⟩
  | b :: r => by rw [spl]; split <;> exact ⟨_, _, rfl⟩
theorem splitK_spl (c : UInt8) : ∀ l : List UInt8, Lib.splitK [c] 0 (Lib.count l [c]) l = spl c l
  | [] => by rw [Lib.count_miss (by simp [Lib.index])]; rfl
  | b :: r => by
    have ih := splitK_spl c r
    by_cases hc : b = c
    · subst hc
      have hix : Lib.index (b :: r) [b] = 0 := by rw [Lib.index]; simp [List.isPrefixOf]
      rw [Lib.count_cons_eq, Nat.add_comm, Lib.splitK, hix, if_neg (by decide), spl, if_pos rfl, ← ih]
      simp
    · have hp : ([c] : List UInt8).isPrefixOf (b :: r) = false := by simp [List.isPrefixOf, Ne.symm hc]
      have hix : Lib.index (b :: r) [c] = if Lib.index r [c] == -1 then -1 else Lib.index r [c] + 1 := by rw [Lib.index, hp]; simp
      rw [Lib.count_cons_ne b c r hc]
      by_cases hm : Lib.index r [c] = -1
      · rw [Lib.count_miss hm] at ih ⊢
        rw [spl, if_neg hc, ← ih]; rfl
      · have hge := Lib.index_ge r [c]
        obtain ⟨j, hj⟩ : ∃ j : Nat, Lib.index r [c] = j := ⟨(Lib.index r [c]).toNat, by omega⟩
        obtain ⟨k, hk⟩ : ∃ k, Lib.count r [c] = k + 1 := ⟨_, by rw [Lib.count_hit (by simp) hj]; exact Nat.add_comm _ _⟩
        have hne : ¬ ((j : Int) == -1) = true := fun e => by have := beq_iff_eq.1 e; omega
        have hne2 : ¬ ((j : Int) + 1 == -1) = true := fun e => by have := beq_iff_eq.1 e; omega
        rw [hj, if_neg hne] at hix
        rw [hk] at ih ⊢
        rw [Lib.splitK, hj, if_neg hne] at ih
        rw [Lib.splitK, hix, if_neg hne2, spl, if_neg hc, ← ih]
        have e1 : ((j : Int) + 1).toNat = j + 1 := by omega
        rw [e1]
        simp
theorem spl_clean (c : UInt8) : ∀ (l : List UInt8), (∀ x ∈ l, x ≠ c) → spl c l = [l]
  | [], _ => rfl
  | b :: r, h => by
    rw [spl, if_neg (h b (by simp)), spl_clean c r fun x hx => h x (by simp [hx])]
    rfl
theorem spl_app (c : UInt8) : ∀ (l r : List UInt8), (∀ x ∈ l, x ≠ c) → spl c (l ++ c :: r) = l :: spl c r
  | [], r, _ => by rw [List.nil_append, spl, if_pos rfl]
  | b :: l, r, h => by
    rw [List.cons_append, spl, if_neg (h b (by simp)), spl_app c l r fun x hx => h x (by simp [hx])]
    rfl
/-- Pieces, each behind a byte c. -/
def glue (c : UInt8) : List (List UInt8) → List UInt8
  | [] => []
  | p :: ps => c :: (p ++ glue c ps)
theorem glue_app (c : UInt8) : ∀ a b : List (List UInt8), glue c (a ++ b) = glue c a ++ glue c b
  | [], b => rfl
  | p :: a, b => by rw [List.cons_append, glue, glue, glue_app c a b]; simp
theorem spl_glue (c : UInt8) : ∀ (a : List UInt8) (ps : List (List UInt8)), (∀ x ∈ a, x ≠ c) → (∀ p ∈ ps, ∀ x ∈ p, x ≠ c) → spl c (a ++ glue c ps) = a :: ps
  | a, [], ha, _ => by rw [glue, List.append_nil]; exact spl_clean c a ha
  | a, p :: ps, ha, hp => by
    rw [glue, spl_app c a _ ha, spl_glue c p ps (hp p (by simp)) fun q hq => hp q (by simp [hq])]
theorem glue_spl (c : UInt8) : ∀ l : List UInt8, (spl c l).headD [] ++ glue c (spl c l).tail = l
  | [] => rfl
  | b :: r => by
    have ih := glue_spl c r
    obtain ⟨h, t, e⟩ := spl_cons c r
    rw [e] at ih
    simp only [List.headD_cons, List.tail_cons] at ih
    rw [spl]
    by_cases hb : b = c
    · rw [if_pos hb, e, hb]
      simp only [List.headD_cons, List.tail_cons, List.nil_append, glue]
      rw [ih]
    · rw [if_neg hb, e]
      simp only [List.headD_cons, List.tail_cons, List.cons_append]
      rw [ih]
theorem join_glue (c : UInt8) : ∀ (a : List UInt8) (ps : List (List UInt8)), Lib.join (a :: ps) [c] = a ++ glue c ps
  | a, [] => by rw [Lib.join_one, glue, List.append_nil]
  | a, p :: ps => by
    have ih := join_glue c p ps
    unfold Lib.join at ih ⊢
    rw [List.intercalate, List.intersperse_cons_cons, List.flatten_cons, List.flatten_cons] at *
    rw [glue, ← ih]
    simp
theorem spl_sub (c : UInt8) : ∀ l : List UInt8, ∀ t ∈ spl c l, ∀ x ∈ t, x ∈ l ∧ x ≠ c
  | [], t, h, x, hx => by simp [spl] at h; subst h; cases hx
  | b :: r, t, h, x, hx => by
    have ih := spl_sub c r
    obtain ⟨u, us, e⟩ := spl_cons c r
    rw [e] at ih
    rw [spl] at h
    by_cases hb : b = c
    · rw [if_pos hb, e] at h
      rcases List.mem_cons.1 h with rfl | h
      · cases hx
      · have := ih t h x hx
        exact ⟨List.mem_cons_of_mem _ this.1, this.2⟩
    · rw [if_neg hb, e] at h
      simp only [List.headD_cons, List.tail_cons] at h
      rcases List.mem_cons.1 h with rfl | h
      · rcases List.mem_cons.1 hx with rfl | hx
        · exact ⟨List.mem_cons_self, hb⟩
        · have := ih u (by simp) x hx
          exact ⟨List.mem_cons_of_mem _ this.1, this.2⟩
      · have := ih t (by simp [h]) x hx
        exact ⟨List.mem_cons_of_mem _ this.1, this.2⟩
theorem spl_size (c : UInt8) : ∀ l : List UInt8, ∀ t ∈ spl c l, t.length ≤ l.length
  | [], t, h => by simp [spl] at h; subst h; simp
  | b :: r, t, h => by
    obtain ⟨u, us, e⟩ := spl_cons c r
    have ih := spl_size c r
    rw [spl] at h
    split at h
    · rcases List.mem_cons.1 h with rfl | h
      · simp
      · have := ih t h; simp only [List.length_cons]; omega
    · rw [e] at h ih
      simp only [List.headD_cons, List.tail_cons] at h
      rcases List.mem_cons.1 h with rfl | h
      · have := ih u (by simp); simp only [List.length_cons]; omega
      · have := ih t (by simp [h]); simp only [List.length_cons]; omega
theorem spl_len (c : UInt8) : ∀ l : List UInt8, (spl c l).length ≤ l.length + 1
  | [] => by simp [spl]
  | b :: r => by
    obtain ⟨u, us, e⟩ := spl_cons c r
    have ih := spl_len c r
    rw [spl]
    split
    · simp only [List.length_cons]; omega
    · rw [e] at ih ⊢
      simp only [List.headD_cons, List.tail_cons, List.length_cons] at ih ⊢; omega
/-- A numeral holds digits and the minus alone. -/
theorem itoa_bytes (n : Int) : ∀ x ∈ Lib.itoa n, x = 45 ∨ (48 ≤ x.toNat ∧ x.toNat ≤ 57) := by
  intro x hx
  have hd : ∀ u, x ∈ Lib.decDigits u → (48 ≤ x.toNat ∧ x.toNat ≤ 57) := fun u h => by
    have := Num.dd_dig u x h
    unfold Num.isDig at this
    simpa using this
  by_cases hn : n < 0
  · have e : n = -(((-n).toNat : Nat) : Int) := by omega
    rw [e, Num.itoa_minus _ (by omega)] at hx
    rcases List.mem_cons.1 hx with rfl | hx
    · exact .inl rfl
    · exact .inr (hd _ hx)
  · have e : n = ((n.toNat : Nat) : Int) := by omega
    rw [e, Num.itoa_nat] at hx
    exact .inr (hd _ hx)
theorem itoa_clean (n : Int) (c : UInt8) (h1 : c ≠ 45) (h2 : c.toNat < 48 ∨ 57 < c.toNat) : ∀ x ∈ Lib.itoa n, x ≠ c := by
  rintro x hx rfl
  rcases itoa_bytes n x hx with h | h
  · exact h1 h
  · omega
end Go.Proofs.YthpiiocncdpimabDoor
