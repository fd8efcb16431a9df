/- Rooms, plain: the earliest free time, walked and searched. -/
import Derived.Test.YtddiicljoekhmaaRmT
namespace Go.Proofs.Ytddiicljoekhmaa
set_option linter.unusedVariables false
set_option linter.unusedSimpArgs false
open Go.RowKit

def stepF (len a : Int) (b : Bkg) : Int := if b.2.1 < a + len ∧ a < b.2.2.1 then b.2.2.1 else a
def fwdF (len : Int) : Int → List Bkg → Int
  | a, [] => a
  | a, b :: r => fwdF len (stepF len a b) r
theorem fwdF_cons (len a : Int) (b : Bkg) (r : List Bkg) : fwdF len a (b :: r) = fwdF len (stepF len a b) r := by rw [fwdF.eq_def]
theorem stepF_ge (len a : Int) (b : Bkg) : a ≤ stepF len a b := by unfold stepF; split <;> omega
theorem fwdF_ge (len : Int) : ∀ (l : List Bkg) (a : Int), a ≤ fwdF len a l
  | [], a => by rw [fwdF.eq_def]; exact Int.le_refl _
  | b :: r, a => by rw [fwdF_cons]; have := fwdF_ge len r (stepF len a b); have := stepF_ge len a b; omega
theorem fwdF_mem (len : Int) : ∀ (l : List Bkg) (a : Int), fwdF len a l = a ∨ ∃ y ∈ l, fwdF len a l = y.2.2.1
  | [], a => .inl (by rw [fwdF.eq_def])
  | b :: r, a => by
    rw [fwdF_cons]
    rcases fwdF_mem len r (stepF len a b) with h | ⟨y, h1, h2⟩
    · rw [h]
      unfold stepF
      split
      · exact .inr ⟨b, List.mem_cons_self, rfl⟩
      · exact .inl rfl
    · exact .inr ⟨y, List.mem_cons_of_mem _ h1, h2⟩
theorem lapB_iff (f t : Int) (y : Bkg) : lapB f t y = true ↔ (y.2.1 < t ∧ f < y.2.2.1) := by unfold lapB; simp
theorem fwdF_min (len : Int) : ∀ (l : List Bkg) (a x : Int), a ≤ x → l.any (lapB x (x + len)) = false → fwdF len a l ≤ x
  | [], a, x, h, _ => by rw [fwdF.eq_def]; exact h
  | b :: r, a, x, h, hf => by
    rw [fwdF_cons]
    rw [List.any_cons, Bool.or_eq_false_iff] at hf
    refine fwdF_min len r _ x ?_ hf.2
    unfold stepF
    split
    · rename_i hc
      have h1 : ¬ (b.2.1 < x + len ∧ x < b.2.2.1) := fun hh => by have := (lapB_iff x (x + len) b).2 hh; rw [hf.1] at this; cases this
      omega
    · exact h
/-- Past the bookings that begin too late nothing moves. -/
theorem fwdF_late (len : Int) : ∀ (l : List Bkg) (a : Int), (∀ y ∈ l, a + len ≤ y.2.1) → fwdF len a l = a
  | [], a, _ => by rw [fwdF.eq_def]
  | b :: r, a, h => by
    rw [fwdF_cons]
    have h1 : stepF len a b = a := by unfold stepF; rw [if_neg (by have := h b List.mem_cons_self; omega)]
    rw [h1]
    exact fwdF_late len r a (fun y hy => h y (List.mem_cons_of_mem _ hy))
theorem fwdF_free (len : Int) : ∀ (l : List Bkg) (a : Int), SortB l → ∀ y ∈ l, lapB (fwdF len a l) (fwdF len a l + len) y = false
  | [], a, _, y, hy => by cases hy
  | b :: r, a, hs, y, hy => by
    have h0 := List.pairwise_cons.1 hs
    rw [fwdF_cons]
    rcases List.mem_cons.1 hy with rfl | hy
    · rw [Bool.eq_false_iff]
      intro hl
      rw [lapB_iff] at hl
      have hge := fwdF_ge len r (stepF len a y)
      by_cases hc : y.2.1 < a + len ∧ a < y.2.2.1
      · have : stepF len a y = y.2.2.1 := by unfold stepF; rw [if_pos hc]
        omega
      · have h1 : stepF len a y = a := by unfold stepF; rw [if_neg hc]
        rw [h1] at hl hge
        by_cases hc2 : y.2.1 < a + len
        · omega
        · rw [fwdF_late len r a (fun z hz => by have := h0.1 z hz; omega)] at hl
          omega
    · exact fwdF_free len r _ h0.2 y hy
theorem find_sorted {p : Int → Bool} : ∀ (ts : List Int) (m : Int), ts.Pairwise (· ≤ ·) → m ∈ ts → p m = true → (∀ x ∈ ts, p x = true → m ≤ x) → ts.find? p = some m
  | [], m, _, hm, _, _ => by cases hm
  | a :: r, m, hs, hm, hp, hmin => by
    have h0 := List.pairwise_cons.1 hs
    by_cases ha : p a = true
    · have h1 := hmin a List.mem_cons_self ha
      have h2 : a = m := by
        rcases List.mem_cons.1 hm with e | hm
        · exact e.symm
        · have := h0.1 m hm; omega
      rw [List.find?_cons_of_pos ha, h2]
    · have h2 : m ∈ r := by
        rcases List.mem_cons.1 hm with e | hm
        · rw [e] at hp; exact absurd hp ha
        · exact hm
      rw [List.find?_cons_of_neg ha]
      exact find_sorted r m h0.2 h2 hp (fun x hx => hmin x (List.mem_cons_of_mem _ hx))
/-- The question that the search asks of each time. -/
def askF (l : List Bkg) (len f t x : Int) : Bool := decide (f ≤ x) && (decide (x + len ≤ t) && !l.any (lapB x (x + len)))
theorem search_fwd {l : List Bkg} {len f t : Int} {ts : List Int} (hs : SortB l) (hts : ts.Pairwise (· ≤ ·)) (hmem : ∀ x, x ∈ ts ↔ x = f ∨ ∃ y ∈ l, x = y.2.2.1) :
    ts.find? (askF l len f t) = if fwdF len f l + len ≤ t then some (fwdF len f l) else none := by
  have hfree : l.any (lapB (fwdF len f l) (fwdF len f l + len)) = false := by
    rw [List.any_eq_false]; intro y hy; rw [fwdF_free len l f hs y hy]; simp
  have hge := fwdF_ge len l f
  split
  · rename_i hc
    refine find_sorted ts _ hts ((hmem _).2 ?_) ?_ (fun x hx hp => ?_)
    · exact fwdF_mem len l f
    · unfold askF; rw [hfree, decide_eq_true hge, decide_eq_true hc]; rfl
    · unfold askF at hp
      simp only [Bool.and_eq_true, decide_eq_true_eq, Bool.not_eq_true'] at hp
      exact fwdF_min len l f x hp.1 hp.2.2
  · rename_i hc
    rw [List.find?_eq_none]
    intro x hx hp
    unfold askF at hp
    simp only [Bool.and_eq_true, decide_eq_true_eq, Bool.not_eq_true'] at hp
    have := fwdF_min len l f x hp.1 hp.2.2
    omega
/-- What Find answers for two rooms. -/
def pickF (t len : Int) (a1 a2 : Int) : ByteArray × Int × Int :=
  if a1 + len ≤ t then (if a2 + len ≤ t ∧ a2 < a1 then (two3, a2, 0) else (one3, a1, 0)) else if a2 + len ≤ t then (two3, a2, 0) else (⟨#[]⟩, 0, 6)
def findE (len f t : Int) : Int := if len < 1 ∨ 86400000 < len then 1 else if (instB f && instB t) = false then 3 else if t < f then 9 else 0
def findO (len f t : Int) (xs1 xs2 : List Bkg) : ByteArray × Int × Int :=
  if findE len f t ≠ 0 then (⟨#[]⟩, 0, findE len f t) else pickF t len (fwdF len f xs1) (fwdF len f xs2)
def nextB (t len : Int) (st : Int × Int) (k : Nat) (a : Int) : Int × Int := if a + len ≤ t ∧ (st.1 < 0 ∨ a < st.2) then ((k : Int), a) else st
def foldK (t len f : Int) (xs1 xs2 : List Bkg) : Nat → Int × Int
  | 0 => (-1, 0)
  | k + 1 => nextB t len (foldK t len f xs1 xs2 k) k (fwdF len f (rowL k xs1 xs2))
theorem foldK_pick (t len f : Int) (xs1 xs2 : List Bkg) : pickF t len (fwdF len f xs1) (fwdF len f xs2) =
    if (foldK t len f xs1 xs2 2).1 < 0 then (⟨#[]⟩, 0, 6) else (if (foldK t len f xs1 xs2 2).1 = 0 then one3 else two3, (foldK t len f xs1 xs2 2).2, 0) := by
  have e0 : rowL 0 xs1 xs2 = xs1 := rfl
  have e1 : rowL 1 xs1 xs2 = xs2 := rfl
  unfold pickF
  simp only [foldK, nextB, e0, e1]
  generalize fwdF len f xs1 = a1
  generalize fwdF len f xs2 = a2
  by_cases h1 : a1 + len ≤ t <;> by_cases h2 : a2 + len ≤ t <;> by_cases h3 : a2 < a1 <;> simp [h1, h2, h3]
theorem foldK_cases (t len f : Int) (xs1 xs2 : List Bkg) (k : Nat) : (foldK t len f xs1 xs2 k).1 = -1 ∨ ∃ j : Nat, j < k ∧ (foldK t len f xs1 xs2 k).1 = (j : Int) := by
  induction k with
  | zero => exact .inl rfl
  | succ k ih =>
    rw [foldK, nextB]
    split
    · exact .inr ⟨k, by omega, rfl⟩
    · rcases ih with h | ⟨j, h1, h2⟩
      · exact .inl h
      · exact .inr ⟨j, by omega, h2⟩
def FarB (l : List Bkg) : Prop := ∀ y ∈ l, -100000000000000000 ≤ y.2.2.1 ∧ y.2.2.1 ≤ 100000000000000000
theorem inst_bound {f : Int} (h : instB f = true) : -100000000000000000 ≤ f ∧ f ≤ 100000000000000000 := by
  unfold instB inB at h
  simp at h
  omega
end Go.Proofs.Ytddiicljoekhmaa
