/- Several texts in one: Rec4, Rec5. -/
import Derived.Test.YtdmkghgachapaaaGreatDoorRec3
/- The days of a month, counted: how long the month goes on behind a day. -/
namespace Go.Proofs.YtdmkghgachapaaaGreatDoor
set_option linter.unusedVariables false
set_option maxRecDepth 100000
open Go.RowKit greg

theorem month_same (x j : Int) (h0 : 0 ≤ j) (h : gD x + j ≤ mlen x) : gM (x + j) = gM x := by
  obtain ⟨⟨v1, v2, v3, v4⟩, hn⟩ := greg_spec x
  have hv : Valid (gY x) (gM x) (gD x + j) := ⟨v1, v2, by omega, h⟩
  exact (greg_of (x + j) _ _ _ hv (by unfold num at hn ⊢; omega)).2.1
theorem lenN_pos (l : Bool) (m : Nat) : 28 ≤ lenN l m := by
  unfold lenN
  cases l <;> cases m.beq 2 <;> cases (m.beq 4 || m.beq 6 || m.beq 9 || m.beq 11) <;> simp
theorem month_next (x : Int) : gM (x + (mlen x - gD x) + 1) ≠ gM x := by
  obtain ⟨⟨v1, v2, v3, v4⟩, hn⟩ := greg_spec x
  have hl : mlen x = (lenN (leapI (gY x)) (gM x).toNat : Int) := rfl
  rcases Int.lt_or_eq_of_le v2 with hm | hm
  · have hp := lenN_pos (leapI (gY x)) (gM x + 1).toNat
    have hv : Valid (gY x) (gM x + 1) 1 := ⟨by omega, by omega, by omega, by omega⟩
    have hc : cumN (leapI (gY x)) (gM x + 1).toNat = cumN (leapI (gY x)) (gM x).toNat + lenN (leapI (gY x)) (gM x).toNat := by
      have e1 : (gM x + 1).toNat = (gM x).toNat - 1 + 1 + 1 := by omega
      have e2 : (gM x).toNat = (gM x).toNat - 1 + 1 := by omega
      rw [e1, cumN_next, ← e2]
    have := greg_of (x + (mlen x - gD x) + 1) _ _ _ hv (by unfold num at hn ⊢; omega)
    omega
  · have hp := lenN_pos (leapI (gY x + 1)) 1
    have hv : Valid (gY x + 1) 1 1 := ⟨by omega, by omega, by omega, by have : (1 : Int).toNat = 1 := rfl; rw [this]; omega⟩
    have hc : cumN (leapI (gY x)) 13 = cumN (leapI (gY x)) 12 + lenN (leapI (gY x)) 12 := cumN_next _ 11
    have he := cum_end (leapI (gY x))
    have hs := NY_succ (gY x)
    have h12 : (gM x).toNat = 12 := by omega
    have h1 : cumN (leapI (gY x + 1)) 1 = 0 := rfl
    have := greg_of (x + (mlen x - gD x) + 1) _ _ _ hv (by
      unfold num at hn ⊢
      have h10 : (1 : Int).toNat = 1 := rfl
      rw [h10, h1]
      rw [h12] at hn hl
      have : ((bif leapI (gY x) then 366 else 365 : Int)) = ((bif leapI (gY x) then 366 else 365 : Nat) : Int) := by cases leapI (gY x) <;> rfl
      rw [this, ← he] at hs
      omega)
    omega
end Go.Proofs.YtdmkghgachapaaaGreatDoor

/- The list of the reference is the list of the program: plain. -/
namespace Go.Proofs.YtdmkghgachapaaaGreatDoor
set_option linter.unusedVariables false
set_option maxRecDepth 100000
open Go.RowKit greg

/-- The reference's list: n days from x on, c found before. -/
def refL (fit : Int → Bool) (cn a : Int) : Nat → Int → Int → List Int
  | 0, _, _ => []
  | n + 1, x, c => if fit x = true then (if (cn = 0 ∨ c + 1 ≤ cn) ∧ a ≤ x then [x] else []) ++ refL fit cn a n (x + 1) (c + 1) else refL fit cn a n (x + 1) c
theorem refL_over (fit : Int → Bool) (cn a : Int) (h : 0 < cn) : ∀ (n : Nat) (x c : Int), cn ≤ c → refL fit cn a n x c = []
  | 0, _, _, _ => rfl
  | n + 1, x, c, hc => by
    rw [refL, refL_over fit cn a h n (x + 1) (c + 1) (by omega), refL_over fit cn a h n (x + 1) c hc, if_neg (show ¬ ((cn = 0 ∨ c + 1 ≤ cn) ∧ a ≤ x) by omega)]
    split <;> rfl
theorem refL_listP (fit : Int → Bool) (cn a : Int) (h : 0 < cn) : ∀ (n : Nat) (x c : Int), refL fit cn a n x c = listP fit cn a n x c
  | 0, _, _ => rfl
  | n + 1, x, c => by
    rw [refL, listP, refL_listP fit cn a h n (x + 1) c]
    cases fit x
    · simp
    · simp only [Bool.true_eq_false, if_true, if_false]
      by_cases hc : 0 < cn ∧ cn < c + 1
      · rw [if_pos hc, if_neg (show ¬ ((cn = 0 ∨ c + 1 ≤ cn) ∧ a ≤ x) by omega), refL_over fit cn a h _ _ _ (by omega)]; rfl
      · rw [if_neg hc, refL_listP fit cn a h n (x + 1) (c + 1)]
        by_cases ha : a ≤ x
        · rw [if_pos ha, if_pos (show (cn = 0 ∨ c + 1 ≤ cn) ∧ a ≤ x from ⟨by omega, ha⟩)]
        · rw [if_neg ha, if_neg (show ¬ ((cn = 0 ∨ c + 1 ≤ cn) ∧ a ≤ x) from fun hh => ha hh.2)]
theorem refL_zero (fit : Int → Bool) (a : Int) : ∀ (n : Nat) (x c d : Int), refL fit 0 a n x c = listP fit 0 a n x d
  | 0, _, _, _ => rfl
  | n + 1, x, c, d => by
    rw [refL, listP]
    cases fit x
    · simp [refL_zero fit a n (x + 1) c d]
    · simp only [Bool.true_eq_false, if_true, if_false]
      rw [if_neg (show ¬ (0 < (0 : Int) ∧ 0 < d + 1) by omega), refL_zero fit a n (x + 1) (c + 1) (d + 1)]
      by_cases ha : a ≤ x
      · simp [ha]
      · simp [ha]
theorem refL_skip (fit : Int → Bool) (a : Int) : ∀ (k n : Nat) (x c d : Int), x + k ≤ a → refL fit 0 a (k + n) x c = listP fit 0 a n (x + k) d
  | 0, n, x, c, d, h => by
    rw [Nat.zero_add, refL_zero fit a n x c d]
    congr 1; omega
  | k + 1, n, x, c, d, h => by
    have e : k + 1 + n = k + n + 1 := by omega
    have ex : x + ((k + 1 : Nat) : Int) = x + 1 + (k : Int) := by omega
    rw [e, refL, refL_skip fit a k n (x + 1) c d (by omega), refL_skip fit a k n (x + 1) (c + 1) d (by omega), if_neg (show ¬ (((0 : Int) = 0 ∨ c + 1 ≤ 0) ∧ a ≤ x) by omega), ex]
    split <;> rfl
theorem refL_none (fit : Int → Bool) (a : Int) : ∀ (n : Nat) (x c : Int), x + n ≤ a → refL fit 0 a n x c = []
  | 0, _, _, _ => rfl
  | n + 1, x, c, h => by
    rw [refL, refL_none fit a n (x + 1) c (by omega), refL_none fit a n (x + 1) (c + 1) (by omega), if_neg (show ¬ (((0 : Int) = 0 ∨ c + 1 ≤ 0) ∧ a ≤ x) by omega)]
    split <;> rfl
theorem days_ref (fit : Int → Bool) (cn a f M : Int) (h : 0 ≤ cn) : refL fit cn a (M + 1 - f).toNat f 0 = listP fit cn a (M + 1 - lowOf f cn a).toNat (lowOf f cn a) 0 := by
  by_cases hc : cn = 0
  · subst hc
    unfold lowOf
    rw [if_pos rfl]
    by_cases ha : a ≤ f
    · rw [if_pos ha]; exact refL_zero fit a _ f 0 0
    · rw [if_neg ha]
      by_cases hm : M + 1 ≤ a
      · rw [refL_none fit a _ f 0 (by omega)]
        have : (M + 1 - a).toNat = 0 := by omega
        rw [this]; rfl
      · have e : (M + 1 - f).toNat = (a - f).toNat + (M + 1 - a).toNat := by omega
        have e2 : f + ((a - f).toNat : Int) = a := by omega
        rw [e, refL_skip fit a (a - f).toNat (M + 1 - a).toNat f 0 0 (by omega), e2]
  · unfold lowOf
    rw [if_neg hc]
    exact refL_listP fit cn a (by omega) _ f 0
/-- What the reference asks of a day of the range. -/
def refFit (u ev f : Int) (ws ms ns : List Int) (x : Int) : Bool :=
  decide ((unitOf u x (gY x) (gM x) - unitOf u f (gY f) (gM f)) % ev = 0) && (!(decide (0 < ns.length) && !hasB (gM x) ns) && (!(decide (0 < ws.length) && !hasB ((x - 1) % 7) ws) &&
    (if 0 < ms.length then hasB (gD x) ms || hasB (gD x - mlen x - 1) ms else if 0 < ws.length then true else if u = 2 then ((x - 1) % 7) == ((f - 1) % 7) else if u = 3 then gD x == gD f else if u = 4 then (gD x == gD f) && (decide (0 < ns.length) || (gM x == gM f)) else true)))
theorem refFit_eq (u ev f : Int) (ws ms ns : List Int) (x : Int) : refFit u ev f ws ms ns x = fitR u ev f ws ms ns x := by
  unfold refFit fitR fitsB fitsEnd listedB anyB
  rw [tmod_nonzero]
  simp only [List.any_cons, List.any_nil, Bool.or_false]
  have e1 : ∀ l : List Int, decide (0 < l.length) = !decide (l.length = 0) := by intro l; cases l <;> simp
  by_cases hm : 0 < ms.length
  · rw [if_pos hm, if_pos (show 0 < ws.length + ms.length by omega)]
    have : decide (ms.length = 0) = false := decide_eq_false (by omega)
    rw [e1, e1, this]
    cases decide (ns.length = 0) <;> cases decide (ws.length = 0) <;> simp
  · rw [if_neg hm]
    have : decide (ms.length = 0) = true := decide_eq_true (by omega)
    rw [this]
    by_cases hw : 0 < ws.length
    · rw [if_pos hw, if_pos (show 0 < ws.length + ms.length by omega)]
      have : decide (ws.length = 0) = false := decide_eq_false (by omega)
      rw [e1, e1, this]
      cases decide (ns.length = 0) <;> simp
    · rw [if_neg hw, if_neg (show ¬ 0 < ws.length + ms.length by omega)]
      have : decide (ws.length = 0) = true := decide_eq_true (by omega)
      rw [e1, e1, this]
      cases decide (ns.length = 0) <;> simp
end Go.Proofs.YtdmkghgachapaaaGreatDoor
