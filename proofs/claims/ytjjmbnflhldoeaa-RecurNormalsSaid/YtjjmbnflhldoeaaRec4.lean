/- The days of a month, counted: how long the month goes on behind a day. -/
import Derived.Test.YtjjmbnflhldoeaaRec3
namespace Go.Proofs.Ytjjmbnflhldoeaa
set_option linter.unusedVariables false
set_option maxRecDepth 100000
open Go.RowKit greg

theorem month_same (x j : Int) (h0 : 0 ≤ j) (h : gD x + j ≤ mlen x) : gM (x + j) = gM x := by
  obtain ⟨⟨v1, v2, v3, v4⟩, hn⟩ := greg_spec x
  have hv : Valid (gY x) (gM x) (gD x + j) := ⟨v1, v2, by omega, h⟩
  exact (greg_of (x + j) _ _ _ hv (by unfold num at hn ⊢; omega)).2.1
theorem lenN_pos (l : Bool) (m : Nat) : 28 ≤ lenN l m := by
  unfold lenN
  cases l <;> cases m.beq 2 <;> cases (m.beq 4 || m.beq 6 || m.beq 9 || m.beq 11) <;> simp
theorem month_next (x : Int) : gM (x + (mlen x - gD x) + 1) ≠ gM x := by
  obtain ⟨⟨v1, v2, v3, v4⟩, hn⟩ := greg_spec x
  have hl : mlen x = (lenN (leapI (gY x)) (gM x).toNat : Int) := rfl
  rcases Int.lt_or_eq_of_le v2 with hm | hm
  · have hp := lenN_pos (leapI (gY x)) (gM x + 1).toNat
    have hv : Valid (gY x) (gM x + 1) 1 := ⟨by omega, by omega, by omega, by omega⟩
    have hc : cumN (leapI (gY x)) (gM x + 1).toNat = cumN (leapI (gY x)) (gM x).toNat + lenN (leapI (gY x)) (gM x).toNat := by
      have e1 : (gM x + 1).toNat = (gM x).toNat - 1 + 1 + 1 := by omega
      have e2 : (gM x).toNat = (gM x).toNat - 1 + 1 := by omega
      rw [e1, cumN_next, ← e2]
    have := greg_of (x + (mlen x - gD x) + 1) _ _ _ hv (by unfold num at hn ⊢; omega)
    omega
  · have hp := lenN_pos (leapI (gY x + 1)) 1
    have hv : Valid (gY x + 1) 1 1 := ⟨by omega, by omega, by omega, by have : (1 : Int).toNat = 1 := rfl; rw [this]; omega⟩
    have hc : cumN (leapI (gY x)) 13 = cumN (leapI (gY x)) 12 + lenN (leapI (gY x)) 12 := cumN_next _ 11
    have he := cum_end (leapI (gY x))
    have hs := NY_succ (gY x)
    have h12 : (gM x).toNat = 12 := by omega
    have h1 : cumN (leapI (gY x + 1)) 1 = 0 := rfl
    have := greg_of (x + (mlen x - gD x) + 1) _ _ _ hv (by
      unfold num at hn ⊢
      have h10 : (1 : Int).toNat = 1 := rfl
      rw [h10, h1]
      rw [h12] at hn hl
      have : ((bif leapI (gY x) then 366 else 365 : Int)) = ((bif leapI (gY x) then 366 else 365 : Nat) : Int) := by cases leapI (gY x) <;> rfl
      rw [this, ← he] at hs
      omega)
    omega
end Go.Proofs.Ytjjmbnflhldoeaa
