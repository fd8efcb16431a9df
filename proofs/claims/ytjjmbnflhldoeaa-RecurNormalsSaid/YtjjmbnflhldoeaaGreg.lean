/- The Gregorian calendar, plain: the year of a day of the 400 years' cycle. No program in sight. -/
namespace Go.Proofs.Ytjjmbnflhldoeaa.greg
set_option linter.unusedVariables false
set_option maxRecDepth 100000

def allTo : Nat → (Nat → Bool) → Bool
  | 0, _ => true
  | k + 1, p => p k && allTo k p
theorem allTo_spec {p : Nat → Bool} : ∀ {k : Nat}, allTo k p = true → ∀ i, i < k → p i = true
  | 0, _, i, hi => by omega
  | k + 1, h, i, hi => by
    unfold allTo at h
    rw [Bool.and_eq_true] at h
    by_cases hk : i = k
    · rw [hk]; exact h.1
    · exact allTo_spec h.2 i (by omega)

def g (n : Nat) : Nat := n - n / 1460 + n / 36524 - n / 146096
def yOf (n : Nat) : Nat := g n / 365
/-- The first day of a March year. -/
def start (y : Nat) : Nat := 365 * y + y / 4 - y / 100
theorem g_step (n : Nat) (h : n + 1 < 146097) : g n ≤ g (n + 1) := by unfold g; omega
theorem g_mono (a : Nat) : ∀ k, a + k < 146097 → g a ≤ g (a + k)
  | 0, _ => Nat.le_refl _
  | k + 1, h => Nat.le_trans (g_mono a k (by omega)) (g_step (a + k) (by omega))
def stop (y : Nat) : Nat := if y = 399 then 146097 else start (y + 1)
theorem ends : allTo 400 (fun y => Nat.ble (365 * y) (g (start y)) && Nat.ble (g (stop y - 1)) (365 * y + 364) && Nat.ble (stop y) 146097 && Nat.ble (start y + 365) (stop y) && Nat.ble (stop y) (start y + 366)) = true := by decide +kernel
theorem ends_at (y : Nat) (h : y < 400) : 365 * y ≤ g (start y) ∧ g (stop y - 1) ≤ 365 * y + 364 ∧ stop y ≤ 146097 ∧ start y + 365 ≤ stop y ∧ stop y ≤ start y + 366 := by
  have h1 := allTo_spec ends y h
  simp only [Bool.and_eq_true] at h1
  exact ⟨Nat.le_of_ble_eq_true h1.1.1.1.1, Nat.le_of_ble_eq_true h1.1.1.1.2, Nat.le_of_ble_eq_true h1.1.1.2, Nat.le_of_ble_eq_true h1.1.2, Nat.le_of_ble_eq_true h1.2⟩
/-- The March year of a day. -/
theorem yOf_at (y n : Nat) (hy : y < 400) (h1 : start y ≤ n) (h2 : n < stop y) : yOf n = y := by
  obtain ⟨e1, e2, e3, e4, e5⟩ := ends_at y hy
  have a := g_mono (start y) (n - start y) (by omega)
  rw [show start y + (n - start y) = n by omega] at a
  have b := g_mono n (stop y - 1 - n) (by omega)
  rw [show n + (stop y - 1 - n) = stop y - 1 by omega] at b
  unfold yOf
  omega
/-- Every day of the cycle lies in a March year. -/
theorem in_year (n : Nat) (h : n < 146097) : ∃ y, y < 400 ∧ start y ≤ n ∧ n < stop y := by
  have key : ∀ k, k ≤ 399 → (∃ y, y < k ∧ start y ≤ n ∧ n < stop y) ∨ start k ≤ n := by
    intro k
    induction k with
    | zero => intro _; exact .inr (by simp [start])
    | succ k ih =>
      intro hk
      rcases ih (by omega) with ⟨y, hy, q⟩ | q
      · exact .inl ⟨y, by omega, q⟩
      · by_cases hs : n < stop k
        · exact .inl ⟨k, by omega, q, hs⟩
        · exact .inr (by unfold stop at hs; rw [if_neg (by omega)] at hs; omega)
  rcases key 399 (by omega) with ⟨y, hy, q⟩ | q
  · exact ⟨y, by omega, q⟩
  · exact ⟨399, by omega, q, by unfold stop; rw [if_pos rfl]; exact h⟩
theorem yOf_spec (n : Nat) (h : n < 146097) : yOf n < 400 ∧ start (yOf n) ≤ n ∧ n < stop (yOf n) := by
  obtain ⟨y, hy, h1, h2⟩ := in_year n h
  rw [yOf_at y n hy h1 h2]
  exact ⟨hy, h1, h2⟩
def leapN (y : Nat) : Bool := Nat.beq (y % 4) 0 && (!Nat.beq (y % 100) 0 || Nat.beq (y % 400) 0)
/-- The days before a year, 400 years on. -/
def S (y : Nat) : Nat := 365 * (y + 399) + (y + 399) / 4 - (y + 399) / 100 + (y + 399) / 400
theorem years : allTo 400 (fun y => Nat.beq (stop y) (start y + (bif leapN (y + 1) then 366 else 365)) && Nat.beq (S y + (bif leapN y then 60 else 59) + 306) (start y + 146097) && Nat.beq (S (y + 1)) (start y + 146097)) = true := by decide +kernel
theorem years_at (y : Nat) (h : y < 400) : stop y = start y + (bif leapN (y + 1) then 366 else 365) ∧ S y + (bif leapN y then 60 else 59) + 306 = start y + 146097 ∧ S (y + 1) = start y + 146097 := by
  have h1 := allTo_spec years y h
  simp only [Bool.and_eq_true] at h1
  exact ⟨Nat.eq_of_beq_eq_true h1.1.1, Nat.eq_of_beq_eq_true h1.1.2, Nat.eq_of_beq_eq_true h1.2⟩
def mR (r : Nat) : Nat := (5 * r + 2) / 153
def dR (r : Nat) : Nat := r - (153 * mR r + 2) / 5 + 1
/-- The length of the month m + 3 (February: 29). -/
def lenM (m : Nat) : Nat := bif Nat.beq m 11 then 29 else bif Nat.beq m 1 || Nat.beq m 3 || Nat.beq m 6 || Nat.beq m 8 then 30 else 31
theorem months : allTo 366 (fun r => Nat.ble (mR r) 11 && Nat.ble ((153 * mR r + 2) / 5) r && Nat.ble (dR r) (lenM (mR r)) && (Nat.beq r 365 || !(Nat.beq (mR r) 11 && Nat.beq (dR r) 29))) = true := by decide +kernel
theorem months_at (r : Nat) (h : r < 366) : mR r ≤ 11 ∧ (153 * mR r + 2) / 5 ≤ r ∧ dR r ≤ lenM (mR r) ∧ (r = 365 ∨ ¬ (mR r = 11 ∧ dR r = 29)) := by
  have h1 := allTo_spec months r h
  simp only [Bool.and_eq_true, Bool.or_eq_true, Bool.not_eq_true', Bool.and_eq_false_iff] at h1
  refine ⟨Nat.le_of_ble_eq_true h1.1.1.1, Nat.le_of_ble_eq_true h1.1.1.2, Nat.le_of_ble_eq_true h1.1.2, ?_⟩
  rcases h1.2 with h | h
  · exact .inl (Nat.eq_of_beq_eq_true h)
  · refine .inr fun ⟨a, b⟩ => ?_
    rw [a, b] at h
    simp at h
end Go.Proofs.Ytjjmbnflhldoeaa.greg
