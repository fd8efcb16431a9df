/- Several texts in one: Greg, Greg2. -/

/- The Gregorian calendar, plain: the year of a day of the 400 years' cycle. No program in sight. -/
namespace Go.Proofs.YtdmkghgachapaaaGreatDoor.greg
set_option linter.unusedVariables false
set_option maxRecDepth 100000

def allTo : Nat → (Nat → Bool) → Bool
  | 0, _ => true
  | k + 1, p => p k && allTo k p
theorem allTo_spec {p : Nat → Bool} : ∀ {k : Nat}, allTo k p = true → ∀ i, i < k → p i = true
  | 0, _, i, hi => by omega
  | k + 1, h, i, hi => by
    unfold allTo at h
    rw [Bool.and_eq_true] at h
    by_cases hk : i = k
    · rw [hk]; exact h.1
    · exact allTo_spec h.2 i (by omega)

def g (n : Nat) : Nat := n - n / 1460 + n / 36524 - n / 146096
def yOf (n : Nat) : Nat := g n / 365
/-- The first day of a March year. -/
def start (y : Nat) : Nat := 365 * y + y / 4 - y / 100
theorem g_step (n : Nat) (h : n + 1 < 146097) : g n ≤ g (n + 1) := by unfold g; omega
theorem g_mono (a : Nat) : ∀ k, a + k < 146097 → g a ≤ g (a + k)
  | 0, _ => Nat.le_refl _
  | k + 1, h => Nat.le_trans (g_mono a k (by omega)) (g_step (a + k) (by omega))
def stop (y : Nat) : Nat := if y = 399 then 146097 else start (y + 1)
theorem ends : allTo 400 (fun y => Nat.ble (365 * y) (g (start y)) && Nat.ble (g (stop y - 1)) (365 * y + 364) && Nat.ble (stop y) 146097 && Nat.ble (start y + 365) (stop y) && Nat.ble (stop y) (start y + 366)) = true := by decide +kernel
theorem ends_at (y : Nat) (h : y < 400) : 365 * y ≤ g (start y) ∧ g (stop y - 1) ≤ 365 * y + 364 ∧ stop y ≤ 146097 ∧ start y + 365 ≤ stop y ∧ stop y ≤ start y + 366 := by
  have h1 := allTo_spec ends y h
  simp only [Bool.and_eq_true] at h1
  exact ⟨Nat.le_of_ble_eq_true h1.1.1.1.1, Nat.le_of_ble_eq_true h1.1.1.1.2, Nat.le_of_ble_eq_true h1.1.1.2, Nat.le_of_ble_eq_true h1.1.2, Nat.le_of_ble_eq_true h1.2⟩
/-- The March year of a day. -/
theorem yOf_at (y n : Nat) (hy : y < 400) (h1 : start y ≤ n) (h2 : n < stop y) : yOf n = y := by
  obtain ⟨e1, e2, e3, e4, e5⟩ := ends_at y hy
  have a := g_mono (start y) (n - start y) (by omega)
  rw [show start y + (n - start y) = n by omega] at a
  have b := g_mono n (stop y - 1 - n) (by omega)
  rw [show n + (stop y - 1 - n) = stop y - 1 by omega] at b
  unfold yOf
  omega
/-- Every day of the cycle lies in a March year. -/
theorem in_year (n : Nat) (h : n < 146097) : ∃ y, y < 400 ∧ start y ≤ n ∧ n < stop y := by
  have key : ∀ k, k ≤ 399 → (∃ y, y < k ∧ start y ≤ n ∧ n < stop y) ∨ start k ≤ n := by
    intro k
    induction k with
    | zero => intro _; exact .inr (by simp [start])
    | succ k ih =>
      intro hk
      rcases ih (by omega) with ⟨y, hy, q⟩ | q
      · exact .inl ⟨y, by omega, q⟩
      · by_cases hs : n < stop k
        · exact .inl ⟨k, by omega, q, hs⟩
        · exact .inr (by unfold stop at hs; rw [if_neg (by omega)] at hs; omega)
  rcases key 399 (by omega) with ⟨y, hy, q⟩ | q
  · exact ⟨y, by omega, q⟩
  · exact ⟨399, by omega, q, by unfold stop; rw [if_pos rfl]; exact h⟩
theorem yOf_spec (n : Nat) (h : n < 146097) : yOf n < 400 ∧ start (yOf n) ≤ n ∧ n < stop (yOf n) := by
  obtain ⟨y, hy, h1, h2⟩ := in_year n h
  rw [yOf_at y n hy h1 h2]
  exact ⟨hy, h1, h2⟩
def leapN (y : Nat) : Bool := Nat.beq (y % 4) 0 && (!Nat.beq (y % 100) 0 || Nat.beq (y % 400) 0)
/-- The days before a year, 400 years on. -/
def S (y : Nat) : Nat := 365 * (y + 399) + (y + 399) / 4 - (y + 399) / 100 + (y + 399) / 400
theorem years : allTo 400 (fun y => Nat.beq (stop y) (start y + (bif leapN (y + 1) then 366 else 365)) && Nat.beq (S y + (bif leapN y then 60 else 59) + 306) (start y + 146097) && Nat.beq (S (y + 1)) (start y + 146097)) = true := by decide +kernel
theorem years_at (y : Nat) (h : y < 400) : stop y = start y + (bif leapN (y + 1) then 366 else 365) ∧ S y + (bif leapN y then 60 else 59) + 306 = start y + 146097 ∧ S (y + 1) = start y + 146097 := by
  have h1 := allTo_spec years y h
  simp only [Bool.and_eq_true] at h1
  exact ⟨Nat.eq_of_beq_eq_true h1.1.1, Nat.eq_of_beq_eq_true h1.1.2, Nat.eq_of_beq_eq_true h1.2⟩
def mR (r : Nat) : Nat := (5 * r + 2) / 153
def dR (r : Nat) : Nat := r - (153 * mR r + 2) / 5 + 1
/-- The length of the month m + 3 (February: 29). -/
def lenM (m : Nat) : Nat := bif Nat.beq m 11 then 29 else bif Nat.beq m 1 || Nat.beq m 3 || Nat.beq m 6 || Nat.beq m 8 then 30 else 31
theorem months : allTo 366 (fun r => Nat.ble (mR r) 11 && Nat.ble ((153 * mR r + 2) / 5) r && Nat.ble (dR r) (lenM (mR r)) && (Nat.beq r 365 || !(Nat.beq (mR r) 11 && Nat.beq (dR r) 29))) = true := by decide +kernel
theorem months_at (r : Nat) (h : r < 366) : mR r ≤ 11 ∧ (153 * mR r + 2) / 5 ≤ r ∧ dR r ≤ lenM (mR r) ∧ (r = 365 ∨ ¬ (mR r = 11 ∧ dR r = 29)) := by
  have h1 := allTo_spec months r h
  simp only [Bool.and_eq_true, Bool.or_eq_true, Bool.not_eq_true', Bool.and_eq_false_iff] at h1
  refine ⟨Nat.le_of_ble_eq_true h1.1.1.1, Nat.le_of_ble_eq_true h1.1.1.2, Nat.le_of_ble_eq_true h1.1.2, ?_⟩
  rcases h1.2 with h | h
  · exact .inl (Nat.eq_of_beq_eq_true h)
  · refine .inr fun ⟨a, b⟩ => ?_
    rw [a, b] at h
    simp at h
end Go.Proofs.YtdmkghgachapaaaGreatDoor.greg

/- The Gregorian calendar, plain, second part: valid dates, the number of a date, its uniqueness, and that the reference's date of a day has that day's number. -/
namespace Go.Proofs.YtdmkghgachapaaaGreatDoor.greg
set_option linter.unusedVariables false
set_option maxRecDepth 100000

def leapI (y : Int) : Bool := decide (y % 4 = 0 ∧ (y % 100 ≠ 0 ∨ y % 400 = 0))
def NY (y : Int) : Int := 365 * (y - 1) + (y - 1) / 4 - (y - 1) / 100 + (y - 1) / 400 + 1
def lenN (l : Bool) (m : Nat) : Nat := bif Nat.beq m 2 then (bif l then 29 else 28) else bif Nat.beq m 4 || Nat.beq m 6 || Nat.beq m 9 || Nat.beq m 11 then 30 else 31
def cumN (l : Bool) : Nat → Nat
  | 0 => 0
  | m + 1 => bif Nat.beq m 0 then 0 else cumN l m + lenN l m
def num (y m d : Int) : Int := NY y + (cumN (leapI y) m.toNat : Int) + d - 1
def Valid (y m d : Int) : Prop := 1 ≤ m ∧ m ≤ 12 ∧ 1 ≤ d ∧ d ≤ (lenN (leapI y) m.toNat : Int)
theorem leapI_cases (y : Int) : (leapI y = true ∧ y % 4 = 0 ∧ (y % 100 ≠ 0 ∨ y % 400 = 0)) ∨ (leapI y = false ∧ ¬ (y % 4 = 0 ∧ (y % 100 ≠ 0 ∨ y % 400 = 0))) := by
  unfold leapI
  by_cases h : y % 4 = 0 ∧ (y % 100 ≠ 0 ∨ y % 400 = 0)
  · exact .inl ⟨decide_eq_true h, h⟩
  · exact .inr ⟨decide_eq_false h, h⟩
theorem NY_succ (y : Int) : NY (y + 1) = NY y + (bif leapI y then 366 else 365) := by
  rcases leapI_cases y with ⟨h, h1, h2⟩ | ⟨h, h1⟩
  · rw [h]; simp only [cond_true]; unfold NY; omega
  · rw [h]; simp only [cond_false]; unfold NY; omega
theorem NY_step (y : Int) : NY y + 365 ≤ NY (y + 1) ∧ NY (y + 1) ≤ NY y + 366 := by
  rw [NY_succ]; cases leapI y <;> simp
theorem NY_mono (a b : Int) (h : a ≤ b) : NY a ≤ NY b := by unfold NY; omega
theorem cum_table : ∀ l : Bool, ∀ m m' : Fin 14, 1 ≤ m.val → m.val < m'.val → cumN l m.val + lenN l m.val ≤ cumN l m'.val := by decide +kernel
theorem cum_end : ∀ l : Bool, cumN l 13 = bif l then 366 else 365 := by decide +kernel
theorem cum_lt (l : Bool) (m m' : Nat) (h1 : 1 ≤ m) (h2 : m < m') (h3 : m' ≤ 13) : cumN l m + lenN l m ≤ cumN l m' := cum_table l ⟨m, by omega⟩ ⟨m', by omega⟩ h1 h2
theorem num_in (y m d : Int) (h : Valid y m d) : NY y ≤ num y m d ∧ num y m d < NY (y + 1) := by
  obtain ⟨m1, m2, d1, d2⟩ := h
  have hc := cum_lt (leapI y) m.toNat 13 (by omega) (by omega) (by omega)
  rw [cum_end] at hc
  rw [NY_succ]
  unfold num
  cases hl : leapI y <;> rw [hl] at hc d2 <;> simp only [cond_true, cond_false] at hc ⊢ <;> omega
/-- A day has one date. -/
theorem num_inj (y m d y' m' d' : Int) (h : Valid y m d) (h' : Valid y' m' d') (he : num y m d = num y' m' d') : y = y' ∧ m = m' ∧ d = d' := by
  have a := num_in y m d h
  have a' := num_in y' m' d' h'
  have hy : y = y' := by
    rcases Int.lt_trichotomy y y' with hlt | heq | hgt
    · have := NY_mono (y + 1) y' (by omega); omega
    · exact heq
    · have := NY_mono (y' + 1) y (by omega); omega
  subst hy
  obtain ⟨m1, m2, d1, d2⟩ := h
  obtain ⟨m1', m2', d1', d2'⟩ := h'
  unfold num at he
  have hm : m = m' := by
    rcases Int.lt_trichotomy m m' with hlt | heq | hgt
    · have := cum_lt (leapI y) m.toNat m'.toNat (by omega) (by omega) (by omega); omega
    · exact heq
    · have := cum_lt (leapI y) m'.toNat m.toNat (by omega) (by omega) (by omega); omega
  subst hm
  exact ⟨rfl, rfl, by omega⟩

/-! The reference's date. -/
def era (x : Int) : Int := (x + 305) / 146097
def nOf (x : Int) : Nat := ((x + 305) % 146097).toNat
def rOf (x : Int) : Nat := nOf x - start (yOf (nOf x))
def gM (x : Int) : Int := if 10 ≤ mR (rOf x) then (mR (rOf x) : Int) - 9 else (mR (rOf x) : Int) + 3
def gY (x : Int) : Int := if 10 ≤ mR (rOf x) then (yOf (nOf x) : Int) + 400 * era x + 1 else (yOf (nOf x) : Int) + 400 * era x
def gD (x : Int) : Int := (dR (rOf x) : Int)
theorem leap_cycle (y e : Int) : leapI (y + 400 * e) = leapI y := by
  unfold leapI
  have h1 : (y + 400 * e) % 4 = y % 4 := by omega
  have h2 : (y + 400 * e) % 100 = y % 100 := by omega
  have h3 : (y + 400 * e) % 400 = y % 400 := by omega
  rw [h1, h2, h3]
theorem beq_iff (a b : Nat) : Nat.beq a b = true ↔ a = b := ⟨Nat.eq_of_beq_eq_true, fun h => by rw [h]; exact Nat.beq_refl b⟩
theorem leap_nat (y : Nat) : leapI (y : Int) = leapN y := by
  rw [Bool.eq_iff_iff]
  unfold leapI leapN
  have e1 : Nat.beq (y % 100) 0 = false ↔ ¬ y % 100 = 0 := by rw [← beq_iff, Bool.not_eq_true]
  simp only [decide_eq_true_eq, Bool.and_eq_true, Bool.or_eq_true, Bool.not_eq_true', beq_iff, e1]
  omega
theorem NY_cycle (y e : Int) : NY (y + 400 * e) = NY y + 146097 * e := by unfold NY; omega
theorem NY_nat (y : Nat) : NY (y : Int) = (S y : Int) - 146096 := by unfold NY S; omega
theorem cum_march : ∀ l : Bool, ∀ m : Fin 10, cumN l (m.val + 3) = (bif l then 60 else 59) + (153 * m.val + 2) / 5 ∧ lenM m.val = lenN l (m.val + 3) := by decide +kernel
theorem cum_jan : ∀ l : Bool, cumN l 1 + 306 = (153 * 10 + 2) / 5 ∧ cumN l 2 + 306 = (153 * 11 + 2) / 5 ∧ lenM 10 = lenN l 1 ∧ lenM 11 = 29 ∧ lenN true 2 = 29 ∧ lenN false 2 = 28 := by decide +kernel
theorem greg_spec (x : Int) : Valid (gY x) (gM x) (gD x) ∧ num (gY x) (gM x) (gD x) = x := by
  have hn : nOf x < 146097 := by unfold nOf; omega
  have hz : x + 305 = 146097 * era x + (nOf x : Int) := by unfold era nOf; omega
  obtain ⟨y1, y2, y3⟩ := yOf_spec (nOf x) hn
  obtain ⟨s1, s2, s3⟩ := years_at (yOf (nOf x)) y1
  have hr : (nOf x : Int) = (start (yOf (nOf x)) : Int) + (rOf x : Int) := by unfold rOf; omega
  have hr2 : rOf x < 366 := by
    unfold rOf
    rw [s1] at y3
    cases hl : leapN (yOf (nOf x) + 1) <;> rw [hl] at y3 <;> simp only [cond_true, cond_false] at y3 <;> omega
  obtain ⟨q1, q2, q3, q4⟩ := months_at (rOf x) hr2
  have hd : (dR (rOf x) : Int) = (rOf x : Int) - (((153 * mR (rOf x) + 2) / 5 : Nat) : Int) + 1 := by unfold dR; omega
  have hd1 : 1 ≤ dR (rOf x) := by unfold dR; omega
  by_cases hm : 10 ≤ mR (rOf x)
  · have e1 : gY x = ((yOf (nOf x) + 1 : Nat) : Int) + 400 * era x := by unfold gY; rw [if_pos hm]; omega
    have e2 : gM x = (mR (rOf x) : Int) - 9 := by unfold gM; rw [if_pos hm]
    have hmt : (gM x).toNat = mR (rOf x) - 9 := by rw [e2]; omega
    have hlp : leapI (gY x) = leapN (yOf (nOf x) + 1) := by rw [e1, leap_cycle, leap_nat]
    have hNY : NY (gY x) = (start (yOf (nOf x)) : Int) + 1 + 146097 * era x := by rw [e1, NY_cycle, NY_nat, s3]; omega
    have hlp2 : mR (rOf x) = 11 → dR (rOf x) = 29 → leapN (yOf (nOf x) + 1) = true := by
      intro a b
      rcases q4 with h | h
      · cases hl : leapN (yOf (nOf x) + 1) with
        | true => rfl
        | false =>
          rw [s1, hl] at y3; simp only [cond_false] at y3
          omega
      · exact absurd ⟨a, b⟩ h
    have hm2 : mR (rOf x) = 10 ∨ mR (rOf x) = 11 := by omega
    unfold Valid num
    rw [hmt, hlp, hNY, e2]
    unfold gD
    obtain ⟨c1, c2, c3, c4, c5, c6⟩ := cum_jan (leapN (yOf (nOf x) + 1))
    rcases hm2 with hm2 | hm2
    · rw [hm2] at hd q3 q2 ⊢
      rw [c3] at q3
      simp only [show 10 - 9 = 1 from rfl]
      refine ⟨⟨by omega, by omega, by omega, by omega⟩, by omega⟩
    · rw [hm2] at hd q3 q2 ⊢
      rw [c4] at q3
      simp only [show 11 - 9 = 2 from rfl]
      have hlen : dR (rOf x) ≤ lenN (leapN (yOf (nOf x) + 1)) 2 := by
        by_cases h29 : dR (rOf x) = 29
        · rw [hlp2 hm2 h29, c5]; omega
        · cases leapN (yOf (nOf x) + 1)
          · rw [c6]; omega
          · rw [c5]; omega
      refine ⟨⟨by omega, by omega, by omega, by omega⟩, by omega⟩
  · have e1 : gY x = (yOf (nOf x) : Int) + 400 * era x := by unfold gY; rw [if_neg hm]
    have e2 : gM x = (mR (rOf x) : Int) + 3 := by unfold gM; rw [if_neg hm]
    have hmt : (gM x).toNat = mR (rOf x) + 3 := by rw [e2]; omega
    have hlp : leapI (gY x) = leapN (yOf (nOf x)) := by rw [e1, leap_cycle, leap_nat]
    obtain ⟨c1, c2⟩ := cum_march (leapN (yOf (nOf x))) ⟨mR (rOf x), by omega⟩
    simp only at c1 c2
    have hNY : NY (gY x) + ((bif leapN (yOf (nOf x)) then 60 else 59 : Nat) : Int) = (start (yOf (nOf x)) : Int) - 305 + 146097 * era x := by
      rw [e1, NY_cycle, NY_nat]; omega
    unfold Valid num
    rw [hmt, hlp, e2, c1, ← c2]
    unfold gD
    refine ⟨⟨by omega, by omega, by omega, by omega⟩, by omega⟩
theorem greg_of (x y m d : Int) (h : Valid y m d) (hn : num y m d = x) : gY x = y ∧ gM x = m ∧ gD x = d := by
  obtain ⟨a, b⟩ := greg_spec x
  exact num_inj _ _ _ _ _ _ a h (b.trans hn.symm)
end Go.Proofs.YtdmkghgachapaaaGreatDoor.greg
