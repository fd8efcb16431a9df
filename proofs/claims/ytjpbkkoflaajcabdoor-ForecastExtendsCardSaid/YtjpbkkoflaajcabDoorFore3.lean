/- The day of a rule in a year: by its week, and by all days of the month; plain. -/
import Derived.Test.YtjpbkkoflaajcabDoorFore2
import Derived.Test.YtjpbkkoflaajcabDoorDate3
import Derived.Test.YtjpbkkoflaajcabDoorLine2
namespace Go.Proofs.YtjpbkkoflaajcabDoor
set_option linter.unusedVariables false
set_option maxRecDepth 100000
open Go.RowKit greg

/-- n days, seven days apart. -/
def wks (a : Int) : Nat → List Int
  | 0 => []
  | n + 1 => wks a n ++ [a + 7 * (n : Int)]
theorem wks_len (a : Int) : ∀ n, (wks a n).length = n
  | 0 => rfl
  | n + 1 => by rw [wks, List.length_append, wks_len a n]; rfl
theorem wks_at (a : Int) : ∀ (n j : Nat), j < n → (wks a n)[j]? = some (a + 7 * (j : Int))
  | 0, j, h => by omega
  | n + 1, j, h => by
    rw [wks]
    rcases Nat.lt_or_ge j n with h1 | h1
    · rw [List.getElem?_append_left (by rw [wks_len]; exact h1)]; exact wks_at a n j h1
    · obtain rfl : j = n := by omega
      rw [List.getElem?_append_right (by rw [wks_len]; omega), wks_len]; simp
theorem wks_mem (a : Int) : ∀ (n : Nat) (x : Int), x ∈ wks a n → a ≤ x ∧ x ≤ a + 7 * (n : Int)
  | 0, x, h => by simp [wks] at h
  | n + 1, x, h => by
    rw [wks] at h
    rcases List.mem_append.1 h with h | h
    · have := wks_mem a n x h; omega
    · simp at h; omega
/-- The place of the first day with weekday wd behind day D. -/
def wkE (D wd : Int) : Nat := ((wd - (D + 6)) % 7).toNat
/-- How many of the first k days of a month of L days have that weekday. -/
def wkC (L e k : Nat) : Nat := (min k L + 6 - e) / 7
theorem wkE_lt (D wd : Int) : wkE D wd < 7 := by unfold wkE; omega
theorem wk_yes {D wd : Int} {L k : Nat} (h0 : 0 ≤ wd) (h1 : wd ≤ 6) (hk : k + 1 ≤ L) (h : (D + k + 6) % 7 = wd) : wkC L (wkE D wd) (k + 1) = wkC L (wkE D wd) k + 1 ∧ D + k = (D + wkE D wd) + 7 * (wkC L (wkE D wd) k : Int) := by
  unfold wkC wkE; omega
theorem wk_no {D wd : Int} {L k : Nat} (h0 : 0 ≤ wd) (h1 : wd ≤ 6) (h : ¬ (D + k + 6) % 7 = wd) : wkC L (wkE D wd) (k + 1) = wkC L (wkE D wd) k := by
  unfold wkC wkE; omega
theorem wk_out {L e k : Nat} (h : ¬ k + 1 ≤ L) : wkC L e (k + 1) = wkC L e k := by unfold wkC; omega
theorem wk_end {L e : Nat} (h : 28 ≤ L) (h2 : L ≤ 31) (he : e < 7) : 4 ≤ wkC L e 31 ∧ wkC L e 31 ≤ 5 := by unfold wkC; omega
theorem wk_bound {L e k : Nat} (h : k ≤ 31) : wkC L e k ≤ 5 := by unfold wkC; omega
/-- The day of a rule in a year. -/
def ruleDay (y m wk wd : Int) : Int := if wk = 5 then nthDay (num y m 1 + (lenN (leapI y) m.toNat : Int) - 1) wd (-1) else nthDay (num y m 1) wd wk
theorem lenN_in (l : Bool) (m : Nat) : 28 ≤ lenN l m ∧ lenN l m ≤ 31 := by
  unfold lenN
  cases Nat.beq m 2 <;> cases l <;> cases (Nat.beq m 4 || Nat.beq m 6 || Nat.beq m 9 || Nat.beq m 11) <;> simp
theorem ruleDay_last {y m wd : Int} (h0 : 0 ≤ wd) (h1 : wd ≤ 6) : ruleDay y m 5 wd = (num y m 1 + wkE (num y m 1) wd) + 7 * ((wkC (lenN (leapI y) m.toNat) (wkE (num y m 1) wd) 31 - 1 : Nat) : Int) := by
  obtain ⟨a, b⟩ := lenN_in (leapI y) m.toNat
  rw [ruleDay, if_pos rfl, nthDay, if_pos (by omega)]
  generalize lenN (leapI y) m.toNat = L at *
  generalize num y m 1 = D at *
  unfold wkC wkE; omega
theorem ruleDay_week {y m wk wd : Int} (hw : 1 ≤ wk) (hw2 : wk ≤ 4) (h0 : 0 ≤ wd) (h1 : wd ≤ 6) : ruleDay y m wk wd = (num y m 1 + wkE (num y m 1) wd) + 7 * (wk - 1) := by
  rw [ruleDay, if_neg (by omega), nthDay, if_neg (by omega)]
  generalize num y m 1 = D at *
  unfold wkE; omega
theorem num_day (y m d : Int) : num y m d = num y m 1 + (d - 1) := by unfold num; omega
theorem ruleDay_bound {y m wk wd : Int} (y1 : -10000 ≤ y) (y2 : y ≤ 10000) (m1 : 1 ≤ m) (m2 : m ≤ 12) (hw : 1 ≤ wk) (hw2 : wk ≤ 5) (h0 : 0 ≤ wd) (h1 : wd ≤ 6) : -4000000 ≤ ruleDay y m wk wd ∧ ruleDay y m wk wd ≤ 4000000 := by
  obtain ⟨a, b⟩ := lenN_in (leapI y) m.toNat
  have v1 := num_bound y m 1 y1 y2 ⟨m1, m2, by omega, by omega⟩
  have v2 := num_bound y m (lenN (leapI y) m.toNat : Int) y1 y2 ⟨m1, m2, by omega, by omega⟩
  rw [num_day] at v2
  have he := wkE_lt (num y m 1) wd
  by_cases q : wk = 5
  · subst q
    rw [ruleDay_last h0 h1]
    generalize lenN (leapI y) m.toNat = L at *
    generalize num y m 1 = D at *
    unfold wkC; omega
  · rw [ruleDay_week hw (by omega) h0 h1]
    generalize lenN (leapI y) m.toNat = L at *
    generalize num y m 1 = D at *
    omega
theorem nth_first {y m wk wd : Int} (y1 : -10000 ≤ y) (y2 : y ≤ 10000) (m1 : 1 ≤ m) (m2 : m ≤ 12) (hw : 1 ≤ wk) (hw2 : wk ≤ 4) (h0 : 0 ≤ wd) (h1 : wd ≤ 6) : nthOut (num y m 1) wd wk = .tuple #[.int .i64 (ruleDay y m wk wd), .int .i64 0] := by
  obtain ⟨a, b⟩ := lenN_in (leapI y) m.toNat
  have v1 := num_bound y m 1 y1 y2 ⟨m1, m2, by omega, by omega⟩
  have v3 := ruleDay_bound y1 y2 m1 m2 hw (by omega) h0 h1
  have e : ruleDay y m wk wd = nthDay (num y m 1) wd wk := if_neg (by omega)
  rw [e] at v3 ⊢
  unfold nthOut
  rw [if_neg (by omega), if_neg (by omega), if_neg (by omega), if_neg (by omega)]
theorem nth_last {y m wd : Int} (y1 : -10000 ≤ y) (y2 : y ≤ 10000) (m1 : 1 ≤ m) (m2 : m ≤ 12) (h0 : 0 ≤ wd) (h1 : wd ≤ 6) : nthOut (num y m 1 + (lenN (leapI y) m.toNat : Int) - 1) wd (-1) = .tuple #[.int .i64 (ruleDay y m 5 wd), .int .i64 0] := by
  obtain ⟨a, b⟩ := lenN_in (leapI y) m.toNat
  have v1 := num_bound y m 1 y1 y2 ⟨m1, m2, by omega, by omega⟩
  have v2 := num_bound y m (lenN (leapI y) m.toNat : Int) y1 y2 ⟨m1, m2, by omega, by omega⟩
  rw [num_day] at v2
  have v3 := ruleDay_bound (wk := 5) y1 y2 m1 m2 (by omega) (by omega) h0 h1
  have e : ruleDay y m 5 wd = nthDay (num y m 1 + (lenN (leapI y) m.toNat : Int) - 1) wd (-1) := if_pos rfl
  rw [e] at v3 ⊢
  unfold nthOut
  rw [if_neg (by omega), if_neg (by omega), if_neg (by omega), if_neg (by omega)]
end Go.Proofs.YtjpbkkoflaajcabDoor
