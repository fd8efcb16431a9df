/- Contracts of the reference's Greg, GregDay, GregExists and of line.Day. -/
import Derived.Test.YtjjmbnflhldoeaaDate2
import Derived.Deep.Cut
namespace Go.Proofs.Ytjjmbnflhldoeaa
set_option linter.unusedVariables false
set_option maxRecDepth 100000
open Go.RowKit greg

set_option maxHeartbeats 1000000 in
theorem ref_Greg (x : Int) (w : World) (h1 : -1000000000 ≤ x) (h2 : x ≤ 1000000000) :
    Calls Try.prog 11 #[.int .i64 x] w fun e w' => e = .returned (.agg #[.int .i64 (gY x), .int .i64 (gM x), .int .i64 (gD x)]) ∧ Below w.heap.size w w' := by
  have hn : nOf x < 146097 := by unfold nOf; omega
  have hz : (x + 305) - (x + 305) / 146097 * 146097 = (nOf x : Int) := by unfold nOf; omega
  obtain ⟨y1, y2, y3⟩ := yOf_spec (nOf x) hn
  obtain ⟨s1, _, _⟩ := years_at (yOf (nOf x)) y1
  have hr2 : rOf x < 366 := by
    unfold rOf
    rw [s1] at y3
    cases hl : leapN (yOf (nOf x) + 1) <;> rw [hl] at y3 <;> simp only [cond_true, cond_false] at y3 <;> omega
  obtain ⟨q1, q2, _, _⟩ := months_at (rOf x) hr2
  have ey : ((nOf x : Int) - (nOf x : Int) / 1460 + (nOf x : Int) / 36524 - (nOf x : Int) / 146096) / 365 = (yOf (nOf x) : Int) := by
    unfold yOf g; omega
  have er : (nOf x : Int) - (365 * (yOf (nOf x) : Int) + (yOf (nOf x) : Int) / 4 - (yOf (nOf x) : Int) / 100) = (rOf x : Int) := by
    unfold rOf; unfold greg.start at y2 ⊢; omega
  have em : (5 * (rOf x : Int) + 2) / 153 = (mR (rOf x) : Int) := by unfold mR; omega
  have ed : (rOf x : Int) - (153 * (mR (rOf x) : Int) + 2) / 5 + 1 = (dR (rOf x) : Int) := by
    have : (dR (rOf x) : Int) = (rOf x : Int) - (((153 * mR (rOf x) + 2) / 5 : Nat) : Int) + 1 := by unfold dR; omega
    rw [this]; omega
  have he : -10000 ≤ (x + 305) / 146097 ∧ (x + 305) / 146097 ≤ 10000 := by omega
  have gy : gY x = if 10 ≤ mR (rOf x) then (yOf (nOf x) : Int) + 400 * ((x + 305) / 146097) + 1 else (yOf (nOf x) : Int) + 400 * ((x + 305) / 146097) := rfl
  have gm : gM x = if 10 ≤ mR (rOf x) then (mR (rOf x) : Int) - 9 else (mR (rOf x) : Int) + 3 := rfl
  have gd : gD x = (dR (rOf x) : Int) := rfl
  rw [gy, gm, gd]
  clear gy gm gd y2 y3 s1
  obtain ⟨ee, hee⟩ : ∃ ee, ee = (x + 305) / 146097 := ⟨_, rfl⟩
  rw [← hee] at he hz ⊢
  have HEE := Lib.hid hee; clear hee
  generalize dR (rOf x) = D at *
  generalize mR (rOf x) = M at *
  generalize rOf x = R at *
  generalize yOf (nOf x) = Y at *
  generalize nOf x = n at *
  obtain ⟨e1, e2⟩ := he
  have E0 := Lib.hid hz; have E1 := Lib.hid ey; have E2 := Lib.hid er; have E3 := Lib.hid em; have E4 := Lib.hid ed
  clear hz ey er em ed
  have y3 : Y < 400 := y1
  go_enter Try.func11, Try.ntmps11
  go_wp2_with fail
  refine (ref_Floor _ _ _ (by omega) (by omega) (by omega) (by omega)).mono ?_; rintro e w1 ⟨rfl, rfl⟩
  rw [← HEE.out]
  clear HEE
  go_upto_region 4 with fail
  rw [E0.out]
  go_upto_region 5 with fail
  rw [E1.out]
  go_upto_region 6 with fail
  rw [E2.out]
  go_upto_region 7 with fail
  rw [E3.out]
  go_upto_region 8 with fail
  rw [E4.out]
  clear E0 E1 E2 E3 E4
  by_cases hm : 10 ≤ M
  · go_wp2_with fail
    refine bodyPost_ret (v := .agg #[.int .i64 ((Y : Int) + 400 * ee + 1), .int .i64 ((M : Int) - 9), .int .i64 (D : Int)]) (by simp [results, Try.results11, go_sem]; omega) rfl ⟨rfl, ?_⟩
    (repeat' (first | exact Below.refl _ _ | assumption | refine Below.drew ?_ | refine below_drewN ?_ _ | refine below_new ?_ _ | refine below_set ?_ ?_ _ | refine below_then ?_ (by assumption) | refine below_drawn ?_ (by assumption) | exact Nat.le_refl _ | omega | (simp; done) | (simp; omega)))
  · go_wp2_with fail
    refine bodyPost_ret (v := .agg #[.int .i64 ((Y : Int) + 400 * ee), .int .i64 ((M : Int) + 3), .int .i64 (D : Int)]) (by simp [results, Try.results11, go_sem]) rfl ⟨rfl, ?_⟩
    (repeat' (first | exact Below.refl _ _ | assumption | refine Below.drew ?_ | refine below_drewN ?_ _ | refine below_new ?_ _ | refine below_set ?_ ?_ _ | refine below_then ?_ (by assumption) | refine below_drawn ?_ (by assumption) | exact Nat.le_refl _ | omega | (simp; done) | (simp; omega)))

def validB (y m d : Int) : Bool := decide (1 ≤ m ∧ m ≤ 12 ∧ 1 ≤ d ∧ d ≤ (lenN (leapI y) m.toNat : Int))
theorem validB_cases (y m d : Int) : (validB y m d = true ∧ Valid y m d) ∨ (validB y m d = false ∧ ¬ Valid y m d) := by
  unfold validB Valid
  by_cases h : 1 ≤ m ∧ m ≤ 12 ∧ 1 ≤ d ∧ d ≤ (lenN (leapI y) m.toNat : Int)
  · exact .inl ⟨decide_eq_true h, h⟩
  · exact .inr ⟨decide_eq_false h, h⟩
/-- What line.Day hands back. -/
def dayOut (y m d : Int) : Value := if inB (-10000) 10000 y = false then .tuple #[.int .i64 0, .int .i64 3] else if validB y m d = false then .tuple #[.int .i64 0, .int .i64 1] else .tuple #[.int .i64 (num y m d), .int .i64 0]
def gregDay (y m d : Int) : Int := if validB y m d then num y m d else -1099511627776
theorem cum_guess : ∀ l : Bool, ∀ m : Fin 13, 1 ≤ m.val → 30 * (m.val - 1) ≤ cumN l m.val + 1 ∧ cumN l m.val ≤ 30 * (m.val - 1) + 5 := by decide +kernel
theorem num_guess (y m d : Int) (m1 : 1 ≤ m) (m2 : m ≤ 12) : ∃ k : Nat, 2 ≤ k ∧ k ≤ 8 ∧ num y m d = (NY y - 1 + 30 * (m - 1) + d - 3) + k := by
  obtain ⟨a, b⟩ := cum_guess (leapI y) ⟨m.toNat, by omega⟩ (by show 1 ≤ m.toNat; omega)
  simp only at a b
  refine ⟨(cumN (leapI y) m.toNat + 3 - 30 * (m.toNat - 1)), by omega, by omega, ?_⟩
  unfold num
  omega
/-- The date of a day is this date just if the day is the date's number. -/
theorem greg_eq (x y m d : Int) : (gY x = y ∧ gM x = m ∧ gD x = d) ↔ (Valid y m d ∧ num y m d = x) := by
  constructor
  · rintro ⟨rfl, rfl, rfl⟩
    exact greg_spec x
  · rintro ⟨h1, h2⟩
    exact greg_of x y m d h1 h2
theorem three_ne {a b c x y z : Int} (h : ¬ (a = x ∧ b = y ∧ c = z)) : (a == x) = false ∨ ((a == x) = true ∧ (b == y) = false) ∨ ((a == x) = true ∧ (b == y) = true ∧ (c == z) = false) := by
  by_cases h1 : a = x <;> by_cases h2 : b = y <;> by_cases h3 : c = z <;> simp_all
theorem three_eq {a b c x y z : Int} (h : a = x ∧ b = y ∧ c = z) : (a == x) = true ∧ (b == y) = true ∧ (c == z) = true := by simpa using h

theorem num_bound (y m d : Int) (y1 : -10000 ≤ y) (y2 : y ≤ 10000) (h : Valid y m d) : -4000000 ≤ num y m d ∧ num y m d ≤ 4000000 := by
  obtain ⟨a, b⟩ := num_in y m d h
  have h1 := NY_mono (-10000) y y1
  have h2 := NY_mono (y + 1) 10001 (by omega)
  have h3 : NY (-10000) = -3652790 := by decide
  have h4 : NY 10001 = 3652426 := by decide
  omega
theorem slice12 (b k : Nat) (hk : k ≤ 12) (W : World) : (Instr.sliceAt 80 (.pointer (some ⟨b, 0, none⟩)) none (some (.int .i64 (k : Int))) none).run Try.prog W = .ok (.slice (some ⟨b, 0, none⟩) k 12) W := by
  have h12 : Try.prog.arrayLen 80 = 12 := by kernel_rfl
  rw [run_sliceAt_array_h W 80 ⟨b, 0, none⟩ (by kernel_rfl) .i64 k (by omega) (by rw [h12]; omega), h12]
  simp [slicedAt, go_sem, Addr.add]
end Go.Proofs.Ytjjmbnflhldoeaa
