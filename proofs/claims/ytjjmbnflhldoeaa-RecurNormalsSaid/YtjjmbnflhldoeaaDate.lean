/- Contracts of line.Leap, Lengths, NewYear and of the reference's Greg. -/
import Derived.Test.YtjjmbnflhldoeaaLine
import Derived.Test.YtjjmbnflhldoeaaMem2
import Derived.Test.YtjjmbnflhldoeaaGreg2
namespace Go.Proofs.Ytjjmbnflhldoeaa
set_option linter.unusedVariables false
set_option maxRecDepth 100000
open Go.RowKit greg

theorem tmod_zero (a b : Int) : (a.tmod b == 0) = decide (a % b = 0) := by
  rw [Bool.eq_iff_iff]
  simp only [beq_iff_eq, decide_eq_true_eq]
  rw [← Int.dvd_iff_tmod_eq_zero, ← Int.dvd_iff_emod_eq_zero]
theorem tmod_nonzero (a b : Int) : (a.tmod b != 0) = decide (a % b ≠ 0) := by
  rw [bne, tmod_zero]; simp
theorem line_Leap (y : Int) (w : World) (h1 : -9223372036854775808 ≤ y) (h2 : y ≤ 9223372036854775807) :
    Calls Try.prog 76 #[.int .i64 y] w fun e w' => e = .returned (.bool (leapI y)) ∧ w = w' := by
  have t1 := tmod_zero y 4
  have t2 := tmod_nonzero y 100
  have t3 := tmod_zero y 400
  have hl : leapI y = (decide (y % 4 = 0) && (decide (y % 100 ≠ 0) || decide (y % 400 = 0))) := by unfold leapI; simp
  generalize decide (y % 4 = 0) = b1 at *
  generalize decide (y % 100 ≠ 0) = b2 at *
  generalize decide (y % 400 = 0) = b3 at *
  have HL := Lib.hid hl; clear hl
  cases b1 <;> cases b2 <;> cases b3
  all_goals
    go_enter Try.func76, Try.ntmps76
    go_wp2_with fail
    go_ret
    exact ⟨ret_bool (by rw [HL.out]; rfl), rfl⟩
theorem line_NewYear (y : Int) (w : World) (h1 : -1000000 ≤ y) (h2 : y ≤ 1000000) :
    Calls Try.prog 74 #[.int .i64 y] w fun e w' => e = .returned (.int .i64 (NY y)) ∧ Drawn w w' := by
  go_enter Try.func74, Try.ntmps74
  go_wp2_with fail
  refine (whole_Down _ _ _ (by omega) (by omega) (by omega) (by omega)).mono ?_; rintro e w1 ⟨rfl, d1⟩
  go_wp2_with fail
  refine (whole_Down _ _ _ (by omega) (by omega) (by omega) (by omega)).mono ?_; rintro e w2 ⟨rfl, d2⟩
  go_wp2_with fail
  refine (whole_Down _ _ _ (by omega) (by omega) (by omega) (by omega)).mono ?_; rintro e w3 ⟨rfl, d3⟩
  go_wp2_with fail
  go_ret
  exact ⟨ret_int (by unfold NY; omega), d1.trans (d2.trans d3)⟩
/-- The length of February. -/
def feb (l : Bool) : Int := bif l then 29 else 28
def lensA (l : Bool) : Array Value := #[.int .i64 31, .int .i64 (feb l), .int .i64 31, .int .i64 30, .int .i64 31, .int .i64 30, .int .i64 31, .int .i64 31, .int .i64 30, .int .i64 31, .int .i64 30, .int .i64 31]
theorem lensA_at (l : Bool) (k : Nat) (h : k < 12) : (lensA l)[k]? = some (.int .i64 (lenN l (k + 1))) := by
  match k, h with
  | 0, _ => cases l <;> rfl
  | 1, _ => cases l <;> rfl
  | 2, _ => cases l <;> rfl
  | 3, _ => cases l <;> rfl
  | 4, _ => cases l <;> rfl
  | 5, _ => cases l <;> rfl
  | 6, _ => cases l <;> rfl
  | 7, _ => cases l <;> rfl
  | 8, _ => cases l <;> rfl
  | 9, _ => cases l <;> rfl
  | 10, _ => cases l <;> rfl
  | 11, _ => cases l <;> rfl
theorem line_Lengths (y : Int) (w : World) (h1 : -9223372036854775808 ≤ y) (h2 : y ≤ 9223372036854775807) :
    Calls Try.prog 47 #[.int .i64 y] w fun e w' => e = .returned (.agg #[.int .i64 31, .int .i64 (feb (leapI y)), .int .i64 31, .int .i64 30, .int .i64 31, .int .i64 30, .int .i64 31, .int .i64 31, .int .i64 30, .int .i64 31, .int .i64 30, .int .i64 31]) ∧ Below w.heap.size w w' := by
  rcases Bool.eq_false_or_eq_true (leapI y) with hl | hl
  · have hf := Lib.hid (show feb (leapI y) = 29 by rw [hl]; rfl)
    go_enter Try.func47, Try.ntmps47
    go_wp2_with (go_at_call 76; refine (line_Leap _ _ h1 h2).mono ?_; rintro e w1 ⟨rfl, rfl⟩)
    refine bodyPost_ret (v := .agg #[.int .i64 31, .int .i64 29, .int .i64 31, .int .i64 30, .int .i64 31, .int .i64 30, .int .i64 31, .int .i64 31, .int .i64 30, .int .i64 31, .int .i64 30, .int .i64 31]) (by simp [results, Try.results47, go_sem]) rfl ?_
    refine ⟨by rw [hf.out], ?_⟩
    (repeat' (first | exact Below.refl _ _ | assumption | refine Below.drew ?_ | refine below_drewN ?_ _ | refine below_new ?_ _ | refine below_set ?_ ?_ _ | refine below_then ?_ (by assumption) | refine below_drawn ?_ (by assumption) | exact Nat.le_refl _ | omega | (simp; done) | (simp; omega)))
  · have hf := Lib.hid (show feb (leapI y) = 28 by rw [hl]; rfl)
    go_enter Try.func47, Try.ntmps47
    go_wp2_with (go_at_call 76; refine (line_Leap _ _ h1 h2).mono ?_; rintro e w1 ⟨rfl, rfl⟩)
    refine bodyPost_ret (v := .agg #[.int .i64 31, .int .i64 28, .int .i64 31, .int .i64 30, .int .i64 31, .int .i64 30, .int .i64 31, .int .i64 31, .int .i64 30, .int .i64 31, .int .i64 30, .int .i64 31]) (by simp [results, Try.results47, go_sem]) rfl ?_
    refine ⟨by rw [hf.out], ?_⟩
    (repeat' (first | exact Below.refl _ _ | assumption | refine Below.drew ?_ | refine below_drewN ?_ _ | refine below_new ?_ _ | refine below_set ?_ ?_ _ | refine below_then ?_ (by assumption) | refine below_drawn ?_ (by assumption) | exact Nat.le_refl _ | omega | (simp; done) | (simp; omega)))
end Go.Proofs.Ytjjmbnflhldoeaa
