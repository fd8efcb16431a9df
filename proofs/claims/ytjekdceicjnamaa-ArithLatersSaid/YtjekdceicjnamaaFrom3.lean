/- Contract of the reference's Years.FromDay. -/
import Derived.Test.YtjekdceicjnamaaFrom0
namespace Go.Proofs.Ytjekdceicjnamaa
set_option linter.unusedVariables false
set_option maxRecDepth 100000
open Go.RowKit

theorem year_parts (C : Nat) (y : Int) (h : 1 ≤ C) : ∃ (q : Int) (p : Nat), p < C ∧ y = 1 + q * (C : Int) + (p : Int) ∧ ∀ S L f ls, nyOf S L f C ls y = f + q * daysTo S L ls C + daysTo S L ls p := by
  have h1 : (C : Int) * ((y - 1) / (C : Int)) + (y - 1) % (C : Int) = y - 1 := Int.mul_ediv_add_emod _ _
  have h2 := placeOf_in C y (by omega)
  have h3 : (y - 1) % (C : Int) = placeOf C y := rfl
  refine ⟨(y - 1) / (C : Int), (placeOf C y).toNat, by omega, ?_, fun S L f ls => ?_⟩
  · rw [h3, Int.mul_comm] at h1; omega
  · unfold nyOf; rw [h3, show ((placeOf C y).toNat : Int) = placeOf C y by omega]
theorem daysTo_le {s : ByteArray} {f c : Int} {ms : List Mon} {ls : List Int} (ok : CalOk s f c ms ls) {a b : Int} (h : a ≤ b) (h0 : 0 ≤ a) : daysTo (shortOf ms) (longOf ms) ls a ≤ daysTo (shortOf ms) (longOf ms) ls b := by
  have key : ∀ n : Nat, daysTo (shortOf ms) (longOf ms) ls a ≤ daysTo (shortOf ms) (longOf ms) ls (a + n) := by
    intro n
    induction n with
    | zero => simp
    | succ n ih =>
      have h1 := daysTo_succ (shortOf ms) (longOf ms) ls (a + n) ok.sorted
      have h2 := lenY_pos ok (flag ls (a + n))
      rw [show a + ((n + 1 : Nat) : Int) = a + n + 1 by omega, h1]; omega
  have := key (b - a).toNat
  rwa [show a + (((b - a).toNat : Nat) : Int) = b by omega] at this
theorem div_is (a T q : Int) (hT : 1 ≤ T) (h1 : q * T ≤ a) (h2 : a < q * T + T) : a / T = q := by
  have : a = (a - q * T) + T * q := by rw [Int.mul_comm T q]; omega
  rw [this, Int.add_mul_ediv_left _ _ (by omega), Int.ediv_eq_zero_of_lt (by omega) (by omega)]; simp
theorem mul_abs_le' (q T : Int) (hT : 1 ≤ T) : (0 ≤ q → q ≤ q * T) ∧ (q ≤ 0 → q * T ≤ q) := by
  constructor
  · intro h
    have := Int.mul_le_mul_of_nonneg_left hT h; omega
  · intro h
    have := Int.mul_le_mul_of_nonpos_left h hT; omega
/-- Every day lies in a year. -/
theorem year_exists {s : ByteArray} {f : Int} {C : Nat} {ms : List Mon} {ls : List Int} (ok : CalOk s f C ms ls) (x : Int) : ∃ y, InYear ms ls f C y x := by
  have cy1 : 1 ≤ C := by have := ok.cy1; omega
  have h0 := daysTo_zero (shortOf ms) (longOf ms) ls (fun z hz => (ok.leaps z hz).1)
  have hTb := daysTo_bound (shortOf ms) (longOf ms) ls (C : Int) (by omega) ok.cy2 ok.sh1 ok.sh2 ok.lo1 ok.lo2 ok.sorted (fun z hz => (ok.leaps z hz).1)
  obtain ⟨T, hT⟩ : ∃ T, T = daysTo (shortOf ms) (longOf ms) ls C := ⟨_, rfl⟩
  rw [← hT] at hTb
  have hr1 := Int.emod_nonneg (x - f) (show T ≠ 0 by omega)
  have hr2 := Int.emod_lt_of_pos (x - f) (show 0 < T by omega)
  have hdm : T * ((x - f) / T) + (x - f) % T = x - f := Int.mul_ediv_add_emod _ _
  have key : ∀ n : Nat, n ≤ C → (∃ i, i < n ∧ daysTo (shortOf ms) (longOf ms) ls (i : Int) ≤ (x - f) % T ∧ (x - f) % T < daysTo (shortOf ms) (longOf ms) ls ((i : Int) + 1)) ∨ daysTo (shortOf ms) (longOf ms) ls (n : Int) ≤ (x - f) % T := by
    intro n
    induction n with
    | zero => intro _; exact .inr (by rw [show ((0 : Nat) : Int) = 0 from rfl, h0]; exact hr1)
    | succ n ih =>
      intro hn
      rcases ih (by omega) with ⟨i, h1, h2⟩ | h
      · exact .inl ⟨i, by omega, h2⟩
      · by_cases q : (x - f) % T < daysTo (shortOf ms) (longOf ms) ls ((n : Int) + 1)
        · exact .inl ⟨n, by omega, h, q⟩
        · exact .inr (by rw [show ((n + 1 : Nat) : Int) = (n : Int) + 1 by omega]; omega)
  rcases key C (by omega) with ⟨i, hi, h1, h2⟩ | h
  · have hp := place_at C ((x - f) / T) i hi
    have hq : (1 + (x - f) / T * (C : Int) + (i : Int) - 1) / (C : Int) = (x - f) / T := div_is _ _ _ (by omega) (by omega) (by omega)
    have hny : nyOf (shortOf ms) (longOf ms) f C ls (1 + (x - f) / T * (C : Int) + (i : Int)) = f + (x - f) / T * T + daysTo (shortOf ms) (longOf ms) ls (i : Int) := by
      have hp' : (1 + (x - f) / T * (C : Int) + (i : Int) - 1) % (C : Int) = (i : Int) := hp
      unfold nyOf; rw [hq, hp', ← hT]
    have hs := daysTo_succ (shortOf ms) (longOf ms) ls (i : Int) ok.sorted
    refine ⟨1 + (x - f) / T * (C : Int) + (i : Int), ?_, ?_⟩
    · rw [hny]; rw [Int.mul_comm T] at hdm; omega
    · rw [nyOf_succ ok, hny, hp]; rw [Int.mul_comm T] at hdm; omega
  · rw [← hT] at h; omega
theorem years_FromDay_out (w : World) (s : ByteArray) (f : Int) (C : Nat) (a1 a2 : Option Addr) (n1 c1 n2 c2 : Nat) (ms : List Mon) (ls : List Int) (g : Nat) (x : Int) (hx : inB (-4000000) 4000000 x = false) :
    Calls Try.prog 62 #[.agg #[.string s, .int .i64 f, .int .i64 (C : Int), .slice a1 n1 c1, .slice a2 n2 c2, .slice (some ⟨g, 0, none⟩) C C, .int .i64 (shortOf ms), .int .i64 (longOf ms), .int .i64 (daysTo (shortOf ms) (longOf ms) ls (C : Int))], .int .i64 x] w fun e w' => e = .returned noDate ∧ Below w.heap.size w w' := by
  go_enter Try.func62, Try.ntmps62
  go_wp2_with fail
  refine (ref_Day _ _).mono ?_; rw [hx]; rintro e w1 ⟨rfl, rfl⟩
  go_wp2_with fail
  exact bodyPost_ret (v := noDate) (by simp [noDate, results, Try.results62, go_sem]) rfl ⟨rfl, by (repeat' (first | exact Below.refl _ _ | assumption | refine Below.drew ?_ | refine below_drewN ?_ _ | refine below_new ?_ _ | refine below_set ?_ ?_ _ | refine below_then ?_ (by assumption) | refine below_drawn ?_ (by assumption) | exact Nat.le_refl _ | omega | (simp; done) | (simp; omega)))⟩
end Go.Proofs.Ytjekdceicjnamaa
