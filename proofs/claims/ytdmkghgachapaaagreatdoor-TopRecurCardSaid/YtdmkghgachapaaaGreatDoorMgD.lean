/- Several texts in one: Date, Date2, Date3. -/
import Derived.Test.YtdmkghgachapaaaGreatDoorMgW
import Derived.Test.YtdmkghgachapaaaGreatDoorMgA
import Derived.Test.YtdmkghgachapaaaGreatDoorMgG
import Derived.Deep.RegionHeld3
import Derived.Deep.Cut
/- Contracts of line.Leap, Lengths, NewYear and of the reference's Greg. -/
namespace Go.Proofs.YtdmkghgachapaaaGreatDoor
set_option linter.unusedVariables false
set_option maxRecDepth 100000
open Go.RowKit greg

theorem tmod_zero (a b : Int) : (a.tmod b == 0) = decide (a % b = 0) := by
  rw [Bool.eq_iff_iff]
  simp only [beq_iff_eq, decide_eq_true_eq]
  rw [← Int.dvd_iff_tmod_eq_zero, ← Int.dvd_iff_emod_eq_zero]
theorem tmod_nonzero (a b : Int) : (a.tmod b != 0) = decide (a % b ≠ 0) := by
  rw [bne, tmod_zero]; simp
theorem line_Leap (y : Int) (w : World) (h1 : -9223372036854775808 ≤ y) (h2 : y ≤ 9223372036854775807) :
    Calls Tryz.prog 60 #[.int .i64 y] w fun e w' => e = .returned (.bool (leapI y)) ∧ w = w' := by
  have t1 := tmod_zero y 4
  have t2 := tmod_nonzero y 100
  have t3 := tmod_zero y 400
  have hl : leapI y = (decide (y % 4 = 0) && (decide (y % 100 ≠ 0) || decide (y % 400 = 0))) := by unfold leapI; simp
  generalize decide (y % 4 = 0) = b1 at *
  generalize decide (y % 100 ≠ 0) = b2 at *
  generalize decide (y % 400 = 0) = b3 at *
  have HL := Lib.hid hl; clear hl
  cases b1 <;> cases b2 <;> cases b3
  all_goals
    go_enter Tryz.func60, Tryz.ntmps60
    go_wp2_with fail
    go_ret
    exact ⟨ret_bool (by rw [HL.out]; rfl), rfl⟩
theorem line_NewYear (y : Int) (w : World) (h1 : -1000000 ≤ y) (h2 : y ≤ 1000000) :
    Calls Tryz.prog 58 #[.int .i64 y] w fun e w' => e = .returned (.int .i64 (NY y)) ∧ Drawn w w' := by
  go_enter Tryz.func58, Tryz.ntmps58
  go_wp2_with fail
  refine (whole_Down _ _ _ (by omega) (by omega) (by omega) (by omega)).mono ?_; rintro e w1 ⟨rfl, d1⟩
  go_wp2_with fail
  refine (whole_Down _ _ _ (by omega) (by omega) (by omega) (by omega)).mono ?_; rintro e w2 ⟨rfl, d2⟩
  go_wp2_with fail
  refine (whole_Down _ _ _ (by omega) (by omega) (by omega) (by omega)).mono ?_; rintro e w3 ⟨rfl, d3⟩
  go_wp2_with fail
  go_ret
  exact ⟨ret_int (by unfold NY; omega), d1.trans (d2.trans d3)⟩
/-- The length of February. -/
def feb (l : Bool) : Int := bif l then 29 else 28
def lensA (l : Bool) : Array Value := #[.int .i64 31, .int .i64 (feb l), .int .i64 31, .int .i64 30, .int .i64 31, .int .i64 30, .int .i64 31, .int .i64 31, .int .i64 30, .int .i64 31, .int .i64 30, .int .i64 31]
theorem lensA_at (l : Bool) (k : Nat) (h : k < 12) : (lensA l)[k]? = some (.int .i64 (lenN l (k + 1))) := by
  match k, h with
  | 0, _ => cases l <;> rfl
  | 1, _ => cases l <;> rfl
  | 2, _ => cases l <;> rfl
  | 3, _ => cases l <;> rfl
  | 4, _ => cases l <;> rfl
  | 5, _ => cases l <;> rfl
  | 6, _ => cases l <;> rfl
  | 7, _ => cases l <;> rfl
  | 8, _ => cases l <;> rfl
  | 9, _ => cases l <;> rfl
  | 10, _ => cases l <;> rfl
  | 11, _ => cases l <;> rfl
theorem line_Lengths (y : Int) (w : World) (h1 : -9223372036854775808 ≤ y) (h2 : y ≤ 9223372036854775807) :
    Calls Tryz.prog 34 #[.int .i64 y] w fun e w' => e = .returned (.agg #[.int .i64 31, .int .i64 (feb (leapI y)), .int .i64 31, .int .i64 30, .int .i64 31, .int .i64 30, .int .i64 31, .int .i64 31, .int .i64 30, .int .i64 31, .int .i64 30, .int .i64 31]) ∧ Below w.heap.size w w' := by
  rcases Bool.eq_false_or_eq_true (leapI y) with hl | hl
  · have hf := Lib.hid (show feb (leapI y) = 29 by rw [hl]; rfl)
    go_enter Tryz.func34, Tryz.ntmps34
    go_wp2_with (go_at_call 60; refine (line_Leap _ _ h1 h2).mono ?_; rintro e w1 ⟨rfl, rfl⟩)
    refine bodyPost_ret (v := .agg #[.int .i64 31, .int .i64 29, .int .i64 31, .int .i64 30, .int .i64 31, .int .i64 30, .int .i64 31, .int .i64 31, .int .i64 30, .int .i64 31, .int .i64 30, .int .i64 31]) (by simp [results, Tryz.results34, go_sem]) rfl ?_
    refine ⟨by rw [hf.out], ?_⟩
    (repeat' (first | exact Below.refl _ _ | assumption | refine Below.drew ?_ | refine below_drewN ?_ _ | refine below_new ?_ _ | refine below_set ?_ ?_ _ | refine below_then ?_ (by assumption) | refine below_drawn ?_ (by assumption) | exact Nat.le_refl _ | omega | (simp; done) | (simp; omega)))
  · have hf := Lib.hid (show feb (leapI y) = 28 by rw [hl]; rfl)
    go_enter Tryz.func34, Tryz.ntmps34
    go_wp2_with (go_at_call 60; refine (line_Leap _ _ h1 h2).mono ?_; rintro e w1 ⟨rfl, rfl⟩)
    refine bodyPost_ret (v := .agg #[.int .i64 31, .int .i64 28, .int .i64 31, .int .i64 30, .int .i64 31, .int .i64 30, .int .i64 31, .int .i64 31, .int .i64 30, .int .i64 31, .int .i64 30, .int .i64 31]) (by simp [results, Tryz.results34, go_sem]) rfl ?_
    refine ⟨by rw [hf.out], ?_⟩
    (repeat' (first | exact Below.refl _ _ | assumption | refine Below.drew ?_ | refine below_drewN ?_ _ | refine below_new ?_ _ | refine below_set ?_ ?_ _ | refine below_then ?_ (by assumption) | refine below_drawn ?_ (by assumption) | exact Nat.le_refl _ | omega | (simp; done) | (simp; omega)))
end Go.Proofs.YtdmkghgachapaaaGreatDoor

/- Contracts of line.Date, line.Day and of the reference's Greg, GregDay, GregExists. -/
namespace Go.Proofs.YtdmkghgachapaaaGreatDoor
set_option linter.unusedVariables false
set_option maxRecDepth 100000
open Go.RowKit greg

theorem NY_low (y x : Int) (h : x < NY y) (hx : -4000000 ≤ x) : -11000 < y := by
  rcases Int.lt_or_le (-11000) y with h1 | h1
  · exact h1
  · have h2 := NY_mono y (-11000) h1
    have h3 : NY (-11000) = -4018032 := by decide
    omega
theorem NY_high (y x : Int) (h : NY y ≤ x) (hx : x ≤ 4000000) : y < 11000 := by
  rcases Int.lt_or_le y 11000 with h1 | h1
  · exact h1
  · have h2 := NY_mono 11000 y h1
    have h3 : NY 11000 = 4017303 := by decide
    omega
theorem cumN_next (l : Bool) (m : Nat) : cumN l (m + 1 + 1) = cumN l (m + 1) + lenN l (m + 1) := rfl
def dateV (y m d : Int) : Value := .agg #[.int .i64 y, .int .i64 m, .int .i64 d]
/-- What line.Date hands back. -/
def dateOut (x : Int) : Value := if inB (-4000000) 4000000 x then .tuple #[.agg #[.int .i64 (gY x), .int .i64 (gM x), .int .i64 (gD x)], .int .i64 0] else .tuple #[.agg #[.int .i64 0, .int .i64 0, .int .i64 0], .int .i64 3]
theorem dateOut_yes {x : Int} (h : inB (-4000000) 4000000 x = true) : dateOut x = .tuple #[.agg #[.int .i64 (gY x), .int .i64 (gM x), .int .i64 (gD x)], .int .i64 0] := by rw [dateOut, h]; rfl
theorem dateOut_no {x : Int} (h : inB (-4000000) 4000000 x = false) : dateOut x = .tuple #[.agg #[.int .i64 0, .int .i64 0, .int .i64 0], .int .i64 3] := by rw [dateOut, h]; rfl
theorem line_Date_no (x : Int) (w : World) (h : ¬ (-4000000 ≤ x ∧ x ≤ 4000000)) :
    Calls Tryz.prog 32 #[.int .i64 x] w fun e w' => e = .returned (.tuple #[.agg #[.int .i64 0, .int .i64 0, .int .i64 0], .int .i64 3]) ∧ Below w.heap.size w w' := by
  have hk := Lib.hid (chk_no h)
  go_enter Tryz.func32, Tryz.ntmps32
  go_wp2_with fail
  refine (line_Check _ _).mono ?_; rw [hk.out]; rintro e w1 ⟨rfl, rfl⟩
  go_wp2_with fail
  refine bodyPost_ret (v := .tuple #[.agg #[.int .i64 0, .int .i64 0, .int .i64 0], .int .i64 3]) (by simp [results, Tryz.results32, go_sem]) rfl ⟨rfl, ?_⟩
  (repeat' (first | exact Below.refl _ _ | assumption | refine Below.drew ?_ | refine below_drewN ?_ _ | refine below_new ?_ _ | refine below_set ?_ ?_ _ | refine below_then ?_ (by assumption) | refine below_drawn ?_ (by assumption) | exact Nat.le_refl _ | omega | (simp; done) | (simp; omega)))
set_option maxHeartbeats 2000000 in
theorem line_Date_yes (x : Int) (w : World) (h1 : -4000000 ≤ x) (h2 : x ≤ 4000000) :
    Calls Tryz.prog 32 #[.int .i64 x] w fun e w' => e = .returned (.tuple #[.agg #[.int .i64 (gY x), .int .i64 (gM x), .int .i64 (gD x)], .int .i64 0]) ∧ Below w.heap.size w w' := by
  have hk := Lib.hid (chk_yes h1 h2)
  go_enter Tryz.func32, Tryz.ntmps32
  go_wp2_with fail
  refine (line_Check _ _).mono ?_; rw [hk.out]; rintro e w1 ⟨rfl, rfl⟩
  go_wp2_with fail
  refine (whole_Down _ _ _ (by omega) (by omega) (by omega) (by omega)).mono ?_; rintro e w1 ⟨rfl, d1⟩
  have hg : -11000 ≤ (x - 1) * 400 / 146097 ∧ (x - 1) * 400 / 146097 ≤ 11000 := by omega
  generalize (x - 1) * 400 / 146097 = g0 at hg ⊢
  obtain ⟨g1, g2⟩ := hg
  have a0 : At w1 w.heap.size (.cells #[.int .i64 0, .int .i64 0, .int .i64 0] 52) := (At.new w _).drawn d1
  have b0 : Below w.heap.size w w1 := by (repeat' (first | exact Below.refl _ _ | assumption | refine Below.drew ?_ | refine below_drewN ?_ _ | refine below_new ?_ _ | refine below_set ?_ ?_ _ | refine below_then ?_ (by assumption) | refine below_drawn ?_ (by assumption) | exact Nat.le_refl _ | omega | (simp; done) | (simp; omega)))
  clear d1
  go_wp2_with fail
  go_loopw [5] (fun t wr => ∃ y : Int, t = .int .i64 y ∧ -11000 ≤ y ∧ y ≤ 12000 ∧ At wr w.heap.size (.cells #[.int .i64 0, .int .i64 0, .int .i64 0] 52) ∧ Below w.heap.size w wr) (fun t _ => (intOf t + 11000).toNat)
  case atStart => exact ⟨g0 + 1, rfl, by omega, by omega, a0, b0⟩
  case round =>
    clear a0 b0
    obtain ⟨y, rfl, y1, y2, a0, b0⟩ := hrel
    by_cases hc : x < NY y
    · have hy := NY_low y x hc h1
      go_wp2_with fail
      refine (line_NewYear _ _ (by omega) (by omega)).mono ?_; rintro e w2 ⟨rfl, d2⟩
      go_wp2_with fail
      go_roundw
      case rel => exact ⟨y - 1, rfl, by omega, by omega, a0.drawn d2, below_drawn b0 d2⟩
      case measure => simp [intOf]; omega
    · have hc' : NY y ≤ x := by omega
      clear hc
      go_wp2_with fail
      refine (line_NewYear _ _ (by omega) (by omega)).mono ?_; rintro e w2 ⟨rfl, d2⟩
      replace a0 := a0.drawn d2
      replace b0 := below_drawn b0 d2
      clear d2
      go_wp2_with fail
      go_loopw [5] (fun t wr => ∃ y : Int, t = .int .i64 y ∧ -11000 ≤ y ∧ y ≤ 12000 ∧ NY y ≤ x ∧ At wr w.heap.size (.cells #[.int .i64 0, .int .i64 0, .int .i64 0] 52) ∧ Below w.heap.size w wr) (fun t _ => (12000 - intOf t).toNat)
      case atStart => exact ⟨y, rfl, by omega, by omega, hc', a0, b0⟩
      case round =>
        clear a0 b0 hc'
        clear y1 y2
        obtain ⟨y, rfl, y1, y2, hny, a0, b0⟩ := hrel
        by_cases hc : NY (y + 1) ≤ x
        · have hy := NY_high (y + 1) x hc h2
          go_wp2_with fail
          refine (line_NewYear _ _ (by omega) (by omega)).mono ?_; rintro e w3 ⟨rfl, d2⟩
          go_wp2_with fail
          go_roundw
          case rel => exact ⟨y + 1, rfl, by omega, by omega, hc, a0.drawn d2, below_drawn b0 d2⟩
          case measure => simp [intOf]; omega
        · have hc' : x < NY (y + 1) := by omega
          clear hc
          go_wp2_with fail
          refine (line_NewYear _ _ (by omega) (by omega)).mono ?_; rintro e w3 ⟨rfl, d2⟩
          replace a0 := a0.drawn d2
          replace b0 := below_drawn b0 d2
          clear d2
          go_wp2_with fail
          refine (line_NewYear _ _ (by omega) (by omega)).mono ?_; rintro e w4 ⟨rfl, d2⟩
          replace a0 := a0.drawn d2
          replace b0 := below_drawn b0 d2
          clear d2
          have hstep := NY_step y
          have hnb : -5000000 ≤ NY y := by
            have h2 := NY_mono (-11000) y y1
            have h3 : NY (-11000) = -4018032 := by decide
            omega
          go_wp2_with fail
          refine (line_Lengths _ _ (by omega) (by omega)).mono ?_; rintro e w5 ⟨rfl, d2⟩
          replace a0 := a0.then_ d2
          replace b0 := below_then b0 d2
          clear d2
          have hend := NY_succ y
          have hlast : (NY (y + 1) : Int) = NY y + (cumN (leapI y) 13 : Int) := by
            rw [hend, cum_end]; cases leapI y <;> rfl
          clear hend
          have HLAST := Lib.hid hlast; clear hlast
          obtain ⟨l, hl⟩ : ∃ l, l = leapI y := ⟨_, rfl⟩
          rw [← hl] at HLAST ⊢
          have HL := Lib.hid hl; clear hl
          have hz0 := a0.lt
          go_wp2_with fail
          go_loopw [6, 7, 8] (fun r k p wr => ∃ (m b : Nat), m ≤ 11 ∧ k = .int .i64 m ∧ r = .int .i64 (x - NY y - (cumN l (m + 1) : Int)) ∧ 0 ≤ x - NY y - (cumN l (m + 1) : Int) ∧ p = .pointer (some ⟨b, 0, none⟩) ∧ w.heap.size < b ∧ At wr b (.cells (lensA l) 74) ∧
              At wr w.heap.size (.cells #[.int .i64 0, .int .i64 0, .int .i64 0] 52) ∧ Below w.heap.size w wr) (fun _ k _ _ => 11 - (intOf k).toNat)
          case atStart => exact ⟨0, w5.heap.size, by omega, rfl, by simp [cumN], by simp [cumN]; omega, rfl, hz0, At.new w5 _, a0.alloc _, below_new b0 _⟩
          case round =>
            clear a0 b0
            obtain ⟨m, b, m1, rfl, rfl, r1, rfl, hwb, ab, a0, b0⟩ := hrel
            have hrd := (ab.cell m).trans (lensA_at l m (by omega))
            have hcn := cumN_next l m
            have hnx : x - NY y - (cumN l (m + 1) : Int) - (lenN l (m + 1) : Int) = x - NY y - (cumN l (m + 1 + 1) : Int) := by rw [hcn]; omega
            have hll : lenN l (m + 1) ≤ 31 := by
              unfold lenN
              cases Nat.beq (m + 1) 2 <;> cases l <;> cases (Nat.beq (m + 1) 4 || Nat.beq (m + 1) 6 || Nat.beq (m + 1) 9 || Nat.beq (m + 1) 11) <;> simp
            have L1 : 0 ≤ (lenN l (m + 1) : Int) := by omega
            have L2 : (lenN l (m + 1) : Int) ≤ 31 := by omega
            have R2 : x - NY y - (cumN l (m + 1) : Int) ≤ 400 := by omega
            have HNX := Lib.hid hnx
            have HCN := Lib.hid hcn
            clear hnx hcn
            by_cases hc : (lenN l (m + 1) : Int) ≤ x - NY y - (cumN l (m + 1) : Int)
            · have hm : m < 11 := by
                rcases Nat.lt_or_ge m 11 with q | q
                · exact q
                · have : m = 11 := by omega
                  subst this
                  have e1 := HLAST.out
                  have e2 : cumN l 13 = cumN l (11 + 1) + lenN l (11 + 1) := HCN.out
                  omega
              have c0 := ab.cell 0; have c1 := ab.cell 1; have c2 := ab.cell 2; have c3 := ab.cell 3; have c4 := ab.cell 4; have c5 := ab.cell 5
              have c6 := ab.cell 6; have c7 := ab.cell 7; have c8 := ab.cell 8; have c9 := ab.cell 9; have c10 := ab.cell 10; have c11 := ab.cell 11
              simp only [lensA, List.getElem?_toArray, List.getElem?_cons_zero, List.getElem?_cons_succ] at c0 c1 c2 c3 c4 c5 c6 c7 c8 c9 c10 c11
              generalize hR : x - NY y - (cumN l (m + 1) : Int) = R at hc r1 R2 HNX ⊢
              have HR := Lib.hid hR; clear hR
              generalize (lenN l (m + 1) : Int) = L at *
              go_wp2_with fail
              go_roundw
              case rel => exact ⟨m + 1, wr.heap.size, by omega, by go_num, by rw [HNX.out], by rw [← HNX.out]; omega, rfl, by have := a0.lt; omega, At.new wr _, a0.alloc _, below_new b0 _⟩
              case measure => simp [intOf]; omega
            · have hv : Valid y (m + 1 : Int) (x - NY y - (cumN l (m + 1) : Int) + 1) := by
                unfold Valid
                rw [← HL.out, show ((m : Int) + 1).toNat = m + 1 by omega]
                omega
              have hnum : num y (m + 1 : Int) (x - NY y - (cumN l (m + 1) : Int) + 1) = x := by
                unfold num
                rw [← HL.out, show ((m : Int) + 1).toNat = m + 1 by omega]
                omega
              obtain ⟨e1, e2, e3⟩ := greg_of x _ _ _ hv hnum
              have E1 := Lib.hid e1; have E2 := Lib.hid e2; have E3 := Lib.hid e3
              clear e1 e2 e3 hv hnum
              have z0 := a0.frozen 0; have z1 := a0.frozen 1; have z2 := a0.frozen 2
              have r0 := a0.cell 0; have r1' := a0.cell 1; have r2 := a0.cell 2
              simp at r0 r1' r2
              have hc' : x - NY y - (cumN l (m + 1) : Int) < (lenN l (m + 1) : Int) := by omega
              clear hc
              generalize x - NY y - (cumN l (m + 1) : Int) = R at *
              generalize (lenN l (m + 1) : Int) = L at *
              go_wp2_with fail
              refine bodyPost_ret (v := .tuple #[.agg #[.int .i64 y, .int .i64 ((m : Int) + 1), .int .i64 (R + 1)], .int .i64 0]) (by simp [results, Tryz.results32, go_sem, r0, r1', r2, z0, z1, z2]) rfl ⟨by rw [E1.out, E2.out, E3.out], ?_⟩
              (repeat' (first | exact Below.refl _ _ | assumption | refine Below.drew ?_ | refine below_drewN ?_ _ | refine below_new ?_ _ | refine below_set ?_ ?_ _ | refine below_then ?_ (by assumption) | refine below_drawn ?_ (by assumption) | exact Nat.le_refl _ | omega | (simp; done) | (simp; omega)))
end Go.Proofs.YtdmkghgachapaaaGreatDoor

/- Contracts of the reference's Greg, GregDay, GregExists and of line.Day. -/
namespace Go.Proofs.YtdmkghgachapaaaGreatDoor
set_option linter.unusedVariables false
set_option maxRecDepth 100000
open Go.RowKit greg

def validB (y m d : Int) : Bool := decide (1 ≤ m ∧ m ≤ 12 ∧ 1 ≤ d ∧ d ≤ (lenN (leapI y) m.toNat : Int))
theorem validB_cases (y m d : Int) : (validB y m d = true ∧ Valid y m d) ∨ (validB y m d = false ∧ ¬ Valid y m d) := by
  unfold validB Valid
  by_cases h : 1 ≤ m ∧ m ≤ 12 ∧ 1 ≤ d ∧ d ≤ (lenN (leapI y) m.toNat : Int)
  · exact .inl ⟨decide_eq_true h, h⟩
  · exact .inr ⟨decide_eq_false h, h⟩
/-- What line.Day hands back. -/
def dayOut (y m d : Int) : Value := if inB (-10000) 10000 y = false then .tuple #[.int .i64 0, .int .i64 3] else if validB y m d = false then .tuple #[.int .i64 0, .int .i64 1] else .tuple #[.int .i64 (num y m d), .int .i64 0]
def gregDay (y m d : Int) : Int := if validB y m d then num y m d else -1099511627776
theorem cum_guess : ∀ l : Bool, ∀ m : Fin 13, 1 ≤ m.val → 30 * (m.val - 1) ≤ cumN l m.val + 1 ∧ cumN l m.val ≤ 30 * (m.val - 1) + 5 := by decide +kernel
theorem num_guess (y m d : Int) (m1 : 1 ≤ m) (m2 : m ≤ 12) : ∃ k : Nat, 2 ≤ k ∧ k ≤ 8 ∧ num y m d = (NY y - 1 + 30 * (m - 1) + d - 3) + k := by
  obtain ⟨a, b⟩ := cum_guess (leapI y) ⟨m.toNat, by omega⟩ (by show 1 ≤ m.toNat; omega)
  simp only at a b
  refine ⟨(cumN (leapI y) m.toNat + 3 - 30 * (m.toNat - 1)), by omega, by omega, ?_⟩
  unfold num
  omega
/-- The date of a day is this date just if the day is the date's number. -/
theorem greg_eq (x y m d : Int) : (gY x = y ∧ gM x = m ∧ gD x = d) ↔ (Valid y m d ∧ num y m d = x) := by
  constructor
  · rintro ⟨rfl, rfl, rfl⟩
    exact greg_spec x
  · rintro ⟨h1, h2⟩
    exact greg_of x y m d h1 h2
theorem three_ne {a b c x y z : Int} (h : ¬ (a = x ∧ b = y ∧ c = z)) : (a == x) = false ∨ ((a == x) = true ∧ (b == y) = false) ∨ ((a == x) = true ∧ (b == y) = true ∧ (c == z) = false) := by
  by_cases h1 : a = x <;> by_cases h2 : b = y <;> by_cases h3 : c = z <;> simp_all
theorem three_eq {a b c x y z : Int} (h : a = x ∧ b = y ∧ c = z) : (a == x) = true ∧ (b == y) = true ∧ (c == z) = true := by simpa using h

theorem num_bound (y m d : Int) (y1 : -10000 ≤ y) (y2 : y ≤ 10000) (h : Valid y m d) : -4000000 ≤ num y m d ∧ num y m d ≤ 4000000 := by
  obtain ⟨a, b⟩ := num_in y m d h
  have h1 := NY_mono (-10000) y y1
  have h2 := NY_mono (y + 1) 10001 (by omega)
  have h3 : NY (-10000) = -3652790 := by decide
  have h4 : NY 10001 = 3652426 := by decide
  omega
theorem slice12 (b k : Nat) (hk : k ≤ 12) (W : World) : (Instr.sliceAt 74 (.pointer (some ⟨b, 0, none⟩)) none (some (.int .i64 (k : Int))) none).run Tryz.prog W = .ok (.slice (some ⟨b, 0, none⟩) k 12) W := by
  have h12 : Tryz.prog.arrayLen 74 = 12 := by kernel_rfl
  rw [run_sliceAt_array_h W 74 ⟨b, 0, none⟩ (by kernel_rfl) .i64 k (by omega) (by rw [h12]; omega), h12]
  simp [slicedAt, go_sem, Addr.add]
end Go.Proofs.YtdmkghgachapaaaGreatDoor
