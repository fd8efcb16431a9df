/- Contracts of package frac and of the reference's fractions, first part: Check, Of. -/
import Derived.Test.YtnepdfglhngheaaMem2
import Derived.Test.YtnepdfglhngheaaWhole
import Derived.Test.YtnepdfglhngheaaRef
namespace Go.Proofs.Ytnepdfglhngheaa
set_option linter.unusedVariables false
set_option maxRecDepth 100000
open Go.RowKit

/-- Whether n / d is a fraction. -/
def fracOk (n d : Int) : Bool := decide (1 ≤ d ∧ d ≤ 2147483647 ∧ -2147483647 ≤ n ∧ n ≤ 2147483647 ∧ Int.gcd n d = 1)
theorem fracOk_cases (n d : Int) : (fracOk n d = true ∧ 1 ≤ d ∧ d ≤ 2147483647 ∧ -2147483647 ≤ n ∧ n ≤ 2147483647 ∧ Int.gcd n d = 1) ∨ (fracOk n d = false ∧ ¬ (1 ≤ d ∧ d ≤ 2147483647 ∧ -2147483647 ≤ n ∧ n ≤ 2147483647 ∧ Int.gcd n d = 1)) := by
  by_cases c : 1 ≤ d ∧ d ≤ 2147483647 ∧ -2147483647 ≤ n ∧ n ≤ 2147483647 ∧ Int.gcd n d = 1
  · exact .inl ⟨decide_eq_true c, c⟩
  · exact .inr ⟨decide_eq_false c, c⟩
def fracErr (n d : Int) : Int := if fracOk n d then 0 else 8
theorem gcdOut_den (n d : Int) (d1 : 1 ≤ d) (d2 : d ≤ 2147483647) : gcdOut n d = .tuple #[.int .i64 (Int.gcd n d : Int), .int .i64 0] := by
  have := Int.le_of_dvd (by omega) (Int.gcd_dvd_right (a := n) (b := d))
  rw [gcdOut, if_pos (by omega)]

theorem frac_Check (n d : Int) (w : World) (h1 : -9223372036854775808 ≤ n) (h2 : n ≤ 9223372036854775807) (h3 : -9223372036854775808 ≤ d) (h4 : d ≤ 9223372036854775807) :
    Calls Try.prog 47 #[.agg #[.int .i64 n, .int .i64 d]] w fun e w' => e = .returned (.int .i64 (fracErr n d)) ∧ Below w.heap.size w w' := by
  by_cases hr : 1 ≤ d ∧ d ≤ 2147483647 ∧ -2147483647 ≤ n ∧ n ≤ 2147483647
  case neg =>
    have ho := Lib.hid (show fracErr n d = 8 by rw [fracErr, show fracOk n d = false from decide_eq_false (by omega)]; rfl)
    have hq : d < 1 ∨ (1 ≤ d ∧ 2147483647 < d) ∨ (1 ≤ d ∧ d ≤ 2147483647 ∧ n < -2147483647) ∨ (1 ≤ d ∧ d ≤ 2147483647 ∧ -2147483647 ≤ n ∧ 2147483647 < n) := by omega
    clear hr
    rcases hq with q | ⟨q1, q2⟩ | ⟨q1, q2, q3⟩ | ⟨q1, q2, q3, q4⟩
    all_goals
      go_enter Try.func47, Try.ntmps47
      go_wp2_with fail
      go_ret
      exact ⟨ret_int (by rw [ho.out]), (Below.refl _ _).alloc (Nat.le_refl _) _⟩
  obtain ⟨q1, q2, q3, q4⟩ := hr
  have GO := Lib.hid (gcdOut_den n d q1 q2)
  by_cases hg : Int.gcd n d = 1
  · have ho := Lib.hid (show fracErr n d = 0 by rw [fracErr, show fracOk n d = true from decide_eq_true ⟨q1, q2, q3, q4, hg⟩]; rfl)
    have hgb : ((Int.gcd n d : Int) != 1) = false := by rw [hg]; rfl
    clear hg
    go_enter Try.func47, Try.ntmps47
    go_wp2_with fail
    refine (whole_Gcd n d _ h1 h2 h3 h4).mono ?_
    rw [GO.out]
    rintro e w1 ⟨rfl, hd⟩
    go_wp2_with fail
    go_ret
    exact ⟨ret_int (by rw [ho.out]), ((Below.refl _ _).alloc (Nat.le_refl _) _).trans (hd.below _)⟩
  · have ho := Lib.hid (show fracErr n d = 8 by rw [fracErr, show fracOk n d = false from decide_eq_false (fun h => hg h.2.2.2.2)]; rfl)
    have hgb : ((Int.gcd n d : Int) != 1) = true := by simp; omega
    clear hg
    go_enter Try.func47, Try.ntmps47
    go_wp2_with fail
    refine (whole_Gcd n d _ h1 h2 h3 h4).mono ?_
    rw [GO.out]
    rintro e w1 ⟨rfl, hd⟩
    go_wp2_with fail
    go_ret
    exact ⟨ret_int (by rw [ho.out]), ((Below.refl _ _).alloc (Nat.le_refl _) _).trans (hd.below _)⟩
theorem ref_FracOK (n d : Int) (w : World) (h1 : -9223372036854775808 ≤ n) (h2 : n ≤ 9223372036854775807) (h3 : -9223372036854775808 ≤ d) (h4 : d ≤ 9223372036854775807) :
    Calls Try.prog 21 #[.agg #[.int .i64 n, .int .i64 d]] w fun e w' => e = .returned (.bool (fracOk n d)) ∧ Below w.heap.size w w' := by
  rcases inB_cases 1 2147483647 d with ⟨hd, d1, d2⟩ | ⟨hd, hd'⟩
  case inr =>
    have ho := Lib.hid (show fracOk n d = false from decide_eq_false (by omega))
    go_enter Try.func21, Try.ntmps21
    go_wp2_with (go_at_call 16; refine (ref_In _ _ _ _).mono ?_; rintro e w3 ⟨rfl, rfl⟩)
    go_ret
    exact ⟨ret_bool (by rw [ho.out]), (Below.refl _ _).alloc (Nat.le_refl _) _⟩
  rcases inB_cases (-2147483647) 2147483647 n with ⟨hn, n1, n2⟩ | ⟨hn, hn'⟩
  case inr =>
    have ho := Lib.hid (show fracOk n d = false from decide_eq_false (by omega))
    go_enter Try.func21, Try.ntmps21
    go_wp2_with (first | (go_at_call 16; refine (ref_In _ _ _ _).mono ?_; rintro e w3 ⟨rfl, rfl⟩) | (go_at_call 51; refine (ref_Num _ _).mono ?_; rintro e w3 ⟨rfl, rfl⟩))
    go_ret
    exact ⟨ret_bool (by rw [ho.out]), (Below.refl _ _).alloc (Nat.le_refl _) _⟩
  by_cases hg : Int.gcd n d = 1
  · have ho := Lib.hid (show fracOk n d = true from decide_eq_true ⟨d1, d2, n1, n2, hg⟩)
    have hgb : ((Int.gcd n d : Int) == 1) = true := by rw [hg]; rfl
    clear hg
    go_enter Try.func21, Try.ntmps21
    go_wp2_with (first | (go_at_call 16; refine (ref_In _ _ _ _).mono ?_; rintro e w3 ⟨rfl, rfl⟩) | (go_at_call 51; refine (ref_Num _ _).mono ?_; rintro e w3 ⟨rfl, rfl⟩) | (go_at_call 52; refine (ref_Gcd n d _ h1 h2 h3 h4).mono ?_; rintro e w3 ⟨rfl, rfl⟩))
    go_ret
    exact ⟨ret_bool (by rw [ho.out]), (Below.refl _ _).alloc (Nat.le_refl _) _⟩
  · have ho := Lib.hid (show fracOk n d = false from decide_eq_false (fun h => hg h.2.2.2.2))
    have hgb : ((Int.gcd n d : Int) == 1) = false := by simp; omega
    clear hg
    go_enter Try.func21, Try.ntmps21
    go_wp2_with (first | (go_at_call 16; refine (ref_In _ _ _ _).mono ?_; rintro e w3 ⟨rfl, rfl⟩) | (go_at_call 51; refine (ref_Num _ _).mono ?_; rintro e w3 ⟨rfl, rfl⟩) | (go_at_call 52; refine (ref_Gcd n d _ h1 h2 h3 h4).mono ?_; rintro e w3 ⟨rfl, rfl⟩))
    go_ret
    exact ⟨ret_bool (by rw [ho.out]), (Below.refl _ _).alloc (Nat.le_refl _) _⟩

theorem frac_size (a : Int) (w : World) (h1 : -9223372036854775808 ≤ a) (h2 : a ≤ 9223372036854775807) :
    Calls Try.prog 78 #[.int .i64 a] w fun e w' => e = .returned (.int .u64 (a.natAbs : Int)) ∧ w = w' := by
  by_cases h : a < 0
  · go_enter Try.func78, Try.ntmps78
    go_wp2
    go_ret
    exact ⟨ret_int (neg_wrap a h1 h), rfl⟩
  · go_enter Try.func78, Try.ntmps78
    go_wp2
    go_ret
    exact ⟨ret_int (by omega), rfl⟩
/-- The fraction n / d in lowest terms. -/
def fracVal (n d : Int) (e : Int) : Value := .tuple #[.agg #[.int .i64 n, .int .i64 d], .int .i64 e]
def fracNum (n d : Int) : Int := if (n < 0) ≠ (d < 0) then -((n.natAbs / Int.gcd n d : Nat) : Int) else ((n.natAbs / Int.gcd n d : Nat) : Int)
def fracDen (n d : Int) : Int := ((d.natAbs / Int.gcd n d : Nat) : Int)
def ofOut (n d : Int) : Value :=
  if d = 0 then fracVal 0 0 1 else
  if 2147483647 < n.natAbs / Int.gcd n d ∨ 2147483647 < d.natAbs / Int.gcd n d then fracVal 0 0 14 else fracVal (fracNum n d) (fracDen n d) 0
set_option maxHeartbeats 1000000 in
theorem frac_Of (n d : Int) (w : World) (h1 : -9223372036854775808 ≤ n) (h2 : n ≤ 9223372036854775807) (h3 : -9223372036854775808 ≤ d) (h4 : d ≤ 9223372036854775807) :
    Calls Try.prog 50 #[.int .i64 n, .int .i64 d] w fun e w' => e = .returned (ofOut n d) ∧ Below w.heap.size w w' := by
  by_cases hd0 : d = 0
  · subst hd0
    go_enter Try.func50, Try.ntmps50
    go_wp2_with fail
    refine bodyPost_ret (v := fracVal 0 0 1) (by simp [results, Try.results50, go_sem, fracVal]) rfl ⟨by rw [ofOut, if_pos rfl], ?_⟩
    exact (Below.refl _ _).alloc (Nat.le_refl _) _
  have hdb : (d == 0) = false := by simp [hd0]
  go_enter Try.func50, Try.ntmps50
  go_wp2_with fail
  refine (frac_size _ _ h1 h2).mono ?_; rintro e w' ⟨rfl, rfl⟩
  go_wp2_with fail
  refine (frac_size _ _ h3 h4).mono ?_; rintro e w' ⟨rfl, rfl⟩
  go_wp2_with fail
  go_loopw [8, 9] (fun x y wr => ∃ m k : Nat, m ≤ 18446744073709551615 ∧ k ≤ 18446744073709551615 ∧ Nat.gcd m k = Int.gcd n d ∧ x = .int .u64 m ∧ y = .int .u64 k ∧ Drawn (w.alloc (.cells #[.int .i64 0, .int .i64 0] 33)) wr) (fun _ y _ => (intOf y).toNat)
  case atStart => exact ⟨n.natAbs, d.natAbs, by omega, by omega, rfl, rfl, rfl, Drawn.refl _⟩
  case round =>
    obtain ⟨m, k, hm, hk, hg, rfl, rfl, hdr⟩ := hrel
    have HG := Lib.hid hg; clear hg
    by_cases hz : k = 0
    · subst hz
      have hmg : m = Int.gcd n d := by have := HG.out; rwa [Nat.gcd_zero_right] at this
      have hpos : 1 ≤ m := by rw [hmg]; exact Int.gcd_pos_of_ne_zero_right n hd0
      have HO := Lib.hid (show ofOut n d = if 2147483647 < n.natAbs / m ∨ 2147483647 < d.natAbs / m then fracVal 0 0 14 else fracVal (if (n < 0) ≠ (d < 0) then -((n.natAbs / m : Nat) : Int) else ((n.natAbs / m : Nat) : Int)) ((d.natAbs / m : Nat) : Int) 0 by
        rw [ofOut, if_neg hd0, fracNum, fracDen, ← hmg])
      have hzm : ((m : Int) == 0) = false := by simp; omega
      have la := Nat.div_le_self n.natAbs m
      have lb := Nat.div_le_self d.natAbs m
      clear hmg HG
      obtain ⟨nd, rfl⟩ := hdr
      go_wp2_with fail
      go_quiet (fail)
      have ea : ((n.natAbs : Int) / (m : Int)) = ((n.natAbs / m : Nat) : Int) := by simp
      have eb : ((d.natAbs : Int) / (m : Int)) = ((d.natAbs / m : Nat) : Int) := by simp
      rw [ea, eb]
      clear ea eb
      have la2 : n.natAbs / m ≤ 9223372036854775808 := by omega
      have lb2 : d.natAbs / m ≤ 9223372036854775808 := by omega
      clear la lb
      generalize n.natAbs / m = A at *
      generalize d.natAbs / m = B at *
      by_cases hA : 2147483647 < A
      · have HF := Lib.hid (HO.out.trans (if_pos (.inl hA)))
        clear HO
        go_wp2_with fail
        refine bodyPost_ret (v := fracVal 0 0 14) (by simp [results, Try.results50, go_sem, fracVal]) rfl ⟨by rw [HF.out], ?_⟩
        exact ((below_drewN (below_new (Below.refl _ _) _) _).setCell (by simp) _).setCell (by simp) _
      by_cases hB : 2147483647 < B
      · have HF := Lib.hid (HO.out.trans (if_pos (.inr hB)))
        clear HO
        go_wp2_with fail
        refine bodyPost_ret (v := fracVal 0 0 14) (by simp [results, Try.results50, go_sem, fracVal]) rfl ⟨by rw [HF.out], ?_⟩
        exact ((below_drewN (below_new (Below.refl _ _) _) _).setCell (by simp) _).setCell (by simp) _
      have HO2 := Lib.hid (HO.out.trans (if_neg (by omega)))
      clear HO
      by_cases hn : n < 0 <;> by_cases hdn : d < 0
      · have hda : decide (n < 0) = true := by simp; omega
        have hdb : decide (d < 0) = true := by simp; omega
        have HF := Lib.hid (show ofOut n d = fracVal (A : Int) (B : Int) 0 by rw [HO2.out, if_neg (by simp [hn, hdn])])
        clear HO2
        go_wp2_with fail
        refine bodyPost_ret (v := fracVal (A : Int) (B : Int) 0) (by simp [results, Try.results50, go_sem, fracVal]) rfl ⟨by rw [HF.out], ?_⟩
        exact below_new (((below_drewN (below_new (Below.refl _ _) _) _).setCell (by simp) _).setCell (by simp) _) _
      · have hda : decide (n < 0) = true := by simp; omega
        have hdb : decide (d < 0) = false := by simp; omega
        have HF := Lib.hid (show ofOut n d = fracVal (-(A : Int)) (B : Int) 0 by rw [HO2.out, if_pos (by simp [hn, hdn])])
        clear HO2
        go_wp2_with fail
        refine bodyPost_ret (v := fracVal (-(A : Int)) (B : Int) 0) (by simp [results, Try.results50, go_sem, fracVal]) rfl ⟨by rw [HF.out], ?_⟩
        exact below_new (((below_drewN (below_new (Below.refl _ _) _) _).setCell (by simp) _).setCell (by simp) _) _
      · have hda : decide (n < 0) = false := by simp; omega
        have hdb : decide (d < 0) = true := by simp; omega
        have HF := Lib.hid (show ofOut n d = fracVal (-(A : Int)) (B : Int) 0 by rw [HO2.out, if_pos (by simp [hn, hdn])])
        clear HO2
        go_wp2_with fail
        refine bodyPost_ret (v := fracVal (-(A : Int)) (B : Int) 0) (by simp [results, Try.results50, go_sem, fracVal]) rfl ⟨by rw [HF.out], ?_⟩
        exact below_new (((below_drewN (below_new (Below.refl _ _) _) _).setCell (by simp) _).setCell (by simp) _) _
      · have hda : decide (n < 0) = false := by simp; omega
        have hdb : decide (d < 0) = false := by simp; omega
        have HF := Lib.hid (show ofOut n d = fracVal (A : Int) (B : Int) 0 by rw [HO2.out, if_neg (by simp [hn, hdn])])
        clear HO2
        go_wp2_with fail
        refine bodyPost_ret (v := fracVal (A : Int) (B : Int) 0) (by simp [results, Try.results50, go_sem, fracVal]) rfl ⟨by rw [HF.out], ?_⟩
        exact below_new (((below_drewN (below_new (Below.refl _ _) _) _).setCell (by simp) _).setCell (by simp) _) _
    · have hz1 : ((k : Int) != 0) = true := by simp; omega
      have hz2 : ((k : Int) == 0) = false := by simp; omega
      obtain ⟨nd, rfl⟩ := hdr
      go_wp2_with fail
      go_quiet (fail)
      go_wp2_with fail
      go_roundw
      case rel => exact ⟨k, m % k, hk, by have := Nat.mod_lt m (show 0 < k by omega); omega, by rw [gcd_mod_step m k]; exact HG.out, rfl, by simp, ⟨nd + nq, by rw [World.drewN_drewN]⟩⟩
      case measure => simp [intOf]; exact Nat.mod_lt m (by omega)

end Go.Proofs.Ytnepdfglhngheaa
