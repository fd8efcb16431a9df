/- Contract of whole.Root. -/
import Derived.Test.YthjigdmjoleeaaaMul
import Derived.Test.YthjigdmjoleeaaaFloat
namespace Go.Proofs.Ythjigdmjoleeaaa
set_option linter.unusedVariables false
set_option maxRecDepth 100000
open Go.RowKit
theorem conv_float (n : Int) (w : World) : (convert 3 114 (.int .i64 n)).run Try.prog w = .ok (.float .f64 (FloatKind.f64.nearest n)) w := by
  simp [convert, go_sem, Conv.intToFloat]
theorem conv_int (b : Nat) (k : Int) (w : World) (h : (Ieee.double.read b).toInt .zero = some k) (h1 : -9223372036854775808 ≤ k) (h2 : k ≤ 9223372036854775807) : (convert 114 3 (.float .f64 b)).run Try.prog w = .ok (.int .i64 k) w := by
  have hd : (FloatKind.f64.decode b).toInt .zero = some k := h
  have hr : IntKind.i64.min ≤ k ∧ k ≤ IntKind.i64.max := ⟨h1, h2⟩
  simp [convert, go_sem, Conv.floatToInt, hd, hr]
  omega
theorem run_sqrt (x r : Nat) (w : World) (h : FloatKind.f64.format.sqrt x = some r) : (callFunc 97 #[.float .f64 x]).run Try.prog w = .ok (.value (.float .f64 r)) w := by
  rw [run_callFunc_extern (e := Extern.MathSqrt.sqrt) Try.func97 (by kernel_rfl) (by kernel_rfl) (by kernel_rfl) (by kernel_rfl)]
  have e : Extern.MathSqrt.sqrt #[.float .f64 x] = pure (.float .f64 r) := by
    show (match FloatKind.f64.format.sqrt x with
      | some r => (pure (.float .f64 r) : Sem Value)
      | none => do pure (.float .f64 (← choose (.nanBits .f64 x x)))) = _
    rw [h]
  rw [e]
  rfl
theorem math_Sqrt (x r : Nat) (w : World) (h : FloatKind.f64.format.sqrt x = some r) :
    Calls Try.prog 87 #[.float .f64 x] w fun e w' => e = .returned (.float .f64 r) ∧ w = w' := by
  have hr := fun W => run_sqrt x r W h
  clear h
  go_enter Try.func87, Try.ntmps87
  go_wp2_with fail
  go_ret
  exact ⟨rfl, rfl⟩

/-- n in whole.Root: what the two loops leave. -/
theorem whole_Root_neg (n : Int) (w : World) (h1 : -9223372036854775808 ≤ n) (h2 : n < 0) :
    Calls Try.prog 56 #[.int .i64 n] w fun e w' => e = .returned (.tuple #[.int .i64 0, .int .i64 1]) ∧ w = w' := by
  go_enter Try.func56, Try.ntmps56
  go_wp2_with fail
  go_ret2
  exact ⟨rfl, rfl⟩
set_option maxHeartbeats 1000000 in
set_option maxHeartbeats 1000000 in
theorem whole_Root (n : Int) (w : World) (h1 : 0 ≤ n) (h2 : n ≤ 9223372036854775807) :
    Calls Try.prog 56 #[.int .i64 n] w fun e w' => ∃ r : Int, 0 ≤ r ∧ r ≤ 4294967296 ∧ r * r ≤ n ∧ n < (r + 1) * (r + 1) ∧ e = .returned (.tuple #[.int .i64 r, .int .i64 0]) ∧ Drawn w w' := by
  have c1 := conv_float n
  obtain ⟨r, hr, hrs⟩ := sqrt_small _ (nearest_small n h1 h2)
  obtain ⟨k0, hk, hks⟩ := toInt_small r hrs
  have c2 := fun W => conv_int r k0 W hk (by omega) (by omega)
  have SQ := Lib.hid (fun W => math_Sqrt _ r W hr)
  clear hr hrs hk
  have hn0 : ¬ n < 0 := by omega
  go_enter Try.func56, Try.ntmps56
  go_wp2_with fail
  refine (SQ.out _).mono ?_
  rintro e w1 ⟨rfl, rfl⟩
  go_wp2_with fail
  go_loopw [4] (fun x wr => ∃ k : Nat, k < 9007199254740992 ∧ x = .int .i64 k ∧ w = wr) (fun x _ => (intOf x).toNat)
  case atStart => exact ⟨k0, hks, rfl, rfl⟩
  case round =>
    obtain ⟨k, hk, rfl, rfl⟩ := hrel
    clear c1 c2 SQ hks
    by_cases hk0 : k = 0
    · subst hk0
      go_wp2_with fail
      go_loopw [4] (fun x wr => ∃ k : Nat, k < 4294967296 ∧ (k : Int) * k ≤ n ∧ x = .int .i64 k ∧ w = wr) (fun x _ => 4294967296 - (intOf x).toNat)
      case atStart => exact ⟨0, by omega, by simpa using h1, rfl, rfl⟩
      case round =>
        obtain ⟨j, hj, hjn, rfl, rfl⟩ := hrel
        obtain ⟨q, hq⟩ : ∃ q, q = n / ((j : Int) + 1) := ⟨_, rfl⟩
        have hq2 : n.tdiv ((j : Int) + 1) = q := by rw [Int.tdiv_eq_ediv_of_nonneg h1, ← hq]
        have hq1 : n / ((j : Int) + 1) = q := hq.symm
        have wj : IntKind.i64.wrap ((j : Int) + 1) = (j : Int) + 1 := IntWalk.i64_in _ (by omega)
        have wq : IntKind.i64.wrap q = q := IntWalk.i64_in _ (by
          have a0 := Int.ediv_nonneg h1 (show 0 ≤ (j : Int) + 1 by omega)
          have a1 := Int.ediv_le_self ((j : Int) + 1) h1
          omega)
        have hz : ((j : Int) + 1 == 0) = false := by simp; omega
        have hz2 : ¬ ((j : Int) + 1 = 0) := by omega
        have hiff : (j : Int) + 1 ≤ q ↔ ((j : Int) + 1) * ((j : Int) + 1) ≤ n := by rw [hq]; exact Int.le_ediv_iff_mul_le (by omega)
        clear hq
        by_cases hc : (j : Int) + 1 ≤ q
        · have hsq := hiff.1 hc
          have hlt : j + 1 < 4294967296 := by
            apply Nat.lt_of_not_le
            intro h
            have h3 := Int.mul_le_mul (show (4294967296 : Int) ≤ (j : Int) + 1 by omega) (show (4294967296 : Int) ≤ (j : Int) + 1 by omega) (by omega) (by omega)
            omega
          have HS := Lib.hid hsq
          clear hiff hsq hjn
          go_wp2_with fail
          go_roundw
          case rel => exact ⟨j + 1, hlt, by have := HS.out; simpa using this, by simp⟩
          case measure => simp [intOf]; omega
        · have hns : n < ((j : Int) + 1) * ((j : Int) + 1) := by
            have := mt hiff.2 hc
            omega
          have HS := Lib.hid hns
          have HJ := Lib.hid hjn
          clear hiff hns hjn
          go_wp2_with fail
          go_ret2
          exact ⟨j, by omega, by omega, HJ.out, HS.out, rfl, Drawn.refl _⟩
    have hkp : (0 : Int) < (k : Int) := by omega
    obtain ⟨q, hq⟩ : ∃ q, q = n / (k : Int) := ⟨_, rfl⟩
    have hq2 : n.tdiv (k : Int) = q := by rw [Int.tdiv_eq_ediv_of_nonneg h1, ← hq]
    have hq1 : n / (k : Int) = q := hq.symm
    have wq : IntKind.i64.wrap q = q := IntWalk.i64_in _ (by
      have a0 := Int.ediv_nonneg h1 (show 0 ≤ (k : Int) by omega)
      have a1 := Int.ediv_le_self (k : Int) h1
      omega)
    have hz : ((k : Int) == 0) = false := by simp; omega
    have hz2 : ¬ ((k : Int) = 0) := by omega
    have hiff : (k : Int) ≤ q ↔ (k : Int) * (k : Int) ≤ n := by rw [hq]; exact Int.le_ediv_iff_mul_le (by omega)
    clear hq
    by_cases hc : (k : Int) ≤ q
    · have hsq := Lib.hid (hiff.1 hc)
      clear hiff
      have hlt : k < 4294967296 := by
        apply Nat.lt_of_not_le
        intro h
        have h3 := Int.mul_le_mul (show (4294967296 : Int) ≤ (k : Int) by omega) (show (4294967296 : Int) ≤ (k : Int) by omega) (by omega) (by omega)
        have := hsq.out
        omega
      have hc' : ¬ q < (k : Int) := by omega
      go_wp2_with fail
      clear hq1 hq2 wq hz hz2 hc hc' hkp hk0
      go_loopw [4] (fun x wr => ∃ k : Nat, k < 4294967296 ∧ (k : Int) * k ≤ n ∧ x = .int .i64 k ∧ w = wr) (fun x _ => 4294967296 - (intOf x).toNat)
      case atStart => exact ⟨k, hlt, hsq.out, rfl, rfl⟩
      case round =>
        obtain ⟨j, hj, hjn, rfl, rfl⟩ := hrel
        obtain ⟨q, hq⟩ : ∃ q, q = n / ((j : Int) + 1) := ⟨_, rfl⟩
        have hq2 : n.tdiv ((j : Int) + 1) = q := by rw [Int.tdiv_eq_ediv_of_nonneg h1, ← hq]
        have hq1 : n / ((j : Int) + 1) = q := hq.symm
        have wj : IntKind.i64.wrap ((j : Int) + 1) = (j : Int) + 1 := IntWalk.i64_in _ (by omega)
        have wq : IntKind.i64.wrap q = q := IntWalk.i64_in _ (by
          have a0 := Int.ediv_nonneg h1 (show 0 ≤ (j : Int) + 1 by omega)
          have a1 := Int.ediv_le_self ((j : Int) + 1) h1
          omega)
        have hz : ((j : Int) + 1 == 0) = false := by simp; omega
        have hz2 : ¬ ((j : Int) + 1 = 0) := by omega
        have hiff : (j : Int) + 1 ≤ q ↔ ((j : Int) + 1) * ((j : Int) + 1) ≤ n := by rw [hq]; exact Int.le_ediv_iff_mul_le (by omega)
        clear hq
        by_cases hc : (j : Int) + 1 ≤ q
        · have hsq := hiff.1 hc
          have hlt : j + 1 < 4294967296 := by
            apply Nat.lt_of_not_le
            intro h
            have h3 := Int.mul_le_mul (show (4294967296 : Int) ≤ (j : Int) + 1 by omega) (show (4294967296 : Int) ≤ (j : Int) + 1 by omega) (by omega) (by omega)
            omega
          have HS := Lib.hid hsq
          clear hiff hsq hjn
          go_wp2_with fail
          go_roundw
          case rel => exact ⟨j + 1, hlt, by have := HS.out; simpa using this, by simp⟩
          case measure => simp [intOf]; omega
        · have hns : n < ((j : Int) + 1) * ((j : Int) + 1) := by
            have := mt hiff.2 hc
            omega
          have HS := Lib.hid hns
          have HJ := Lib.hid hjn
          clear hiff hns hjn
          go_wp2_with fail
          go_ret2
          exact ⟨j, by omega, by omega, HJ.out, HS.out, rfl, Drawn.refl _⟩
    · have hc' : q < (k : Int) := by omega
      have wk : IntKind.i64.wrap ((k : Int) - 1) = (k : Int) - 1 := IntWalk.i64_in _ (by omega)
      clear hiff hc
      go_wp2_with fail
      go_roundw
      case rel => exact ⟨k - 1, by omega, by simp; omega⟩
      case measure => simp [intOf]; omega
end Go.Proofs.Ythjigdmjoleeaaa
