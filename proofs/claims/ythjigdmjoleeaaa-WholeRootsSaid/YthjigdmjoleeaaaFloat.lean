/- The square root of a 64-bit whole number in double words, cut to a whole number: it is not negative and it is small. No program in sight. -/
import Ieee.Arith
import GoSem.Core.Float
namespace Go.Proofs.Ythjigdmjoleeaaa
set_option linter.unusedVariables false
set_option maxRecDepth 100000
open Ieee

theorem shl (a b : Nat) : a <<< b = a * 2 ^ b := Nat.shiftLeft_eq a b
theorem lt_log (n : Nat) (h : n ≠ 0) : n < 2 ^ (n.log2 + 1) := Nat.lt_log2_self
theorem log_le {n k : Nat} (h : n ≠ 0) (hn : n < 2 ^ (k + 1)) : n.log2 ≤ k := by
  have := (Nat.log2_lt h).2 hn
  omega
theorem cut_le (neg : Bool) (n drop : Nat) : Toward.even.cut neg n drop ≤ n / 2 ^ (min drop (n.log2 + 2)) + 1 := by
  unfold Toward.cut
  simp only [shl, Nat.one_mul]
  have : ∀ b : Bool, b.toNat ≤ 1 := by decide
  exact Nat.add_le_add_left (this _) _
theorem cut_zero (neg : Bool) (n : Nat) : Toward.even.cut neg n 0 = n := by
  unfold Toward.cut
  simp [Nat.mod_one]
theorem kept_le (neg : Bool) (mag : Nat) (place last : Int) (hm : mag ≠ 0) (h1 : place + mag.log2 - 52 ≤ last) : Toward.even.cut neg (mag <<< (place - last).toNat) (last - place).toNat ≤ 2 ^ 53 := by
  have hl := lt_log mag hm
  by_cases hp : last ≤ place
  · have : (last - place).toNat = 0 := by omega
    rw [this, cut_zero, shl]
    have h2 : (place - last).toNat + (mag.log2 + 1) ≤ 53 := by omega
    have h3 : mag * 2 ^ (place - last).toNat ≤ 2 ^ (mag.log2 + 1) * 2 ^ (place - last).toNat := Nat.mul_le_mul_right _ (by omega)
    rw [← Nat.pow_add] at h3
    exact Nat.le_trans h3 (Nat.pow_le_pow_right (by omega) (by omega))
  · have h0 : (place - last).toNat = 0 := by omega
    rw [h0]
    simp only [Nat.shiftLeft_zero]
    refine Nat.le_trans (cut_le _ _ _) ?_
    have : mag / 2 ^ (min (last - place).toNat (mag.log2 + 2)) < 2 ^ 53 := by
      apply (Nat.div_lt_iff_lt_mul (Nat.pow_pos (by omega))).2
      rw [← Nat.pow_add]
      exact Nat.lt_of_lt_of_le hl (Nat.pow_le_pow_right (by omega) (by omega))
    omega
/-- The nearest word to a positive number below 2 ^ (E + 1): a bound of its rung. -/
theorem nearest_le (mag : Nat) (place : Int) (E : Nat) (hE : place + mag.log2 ≤ E) : double.nearest false mag place ≤ (E + 1024) * 2 ^ 52 := by
  unfold Format.nearest
  split
  · simp [Format.word]
  · rename_i hm
    have hk := kept_le false mag place (max (place + mag.log2 - double.fractionBits) double.leastPlace) hm (by simp [double]; omega)
    simp only [Format.word, Bool.false_eq_true, if_false]
    refine Nat.le_trans (Nat.min_le_left _ _) ?_
    have hL : ((max (place + mag.log2 - double.fractionBits) double.leastPlace) - double.leastPlace).toNat ≤ E + 1022 := by
      have : double.leastPlace = -1074 := by decide
      rw [this]
      simp only [double]
      omega
    have hb : double.binade = 2 ^ 52 := rfl
    rw [hb]
    have h1 := Nat.mul_le_mul_right (2 ^ 52) hL
    have h2 : (E + 1024) * 2 ^ 52 = (E + 1022) * 2 ^ 52 + 2 ^ 53 := by rw [show E + 1024 = (E + 1022) + 2 from rfl, Nat.add_mul (E + 1022) 2 (2 ^ 52)]
    rw [h2]
    exact Nat.add_le_add h1 hk
/-- What a word below 2046 binades stands for. -/
theorem read_le (r k : Nat) (hr : r ≤ k * 2 ^ 52) (hk : 1 ≤ k) (hk2 : k ≤ 2046) : ∃ (m : Nat) (p : Int), double.read r = .number false m p ∧ m < 2 ^ 53 ∧ p ≤ -1074 + (k - 1 : Int) := by
  have hsw : double.signWeight = 2 ^ 63 := rfl
  have hbi : double.binade = 2 ^ 52 := rfl
  have hin : double.infRung = 2047 * 2 ^ 52 := by decide
  have hlp : double.leastPlace = -1074 := by decide
  have hr' : r < 2 ^ 63 := by
    have := Nat.mul_le_mul_right (2 ^ 52) hk2
    omega
  have e1 : r / 2 ^ 63 = 0 := Nat.div_eq_of_lt hr'
  have e2 : r % 2 ^ 63 = r := Nat.mod_eq_of_lt hr'
  have hlt : r < 2047 * 2 ^ 52 := by
    have := Nat.mul_le_mul_right (2 ^ 52) hk2
    omega
  unfold Format.read
  simp only [hsw, hbi, hin, hlp, e1, e2]
  by_cases hb : r < 2 ^ 52
  · rw [if_pos hb]
    exact ⟨r, -1074, rfl, by omega, by omega⟩
  · rw [if_neg hb, if_pos hlt]
    have hd : r / 2 ^ 52 ≤ k := Nat.div_le_of_le_mul (by rw [Nat.mul_comm]; exact hr)
    have hmod : r % 2 ^ 52 < 2 ^ 52 := Nat.mod_lt _ (by omega)
    refine ⟨2 ^ 52 + r % 2 ^ 52, -1074 + ((r / 2 ^ 52 - 1 : Nat) : Int), rfl, by omega, ?_⟩
    omega
theorem rootFrom_sq (n : Nat) : ∀ (todo root : Nat), root * root ≤ n → Datum.rootFrom n todo root * Datum.rootFrom n todo root ≤ n
  | 0, root, h => h
  | todo + 1, root, h => by
    unfold Datum.rootFrom
    apply rootFrom_sq
    split
    · assumption
    · exact h
theorem sqrt_small (x : Nat) (hx : x ≤ 1086 * 2 ^ 52) : ∃ r, double.sqrt x = some r ∧ r ≤ 1075 * 2 ^ 52 := by
  obtain ⟨m, p, hrd, hm, hp⟩ := read_le x 1086 hx (by omega) (by omega)
  unfold Format.sqrt
  rw [hrd]
  unfold Datum.root
  by_cases h0 : m = 0
  · simp only [h0, if_true]
    refine ⟨_, rfl, ?_⟩
    show double.nearest false 0 p ≤ _
    simp [Format.nearest, Format.word]
  · simp only [h0, if_false, Bool.false_eq_true]
    refine ⟨_, rfl, ?_⟩
    have hl : m.log2 ≤ 52 := log_le h0 hm
    have hlt := lt_log m h0
    have hfb : double.fractionBits = 52 := rfl
    rw [hfb]
    generalize hmo : 2 * (52 + 2) - m.log2 + ((p - ↑(2 * (52 + 2) - m.log2)) % 2).toNat = more
    have hmore : more ≤ 109 - m.log2 ∧ 56 ≤ more := by omega
    have hN : m <<< more < 2 ^ 110 := by
      rw [shl]
      have h3 : m * 2 ^ more < 2 ^ (m.log2 + 1) * 2 ^ more := Nat.mul_lt_mul_of_pos_right hlt (Nat.pow_pos (by omega))
      rw [← Nat.pow_add] at h3
      exact Nat.lt_of_lt_of_le h3 (Nat.pow_le_pow_right (by omega) (by omega))
    have hsq := rootFrom_sq (m <<< more) ((m <<< more).log2 / 2 + 1) 0 (by simp)
    generalize Datum.rootFrom (m <<< more) ((m <<< more).log2 / 2 + 1) 0 = whole at *
    have hw : whole < 2 ^ 55 := by
      apply Nat.lt_of_not_le
      intro h
      have := Nat.mul_le_mul h h
      have e : (2 : Nat) ^ 55 * 2 ^ 55 = 2 ^ 110 := by rw [← Nat.pow_add]
      omega
    show double.nearest false _ _ ≤ _
    refine nearest_le _ _ 51 ?_
    have hb : ∀ b : Bool, b.toNat ≤ 1 := by decide
    have hb' := hb (whole * whole != m <<< more)
    generalize (whole * whole != m <<< more).toNat = bb at *
    by_cases hz : 2 * whole + bb = 0
    · rw [hz]; simp; omega
    · have := log_le (k := 55) hz (by omega)
      omega
theorem toInt_small (r : Nat) (hr : r ≤ 1075 * 2 ^ 52) : ∃ k : Nat, (double.read r).toInt .zero = some (k : Int) ∧ k < 2 ^ 53 := by
  obtain ⟨m, p, hrd, hm, hp⟩ := read_le r 1075 hr (by omega) (by omega)
  rw [hrd]
  have h0 : p.toNat = 0 := by omega
  refine ⟨m / 2 ^ min (-p).toNat (m.log2 + 2), ?_, Nat.lt_of_le_of_lt (Nat.div_le_self _ _) hm⟩
  simp [Datum.toInt, Datum.integral, Toward.cut, signed, h0, shl]
theorem nearest_small (n : Int) (h1 : 0 ≤ n) (h2 : n ≤ 9223372036854775807) : Go.FloatKind.f64.nearest n ≤ 1086 * 2 ^ 52 := by
  have hn : decide (n < 0) = false := by simp; omega
  unfold Go.FloatKind.nearest Go.FloatKind.encode
  show double.nearest (decide (n < 0)) n.natAbs 0 ≤ _
  rw [hn]
  refine nearest_le _ _ 62 ?_
  by_cases h0 : n.natAbs = 0
  · rw [h0]; simp
  · have := log_le (k := 62) h0 (by omega)
    omega
end Go.Proofs.Ythjigdmjoleeaaa
