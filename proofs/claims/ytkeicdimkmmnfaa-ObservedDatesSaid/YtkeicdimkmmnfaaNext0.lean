/- Days that have given places in cycles, plain: congruences joined one by one. -/
import Derived.Test.YtkeicdimkmmnfaaCycle2
namespace Go.Proofs.Ytkeicdimkmmnfaa
set_option linter.unusedVariables false
set_option maxRecDepth 100000

/-- A place in one cycle as a congruence. -/
theorem place_iff (d x y z : Int) (hx : 1 ≤ x) (hz1 : 0 ≤ z) (hz2 : z < x) : (d + y) % x = z ↔ x ∣ d - (z - y) % x := by
  have h1 := Int.emod_nonneg (z - y) (show x ≠ 0 by omega)
  have h2 : x ∣ (z - y) - (z - y) % x := Int.dvd_self_sub_emod
  constructor
  · intro h
    have h3 : x ∣ (d + y) - (d + y) % x := Int.dvd_self_sub_emod
    rw [h] at h3
    have : d - (z - y) % x = ((d + y) - z) + ((z - y) - (z - y) % x) := by omega
    rw [this]; exact Int.dvd_add h3 h2
  · intro h
    have h4 : x ∣ (d + y) - z := by
      have : (d + y) - z = (d - (z - y) % x) - ((z - y) - (z - y) % x) := by omega
      rw [this]; exact Int.dvd_sub h h2
    obtain ⟨q, hq⟩ := h4
    have : d + y = z + x * q := by omega
    rw [this, Int.add_mul_emod_self_left, Int.emod_eq_of_lt hz1 hz2]
/-- The meet's step is the least common multiple. -/
theorem crt_lcm (m n : Int) (hm : 1 ≤ m) (hn : 1 ≤ n) : m * (n / (Int.gcd m n : Int)) = (Int.lcm m n : Int) := by
  have hg : (Int.gcd m n : Int) ∣ n := Int.gcd_dvd_right m n
  have hgp : 0 < (Int.gcd m n : Int) := by have : 0 < Int.gcd m n := Int.gcd_pos_of_ne_zero_left n (by omega); omega
  have e2 : Int.gcd m n * Int.lcm m n = m.natAbs * n.natAbs := Int.gcd_mul_lcm m n
  have e4 : (Int.gcd m n : Int) * (Int.lcm m n : Int) = m * n := by
    have : ((Int.gcd m n * Int.lcm m n : Nat) : Int) = ((m.natAbs * n.natAbs : Nat) : Int) := by rw [e2]
    rw [Int.natCast_mul, Int.natCast_mul, Int.natAbs_of_nonneg (by omega : 0 ≤ m), Int.natAbs_of_nonneg (by omega : 0 ≤ n)] at this
    exact this
  generalize (Int.gcd m n : Int) = g at *
  obtain ⟨k, hk⟩ := hg
  subst hk
  rw [Int.mul_ediv_cancel_left _ (by omega)]
  have : g * (Int.lcm m (g * k) : Int) = g * (m * k) := by
    rw [e4, ← Int.mul_assoc, ← Int.mul_assoc, Int.mul_comm m]
  exact (Int.eq_of_mul_eq_mul_left (by omega) this).symm
/-- Two congruences are one. -/
theorem crt_iff (a m b n at' l d : Int) (hm : 1 ≤ m) (hn : 1 ≤ n) (hl : l = m * (n / (Int.gcd m n : Int))) (h1 : m ∣ at' - a) (h2 : n ∣ at' - b) : (m ∣ d - a ∧ n ∣ d - b) ↔ l ∣ d - at' := by
  have hlcm : l = (Int.lcm m n : Int) := by rw [hl, crt_lcm m n hm hn]
  constructor
  · rintro ⟨p, q⟩
    have p' : m ∣ d - at' := by
      have : d - at' = (d - a) - (at' - a) := by omega
      rw [this]; exact Int.dvd_sub p h1
    have q' : n ∣ d - at' := by
      have : d - at' = (d - b) - (at' - b) := by omega
      rw [this]; exact Int.dvd_sub q h2
    rw [hlcm]
    exact Int.coe_lcm_dvd p' q'
  · intro h
    rw [hlcm] at h
    have p' : m ∣ d - at' := Int.dvd_trans (Int.dvd_lcm_left m n) h
    have q' : n ∣ d - at' := Int.dvd_trans (Int.dvd_lcm_right m n) h
    refine ⟨?_, ?_⟩
    · have : d - a = (d - at') + (at' - a) := by omega
      rw [this]; exact Int.dvd_add p' h1
    · have : d - b = (d - at') + (at' - b) := by omega
      rw [this]; exact Int.dvd_add q' h2
/-- A day has the first k places. -/
def Fits (xs ys zs : List Int) (k : Nat) (d : Int) : Prop := ∀ (j : Nat) (x y z : Int), j < k → xs[j]? = some x → ys[j]? = some y → zs[j]? = some z → (d + y) % x = z
theorem fits_zero (xs ys zs : List Int) (d : Int) : Fits xs ys zs 0 d := fun j x y z h => absurd h (by omega)
theorem fits_snoc {xs ys zs : List Int} {k : Nat} {d x y z : Int} (hx : xs[k]? = some x) (hy : ys[k]? = some y) (hz : zs[k]? = some z) : Fits xs ys zs (k + 1) d ↔ Fits xs ys zs k d ∧ (d + y) % x = z := by
  constructor
  · intro h
    exact ⟨fun j x' y' z' hj => h j x' y' z' (by omega), h k x y z (by omega) hx hy hz⟩
  · rintro ⟨h, h'⟩ j x' y' z' hj hx' hy' hz'
    by_cases e : j = k
    · subst e
      rw [hx] at hx'; rw [hy] at hy'; rw [hz] at hz'
      injection hx' with e1; injection hy' with e2; injection hz' with e3
      subst e1; subst e2; subst e3
      exact h'
    · exact h j x' y' z' (by omega) hx' hy' hz'
theorem fits_mono {xs ys zs : List Int} {k k' : Nat} {d : Int} (hk : k ≤ k') (h : Fits xs ys zs k' d) : Fits xs ys zs k d := fun j x y z hj => h j x y z (by omega)
/-- The days of the first k cycles are one class. -/
structure Joint (xs ys zs : List Int) (k : Nat) (a m : Int) : Prop where
  pos : 1 ≤ m
  lo : 0 ≤ a
  hi : a < m
  iff : ∀ d, Fits xs ys zs k d ↔ m ∣ d - a
theorem joint_zero (xs ys zs : List Int) : Joint xs ys zs 0 0 1 := ⟨by omega, by omega, by omega, fun d => ⟨fun _ => ⟨d - 0, by omega⟩, fun _ => fits_zero xs ys zs d⟩⟩
theorem joint_snoc {xs ys zs : List Int} {k : Nat} {a m at' l x y z : Int} (j : Joint xs ys zs k a m) (hx : xs[k]? = some x) (hy : ys[k]? = some y) (hz : zs[k]? = some z) (x1 : 1 ≤ x) (z1 : 0 ≤ z) (z2 : z < x)
    (hl : l = m * (x / (Int.gcd m x : Int))) (l1 : 1 ≤ l) (p1 : 0 ≤ at') (p2 : at' < l) (h1 : m ∣ at' - a) (h2 : x ∣ at' - (z - y) % x) : Joint xs ys zs (k + 1) at' l := by
  refine ⟨l1, p1, p2, fun d => ?_⟩
  rw [fits_snoc hx hy hz, j.iff d, place_iff d x y z x1 z1 z2]
  exact crt_iff a m _ x at' l d j.pos x1 hl h1 h2
theorem joint_none {xs ys zs : List Int} {k : Nat} {a m x y z : Int} (j : Joint xs ys zs k a m) (hx : xs[k]? = some x) (hy : ys[k]? = some y) (hz : zs[k]? = some z) (x1 : 1 ≤ x) (z1 : 0 ≤ z) (z2 : z < x)
    (h : ¬ (Int.gcd m x : Int) ∣ (z - y) % x - a) (k' : Nat) (hk : k + 1 ≤ k') (d : Int) : ¬ Fits xs ys zs k' d := by
  intro f
  have f' := fits_mono hk f
  rw [fits_snoc hx hy hz, j.iff d, place_iff d x y z x1 z1 z2] at f'
  apply h
  have e : (z - y) % x - a = (d - a) - (d - (z - y) % x) := by omega
  rw [e]
  exact Int.dvd_sub (Int.dvd_trans (Int.gcd_dvd_left m x) f'.1) (Int.dvd_trans (Int.gcd_dvd_right m x) f'.2)
/-- The first day of a class from a day on. -/
theorem first_of_class (day a m : Int) (hm : 1 ≤ m) : day ≤ day + (a - day) % m ∧ m ∣ (day + (a - day) % m) - a ∧ ∀ d, day ≤ d → m ∣ d - a → day + (a - day) % m ≤ d := by
  have h1 := Int.emod_nonneg (a - day) (show m ≠ 0 by omega)
  have h2 := Int.emod_lt_of_pos (a - day) (show 0 < m by omega)
  have h3 : m ∣ (a - day) - (a - day) % m := Int.dvd_self_sub_emod
  have h4 : m ∣ (day + (a - day) % m) - a := by
    have e : (day + (a - day) % m) - a = -((a - day) - (a - day) % m) := by omega
    rw [e]; exact Int.dvd_neg.mpr h3
  refine ⟨by omega, h4, fun d hd hc => ?_⟩
  apply Classical.byContradiction
  intro hlt
  have h5 : m ∣ (day + (a - day) % m) - d := by
    have e : (day + (a - day) % m) - d = ((day + (a - day) % m) - a) - (d - a) := by omega
    rw [e]; exact Int.dvd_sub h4 hc
  have h6 := Int.le_of_dvd (by omega) h5
  omega
/-- Between two neighbours of a class there is none. -/
theorem next_of_class (d d' a m : Int) (hm : 1 ≤ m) (h : m ∣ d - a) (h' : m ∣ d' - a) (hlt : d < d') : d + m ≤ d' := by
  have h5 : m ∣ d' - d := by
    have e : d' - d = (d' - a) - (d - a) := by omega
    rw [e]; exact Int.dvd_sub h' h
  have h6 := Int.le_of_dvd (by omega) h5
  omega
end Go.Proofs.Ytkeicdimkmmnfaa
