/- The nearest fraction with a small denominator: neighbours in the tree of fractions, and the search by all denominators; plain. -/
import Derived.Test.YtnepdfglhngheaaBase
namespace Go.Proofs.Ytnepdfglhngheaa
set_option linter.unusedVariables false
set_option maxRecDepth 100000

/-- a / b < n / m < p / q, neighbours. -/
structure Nb (n m d a b p q : Int) : Prop where
  a0 : 0 ≤ a
  b1 : 1 ≤ b
  bd : b ≤ d
  q1 : 1 ≤ q
  qd : q ≤ d
  pq : p ≤ q
  det : p * b - a * q = 1
  lo : 0 < n * b - a * m
  hi : 0 < p * m - n * q
/-- The number of steps that fit. -/
def fit (x y z w : Int) : Int := if z / w < x / y then z / w else x / y
theorem fit_ok {x y z w : Int} (hx : 0 ≤ x) (hy : 0 < y) (hz : 0 ≤ z) (hw : 0 < w) : 0 ≤ fit x y z w ∧ fit x y z w * y ≤ x ∧ fit x y z w * w ≤ z := by
  have h1 := Int.ediv_nonneg hx (Int.le_of_lt hy)
  have h2 := Int.ediv_nonneg hz (Int.le_of_lt hw)
  have e1 := Int.ediv_mul_le x (show y ≠ 0 by omega)
  have e2 := Int.ediv_mul_le z (show w ≠ 0 by omega)
  unfold fit
  by_cases h : z / w < x / y
  · rw [if_pos h]
    exact ⟨h2, Int.le_trans (Int.mul_le_mul_of_nonneg_right (Int.le_of_lt h) (Int.le_of_lt hy)) e1, e2⟩
  · rw [if_neg h]
    exact ⟨h1, e1, Int.le_trans (Int.mul_le_mul_of_nonneg_right (by omega) (Int.le_of_lt hw)) e2⟩
theorem fit_zero {x y z w : Int} (hx : 0 ≤ x) (hy : 0 < y) (hz : 0 ≤ z) (hw : 0 < w) (h : fit x y z w = 0) : x < y ∨ z < w := by
  unfold fit at h
  by_cases q : z / w < x / y
  · rw [if_pos q] at h
    right
    rcases Int.lt_or_le z w with h' | h'
    · exact h'
    · have := Int.le_ediv_of_mul_le hw (show 1 * w ≤ z by omega); omega
  · rw [if_neg q] at h
    left
    rcases Int.lt_or_le x y with h' | h'
    · exact h'
    · have := Int.le_ediv_of_mul_le hy (show 1 * y ≤ x by omega); omega
theorem Nb.start {n m d : Int} (h1 : 0 < n) (h2 : n < m) (hd : 1 ≤ d) : Nb n m d 0 1 1 1 :=
  ⟨by omega, by omega, hd, by omega, hd, by omega, by omega, by omega, by omega⟩
theorem Nb.right {n m d a b p q : Int} (h : Nb n m d a b p q) (red : ∀ x e, 1 ≤ e → e ≤ d → x * m ≠ n * e) (k : Int) (k0 : 0 ≤ k) (k1 : k * (p * m - n * q) ≤ n * b - a * m) (k2 : k * q ≤ d - b) :
    Nb n m d (a + k * p) (b + k * q) p q := by
  have hq0 : 0 ≤ k * q := Int.mul_nonneg k0 (by have := h.q1; omega)
  have hp1 : 1 ≤ p := by
    have := h.det
    have : 0 ≤ a * q := Int.mul_nonneg h.a0 (by have := h.q1; omega)
    have hpb : 0 < p * b := by omega
    have := h.b1
    rcases Int.lt_or_le 0 p with x | x
    · omega
    · have := Int.mul_nonpos_of_nonpos_of_nonneg x (show 0 ≤ b by omega); omega
  have hp0 : 0 ≤ k * p := Int.mul_nonneg k0 (by omega)
  have e : n * (b + k * q) - (a + k * p) * m = (n * b - a * m) - k * (p * m - n * q) := by grind
  have hne := red (a + k * p) (b + k * q) (by have := h.b1; omega) (by omega)
  exact ⟨by have := h.a0; omega, by have := h.b1; omega, by omega, h.q1, h.qd, h.pq, by have := h.det; grind, by omega, h.hi⟩
theorem Nb.left {n m d a b p q : Int} (h : Nb n m d a b p q) (red : ∀ x e, 1 ≤ e → e ≤ d → x * m ≠ n * e) (hab : a ≤ b) (j : Int) (j0 : 0 ≤ j) (j1 : j * (n * b - a * m) ≤ p * m - n * q) (j2 : j * b ≤ d - q) :
    Nb n m d a b (p + j * a) (q + j * b) := by
  have hb0 : 0 ≤ j * b := Int.mul_nonneg j0 (by have := h.b1; omega)
  have hab' : j * a ≤ j * b := Int.mul_le_mul_of_nonneg_left hab j0
  have e : (p + j * a) * m - n * (q + j * b) = (p * m - n * q) - j * (n * b - a * m) := by grind
  have hne := red (p + j * a) (q + j * b) (by have := h.q1; omega) (by omega)
  exact ⟨h.a0, h.b1, h.bd, by have := h.q1; omega, by omega, by have := h.pq; omega, by have := h.det; grind, h.lo, by omega⟩
theorem Nb.ab {n m d a b p q : Int} (h : Nb n m d a b p q) (hm : 0 < m) (hn : n < m) : a < b := by
  have h1 := h.lo
  rcases Int.lt_or_le a b with h2 | h2
  · exact h2
  · have e1 : b * m ≤ a * m := Int.mul_le_mul_of_nonneg_right h2 (Int.le_of_lt hm)
    have e2 : n * b ≤ m * b := Int.mul_le_mul_of_nonneg_right (Int.le_of_lt hn) (by have := h.b1; omega)
    rw [Int.mul_comm m b] at e2
    omega
theorem Nb.stop {n m d a b p q : Int} (h : Nb n m d a b p q) (hk : fit (n * b - a * m) (p * m - n * q) (d - b) q = 0) (hj : fit (p * m - n * q) (n * b - a * m) (d - q) b = 0) : d < b + q := by
  have h1 := fit_zero (by have := h.lo; omega) h.hi (by have := h.bd; omega) (by have := h.q1; omega) hk
  have h2 := fit_zero (by have := h.hi; omega) h.lo (by have := h.qd; omega) (by have := h.b1; omega) hj
  omega

/-! The search by all denominators. -/
def dis (N M c e : Int) : Int := ((c * M - N * e).natAbs : Int)
/-- c / e is nearer to N / M than P / Q. -/
def nearB (N M c e P Q : Int) : Prop := dis N M c e * Q < dis N M P Q * e
instance (N M c e P Q : Int) : Decidable (nearB N M c e P Q) := by unfold nearB; exact inferInstance
structure Best (N M d tp tq : Int) : Prop where
  q1 : 1 ≤ tq
  qd : tq ≤ d
  min : ∀ c e, 1 ≤ e → e ≤ d → ¬ nearB N M c e tp tq
  first : ∀ c e, 1 ≤ e → (e < tq ∨ (e = tq ∧ c < tp)) → nearB N M tp tq c e
  cand : tp = N * tq / M ∨ tp = N * tq / M + 1
def nearStep (N M q : Int) (b : Int × Int) (c : Int) : Int × Int := if nearB N M c q b.1 b.2 then (c, q) else b
def nearTo (N M : Int) : Nat → Int × Int
  | 0 => (N / M, 1)
  | k + 1 => nearStep N M ((k : Int) + 1) (nearStep N M ((k : Int) + 1) (nearTo N M k) (N * ((k : Int) + 1) / M)) (N * ((k : Int) + 1) / M + 1)
theorem nearTo_succ (N M : Int) (k : Nat) : nearTo N M (k + 1) = nearStep N M ((k : Int) + 1) (nearStep N M ((k : Int) + 1) (nearTo N M k) (N * ((k : Int) + 1) / M)) (N * ((k : Int) + 1) / M + 1) := rfl
theorem nearStep_den (N M q : Int) (b : Int × Int) (c : Int) : nearStep N M q b c = (c, q) ∨ nearStep N M q b c = b := by
  unfold nearStep; split
  · exact .inl rfl
  · exact .inr rfl
theorem nearTo_den (N M : Int) : ∀ k : Nat, 1 ≤ (nearTo N M k).2 ∧ ((nearTo N M k).2 ≤ k ∨ (nearTo N M k).2 = 1)
  | 0 => ⟨by simp [nearTo], .inr rfl⟩
  | k + 1 => by
    have ih := nearTo_den N M k
    rw [nearTo_succ]
    rcases nearStep_den N M ((k : Int) + 1) (nearTo N M k) (N * ((k : Int) + 1) / M) with e | e <;> rw [e] <;>
      rcases nearStep_den N M ((k : Int) + 1) _ (N * ((k : Int) + 1) / M + 1) with e2 | e2 <;> rw [e2] <;> (try simp only) <;> omega
theorem near_keep {N M d tp tq q c : Int} (h : Best N M d tp tq) (h1 : 1 ≤ q) (h2 : q ≤ d) : nearStep N M q (tp, tq) c = (tp, tq) := by
  unfold nearStep; rw [if_neg (h.min c q h1 h2)]
theorem nearTo_inv {N M d tp tq : Int} (h : Best N M d tp tq) : ∀ k : Nat, (k : Int) ≤ d → nearTo N M k = (tp, tq) ∨ ((k : Int) < tq ∧ nearB N M tp tq (nearTo N M k).1 (nearTo N M k).2)
  | 0, _ => by
    by_cases ht : tq = 1
    · have hc := h.cand
      rw [ht, Int.mul_one] at hc
      rcases hc with hc | hc
      · left; rw [hc, ht]; rfl
      · right; exact ⟨by omega, h.first _ _ (by simp [nearTo]) (.inr ⟨by simp [nearTo, ht], by simp only [nearTo]; omega⟩)⟩
    · right; exact ⟨by have := h.q1; omega, h.first _ _ (by simp [nearTo]) (.inl (by have := h.q1; simp only [nearTo]; omega))⟩
  | k + 1, hk => by
    have ih := nearTo_inv h k (by omega)
    rw [nearTo_succ]
    rcases ih with ih | ⟨ih1, ih2⟩
    · left
      rw [ih, near_keep h (by omega) (by omega), near_keep h (by omega) (by omega)]
    generalize nearTo N M k = b at *
    generalize hq : ((k : Int) + 1) = q at *
    generalize hf : N * q / M = f
    have hq' : ((k + 1 : Nat) : Int) = q := by omega
    rw [hq']
    by_cases ht : q = tq
    · left
      have hc := h.cand
      rw [← ht, hf] at hc
      rcases hc with hc | hc
      · have e1 : nearStep N M q b f = (tp, tq) := by
          unfold nearStep; rw [← hc, ht, if_pos ih2]
        rw [e1, near_keep h (by omega) (by omega)]
      · have hb : nearB N M tp tq (nearStep N M q b f).1 (nearStep N M q b f).2 := by
          unfold nearStep
          split
          · exact h.first f q (by omega) (.inr ⟨ht, by omega⟩)
          · exact ih2
        rw [show nearStep N M q (nearStep N M q b f) (f + 1) = (tp, tq) by
          rw [← hc, nearStep, ht]
          rw [ht] at hb
          rw [if_pos hb]]
    · right
      refine ⟨by omega, ?_⟩
      have h1 : nearB N M tp tq (nearStep N M q b f).1 (nearStep N M q b f).2 := by
        unfold nearStep
        split
        · exact h.first f q (by omega) (.inl (by omega))
        · exact ih2
      rw [show nearStep N M q (nearStep N M q b f) (f + 1) = if nearB N M (f + 1) q (nearStep N M q b f).1 (nearStep N M q b f).2 then (f + 1, q) else nearStep N M q b f from rfl]
      split
      · exact h.first (f + 1) q (by omega) (.inl (by omega))
      · exact h1
theorem nearTo_best {N M tp tq : Int} {d : Nat} (h : Best N M (d : Int) tp tq) : nearTo N M d = (tp, tq) := by
  rcases nearTo_inv h d (Int.le_refl _) with h' | ⟨h', _⟩
  · exact h'
  · have := h.qd; omega
end Go.Proofs.Ytnepdfglhngheaa
