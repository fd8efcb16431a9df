/- The better one of the last two neighbours is the nearest fraction; plain. -/
import Derived.Test.YtnepdfglhngheaaNear0
namespace Go.Proofs.Ytnepdfglhngheaa
set_option linter.unusedVariables false
set_option maxRecDepth 100000

/-- A / b < N / M < B / q, neighbours, and every fraction between them has a greater denominator than d. -/
structure Ends (N M d A b B q : Int) : Prop where
  M1 : 1 ≤ M
  b1 : 1 ≤ b
  bd : b ≤ d
  q1 : 1 ≤ q
  qd : q ≤ d
  det : B * b - A * q = 1
  lo : 0 < N * b - A * M
  hi : 0 < B * M - N * q
  far : d < b + q
theorem Ends.of {n m d a b p q : Int} (base : Int) (h : Nb n m d a b p q) (hm : 1 ≤ m) (hf : d < b + q) : Ends (base * m + n) m d (a + base * b) b (p + base * q) q :=
  ⟨hm, h.b1, h.bd, h.q1, h.qd, by have := h.det; grind, by have := h.lo; grind, by have := h.hi; grind, hf⟩
section
variable {N M d A b B q : Int}
theorem Ends.side (h : Ends N M d A b B q) (c e : Int) (h1 : 1 ≤ e) (h2 : e ≤ d) : c * b ≤ A * e ∨ B * e ≤ c * q := by
  rcases Int.lt_or_le (A * e) (c * b) with x | x
  · rcases Int.lt_or_le (c * q) (B * e) with y | y
    · exfalso
      have e1 : e = b * (B * e - c * q) + q * (c * b - A * e) := by have := h.det; grind
      have e2 : b * 1 ≤ b * (B * e - c * q) := Int.mul_le_mul_of_nonneg_left (by omega) (by have := h.b1; omega)
      have e3 : q * 1 ≤ q * (c * b - A * e) := Int.mul_le_mul_of_nonneg_left (by omega) (by have := h.q1; omega)
      have := h.far
      omega
    · exact .inr y
  · exact .inl x
theorem dis_left {c e : Int} (h : 0 ≤ N * e - c * M) : dis N M c e = N * e - c * M := by unfold dis; omega
theorem dis_right {c e : Int} (h : 0 ≤ c * M - N * e) : dis N M c e = c * M - N * e := by unfold dis; omega
theorem Ends.left (h : Ends N M d A b B q) {c e : Int} (h1 : 1 ≤ e) (hs : c * b ≤ A * e) : dis N M c e * b = e * (N * b - A * M) + M * (A * e - c * b) := by
  have e1 : (N * e - c * M) * b = e * (N * b - A * M) + M * (A * e - c * b) := by grind
  have p1 : 0 ≤ e * (N * b - A * M) := Int.mul_nonneg (by omega) (by have := h.lo; omega)
  have p2 : 0 ≤ M * (A * e - c * b) := Int.mul_nonneg (by have := h.M1; omega) (by omega)
  have p3 : 0 ≤ N * e - c * M := by
    rcases Int.lt_or_le (N * e - c * M) 0 with x | x
    · have := Int.mul_neg_of_neg_of_pos x (show 0 < b by have := h.b1; omega); omega
    · exact x
  rw [dis_left p3, e1]
theorem Ends.right (h : Ends N M d A b B q) {c e : Int} (h1 : 1 ≤ e) (hs : B * e ≤ c * q) : dis N M c e * q = e * (B * M - N * q) + M * (c * q - B * e) := by
  have e1 : (c * M - N * e) * q = e * (B * M - N * q) + M * (c * q - B * e) := by grind
  have p1 : 0 ≤ e * (B * M - N * q) := Int.mul_nonneg (by omega) (by have := h.hi; omega)
  have p2 : 0 ≤ M * (c * q - B * e) := Int.mul_nonneg (by have := h.M1; omega) (by omega)
  have p3 : 0 ≤ c * M - N * e := by
    rcases Int.lt_or_le (c * M - N * e) 0 with x | x
    · have := Int.mul_neg_of_neg_of_pos x (show 0 < q by have := h.q1; omega); omega
    · exact x
  rw [dis_right p3, e1]
theorem Ends.disL (h : Ends N M d A b B q) : dis N M A b = N * b - A * M := dis_left (by have := h.lo; omega)
theorem Ends.disU (h : Ends N M d A b B q) : dis N M B q = B * M - N * q := dis_right (by have := h.hi; omega)
theorem Ends.sum (h : Ends N M d A b B q) : (N * b - A * M) * q + (B * M - N * q) * b = M := by have := h.det; grind
theorem Ends.small (h : Ends N M d A b B q) : N * b - A * M < M ∧ B * M - N * q < M := by
  have e := h.sum
  have e1 : (N * b - A * M) * 1 ≤ (N * b - A * M) * q := Int.mul_le_mul_of_nonneg_left h.q1 (by have := h.lo; omega)
  have e2 : (B * M - N * q) * 1 ≤ (B * M - N * q) * b := Int.mul_le_mul_of_nonneg_left h.b1 (by have := h.hi; omega)
  have := h.lo; have := h.hi
  omega
theorem Ends.candL (h : Ends N M d A b B q) : A = N * b / M := by
  have := h.small.1; have := h.lo; have := h.M1
  refine (Int.ediv_eq_iff_of_pos (by omega)).2 ?_ |>.symm
  constructor
  · omega
  · omega
theorem Ends.candU (h : Ends N M d A b B q) : B = N * q / M + 1 := by
  have := h.small.2; have := h.hi; have := h.M1
  have : N * q / M = B - 1 := by
    refine (Int.ediv_eq_iff_of_pos (by omega)).2 ?_
    constructor
    · rw [Int.sub_mul]; omega
    · rw [Int.sub_mul]; omega
  omega
/-- The upper one is nearer; with ties as the document says. -/
def pickU (lo hi A b B q : Int) : Prop := hi * b < lo * q ∨ (hi * b = lo * q ∧ (q < b ∨ (q = b ∧ B < A)))
theorem Ends.bestU (h : Ends N M d A b B q) (hp : pickU (N * b - A * M) (B * M - N * q) A b B q) : Best N M d B q := by
  have lo := h.lo; have hi := h.hi; have b1 := h.b1; have q1 := h.q1; have M1 := h.M1
  have hle : (B * M - N * q) * b ≤ (N * b - A * M) * q := by rcases hp with hp | hp <;> omega
  refine ⟨h.q1, h.qd, fun c e h1 h2 => ?_, fun c e h1 h2 => ?_, .inr h.candU⟩
  · unfold nearB
    rw [h.disU]
    rcases h.side c e h1 h2 with hs | hs
    · have e1 := h.left h1 hs
      have e2 : 0 ≤ M * (A * e - c * b) := Int.mul_nonneg (by omega) (by omega)
      have e3 : e * ((B * M - N * q) * b) ≤ e * ((N * b - A * M) * q) := Int.mul_le_mul_of_nonneg_left hle (by omega)
      have e4 : e * (N * b - A * M) * q ≤ dis N M c e * b * q := Int.mul_le_mul_of_nonneg_right (by omega) (by omega)
      intro hlt
      have e5 := Int.mul_lt_mul_of_pos_right hlt (show 0 < b by omega)
      grind
    · have e1 := h.right h1 hs
      have e2 : 0 ≤ M * (c * q - B * e) := Int.mul_nonneg (by omega) (by omega)
      rw [e1, Int.mul_comm e]
      omega
  · have he : e ≤ q := by omega
    unfold nearB
    rw [h.disU]
    have id : e = b * (B * e - c * q) + q * (c * b - A * e) := by have := h.det; grind
    rcases h.side c e h1 (by have := h.qd; omega) with hs | hs
    · have e1 := h.left h1 hs
      have e2 : 0 ≤ M * (A * e - c * b) := Int.mul_nonneg (by omega) (by omega)
      have e3 : e * ((B * M - N * q) * b) ≤ e * ((N * b - A * M) * q) := Int.mul_le_mul_of_nonneg_left hle (by omega)
      have strict : e * ((B * M - N * q) * b) < dis N M c e * b * q := by
        have e4 : dis N M c e * b * q = e * ((N * b - A * M) * q) + M * (A * e - c * b) * q := by rw [e1]; grind
        have e5 : 0 ≤ M * (A * e - c * b) * q := Int.mul_nonneg e2 (by omega)
        rcases hp with hp | ⟨hp, hq⟩
        · have := Int.mul_lt_mul_of_pos_left hp (show 0 < e by omega); omega
        · rcases Int.lt_or_le (c * b) (A * e) with x | x
          · have : 0 < M * (A * e - c * b) * q := Int.mul_pos (Int.mul_pos (by omega) (by omega)) (by omega)
            omega
          · exfalso
            have x0 : c * b - A * e = 0 := by omega
            rw [x0, Int.mul_zero, Int.add_zero] at id
            have k1 : 1 ≤ B * e - c * q := by
              rcases Int.lt_or_le 0 (B * e - c * q) with z | z
              · omega
              · have := Int.mul_le_mul_of_nonneg_left z (show 0 ≤ b by omega); omega
            have k2 : b * 1 ≤ b * (B * e - c * q) := Int.mul_le_mul_of_nonneg_left k1 (by omega)
            rcases hq with hq | ⟨hq, hBA⟩
            · omega
            · subst hq
              have := h.det
              have : B * q - A * q = (B - A) * q := by grind
              have := Int.mul_nonpos_of_nonpos_of_nonneg (show B - A ≤ 0 by omega) (show 0 ≤ q by omega)
              omega
      rcases Int.lt_or_le ((B * M - N * q) * e) (dis N M c e * q) with z | z
      · exact z
      · have := Int.mul_le_mul_of_nonneg_right z (show 0 ≤ b by omega)
        grind
    · have e1 := h.right h1 hs
      rw [e1, Int.mul_comm e]
      rcases Int.lt_or_le (B * e) (c * q) with x | x
      · have : 0 < M * (c * q - B * e) := Int.mul_pos (by omega) (by omega)
        omega
      · exfalso
        have x0 : B * e - c * q = 0 := by omega
        rw [x0, Int.mul_zero, Int.zero_add] at id
        have k1 : 1 ≤ c * b - A * e := by
          rcases Int.lt_or_le 0 (c * b - A * e) with z | z
          · omega
          · have := Int.mul_le_mul_of_nonneg_left z (show 0 ≤ q by omega); omega
        have k2 : q * 1 ≤ q * (c * b - A * e) := Int.mul_le_mul_of_nonneg_left k1 (by omega)
        have heq : e = q := by omega
        subst heq
        have : c = B := Int.eq_of_mul_eq_mul_right (show e ≠ 0 by omega) (by omega)
        omega
theorem Ends.bestL (h : Ends N M d A b B q) (hp : ¬ pickU (N * b - A * M) (B * M - N * q) A b B q) : Best N M d A b := by
  have lo := h.lo; have hi := h.hi; have b1 := h.b1; have q1 := h.q1; have M1 := h.M1
  have hp' : (N * b - A * M) * q < (B * M - N * q) * b ∨ ((N * b - A * M) * q = (B * M - N * q) * b ∧ b ≤ q) := by
    unfold pickU at hp
    omega
  have hle : (N * b - A * M) * q ≤ (B * M - N * q) * b := by rcases hp' with hp | hp <;> omega
  refine ⟨h.b1, h.bd, fun c e h1 h2 => ?_, fun c e h1 h2 => ?_, .inl h.candL⟩
  · unfold nearB
    rw [h.disL]
    rcases h.side c e h1 h2 with hs | hs
    · have e1 := h.left h1 hs
      have e2 : 0 ≤ M * (A * e - c * b) := Int.mul_nonneg (by omega) (by omega)
      rw [e1, Int.mul_comm e]
      omega
    · have e1 := h.right h1 hs
      have e2 : 0 ≤ M * (c * q - B * e) := Int.mul_nonneg (by omega) (by omega)
      have e3 : e * ((N * b - A * M) * q) ≤ e * ((B * M - N * q) * b) := Int.mul_le_mul_of_nonneg_left hle (by omega)
      have e4 : e * (B * M - N * q) * b ≤ dis N M c e * q * b := Int.mul_le_mul_of_nonneg_right (by omega) (by omega)
      intro hlt
      have e5 := Int.mul_lt_mul_of_pos_right hlt (show 0 < q by omega)
      grind
  · have he : e ≤ b := by omega
    unfold nearB
    rw [h.disL]
    have id : e = b * (B * e - c * q) + q * (c * b - A * e) := by have := h.det; grind
    rcases h.side c e h1 (by have := h.bd; omega) with hs | hs
    · have e1 := h.left h1 hs
      rw [e1, Int.mul_comm e]
      rcases Int.lt_or_le (c * b) (A * e) with x | x
      · have : 0 < M * (A * e - c * b) := Int.mul_pos (by omega) (by omega)
        omega
      · exfalso
        have x0 : c * b - A * e = 0 := by omega
        rw [x0, Int.mul_zero, Int.add_zero] at id
        have k1 : 1 ≤ B * e - c * q := by
          rcases Int.lt_or_le 0 (B * e - c * q) with z | z
          · omega
          · have := Int.mul_le_mul_of_nonneg_left z (show 0 ≤ b by omega); omega
        have k2 : b * 1 ≤ b * (B * e - c * q) := Int.mul_le_mul_of_nonneg_left k1 (by omega)
        have heq : e = b := by omega
        subst heq
        have : c = A := Int.eq_of_mul_eq_mul_right (show e ≠ 0 by omega) (by omega)
        omega
    · have e1 := h.right h1 hs
      have e2 : 0 ≤ M * (c * q - B * e) := Int.mul_nonneg (by omega) (by omega)
      have e3 : e * ((N * b - A * M) * q) ≤ e * ((B * M - N * q) * b) := Int.mul_le_mul_of_nonneg_left hle (by omega)
      have strict : e * ((N * b - A * M) * q) < dis N M c e * q * b := by
        have e4 : dis N M c e * q * b = e * ((B * M - N * q) * b) + M * (c * q - B * e) * b := by rw [e1]; grind
        have e5 : 0 ≤ M * (c * q - B * e) * b := Int.mul_nonneg e2 (by omega)
        rcases hp' with hp | ⟨hp, hq⟩
        · have := Int.mul_lt_mul_of_pos_left hp (show 0 < e by omega); omega
        · rcases Int.lt_or_le (B * e) (c * q) with x | x
          · have : 0 < M * (c * q - B * e) * b := Int.mul_pos (Int.mul_pos (by omega) (by omega)) (by omega)
            omega
          · exfalso
            have x0 : B * e - c * q = 0 := by omega
            rw [x0, Int.mul_zero, Int.zero_add] at id
            have k1 : 1 ≤ c * b - A * e := by
              rcases Int.lt_or_le 0 (c * b - A * e) with z | z
              · omega
              · have := Int.mul_le_mul_of_nonneg_left z (show 0 ≤ q by omega); omega
            have k2 : q * 1 ≤ q * (c * b - A * e) := Int.mul_le_mul_of_nonneg_left k1 (by omega)
            have heq : e = q := by omega
            have hbq : b = q := by omega
            subst hbq
            subst heq
            have hcB : c = B := Int.eq_of_mul_eq_mul_right (show e ≠ 0 by omega) (by omega)
            have hcA : c < A := by omega
            have := h.det
            have : B * e - A * e = (B - A) * e := by grind
            have := Int.mul_nonpos_of_nonpos_of_nonneg (show B - A ≤ 0 by omega) (show 0 ≤ e by omega)
            omega
      rcases Int.lt_or_le ((N * b - A * M) * e) (dis N M c e * b) with z | z
      · exact z
      · have := Int.mul_le_mul_of_nonneg_right z (show 0 ≤ q by omega)
        grind
end
/-- A fraction with a small denominator is its own nearest one. -/
theorem best_self {N M d : Int} (h1 : 1 ≤ M) (h2 : M ≤ d) (red : ∀ x e, 1 ≤ e → e < M → x * M ≠ N * e) : Best N M d N M := by
  have hz : dis N M N M = 0 := by unfold dis; omega
  refine ⟨h1, h2, fun c e q1 q2 => ?_, fun c e q1 q2 => ?_, .inl ?_⟩
  · unfold nearB
    rw [hz, Int.zero_mul]
    have : 0 ≤ dis N M c e * M := Int.mul_nonneg (by unfold dis; omega) (by omega)
    omega
  · unfold nearB
    rw [hz, Int.zero_mul]
    refine Int.mul_pos ?_ (by omega)
    have hne : c * M ≠ N * e := by
      rcases q2 with q2 | ⟨q2, q3⟩
      · exact red c e q1 q2
      · subst q2
        intro he
        have : c = N := Int.eq_of_mul_eq_mul_right (show e ≠ 0 by omega) he
        omega
    unfold dis; omega
  · exact (Int.mul_ediv_cancel N (by omega)).symm
end Go.Proofs.Ytnepdfglhngheaa
