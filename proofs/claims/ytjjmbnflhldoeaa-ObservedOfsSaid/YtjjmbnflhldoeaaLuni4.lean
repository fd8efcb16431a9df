/- Years and months of the lunisolar calendar, plain: order and bounds of first days. -/
import Derived.Test.YtjjmbnflhldoeaaLuni2
namespace Go.Proofs.Ytjjmbnflhldoeaa
set_option linter.unusedVariables false
set_option maxRecDepth 100000

theorem late_form {a N L : Int} (hN : 1 ≤ N) (h1 : 1 ≤ L) (h2 : L ≤ N) : (a / N + if L ≤ a % N then 1 else 0) = (a + N - L) / N := by
  have e : N * (a / N) + a % N = a := Int.mul_ediv_add_emod _ _
  have p1 := Int.emod_nonneg a (show N ≠ 0 by omega)
  have p2 := Int.emod_lt_of_pos a (show 0 < N by omega)
  have e2 : a + N - L = (a % N + N - L) + N * (a / N) := by omega
  rw [e2, Int.add_mul_ediv_left _ _ (by omega)]
  by_cases h : L ≤ a % N
  · rw [if_pos h]
    have : (a % N + N - L) / N = 1 := by
      rw [show a % N + N - L = (a % N - L) + N * 1 by omega, Int.add_mul_ediv_left _ _ (by omega), Int.ediv_eq_zero_of_lt (by omega) (by omega)]; rfl
    omega
  · have : (a % N + N - L) / N = 0 := Int.ediv_eq_zero_of_lt (by omega) (by omega)
    rw [if_neg h, this]; omega
theorem dayP_up {s : ByteArray} {f sn sd mn md ln ld c : Int} {ls vs : List Int} {N : Int} (ok : MoonOk s f sn sd mn md ln ld c ls vs N) (k n : Int) (hn : 0 ≤ n) :
    dayP f sn sd mn md ln ld N k + 29 * n ≤ dayP f sn sd mn md ln ld N (k + n) ∧ dayP f sn sd mn md ln ld N (k + n) ≤ dayP f sn sd mn md ln ld N k + 30 * n := by
  obtain ⟨z1, z2, -, z4⟩ := quo_in ok.ld1 ok.n1 ok.ldv
  have am := at_month ok
  have n1 := ok.n1
  have L1 : 1 ≤ N / ld * ln := by
    have : 1 * ln ≤ N / ld * ln := Int.mul_le_mul_of_nonneg_right z1 (by have := ok.ln1; omega)
    have := ok.ln1; omega
  have L2 : N / ld * ln ≤ N := by
    have : N / ld * ln ≤ N / ld * ld := Int.mul_le_mul_of_nonneg_left ok.ln2 (by omega)
    rw [Int.mul_comm _ ld, z4] at this; exact this
  unfold dayP
  rw [late_form ok.n1 L1 L2, late_form ok.n1 L1 L2]
  have ha : atP sn sd mn md N (k + n) = atP sn sd mn md N k + n * (mn * (N / md)) := by
    unfold atP; rw [Int.add_mul, Int.mul_comm mn]; omega
  rw [ha]
  have m1 : n * (29 * N) ≤ n * (mn * (N / md)) := Int.mul_le_mul_of_nonneg_left am.1 hn
  have m2 : n * (mn * (N / md)) ≤ n * (30 * N) := Int.mul_le_mul_of_nonneg_left am.2.1 hn
  generalize n * (mn * (N / md)) = d at *
  generalize N / ld * ln = L at *
  generalize atP sn sd mn md N k = a at *
  have g1 : (a + N - L) / N + 29 * n ≤ (a + d + N - L) / N := by
    rw [← Int.add_mul_ediv_left _ _ (show N ≠ 0 by omega)]
    refine Int.ediv_le_ediv (by omega) ?_
    have : N * (29 * n) = n * (29 * N) := by rw [Int.mul_left_comm, Int.mul_comm N, Int.mul_left_comm]
    omega
  have g2 : (a + d + N - L) / N ≤ (a + N - L) / N + 30 * n := by
    rw [← Int.add_mul_ediv_left _ _ (show N ≠ 0 by omega)]
    refine Int.ediv_le_ediv (by omega) ?_
    have : N * (30 * n) = n * (30 * N) := by rw [Int.mul_left_comm, Int.mul_comm N, Int.mul_left_comm]
    omega
  omega
theorem dayP_in {s : ByteArray} {f sn sd mn md ln ld c : Int} {ls vs : List Int} {N : Int} (ok : MoonOk s f sn sd mn md ln ld c ls vs N) (k : Int) (k1 : -300020 ≤ k) (k2 : k ≤ 300020) :
    -15000000 ≤ dayP f sn sd mn md ln ld N k ∧ dayP f sn sd mn md ln ld N k ≤ 15000000 := by
  have h0 : f ≤ dayP f sn sd mn md ln ld N 0 ∧ dayP f sn sd mn md ln ld N 0 ≤ f + 2 := by
    have aS := at_start ok
    have n1 := ok.n1
    unfold dayP atP
    rw [Int.zero_mul, Int.add_zero, Int.mul_comm]
    have g1 : 0 ≤ sn * (N / sd) / N := Int.ediv_nonneg aS.1 (by omega)
    have g2 : sn * (N / sd) / N ≤ 1 := Int.ediv_le_of_le_mul (by omega) (by omega)
    split <;> omega
  have f1 := ok.f1; have f2 := ok.f2
  rcases Int.le_total 0 k with h | h
  · have := dayP_up ok 0 k h
    rw [Int.zero_add] at this
    omega
  · have := dayP_up ok k (-k) (by omega)
    rw [show k + -k = 0 by omega] at this
    omega
theorem begD_in {s : ByteArray} {f sn sd mn md ln ld c : Int} {ls vs : List Int} {N : Int} (ok : MoonOk s f sn sd mn md ln ld c ls vs N) (y m : Int) (y1 : -20000 ≤ y) (y2 : y ≤ 20000) (m1 : 1 ≤ m) (m2 : m ≤ 20) :
    -16000000 ≤ begD f sn sd mn md ln ld c N ls vs y m ∧ begD f sn sd mn md ln ld c N ls vs y m ≤ 16000000 := by
  have b := bef_in ok.c1 ok.leaps ok.sorted y y1 y2
  unfold begD
  split
  · have := postD_in vs (dayP f sn sd mn md ln ld N (bef c ls y))
    have := dayP_in ok (bef c ls y) (by omega) (by omega)
    omega
  · have := dayP_in ok (bef c ls y + m - 1) (by omega) (by omega)
    omega
theorem beginD_in {s : ByteArray} {f sn sd mn md ln ld c : Int} {ls vs : List Int} {N : Int} (ok : MoonOk s f sn sd mn md ln ld c ls vs N) (y m : Int) (y1 : -19000 ≤ y) (y2 : y ≤ 19000) (m1 : 1 ≤ m) (m2 : m ≤ 20) :
    -16000000 ≤ beginD f sn sd mn md ln ld c N ls vs y m ∧ beginD f sn sd mn md ln ld c N ls vs y m ≤ 16000000 := by
  unfold beginD
  split
  · exact begD_in ok _ _ (by omega) (by omega) (by omega) (by omega)
  · exact begD_in ok _ _ (by omega) (by omega) (by omega) (by omega)
/-- The first day of a year. -/
def yearD (f sn sd mn md ln ld c N : Int) (ls vs : List Int) (y : Int) : Int := begD f sn sd mn md ln ld c N ls vs y 1
theorem yearD_succ {s : ByteArray} {f sn sd mn md ln ld c : Int} {ls vs : List Int} {N : Int} (ok : MoonOk s f sn sd mn md ln ld c ls vs N) (y : Int) :
    yearD f sn sd mn md ln ld c N ls vs y + 1 ≤ yearD f sn sd mn md ln ld c N ls vs (y + 1) := by
  have h := bef_succ ok.c1 ok.leaps ok.sorted y
  have hm := mths_in c ls y
  unfold yearD begD
  rw [if_pos rfl, if_pos rfl, h]
  have p1 := postD_in vs (dayP f sn sd mn md ln ld N (bef c ls y))
  have p2 := postD_in vs (dayP f sn sd mn md ln ld N (bef c ls y + mths c ls y))
  have := dayP_up ok (bef c ls y) (mths c ls y) (by omega)
  omega
theorem rise_n (g : Int → Int) (hg : ∀ y, g y + 1 ≤ g (y + 1)) (a : Int) : ∀ n : Nat, g a + n ≤ g (a + n)
  | 0 => by simp
  | n + 1 => by
    have ih := rise_n g hg a n
    have h := hg (a + n)
    rw [show a + ((n + 1 : Nat) : Int) = a + n + 1 by omega]
    omega
theorem rise_le (g : Int → Int) (hg : ∀ y, g y + 1 ≤ g (y + 1)) {a b : Int} (h : a ≤ b) : g a + (b - a) ≤ g b := by
  have := rise_n g hg a (b - a).toNat
  rw [show a + (((b - a).toNat : Nat) : Int) = b by omega] at this
  omega
/-- The place that a search over years finds. -/
def PlaceG (g : Int → Int) (lo : Int) (n : Nat) (x : Int) (r : Nat) : Prop := r ≤ n ∧ (∀ i : Nat, i < r → g (lo + (i : Int)) ≤ x) ∧ (r < n → x < g (lo + (r : Int)))
theorem placeG_unique {g : Int → Int} (hg : ∀ y, g y + 1 ≤ g (y + 1)) {lo : Int} {n : Nat} {x : Int} {r r' : Nat} (h : PlaceG g lo n x r) (h1 : r' ≤ n) (h2 : ∀ i, r' = i + 1 → ¬ x < g (lo + (i : Int))) (h3 : r' < n → x < g (lo + (r' : Int))) : r' = r := by
  rcases Nat.lt_trichotomy r' r with q | q | q
  · have := h.2.1 r' q; have := h3 (by have := h.1; omega); omega
  · exact q
  · have a := h.2.2 (by omega)
    have b := h2 (r' - 1) (by omega)
    have m := rise_le g hg (show lo + (r : Int) ≤ lo + ((r' - 1 : Nat) : Int) by omega)
    omega
theorem placeG_exists (g : Int → Int) (lo : Int) (x : Int) (N : Nat) : ∃ r, PlaceG g lo N x r := by
  have key : ∀ n : Nat, n ≤ N → (∃ r, r < n ∧ (∀ i : Nat, i < r → g (lo + (i : Int)) ≤ x) ∧ x < g (lo + (r : Int))) ∨ (∀ i : Nat, i < n → g (lo + (i : Int)) ≤ x) := by
    intro n
    induction n with
    | zero => intro _; exact .inr fun i hi => by omega
    | succ n ih =>
      intro hn
      rcases ih (by omega) with ⟨r, h1, h2, h3⟩ | h
      · exact .inl ⟨r, by omega, h2, h3⟩
      · by_cases q : x < g (lo + (n : Int))
        · exact .inl ⟨n, by omega, h, q⟩
        · refine .inr fun i hi => ?_
          rcases Nat.lt_or_ge i n with q' | q'
          · exact h i q'
          · have : i = n := by omega
            subst this; omega
  rcases key N (by omega) with ⟨r, h1, h2, h3⟩ | h
  · exact ⟨r, by omega, h2, fun _ => h3⟩
  · exact ⟨N, by omega, h, fun h => by omega⟩
/-- The last month from which on the day lies; the first one otherwise. -/
def monF (g : Int → Int) (x : Int) : Nat → Nat
  | 0 => 1
  | n + 1 => if n = 0 then 1 else if g ((n + 1 : Nat) : Int) ≤ x then n + 1 else monF g x n
theorem monF_in (g : Int → Int) (x : Int) : ∀ n, 1 ≤ monF g x n ∧ (1 ≤ n → monF g x n ≤ n)
  | 0 => by simp [monF]
  | n + 1 => by
    have ih := monF_in g x n
    rw [monF]
    split
    · omega
    · split <;> omega
theorem monF_one (g : Int → Int) (x : Int) : monF g x 1 = 1 := by simp [monF]
theorem monF_stop {g : Int → Int} {x : Int} {n : Nat} (hn : 1 ≤ n) (h : g (n : Int) ≤ x) : monF g x n = n := by
  match n, hn with
  | n + 1, _ =>
    rw [monF]
    by_cases q : n = 0
    · rw [if_pos q, q]
    · rw [if_neg q, if_pos h]
theorem monF_next {g : Int → Int} {x : Int} {n : Nat} (hn : 2 ≤ n) (h : x < g (n : Int)) : monF g x (n - 1) = monF g x n := by
  match n, hn with
  | n + 1, _ =>
    rw [monF.eq_def g x (n + 1)]
    simp only
    rw [if_neg (show ¬ n = 0 by omega), if_neg (show ¬ g ((n + 1 : Nat) : Int) ≤ x by omega), Nat.add_sub_cancel]
/-- The day lies in the year. -/
def InMoonYear (g : Int → Int) (y x : Int) : Prop := g y ≤ x ∧ x < g (y + 1)
theorem InMoonYear.unique {g : Int → Int} (hg : ∀ y, g y + 1 ≤ g (y + 1)) {y y' x : Int} (h : InMoonYear g y x) (h' : InMoonYear g y' x) : y = y' := by
  rcases Int.lt_trichotomy y y' with q | q | q
  · have := rise_le g hg (show y + 1 ≤ y' by omega); have := h.2; have := h'.1; omega
  · exact q
  · have := rise_le g hg (show y' + 1 ≤ y by omega); have := h'.2; have := h.1; omega
end Go.Proofs.Ytjjmbnflhldoeaa
