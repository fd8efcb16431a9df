/- Meet as a function. -/
import Derived.Test.YtkeicdimkmmnfaaNext2
import Derived.Test.YtkeicdimkmmnfaaMeet
namespace Go.Proofs.Ytkeicdimkmmnfaa
set_option linter.unusedVariables false
set_option maxRecDepth 100000

/-- The common number. -/
def IsMet (a m b n x : Int) : Prop := 0 ≤ x ∧ x < m * (n / (Int.gcd m n : Int)) ∧ m ∣ x - a ∧ n ∣ x - b
theorem met_unique (a m b n x y : Int) (hm : 1 ≤ m) (hn : 1 ≤ n) (hx : IsMet a m b n x) (hy : IsMet a m b n y) : x = y := by
  obtain ⟨x0, x1, x2, x3⟩ := hx
  obtain ⟨y0, y1, y2, y3⟩ := hy
  have h := (crt_iff a m b n y _ x hm hn rfl y2 y3).1 ⟨x2, x3⟩
  have := small_dvd h (by omega) (by omega)
  omega
/-- The least common number. -/
noncomputable def metX (a m b n : Int) : Int := Classical.epsilon (IsMet a m b n)
theorem metX_eq {a m b n x : Int} (hm : 1 ≤ m) (hn : 1 ≤ n) (h : IsMet a m b n x) : metX a m b n = x := met_unique a m b n _ _ hm hn (Classical.epsilon_spec ⟨x, h⟩) h
theorem whole_Meet_fn (a m b n : Int) (w : World) (m1 : 1 ≤ m) (m2 : m ≤ 2147483647) (n1 : 1 ≤ n) (n2 : n ≤ 2147483647) (a1 : -2147483647 ≤ a) (a2 : a ≤ 2147483647) (b1 : -2147483647 ≤ b) (b2 : b ≤ 2147483647) (h : (Int.gcd m n : Int) ∣ b - a) :
    Calls Try.prog 99 #[.int .i64 a, .int .i64 m, .int .i64 b, .int .i64 n] w fun e w' => e = .returned (.tuple #[.int .i64 (metX a m b n), .int .i64 (m * (n / (Int.gcd m n : Int))), .int .i64 0]) ∧ Drawn w w' :=
  (whole_Meet_some a m b n w m1 m2 n1 n2 a1 a2 b1 b2 h).mono fun e w' ⟨x, x0, x1, x2, x3, he, hd⟩ => ⟨by rw [he, metX_eq m1 n1 ⟨x0, x1, x2, x3⟩], hd⟩
theorem metX_is (a m b n : Int) (m1 : 1 ≤ m) (m2 : m ≤ 2147483647) (n1 : 1 ≤ n) (n2 : n ≤ 2147483647) (a1 : -2147483647 ≤ a) (a2 : a ≤ 2147483647) (b1 : -2147483647 ≤ b) (b2 : b ≤ 2147483647) (h : (Int.gcd m n : Int) ∣ b - a) (w : World) : IsMet a m b n (metX a m b n) := by
  obtain ⟨e, w', fr, hR, _⟩ := whole_Meet_some a m b n w m1 m2 n1 n2 a1 a2 b1 b2 h []
  obtain ⟨x, x0, x1, x2, x3, _⟩ := hR
  rw [metX_eq m1 n1 ⟨x0, x1, x2, x3⟩]
  exact ⟨x0, x1, x2, x3⟩
/-- A step of the search: what Meet gives joins the next cycle. -/
theorem joint_meet {xs ys zs : List Int} {k : Nat} {a m x y z : Int} (j : Joint xs ys zs k a m) (hx : xs[k]? = some x) (hy : ys[k]? = some y) (hz : zs[k]? = some z) (x1 : 1 ≤ x) (z1 : 0 ≤ z) (z2 : z < x) (h : IsMet a m ((z - y) % x) x (metX a m ((z - y) % x) x)) :
    Joint xs ys zs (k + 1) (metX a m ((z - y) % x) x) (m * (x / (Int.gcd m x : Int))) := by
  obtain ⟨h0, h1, h2, h3⟩ := h
  exact joint_snoc j hx hy hz x1 z1 z2 rfl (by omega) h0 h1 h2 h3
theorem step_le {m x M : Int} (hm : 1 ≤ m) (hM : m ≤ M) (x1 : 1 ≤ x) (x2 : x ≤ 1000) : m * (x / (Int.gcd m x : Int)) ≤ M * 1000 := by
  have : x / (Int.gcd m x : Int) ≤ 1000 := Int.le_trans (Int.ediv_le_self _ (by omega)) x2
  have h0 : 0 ≤ x / (Int.gcd m x : Int) := Int.ediv_nonneg (by omega) (by omega)
  exact Int.mul_le_mul hM this h0 (by omega)
end Go.Proofs.Ytkeicdimkmmnfaa
