/- The plain rule of mean months that the laws use. -/
import Derived.Test.YtjjmbnflhldoeaaLuni0
import Derived.Test.YtjjmbnflhldoeaaMoon2
namespace Go.Proofs.Ytjjmbnflhldoeaa
set_option linter.unusedVariables false
set_option maxRecDepth 100000
open Go.RowKit

theorem law_plainMoon (w : World) : Calls Try.prog 16 #[] w fun e w' => e = .returned (.agg #[.string ⟨#[112, 108, 97, 105, 110]⟩, .int .i64 1, .int .i64 0, .int .i64 1, .int .i64 59, .int .i64 2, .int .i64 1, .int .i64 1, .int .i64 1, .slice none 0 0, .slice none 0 0]) ∧ Below w.heap.size w w' := by
  go_enter Try.func16, Try.ntmps16
  go_wp2_with fail
  exact bodyPost_ret (v := .agg #[.string ⟨#[112, 108, 97, 105, 110]⟩, .int .i64 1, .int .i64 0, .int .i64 1, .int .i64 59, .int .i64 2, .int .i64 1, .int .i64 1, .int .i64 1, .slice none 0 0, .slice none 0 0]) (by simp [results, Try.results16, go_sem]) rfl ⟨rfl, by (repeat' (first | exact Below.refl _ _ | assumption | refine Below.drew ?_ | refine below_drewN ?_ _ | refine below_new ?_ _ | refine below_set ?_ ?_ _ | refine below_then ?_ (by assumption) | refine below_drawn ?_ (by assumption) | exact Nat.le_refl _ | omega | (simp; done) | (simp; omega)))⟩
theorem plain_err : moonErr ⟨#[112, 108, 97, 105, 110]⟩ 1 0 1 59 2 1 1 1 [] [] = 0 := by decide +kernel
theorem plain_at (w : World) : MoonAt w none none 0 0 [] [] := ⟨⟨rfl, by omega, by simp, fun h => absurd h (by omega)⟩, ⟨rfl, by omega, by simp, fun h => absurd h (by omega)⟩⟩
theorem plain_ints : MoonI 0 1 59 2 1 1 := by unfold MoonI I64; omega
theorem plain_ok : MoonOk ⟨#[112, 108, 97, 105, 110]⟩ 1 0 1 59 2 1 1 1 [] [] 2 := by
  obtain ⟨N, h⟩ := moonOk_of plain_err
  have : N = 2 := by rw [← h.n]; decide +kernel
  subst this; exact h
end Go.Proofs.Ytjjmbnflhldoeaa
