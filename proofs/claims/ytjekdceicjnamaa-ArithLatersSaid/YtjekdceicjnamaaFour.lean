/- Contract of ephemerislaw1.four: a calendar in memory of its own. -/
import Derived.Test.YtjekdceicjnamaaArith1
import Derived.Test.YtjekdceicjnamaaSmall
import Derived.Test.YtjekdceicjnamaaCalOpen
import Derived.Test.YtjekdceicjnamaaStore
namespace Go.Proofs.Ytjekdceicjnamaa
set_option linter.unusedVariables false
set_option maxRecDepth 100000
open Go.RowKit

theorem below_of_new (w : World) (o : Obj) : Below w.heap.size w (w.alloc o) := below_new (Below.refl _ _) o
/-- The calendar of 'small' with other leap years, its lists in memory. -/
theorem four_at {w : World} {b g : Nat} {t : TypeId} {y : Int} (h : At w b (.cells #[.string ⟨#[111, 110, 101]⟩, .int .i64 31, .int .i64 31, .string ⟨#[116, 119, 111]⟩, .int .i64 28, .int .i64 29] t)) (h' : At w g (.cells #[.int .i64 y] 3)) (hy : I64 y) : CalAt w (some ⟨b, 0, none⟩) (some ⟨g, 0, none⟩) 2 1 smallMonths [y] :=
  ⟨small_months h, At.ints [y] h' (by intro x hx; simp at hx; subst hx; exact hy) (by simp)⟩
def Four (w : World) (e : Ending) (w' : World) : Prop :=
  ∃ a1 a2, e = .returned (.agg #[.string ⟨#[115, 109, 97, 108, 108]⟩, .int .i64 1, .int .i64 4, .slice a1 2 2, .slice a2 1 1]) ∧ CalAt w' a1 a2 2 1 smallMonths [4] ∧ Below w.heap.size w w'
theorem law_four (w : World) : Calls Try.prog 24 #[] w (Four w) := by
  go_enter Try.func24, Try.ntmps24
  go_wp2_with fail
  refine (law_small _).mono ?_
  rintro e w1 ⟨rfl, _, _, atm, hb1⟩
  have a0 := (At.new w (.cells #[.string ⟨#[]⟩, .int .i64 0, .int .i64 0, .slice none 0 0, .slice none 0 0] 47)).then_ hb1
  have b0 : Below w.heap.size w w1 := by (repeat' (first | exact Below.refl _ _ | assumption | refine Below.drew ?_ | refine below_drewN ?_ _ | refine below_new ?_ _ | refine below_set ?_ ?_ _ | refine below_then ?_ (by assumption) | refine below_drawn ?_ (by assumption) | exact Nat.le_refl _ | omega | (simp; done) | (simp; omega)))
  clear hb1
  simp only [World.size_alloc] at atm
  have B0 := Lib.hid b0; have ATM := Lib.hid atm
  have hfd := fun W => small_field W (w.heap.size + 1)
  have e0 := a0.cell 0; have e1 := a0.cell 1; have e2 := a0.cell 2; have e3 := a0.cell 3; have e4 := a0.cell 4; simp at e0 e1 e2 e3 e4
  have z0 := a0.frozen 0; have z1 := a0.frozen 1; have z2 := a0.frozen 2; have z3 := a0.frozen 3; have z4 := a0.frozen 4
  have hlt := a0.lt
  clear atm b0
  go_wp2_with fail
  have ar := (a0.store5 (.string ⟨#[115, 109, 97, 108, 108]⟩) (.int .i64 1) (.int .i64 4) (.slice (some ⟨w.heap.size + 1 + 7, 0, none⟩) 2 2) (.slice (some ⟨w1.heap.size, 0, none⟩) 1 1)).alloc (.cells #[.int .i64 4] 3)
  have am := (ATM.out.apart5 (p := w.heap.size) (by omega) (.string ⟨#[115, 109, 97, 108, 108]⟩) (.int .i64 1) (.int .i64 4) (.slice (some ⟨w.heap.size + 1 + 7, 0, none⟩) 2 2) (.slice (some ⟨w1.heap.size, 0, none⟩) 1 1)).alloc (.cells #[.int .i64 4] 3)
  have al := At.newAt _ (.cells #[.int .i64 4] 3) w1.heap.size (size_set5 w1 w.heap.size (.string ⟨#[115, 109, 97, 108, 108]⟩) (.int .i64 1) (.int .i64 4) (.slice (some ⟨w.heap.size + 1 + 7, 0, none⟩) 2 2) (.slice (some ⟨w1.heap.size, 0, none⟩) 1 1)).symm
  have b5 : Below w.heap.size w _ := (below_set5 B0.out (p := w.heap.size) (Nat.le_refl _) (.string ⟨#[115, 109, 97, 108, 108]⟩) (.int .i64 1) (.int .i64 4) (.slice (some ⟨w.heap.size + 1 + 7, 0, none⟩) 2 2) (.slice (some ⟨w1.heap.size, 0, none⟩) 1 1)).alloc (by rw [size_set5]; exact B0.out.size) (.cells #[.int .i64 4] 3)
  clear e0 e1 e2 e3 e4 z0 z1 z2 z3 z4 a0
  generalize World.alloc (World.setCell _ _ _) _ = W2 at ar am al b5 ⊢
  have e0 := ar.cell 0; have e1 := ar.cell 1; have e2 := ar.cell 2; have e3 := ar.cell 3; have e4 := ar.cell 4; simp at e0 e1 e2 e3 e4
  exact bodyPost_ret (v := .agg #[.string ⟨#[115, 109, 97, 108, 108]⟩, .int .i64 1, .int .i64 4, .slice (some ⟨w.heap.size + 1 + 7, 0, none⟩) 2 2, .slice (some ⟨w1.heap.size, 0, none⟩) 1 1]) (by simp [results, Try.results24, go_sem, e0, e1, e2, e3, e4]) rfl ⟨_, _, rfl, four_at am al (by unfold I64; omega), b5⟩
end Go.Proofs.Ytjekdceicjnamaa
