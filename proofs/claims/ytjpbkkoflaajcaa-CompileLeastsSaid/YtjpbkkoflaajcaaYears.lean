/- Contracts of the methods IsLeap, Length, Month, NewYear of the reference's Years. -/
import Derived.Test.YtjpbkkoflaajcaaApart
namespace Go.Proofs.Ytjpbkkoflaajcaa
set_option linter.unusedVariables false
set_option maxRecDepth 100000
open Go.RowKit

/-- The marks of the leap years in memory. -/
def MarksAt (w : World) (g C : Nat) (ls : List Int) : Prop := At w g (.cells (boolCells (marks C ls)) 4)
theorem MarksAt.then_ {w w' : World} {g C : Nat} {ls : List Int} (h : MarksAt w g C ls) (k : Below w.heap.size w w') : MarksAt w' g C ls := At.then_ h k
theorem ref_Mod_at (a b p : Int) (hp : a % b = p) (w : World) (h1 : -9223372036854775808 ≤ a) (h2 : a ≤ 9223372036854775807) (h3 : 1 ≤ b) (h4 : b ≤ 9223372036854775807) :
    Calls Try.prog 32 #[.int .i64 a, .int .i64 b] w fun e w' => e = .returned (.int .i64 p) ∧ w = w' := by
  subst hp; exact ref_Mod a b w h1 h2 h3 h4
theorem years_IsLeap (w : World) (s : ByteArray) (f : Int) (C : Nat) (a1 a2 : Option Addr) (n1 c1 n2 c2 : Nat) (ms : List Mon) (ls : List Int) (g : Nat) (y : Int) (S L T : Int) (cy1 : 1 ≤ C) (cy2 : C ≤ 3000) (y1 : -100000000 ≤ y) (y2 : y ≤ 100000000) (hg : MarksAt w g C ls) :
    Calls Try.prog 14 #[.agg #[.string s, .int .i64 f, .int .i64 (C : Int), .slice a1 n1 c1, .slice a2 n2 c2, .slice (some ⟨g, 0, none⟩) C C, .int .i64 S, .int .i64 L, .int .i64 T], .int .i64 y] w fun e w' => e = .returned (.bool (flag ls (placeOf C y))) ∧ Below w.heap.size w w' := by
  obtain ⟨p1, p2⟩ := placeOf_in C y (by omega)
  obtain ⟨p, hp⟩ : ∃ p : Nat, placeOf C y = (p : Int) := ⟨(placeOf C y).toNat, by omega⟩
  rw [hp] at p1 p2 ⊢
  have hpC : p < C := by omega
  have hcg := (At.cell hg p).trans (marks_at C ls p hpC)
  have hgl := At.lt hg
  have HP := Lib.hid (show (y - 1) % (C : Int) = (p : Int) from hp)
  clear hp hg
  have t0 : IntKind.i64.wrap (y - 1) = y - 1 := IntWalk.i64_in _ (by omega)
  have t1 : -9223372036854775808 ≤ y - 1 := by omega
  have t2 : y - 1 ≤ 9223372036854775807 := by omega
  have t3 : 1 ≤ (C : Int) := by omega
  have t4 : (C : Int) ≤ 9223372036854775807 := by omega
  generalize flag ls (p : Int) = bb at hcg ⊢
  go_enter Try.func14, Try.ntmps14
  go_wp2_with fail
  go_quiet ((go_at_call 32; exact quiet_left (ref_Mod_at _ _ (p : Int) HP.out _ t1 t2 t3 t4)))
  clear t0
  go_wp2_with fail
  go_ret
  exact ⟨rfl, by (repeat' (first | exact Below.refl _ _ | assumption | refine Below.drew ?_ | refine below_drewN ?_ _ | refine below_new ?_ _ | refine below_set ?_ ?_ _ | refine below_then ?_ (by assumption) | refine below_drawn ?_ (by assumption) | exact Nat.le_refl _ | omega | (simp; done) | (simp; omega)))⟩
theorem place_at (C : Nat) (q : Int) (i : Nat) (h : i < C) : placeOf C (1 + q * (C : Int) + (i : Int)) = (i : Int) := by
  unfold placeOf
  rw [show 1 + q * (C : Int) + (i : Int) - 1 = (i : Int) + (C : Int) * q by rw [Int.mul_comm]; omega, Int.add_mul_emod_self_left]
  exact Int.emod_eq_of_lt (by omega) (by omega)
end Go.Proofs.Ytjpbkkoflaajcaa
