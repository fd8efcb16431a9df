/- EraChecks: the Go text returns true at every input, and writes nothing that was there. -/
import Derived.Test.YtofmjjonobhfgaaEra
namespace Go.Proofs.Ytofmjjonobhfgaa.eraChecksLaw
set_option linter.unusedVariables false
open Go.RowKit Go.ChangeShapes Go.WideShapes

theorem lit0 : reignsOut [] = 2 := by decide
theorem lit1 : reignsOut [(⟨#[97]⟩, 5), (⟨#[98]⟩, 5)] = 9 := by decide +kernel
theorem two (w : World) (b : Nat) (t : TypeId) (h : At w b (.cells #[.string ⟨#[97]⟩, .int .i64 5, .string ⟨#[98]⟩, .int .i64 5] t)) :
    Reigns w w.heap.size (some ⟨b, 0, none⟩) 2 [(⟨#[97]⟩, 5), (⟨#[98]⟩, 5)] := by
  refine ⟨rfl, by omega, ?_, fun _ => ⟨b, 0, rfl, h.lt, fun i x hx => ?_⟩⟩
  · intro x hx
    simp at hx
    rcases hx with rfl | rfl
    · exact ⟨by decide, by unfold I64; omega⟩
    · exact ⟨by decide, by unfold I64; omega⟩
  · match i, hx with
    | 0, hx => simp at hx; subst hx; exact ⟨h.cell 0, h.cell 1⟩
    | 1, hx => simp at hx; subst hx; exact ⟨h.cell 2, h.cell 3⟩
theorem core (w : World) (a : Option Addr) (n c : Nat) (xs : List (ByteArray × Int)) (h : Reigns w w.heap.size a n xs) :
    Calls Try.prog 6 #[.slice a n c] w fun e w' => e = .returned (.bool true) ∧ Below w.heap.size w w' := by
  have H := Lib.hid h; clear h
  go_enter Try.func6, Try.ntmps6
  go_wp2_with fail
  refine (era_Check _ none 0 0 [] ⟨rfl, by omega, by simp, fun h => absurd h (by omega)⟩).mono ?_
  rw [lit0]
  rintro e w1 ⟨rfl, hb1⟩
  have B1 := Lib.hid hb1; clear hb1
  go_wp2_with fail
  refine (era_Check _ _ _ _ [(⟨#[97]⟩, 5), (⟨#[98]⟩, 5)] (two _ _ _ (At.new _ _))).mono ?_
  rw [lit1]
  rintro e w2 ⟨rfl, hb2⟩
  have hb : Below w1.heap.size w1 w2 := ((Below.refl _ _).alloc (Nat.le_refl _) _).trans (hb2.mono (by simp))
  have B2 := Lib.hid hb; clear hb hb2
  go_wp2_with fail
  refine (era_Check _ a n c xs (H.out.far B1.out B2.out)).mono ?_
  rintro e w3 ⟨rfl, hb3⟩
  have B3 := Lib.hid (B1.out.trans ((B2.out.trans (hb3.mono B2.out.size)).mono B1.out.size)); clear hb3
  go_wp2_with fail
  refine (ref_ReignsError _ a n c xs (H.out.far B3.out (Below.refl _ _))).mono ?_
  rintro e w4 ⟨rfl, hb4⟩
  have B4 := Lib.hid (B3.out.trans (hb4.mono B3.out.size)); clear hb4
  go_wp2_with fail
  go_ret
  exact ⟨rfl, B4.out⟩
theorem walk {H : Type} {enc : TypeId × Value → H} {v0 : Value} {d0 : DataW H} {p0 : List MemPlace} {base : Nat} (W : World)
    (o0 : Value.okWide Try.prog W .any base 34 v0) (h0 : DataW.Trod enc Try.prog W 0 (fun _ => true) true 34 v0 d0 p0) :
    Calls Try.prog 6 #[v0] W fun e w' => e = .returned (.bool true) ∧ Below W.heap.size W w' := by
  obtain ⟨a0, len0, cap0, rfl⟩ := okWide_slice Try.underlying34 o0
  obtain ⟨fuel, hf⟩ := h0
  obtain ⟨a, n, c, xs, e, hr⟩ := open_Reigns (by simpa [Value.cells] using hf)
  injection e with e1 e2 e3
  subst e1 e2 e3
  exact core W _ _ _ xs hr
end Go.Proofs.Ytofmjjonobhfgaa.eraChecksLaw
