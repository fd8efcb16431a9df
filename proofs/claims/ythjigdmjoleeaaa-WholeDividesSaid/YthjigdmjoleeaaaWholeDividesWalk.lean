/- WholeDivides: the Go text returns true at every input, and writes nothing that was there. -/
import Derived.Test.YthjigdmjoleeaaaMul
import Derived.ProofKit
import Derived.OpenShut
namespace Go.Proofs.Ythjigdmjoleeaaa.wholeDividesLaw
set_option linter.unusedVariables false
set_option maxRecDepth 100000
open Go.RowKit Go.ChangeShapes Go.WideShapes

theorem lit : divOut (-7) 2 = .tuple #[.int .i64 (-4), .int .i64 1, .int .i64 0] := by rw [divOut_pos _ _ (by omega)]; rfl
theorem divForm (a b : Int) : ∃ q r e, divOut a b = .tuple #[.int .i64 q, .int .i64 r, .int .i64 e] := by
  unfold divOut
  split
  · exact ⟨_, _, _, rfl⟩
  · split
    · exact ⟨_, _, _, rfl⟩
    · exact ⟨_, _, _, rfl⟩
theorem mulForm (a b : Int) : ∃ q e, mulOut a b = .tuple #[.int .i64 q, .int .i64 e] := by
  unfold mulOut
  split
  · exact ⟨_, _, rfl⟩
  · exact ⟨_, _, rfl⟩
theorem core (a b : Int) (w : World) (h1 : -9223372036854775808 ≤ a) (h2 : a ≤ 9223372036854775807) (h3 : -9223372036854775808 ≤ b) (h4 : b ≤ 9223372036854775807) :
    Calls Try.prog 3 #[.int .i64 a, .int .i64 b] w fun e w' => e = .returned (.bool true) ∧ Drawn w w' := by
  go_enter Try.func3, Try.ntmps3
  go_wp2_with fail
  refine (whole_Div (-7) 2 _ (by omega) (by omega) (by omega) (by omega)).mono ?_
  rw [lit]
  rintro e w1 ⟨rfl, hd1⟩
  obtain ⟨q, r, ee, hdf⟩ := divForm a b
  obtain ⟨p, ff, hmf⟩ := mulForm a b
  have HDF := Lib.hid hdf; have HMF := Lib.hid hmf; clear hdf hmf
  go_wp2_with fail
  refine (whole_Div a b _ h1 h2 h3 h4).mono ?_
  rw [HDF.out]
  rintro e w2 ⟨rfl, hd2⟩
  go_wp2_with fail
  refine (ref_Div a b _ h1 h2 h3 h4).mono ?_
  rw [HDF.out]
  rintro e w3 ⟨rfl, rfl⟩
  go_wp2_with fail
  refine (whole_Mul a b _ h1 h2 h3 h4).mono ?_
  rw [HMF.out]
  rintro e w3 ⟨rfl, rfl⟩
  go_wp2_with fail
  refine (ref_Mul a b _ h1 h2 h3 h4).mono ?_
  rw [HMF.out]
  rintro e w3 ⟨rfl, rfl⟩
  go_wp2_with fail
  go_ret
  exact ⟨rfl, hd1.trans hd2⟩
theorem walk {H : Type} {enc : TypeId × Value → H} {v0 v1 : Value} {d0 d1 : DataW H} {p0 p1 : List MemPlace} {base : Nat} (W : World)
    (o0 : Value.okWide Try.prog W .any base 3 v0) (h0 : DataW.Trod enc Try.prog W 0 (fun _ => true) true 3 v0 d0 p0)
    (o1 : Value.okWide Try.prog W .any base 3 v1) (h1 : DataW.Trod enc Try.prog W 0 (fun _ => true) true 3 v1 d1 p1) :
    Calls Try.prog 3 #[v0, v1] W fun e w' => e = .returned (.bool true) ∧ Below W.heap.size W w' := by
  obtain ⟨a0, rfl, rfl, rfl, w0⟩ := open_int Try.underlying3 o0 h0
  have b0 := bounds_i64 w0
  obtain ⟨a1, rfl, rfl, rfl, w1⟩ := open_int Try.underlying3 o1 h1
  have b1 := bounds_i64 w1
  exact (core a0 a1 W b0.1 b0.2 b1.1 b1.2).mono fun e w' ⟨he, hd⟩ => ⟨he, hd.below _⟩
end Go.Proofs.Ythjigdmjoleeaaa.wholeDividesLaw
