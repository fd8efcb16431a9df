/- LineCycles: the Go text returns true at every input, and writes nothing that was there. -/
import Derived.Test.YtofmjjonobhfgaaLine2
import Derived.ProofKit
import Derived.OpenShut
namespace Go.Proofs.Ytofmjjonobhfgaa.lineCyclesLaw
set_option linter.unusedVariables false
open Go.RowKit Go.ChangeShapes Go.WideShapes

theorem lit : cycleOut (-1) 5 3 = .tuple #[.int .i64 2, .int .i64 0] := by rw [cycleOut, if_pos (by omega), if_pos (by omega)]; rfl
theorem core (x l o : Int) (w : World) (_ : -9223372036854775808 ≤ x) (_ : x ≤ 9223372036854775807) (_ : -9223372036854775808 ≤ l) (_ : l ≤ 9223372036854775807) (_ : -9223372036854775808 ≤ o) (_ : o ≤ 9223372036854775807) :
    Calls Try.prog 8 #[.int .i64 x, .int .i64 l, .int .i64 o] w fun e w' => e = .returned (.bool true) ∧ Drawn w w' := by
  go_enter Try.func8, Try.ntmps8
  go_wp2_with fail
  refine (line_Cycle (-1) 5 3 _).mono ?_
  rw [lit]
  rintro e w1 ⟨rfl, hd1⟩
  go_wp2_with fail
  refine (line_Cycle x l o _).mono ?_
  rcases inB_cases (-4000000) 4000000 x with ⟨hb, h⟩ | ⟨hb, h⟩
  · rcases inB_cases 1 2147483647 l with ⟨hbl, hl⟩ | ⟨hbl, hl⟩
    · rcases inB_cases (-2147483647) 2147483647 o with ⟨hbo, ho⟩ | ⟨hbo, ho⟩
      · rw [cycleOut, if_pos h, if_pos ⟨hl, ho⟩]
        rintro e w2 ⟨rfl, hd2⟩
        obtain ⟨x1, x2⟩ := h
        obtain ⟨l1, l2⟩ := hl
        obtain ⟨o1, o2⟩ := ho
        go_wp2_with fail
        refine (ref_Day x _).mono ?_; rintro e w3 ⟨rfl, rfl⟩
        go_wp2_with fail
        refine (ref_In l _ _ _).mono ?_; rintro e w3 ⟨rfl, rfl⟩
        go_wp2_with fail
        refine (ref_Num o _).mono ?_; rintro e w3 ⟨rfl, rfl⟩
        go_wp2_with fail
        refine (ref_Mod _ _ _ (by omega) (by omega) (by omega) (by omega)).mono ?_; rintro e w3 ⟨rfl, rfl⟩
        go_wp2_with fail
        go_ret
        exact ⟨rfl, hd1.trans hd2⟩
      · rw [cycleOut, if_pos h, if_neg (by omega)]
        rintro e w2 ⟨rfl, hd2⟩
        go_wp2_with fail
        refine (ref_Day x _).mono ?_; rintro e w3 ⟨rfl, rfl⟩
        go_wp2_with fail
        refine (ref_In l _ _ _).mono ?_; rintro e w3 ⟨rfl, rfl⟩
        go_wp2_with fail
        refine (ref_Num o _).mono ?_; rintro e w3 ⟨rfl, rfl⟩
        go_wp2_with fail
        go_ret
        exact ⟨rfl, hd1.trans hd2⟩
    · rw [cycleOut, if_pos h, if_neg (by omega)]
      rintro e w2 ⟨rfl, hd2⟩
      go_wp2_with fail
      refine (ref_Day x _).mono ?_; rintro e w3 ⟨rfl, rfl⟩
      go_wp2_with fail
      refine (ref_In l _ _ _).mono ?_; rintro e w3 ⟨rfl, rfl⟩
      go_wp2_with fail
      go_ret
      exact ⟨rfl, hd1.trans hd2⟩
  · rw [cycleOut, if_neg h]
    rintro e w2 ⟨rfl, hd2⟩
    go_wp2_with fail
    refine (ref_Day x _).mono ?_; rintro e w3 ⟨rfl, rfl⟩
    go_wp2_with fail
    go_ret
    exact ⟨rfl, hd1.trans hd2⟩
theorem walk {H : Type} {enc : TypeId × Value → H} {v0 v1 v2 : Value} {d0 d1 d2 : DataW H} {p0 p1 p2 : List MemPlace} {base : Nat} (W : World)
    (o0 : Value.okWide Try.prog W .any base 3 v0) (h0 : DataW.Trod enc Try.prog W 0 (fun _ => true) true 3 v0 d0 p0)
    (o1 : Value.okWide Try.prog W .any base 3 v1) (h1 : DataW.Trod enc Try.prog W 0 (fun _ => true) true 3 v1 d1 p1)
    (o2 : Value.okWide Try.prog W .any base 3 v2) (h2 : DataW.Trod enc Try.prog W 0 (fun _ => true) true 3 v2 d2 p2) :
    Calls Try.prog 8 #[v0, v1, v2] W fun e w' => e = .returned (.bool true) ∧ Below W.heap.size W w' := by
  obtain ⟨a0, rfl, rfl, rfl, w0⟩ := open_int Try.underlying3 o0 h0
  have b0 := bounds_i64 w0
  obtain ⟨a1, rfl, rfl, rfl, w1⟩ := open_int Try.underlying3 o1 h1
  have b1 := bounds_i64 w1
  obtain ⟨a2, rfl, rfl, rfl, w2⟩ := open_int Try.underlying3 o2 h2
  have b2 := bounds_i64 w2
  exact (core a0 a1 a2 W b0.1 b0.2 b1.1 b1.2 b2.1 b2.2).mono fun e w' ⟨he, hd⟩ => ⟨he, hd.below _⟩
end Go.Proofs.Ytofmjjonobhfgaa.lineCyclesLaw
