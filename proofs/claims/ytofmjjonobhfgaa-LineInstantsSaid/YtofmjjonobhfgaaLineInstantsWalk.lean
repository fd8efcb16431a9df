/- LineInstants: the Go text returns true at every input, and writes nothing that was there. -/
import Derived.Test.YtofmjjonobhfgaaLine2
import Derived.ProofKit
import Derived.OpenShut
namespace Go.Proofs.Ytofmjjonobhfgaa.lineInstantsLaw
set_option linter.unusedVariables false
open Go.RowKit Go.ChangeShapes Go.WideShapes

theorem lit : instantOut (-1) 86399999 = .tuple #[.int .i64 (-1), .int .i64 0] := by rw [instantOut, if_pos (by omega), if_pos (by omega)]; rfl
theorem core (x m t : Int) (w : World) (_ : -9223372036854775808 ≤ x) (_ : x ≤ 9223372036854775807) (_ : -9223372036854775808 ≤ m) (_ : m ≤ 9223372036854775807) (h1 : -9223372036854775808 ≤ t) (h2 : t ≤ 9223372036854775807) :
    Calls Try.prog 9 #[.int .i64 x, .int .i64 m, .int .i64 t] w fun e w' => e = .returned (.bool true) ∧ Drawn w w' := by
  go_enter Try.func9, Try.ntmps9
  go_wp2_with fail
  refine (line_Instant (-1) 86399999 _).mono ?_
  rw [lit]
  rintro e w1 ⟨rfl, hd1⟩
  go_wp2_with fail
  refine (line_Instant x m _).mono ?_
  rcases inB_cases (-4000000) 4000000 x with ⟨hb, h⟩ | ⟨hb, h⟩
  · rcases inB_cases 0 86399999 m with ⟨hbl, hl⟩ | ⟨hbl, hl⟩
    · rw [instantOut, if_pos h, if_pos hl]
      rintro e w2 ⟨rfl, hd2⟩
      obtain ⟨x1, x2⟩ := h
      obtain ⟨l1, l2⟩ := hl
      have hq : (x * 86400000 + m != 86400000 * x + m) = false := by simp; omega
      go_wp2_with fail
      refine (ref_Day x _).mono ?_; rintro e w3 ⟨rfl, rfl⟩
      go_wp2_with fail
      refine (ref_In m _ _ _).mono ?_; rintro e w3 ⟨rfl, rfl⟩
      go_wp2_with fail
      refine (line_Split t _ h1 h2).mono ?_
      rcases inB_cases (-4000000) 4000000 (t / 86400000) with ⟨hbt, ht⟩ | ⟨hbt, ht⟩
      · rw [splitOut, if_pos ht]
        rintro e w4 ⟨rfl, hd4⟩
        go_wp2_with fail
        refine (ref_Instant t _ h1 h2).mono ?_; rintro e w3 ⟨rfl, rfl⟩
        go_wp2_with fail
        refine (ref_Floor _ _ _ h1 h2 (by omega) (by omega)).mono ?_; rintro e w3 ⟨rfl, rfl⟩
        go_wp2_with fail
        refine (ref_Mod _ _ _ h1 h2 (by omega) (by omega)).mono ?_; rintro e w3 ⟨rfl, rfl⟩
        go_wp2_with fail
        go_ret
        exact ⟨rfl, (hd1.trans hd2).trans hd4⟩
      · rw [splitOut, if_neg ht]
        rintro e w4 ⟨rfl, hd4⟩
        go_wp2_with fail
        refine (ref_Instant t _ h1 h2).mono ?_; rintro e w3 ⟨rfl, rfl⟩
        go_wp2_with fail
        go_ret
        exact ⟨rfl, (hd1.trans hd2).trans hd4⟩
    · rw [instantOut, if_pos h, if_neg hl]
      rintro e w2 ⟨rfl, hd2⟩
      go_wp2_with fail
      refine (ref_Day x _).mono ?_; rintro e w3 ⟨rfl, rfl⟩
      go_wp2_with fail
      refine (ref_In m _ _ _).mono ?_; rintro e w3 ⟨rfl, rfl⟩
      go_wp2_with fail
      refine (line_Split t _ h1 h2).mono ?_
      rcases inB_cases (-4000000) 4000000 (t / 86400000) with ⟨hbt, ht⟩ | ⟨hbt, ht⟩
      · rw [splitOut, if_pos ht]
        rintro e w4 ⟨rfl, hd4⟩
        go_wp2_with fail
        refine (ref_Instant t _ h1 h2).mono ?_; rintro e w3 ⟨rfl, rfl⟩
        go_wp2_with fail
        refine (ref_Floor _ _ _ h1 h2 (by omega) (by omega)).mono ?_; rintro e w3 ⟨rfl, rfl⟩
        go_wp2_with fail
        refine (ref_Mod _ _ _ h1 h2 (by omega) (by omega)).mono ?_; rintro e w3 ⟨rfl, rfl⟩
        go_wp2_with fail
        go_ret
        exact ⟨rfl, (hd1.trans hd2).trans hd4⟩
      · rw [splitOut, if_neg ht]
        rintro e w4 ⟨rfl, hd4⟩
        go_wp2_with fail
        refine (ref_Instant t _ h1 h2).mono ?_; rintro e w3 ⟨rfl, rfl⟩
        go_wp2_with fail
        go_ret
        exact ⟨rfl, (hd1.trans hd2).trans hd4⟩
  · rw [instantOut, if_neg h]
    rintro e w2 ⟨rfl, hd2⟩
    go_wp2_with fail
    refine (ref_Day x _).mono ?_; rintro e w3 ⟨rfl, rfl⟩
    go_wp2_with fail
    refine (line_Split t _ h1 h2).mono ?_
    rcases inB_cases (-4000000) 4000000 (t / 86400000) with ⟨hbt, ht⟩ | ⟨hbt, ht⟩
    · rw [splitOut, if_pos ht]
      rintro e w4 ⟨rfl, hd4⟩
      go_wp2_with fail
      refine (ref_Instant t _ h1 h2).mono ?_; rintro e w3 ⟨rfl, rfl⟩
      go_wp2_with fail
      refine (ref_Floor _ _ _ h1 h2 (by omega) (by omega)).mono ?_; rintro e w3 ⟨rfl, rfl⟩
      go_wp2_with fail
      refine (ref_Mod _ _ _ h1 h2 (by omega) (by omega)).mono ?_; rintro e w3 ⟨rfl, rfl⟩
      go_wp2_with fail
      go_ret
      exact ⟨rfl, (hd1.trans hd2).trans hd4⟩
    · rw [splitOut, if_neg ht]
      rintro e w4 ⟨rfl, hd4⟩
      go_wp2_with fail
      refine (ref_Instant t _ h1 h2).mono ?_; rintro e w3 ⟨rfl, rfl⟩
      go_wp2_with fail
      go_ret
      exact ⟨rfl, (hd1.trans hd2).trans hd4⟩
theorem walk {H : Type} {enc : TypeId × Value → H} {v0 v1 v2 : Value} {d0 d1 d2 : DataW H} {p0 p1 p2 : List MemPlace} {base : Nat} (W : World)
    (o0 : Value.okWide Try.prog W .any base 3 v0) (h0 : DataW.Trod enc Try.prog W 0 (fun _ => true) true 3 v0 d0 p0)
    (o1 : Value.okWide Try.prog W .any base 3 v1) (h1 : DataW.Trod enc Try.prog W 0 (fun _ => true) true 3 v1 d1 p1)
    (o2 : Value.okWide Try.prog W .any base 3 v2) (h2 : DataW.Trod enc Try.prog W 0 (fun _ => true) true 3 v2 d2 p2) :
    Calls Try.prog 9 #[v0, v1, v2] W fun e w' => e = .returned (.bool true) ∧ Below W.heap.size W w' := by
  obtain ⟨a0, rfl, rfl, rfl, w0⟩ := open_int Try.underlying3 o0 h0
  have b0 := bounds_i64 w0
  obtain ⟨a1, rfl, rfl, rfl, w1⟩ := open_int Try.underlying3 o1 h1
  have b1 := bounds_i64 w1
  obtain ⟨a2, rfl, rfl, rfl, w2⟩ := open_int Try.underlying3 o2 h2
  have b2 := bounds_i64 w2
  exact (core a0 a1 a2 W b0.1 b0.2 b1.1 b1.2 b2.1 b2.2).mono fun e w' ⟨he, hd⟩ => ⟨he, hd.below _⟩
end Go.Proofs.Ytofmjjonobhfgaa.lineInstantsLaw
