/- WholeGcds: the Go text returns true at every input, and writes nothing that was there. -/
import Derived.Test.YtofmjjonobhfgaaWhole
import Derived.Test.YtofmjjonobhfgaaRef
import Derived.ProofKit
import Derived.OpenShut
namespace Go.Proofs.Ytofmjjonobhfgaa.wholeGcdsLaw
open Go.RowKit Go.ChangeShapes Go.WideShapes

theorem lit : gcdOut (-12) 18 = .tuple #[.int .i64 6, .int .i64 0] := by
  rw [gcdOut, show Int.gcd (-12) 18 = 6 from by decide]; rfl
theorem core (a b : Int) (w : World) (h1 : -9223372036854775808 ≤ a) (h2 : a ≤ 9223372036854775807) (h3 : -9223372036854775808 ≤ b) (h4 : b ≤ 9223372036854775807) :
    Calls Try.prog 5 #[.int .i64 a, .int .i64 b] w fun e w' => e = .returned (.bool true) ∧ Drawn w w' := by
  go_enter Try.func5, Try.ntmps5
  go_wp2_with fail
  refine (whole_Gcd (-12) 18 _ (by omega) (by omega) (by omega) (by omega)).mono ?_
  rw [lit]
  rintro e w1 ⟨rfl, hd1⟩
  go_wp2_with fail
  refine (whole_Gcd a b _ h1 h2 h3 h4).mono ?_
  by_cases hg : Int.gcd a b ≤ 9223372036854775807
  · rw [gcdOut, if_pos hg]
    rintro e w2 ⟨rfl, hd2⟩
    go_wp2_with fail
    refine (ref_Gcd a b _ h1 h2 h3 h4).mono ?_
    rintro e w3 ⟨rfl, rfl⟩
    generalize Int.gcd a b = g at *
    go_wp2_with fail
    go_ret
    exact ⟨rfl, hd1.trans hd2⟩
  · rw [gcdOut, if_neg hg]
    rintro e w2 ⟨rfl, hd2⟩
    go_wp2_with fail
    refine (ref_Gcd a b _ h1 h2 h3 h4).mono ?_
    rintro e w3 ⟨rfl, rfl⟩
    have hle : Int.gcd a b ≤ 9223372036854775808 := by
      unfold Int.gcd
      by_cases h0 : a.natAbs = 0
      · rw [h0, Nat.gcd_zero_left]; omega
      · have := Nat.gcd_le_left b.natAbs (show 0 < a.natAbs by omega); omega
    generalize Int.gcd a b = g at *
    go_wp2_with fail
    go_ret
    exact ⟨rfl, hd1.trans hd2⟩
theorem walk {H : Type} {enc : TypeId × Value → H} {v0 v1 : Value} {d0 d1 : DataW H} {p0 p1 : List MemPlace} {base : Nat} (W : World)
    (o0 : Value.okWide Try.prog W .any base 3 v0) (h0 : DataW.Trod enc Try.prog W 0 (fun _ => true) true 3 v0 d0 p0)
    (o1 : Value.okWide Try.prog W .any base 3 v1) (h1 : DataW.Trod enc Try.prog W 0 (fun _ => true) true 3 v1 d1 p1) :
    Calls Try.prog 5 #[v0, v1] W fun e w' => e = .returned (.bool true) ∧ Below W.heap.size W w' := by
  obtain ⟨a, rfl, rfl, rfl, wa⟩ := open_int Try.underlying3 o0 h0
  obtain ⟨b, rfl, rfl, rfl, wb⟩ := open_int Try.underlying3 o1 h1
  have ba := bounds_i64 wa
  have bb := bounds_i64 wb
  exact (core a b W ba.1 ba.2 bb.1 bb.2).mono fun e w' ⟨he, hd⟩ => ⟨he, hd.below _⟩
end Go.Proofs.Ytofmjjonobhfgaa.wholeGcdsLaw
