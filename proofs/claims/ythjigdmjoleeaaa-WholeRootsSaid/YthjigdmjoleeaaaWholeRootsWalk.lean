/- WholeRoots: the Go text returns true at every input, and writes nothing that was there. -/
import Derived.Test.YthjigdmjoleeaaaRoot
import Derived.ProofKit
import Derived.OpenShut
namespace Go.Proofs.Ythjigdmjoleeaaa.wholeRootsLaw
set_option linter.unusedVariables false
set_option maxRecDepth 100000
set_option maxHeartbeats 1000000
open Go.RowKit Go.ChangeShapes Go.WideShapes

theorem nine (r : Int) (h0 : 0 ≤ r) (h1 : r * r ≤ 99) (h2 : 99 < (r + 1) * (r + 1)) : r = 9 := by
  have a : ¬ 10 ≤ r := fun h => by
    have := Int.mul_le_mul h h (by omega) (by omega)
    omega
  have b : ¬ r + 1 ≤ 9 := fun h => by
    have := Int.mul_le_mul h h (by omega) (by omega)
    omega
  omega
theorem core (n : Int) (w : World) (n1 : -9223372036854775808 ≤ n) (n2 : n ≤ 9223372036854775807) :
    Calls Try.prog 13 #[.int .i64 n] w fun e w' => e = .returned (.bool true) ∧ Drawn w w' := by
  go_enter Try.func13, Try.ntmps13
  go_wp2_with fail
  refine (whole_Root 99 _ (by omega) (by omega)).mono ?_
  rintro e w1 ⟨r, r0, r1, r2, r3, rfl, hd⟩
  obtain rfl := nine r r0 r2 r3
  have HD := Lib.hid hd
  clear r0 r1 r2 r3 hd
  go_wp2_with fail
  by_cases hn : n < 0
  · refine (whole_Root_neg n _ n1 hn).mono ?_
    rintro e w2 ⟨rfl, rfl⟩
    go_wp2_with fail
    go_ret
    exact ⟨ret_bool (by simp), HD.out⟩
  refine (whole_Root n _ (by omega) n2).mono ?_
  rintro e w2 ⟨r, r0, r1, r2, r3, rfl, hd⟩
  have HD2 := Lib.hid (HD.out.trans hd)
  clear HD hd
  have hrr : 0 ≤ r * r := Int.mul_nonneg r0 r0
  have H1 := Lib.hid (show mulOut r r = .tuple #[.int .i64 (r * r), .int .i64 0] by rw [mulOut, if_pos (by omega)])
  obtain ⟨P, hP⟩ : ∃ P, P = (r + 1) * (r + 1) := ⟨_, rfl⟩
  rw [← hP] at r3
  obtain ⟨s, hs⟩ : ∃ s, s = r * r := ⟨_, rfl⟩
  rw [← hs] at H1 r2 hrr
  have wr : IntKind.i64.wrap (r + 1) = r + 1 := IntWalk.i64_in _ (by omega)
  by_cases hb : P ≤ 9223372036854775807
  · have H2 := Lib.hid (show mulOut (r + 1) (r + 1) = .tuple #[.int .i64 P, .int .i64 0] by rw [mulOut, ← hP, if_pos (by omega)])
    clear hs hP
    go_wp2_with fail
    refine (ref_Mul _ _ _ (by omega) (by omega) (by omega) (by omega)).mono ?_
    rw [H1.out]
    rintro e w3 ⟨rfl, rfl⟩
    go_wp2_with fail
    refine (ref_Mul _ _ _ (by omega) (by omega) (by omega) (by omega)).mono ?_
    rw [H2.out]
    rintro e w3 ⟨rfl, rfl⟩
    go_wp2_with fail
    go_ret
    exact ⟨ret_bool (by simp <;> omega), HD2.out⟩
  · have H2 := Lib.hid (show mulOut (r + 1) (r + 1) = .tuple #[.int .i64 0, .int .i64 14] by rw [mulOut, ← hP, if_neg (by omega)])
    clear hs hP
    go_wp2_with fail
    refine (ref_Mul _ _ _ (by omega) (by omega) (by omega) (by omega)).mono ?_
    rw [H1.out]
    rintro e w3 ⟨rfl, rfl⟩
    go_wp2_with fail
    refine (ref_Mul _ _ _ (by omega) (by omega) (by omega) (by omega)).mono ?_
    rw [H2.out]
    rintro e w3 ⟨rfl, rfl⟩
    go_wp2_with fail
    go_ret
    exact ⟨ret_bool (by simp <;> omega), HD2.out⟩
theorem walk {H : Type} {enc : TypeId × Value → H} {v0 : Value} {d0 : DataW H} {p0 : List MemPlace} {base : Nat} (W : World)
    (o0 : Value.okWide Try.prog W .any base 3 v0) (h0 : DataW.Trod enc Try.prog W 0 (fun _ => true) true 3 v0 d0 p0) :
    Calls Try.prog 13 #[v0] W fun e w' => e = .returned (.bool true) ∧ Below W.heap.size W w' := by
  obtain ⟨a0, rfl, rfl, rfl, w0⟩ := open_int Try.underlying3 o0 h0
  have b0 := bounds_i64 w0
  exact (core a0 W b0.1 b0.2).mono fun e w' ⟨he, hd⟩ => ⟨he, hd.below _⟩
end Go.Proofs.Ythjigdmjoleeaaa.wholeRootsLaw
