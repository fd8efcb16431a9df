/- LineWeekdays: the Go text returns true at every input, and writes nothing that was there. -/
import Derived.Test.YtofmjjonobhfgaaLine
import Derived.ProofKit
import Derived.OpenShut
namespace Go.Proofs.Ytofmjjonobhfgaa.lineWeekdaysLaw
open Go.RowKit Go.ChangeShapes Go.WideShapes

theorem lit : lineWeekdayOut 9 = .tuple #[.int .i64 1, .int .i64 0] := by rw [lineWeekdayOut, if_pos (by omega)]; rfl
theorem core (x : Int) (w : World) :
    Calls Try.prog 7 #[.int .i64 x] w fun e w' => e = .returned (.bool true) ∧ Drawn w w' := by
  go_enter Try.func7, Try.ntmps7
  go_wp2_with fail
  refine (line_Weekday 9 _).mono ?_
  rw [lit]
  rintro e w1 ⟨rfl, hd1⟩
  go_wp2_with fail
  refine (line_Weekday x _).mono ?_
  by_cases h : -4000000 ≤ x ∧ x ≤ 4000000
  · have c := chk_yes h.1 h.2
    rw [lineWeekdayOut, if_pos h]
    rintro e w2 ⟨rfl, hd2⟩
    have hb := inB_yes h.1 h.2
    obtain ⟨h1, h2⟩ := h
    have hq : ((x - 1) % 7 == (x + 6) % 7) = true := by simp; omega
    go_wp2_with fail
    refine (ref_Day x _).mono ?_; rintro e w3 ⟨rfl, rfl⟩
    go_wp2_with fail
    refine (ref_Week x _ (by omega) (by omega)).mono ?_; rintro e w3 ⟨rfl, rfl⟩
    go_wp2_with fail
    refine (line_Check x _).mono ?_; rintro e w3 ⟨rfl, rfl⟩
    go_wp2_with fail
    go_ret
    exact ⟨rfl, hd1.trans hd2⟩
  · have c := chk_no h
    rw [lineWeekdayOut, if_neg h]
    rintro e w2 ⟨rfl, hd2⟩
    have hb := inB_no h
    go_wp2_with fail
    refine (ref_Day x _).mono ?_; rintro e w3 ⟨rfl, rfl⟩
    go_wp2_with fail
    refine (line_Check x _).mono ?_; rintro e w3 ⟨rfl, rfl⟩
    go_wp2_with fail
    go_ret
    exact ⟨rfl, hd1.trans hd2⟩
theorem walk {H : Type} {enc : TypeId × Value → H} {v0 : Value} {d0 : DataW H} {p0 : List MemPlace} {base : Nat} (W : World)
    (o0 : Value.okWide Try.prog W .any base 3 v0) (h0 : DataW.Trod enc Try.prog W 0 (fun _ => true) true 3 v0 d0 p0) :
    Calls Try.prog 7 #[v0] W fun e w' => e = .returned (.bool true) ∧ Below W.heap.size W w' := by
  obtain ⟨a, rfl, rfl, rfl, _⟩ := open_int Try.underlying3 o0 h0
  exact (core a W).mono fun e w' ⟨he, hd⟩ => ⟨he, hd.below _⟩
end Go.Proofs.Ytofmjjonobhfgaa.lineWeekdaysLaw
