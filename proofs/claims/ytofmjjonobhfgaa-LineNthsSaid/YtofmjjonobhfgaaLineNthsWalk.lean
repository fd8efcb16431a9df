/- LineNths: the Go text returns true at every input, and writes nothing that was there. -/
import Derived.Test.YtofmjjonobhfgaaLine2
import Derived.ProofKit
import Derived.OpenShut
namespace Go.Proofs.Ytofmjjonobhfgaa.lineNthsLaw
set_option linter.unusedVariables false
open Go.RowKit Go.ChangeShapes Go.WideShapes

theorem lit : nthOut 1 6 2 = .tuple #[.int .i64 14, .int .i64 0] := by
  rw [nthOut, if_neg (by omega), if_neg (by omega), if_neg (by omega), if_neg (by rw [show nthDay 1 6 2 = 14 from rfl]; omega)]; rfl
/-- How far the nearest day with weekday k lies from x, going by 'by'. -/
theorem far_up (x k : Int) (j : Nat) (h1 : 0 ≤ k) (h2 : k ≤ 6) (hj : (j : Int) < (k - (x - 1)) % 7) : ((x + j + 6) % 7 != k) = true := by
  simp; omega
theorem far_down (x k : Int) (j : Nat) (h1 : 0 ≤ k) (h2 : k ≤ 6) (hj : (j : Int) < (x - 1 - k) % 7) : ((x - j + 6) % 7 != k) = true := by
  simp; omega
theorem core (x k n : Int) (w : World) (_ : -9223372036854775808 ≤ x) (_ : x ≤ 9223372036854775807) (_ : -9223372036854775808 ≤ k) (_ : k ≤ 9223372036854775807) (_ : -9223372036854775808 ≤ n) (_ : n ≤ 9223372036854775807) :
    Calls Try.prog 14 #[.int .i64 x, .int .i64 k, .int .i64 n] w fun e w' => e = .returned (.bool true) ∧ Drawn w w' := by
  go_enter Try.func14, Try.ntmps14
  go_wp2_with fail
  refine (line_Nth 1 6 2 _).mono ?_
  rw [lit]
  rintro e w1 ⟨rfl, hd1⟩
  go_wp2_with fail
  refine (line_Nth x k n _).mono ?_
  rcases inB_cases (-4000000) 4000000 x with ⟨hb, h⟩ | ⟨hb, h⟩
  case inr =>
    rw [nthOut, if_pos h]
    rintro e w2 ⟨rfl, hd2⟩
    go_wp2_with fail
    refine (ref_Day x _).mono ?_; rintro e w3 ⟨rfl, rfl⟩
    go_wp2_with fail
    go_ret
    exact ⟨rfl, hd1.trans hd2⟩
  rcases inB_cases 0 6 k with ⟨hbk, hk⟩ | ⟨hbk, hk⟩
  case inr =>
    rw [nthOut, if_neg (by omega), if_pos (by omega)]
    rintro e w2 ⟨rfl, hd2⟩
    go_wp2_with fail
    refine (ref_Day x _).mono ?_; rintro e w3 ⟨rfl, rfl⟩
    go_wp2_with fail
    refine (ref_In k _ _ _).mono ?_; rintro e w3 ⟨rfl, rfl⟩
    go_wp2_with fail
    go_ret
    exact ⟨rfl, hd1.trans hd2⟩
  by_cases hn : n = 0
  · rw [nthOut, if_neg (by omega), if_pos (by omega)]
    have hn0 : (n == 0) = true := by simp [hn]
    clear hn
    rintro e w2 ⟨rfl, hd2⟩
    go_wp2_with fail
    refine (ref_Day x _).mono ?_; rintro e w3 ⟨rfl, rfl⟩
    go_wp2_with fail
    refine (ref_In k _ _ _).mono ?_; rintro e w3 ⟨rfl, rfl⟩
    go_wp2_with fail
    go_ret
    exact ⟨rfl, hd1.trans hd2⟩
  have hn0 : (n == 0) = false := by simp [hn]
  rcases inB_cases (-1000000) 1000000 n with ⟨hbn, hnn⟩ | ⟨hbn, hnn⟩
  case inr =>
    rw [nthOut, if_neg (by omega), if_neg (by omega), if_pos hnn]
    rintro e w2 ⟨rfl, hd2⟩
    go_wp2_with fail
    refine (ref_Day x _).mono ?_; rintro e w3 ⟨rfl, rfl⟩
    go_wp2_with fail
    refine (ref_In k _ _ _).mono ?_; rintro e w3 ⟨rfl, rfl⟩
    go_wp2_with fail
    refine (ref_In n _ _ _).mono ?_; rintro e w3 ⟨rfl, rfl⟩
    go_wp2_with fail
    go_ret
    exact ⟨rfl, hd1.trans hd2⟩
  obtain ⟨x1, x2⟩ := h
  obtain ⟨k1, k2⟩ := hk
  obtain ⟨n1, n2⟩ := hnn
  obtain ⟨d, hd⟩ : ∃ d, d = nthDay x k n := ⟨_, rfl⟩
  have hout : nthOut x k n = if ¬ (-4000000 ≤ d ∧ d ≤ 4000000) then .tuple #[.int .i64 0, .int .i64 3] else .tuple #[.int .i64 d, .int .i64 0] := by
    rw [nthOut, if_neg (by omega), if_neg (by omega), if_neg (by omega), hd]
  have hd' : (n < 0 → d = x - (x - 1 - k) % 7 + 7 * (n + 1)) ∧ (0 ≤ n → d = x + (k - (x - 1)) % 7 + 7 * (n - 1)) :=
    ⟨fun h => hd.trans (if_pos h), fun h => hd.trans (if_neg (by omega))⟩
  have HD := Lib.hid hd'; clear hd hd'
  have db : -100000000 ≤ d ∧ d ≤ 100000000 := by have := HD.out; omega
  obtain ⟨r, e0, hr, he0⟩ : ∃ r e0, nthOut x k n = .tuple #[.int .i64 r, .int .i64 e0] ∧ ((inB (-4000000) 4000000 d = true ∧ r = d ∧ e0 = 0) ∨ (inB (-4000000) 4000000 d = false ∧ r = 0 ∧ e0 = 3)) := by
    rcases inB_cases (-4000000) 4000000 d with ⟨hbd, hdd⟩ | ⟨hbd, hdd⟩
    · exact ⟨d, 0, by rw [hout, if_neg (by omega)], .inl ⟨hbd, rfl, rfl⟩⟩
    · exact ⟨0, 3, by rw [hout, if_pos hdd], .inr ⟨hbd, rfl, rfl⟩⟩
  have HE := Lib.hid he0; clear he0 hout
  rw [hr]
  clear hr
  rintro e w2 ⟨rfl, hd2⟩
  by_cases hneg : n < 0
  all_goals
    go_wp2_with fail
    refine (ref_Day x _).mono ?_; rintro e w3 ⟨rfl, rfl⟩
    go_wp2_with fail
    refine (ref_In k _ _ _).mono ?_; rintro e w3 ⟨rfl, rfl⟩
    go_wp2_with fail
    refine (ref_In n _ _ _).mono ?_; rintro e w3 ⟨rfl, rfl⟩
    go_wp2_with fail
  · go_loop [13] (fun v => ∃ j : Nat, (j : Int) ≤ (x - 1 - k) % 7 ∧ v = .int .i64 (x - j)) (fun v => ((intOf v) - (x - 7)).toNat)
    case atStart => exact ⟨0, by omega, by simp⟩
    case round =>
      obtain ⟨j, hj, rfl⟩ := hrel
      by_cases hlt : (j : Int) < (x - 1 - k) % 7
      · have hq := far_down x k j k1 k2 hlt
        go_wp2_with fail
        refine (ref_Week _ _ (by omega) (by omega)).mono ?_; rintro e w3 ⟨rfl, rfl⟩
        go_wp2_with fail
        go_round
        case rel => exact ⟨j + 1, by omega, by go_num⟩
        case measure => simp [intOf]; omega
      · have hq : ((x - j + 6) % 7 != k) = false := by simp; omega
        have hfin : x - (j : Int) + -7 * (-n - 1) = d := by have := HD.out; omega
        have HF := Lib.hid hfin; clear hfin
        go_wp2_with fail
        refine (ref_Week _ _ (by omega) (by omega)).mono ?_; rintro e w3 ⟨rfl, rfl⟩
        go_wp2_with fail
        rw [HF.out]
        refine (ref_Day _ _).mono ?_; rintro e w3 ⟨rfl, rfl⟩
        rcases HE.out with ⟨hbd, rfl, rfl⟩ | ⟨hbd, rfl, rfl⟩
        all_goals
          go_wp2_with fail
          go_ret
          exact ⟨rfl, hd1.trans hd2⟩
  · go_loop [13] (fun v => ∃ j : Nat, (j : Int) ≤ (k - (x - 1)) % 7 ∧ v = .int .i64 (x + j)) (fun v => ((x + 7) - (intOf v)).toNat)
    case atStart => exact ⟨0, by omega, by simp⟩
    case round =>
      obtain ⟨j, hj, rfl⟩ := hrel
      by_cases hlt : (j : Int) < (k - (x - 1)) % 7
      · have hq := far_up x k j k1 k2 hlt
        go_wp2_with fail
        refine (ref_Week _ _ (by omega) (by omega)).mono ?_; rintro e w3 ⟨rfl, rfl⟩
        go_wp2_with fail
        go_round
        case rel => exact ⟨j + 1, by omega, by go_num⟩
        case measure => simp [intOf]; omega
      · have hq : ((x + j + 6) % 7 != k) = false := by simp; omega
        have hfin : x + (j : Int) + 7 * (n - 1) = d := by have := HD.out; omega
        have HF := Lib.hid hfin; clear hfin
        go_wp2_with fail
        refine (ref_Week _ _ (by omega) (by omega)).mono ?_; rintro e w3 ⟨rfl, rfl⟩
        go_wp2_with fail
        rw [HF.out]
        refine (ref_Day _ _).mono ?_; rintro e w3 ⟨rfl, rfl⟩
        rcases HE.out with ⟨hbd, rfl, rfl⟩ | ⟨hbd, rfl, rfl⟩
        all_goals
          go_wp2_with fail
          go_ret
          exact ⟨rfl, hd1.trans hd2⟩
theorem walk {H : Type} {enc : TypeId × Value → H} {v0 v1 v2 : Value} {d0 d1 d2 : DataW H} {p0 p1 p2 : List MemPlace} {base : Nat} (W : World)
    (o0 : Value.okWide Try.prog W .any base 3 v0) (h0 : DataW.Trod enc Try.prog W 0 (fun _ => true) true 3 v0 d0 p0)
    (o1 : Value.okWide Try.prog W .any base 3 v1) (h1 : DataW.Trod enc Try.prog W 0 (fun _ => true) true 3 v1 d1 p1)
    (o2 : Value.okWide Try.prog W .any base 3 v2) (h2 : DataW.Trod enc Try.prog W 0 (fun _ => true) true 3 v2 d2 p2) :
    Calls Try.prog 14 #[v0, v1, v2] W fun e w' => e = .returned (.bool true) ∧ Below W.heap.size W w' := by
  obtain ⟨a0, rfl, rfl, rfl, w0⟩ := open_int Try.underlying3 o0 h0
  have b0 := bounds_i64 w0
  obtain ⟨a1, rfl, rfl, rfl, w1⟩ := open_int Try.underlying3 o1 h1
  have b1 := bounds_i64 w1
  obtain ⟨a2, rfl, rfl, rfl, w2⟩ := open_int Try.underlying3 o2 h2
  have b2 := bounds_i64 w2
  exact (core a0 a1 a2 W b0.1 b0.2 b1.1 b1.2 b2.1 b2.2).mono fun e w' ⟨he, hd⟩ => ⟨he, hd.below _⟩
end Go.Proofs.Ytofmjjonobhfgaa.lineNthsLaw
