/- Contracts of package line, second part: Cycle, Instant, Split, Nth. -/
import Derived.Test.YtjpbkkoflaajcabDoorLine
namespace Go.Proofs.YtjpbkkoflaajcabDoor
set_option linter.unusedVariables false
set_option maxRecDepth 100000
open Go.RowKit

theorem ref_Instant (t : Int) (w : World) (h1 : -9223372036854775808 ≤ t) (h2 : t ≤ 9223372036854775807) :
    Calls Tryd.prog 25 #[.int .i64 t] w fun e w' => e = .returned (.bool (inB (-4000000) 4000000 (t / 86400000))) ∧ w = w' := by
  go_enter Tryd.func25, Tryd.ntmps25
  go_wp2_with fail
  refine (ref_Floor _ _ _ h1 h2 (by omega) (by omega)).mono ?_; rintro e w' ⟨rfl, rfl⟩
  go_wp2_with fail
  refine (ref_Day _ _).mono ?_; rintro e w' ⟨rfl, rfl⟩
  go_wp2_with fail
  go_ret
  exact ⟨rfl, rfl⟩
/-- The n-th day with weekday k from x on, or up to it. -/
def nthDay (x k n : Int) : Int := if n < 0 then x - (x - 1 - k) % 7 + 7 * (n + 1) else x + (k - (x - 1)) % 7 + 7 * (n - 1)
def nthOut (x k n : Int) : Value :=
  if ¬ (-4000000 ≤ x ∧ x ≤ 4000000) then .tuple #[.int .i64 0, .int .i64 3] else
  if ¬ (0 ≤ k ∧ k ≤ 6) ∨ n = 0 then .tuple #[.int .i64 0, .int .i64 1] else
  if ¬ (-1000000 ≤ n ∧ n ≤ 1000000) then .tuple #[.int .i64 0, .int .i64 3] else
  if ¬ (-4000000 ≤ nthDay x k n ∧ nthDay x k n ≤ 4000000) then .tuple #[.int .i64 0, .int .i64 3] else .tuple #[.int .i64 (nthDay x k n), .int .i64 0]
theorem line_Nth (x k n : Int) (w : World) :
    Calls Tryd.prog 55 #[.int .i64 x, .int .i64 k, .int .i64 n] w fun e w' => e = .returned (nthOut x k n) ∧ Drawn w w' := by
  by_cases h : -4000000 ≤ x ∧ x ≤ 4000000
  case neg =>
    have c := chk_no h
    go_enter Tryd.func55, Tryd.ntmps55
    go_wp2_with fail
    refine (line_Check _ _).mono ?_; rintro e w' ⟨rfl, rfl⟩
    go_wp2_with fail
    go_ret2
    exact ⟨ret_of (by rw [nthOut, if_pos h]; rfl), Drawn.refl _⟩
  have c := chk_yes h.1 h.2
  by_cases hk : ¬ (0 ≤ k ∧ k ≤ 6) ∨ n = 0
  · have ho := Lib.hid (show nthOut x k n = .tuple #[.int .i64 0, .int .i64 1] by rw [nthOut, if_neg (by omega), if_pos hk])
    have hk' : k < 0 ∨ (0 ≤ k ∧ 6 < k) ∨ (0 ≤ k ∧ k ≤ 6 ∧ (n == 0) = true) := by simp; omega
    clear hk
    rcases hk' with hl | ⟨l1, l2⟩ | ⟨l1, l2, o1⟩
    all_goals
      go_enter Tryd.func55, Tryd.ntmps55
      go_wp2_with fail
      refine (line_Check _ _).mono ?_; rintro e w' ⟨rfl, rfl⟩
      go_wp2_with fail
      go_ret2
      exact ⟨ret_of (by rw [ho.out]; rfl), Drawn.refl _⟩
  have hn0 : (n == 0) = false := by simp; omega
  have hk1 : 0 ≤ k ∧ k ≤ 6 := by omega
  obtain ⟨k1, k2⟩ := hk1
  by_cases hn : ¬ (-1000000 ≤ n ∧ n ≤ 1000000)
  · have ho := Lib.hid (show nthOut x k n = .tuple #[.int .i64 0, .int .i64 3] by rw [nthOut, if_neg (by omega), if_neg hk, if_pos hn])
    clear hk
    have hn' : n < -1000000 ∨ (1000000 < n) := by omega
    clear hn
    rcases hn' with hl | hl
    all_goals
      go_enter Tryd.func55, Tryd.ntmps55
      go_wp2_with fail
      refine (line_Check _ _).mono ?_; rintro e w' ⟨rfl, rfl⟩
      go_wp2_with fail
      go_ret2
      exact ⟨ret_of (by rw [ho.out]; rfl), Drawn.refl _⟩
  have hn1 : -1000000 ≤ n ∧ n ≤ 1000000 := by omega
  have hfin := Lib.hid (show nthOut x k n = if ¬ (-4000000 ≤ nthDay x k n ∧ nthDay x k n ≤ 4000000) then .tuple #[.int .i64 0, .int .i64 3] else .tuple #[.int .i64 (nthDay x k n), .int .i64 0] by rw [nthOut, if_neg (by omega), if_neg hk, if_neg hn])
  clear hk hn
  obtain ⟨n1, n2⟩ := hn1
  obtain ⟨h1, h2⟩ := h
  by_cases hneg : n < 0
  · have hday := Lib.hid (show nthDay x k n = x - (x - 1 - k) % 7 + 7 * (n + 1) from if_pos hneg)
    go_enter Tryd.func55, Tryd.ntmps55
    go_wp2_with fail
    refine (line_Check _ _).mono ?_; rintro e w' ⟨rfl, rfl⟩
    go_wp2_with fail
    refine (line_weekday _ _ (by omega) (by omega)).mono ?_; rintro e w1 ⟨rfl, hd1⟩
    go_wp2_with fail
    refine (whole_Mod _ _ _ (by omega) (by omega) (by omega) (by omega)).mono ?_; rintro e w2 ⟨rfl, hd2⟩
    go_wp2_with fail
    refine (line_weekday _ _ (by omega) (by omega)).mono ?_; rintro e w3 ⟨rfl, hd3⟩
    go_wp2_with fail
    refine (whole_Mod _ _ _ (by omega) (by omega) (by omega) (by omega)).mono ?_; rintro e w4 ⟨rfl, hd4⟩
    go_wp2_with fail
    refine (line_Is _ _).mono ?_; rintro e w' ⟨rfl, rfl⟩
    rcases inB_cases (-4000000) 4000000 (x - (x - 1 - k) % 7 + 7 * (n + 1)) with ⟨hb, hi⟩ | ⟨hb, hi⟩
    · go_wp2_with fail
      go_ret2
      exact ⟨ret_of (by rw [hfin.out, hday.out, if_neg (by omega)]; rfl), ((hd1.trans hd2).trans hd3).trans hd4⟩
    · go_wp2_with fail
      go_ret2
      exact ⟨ret_of (by rw [hfin.out, hday.out, if_pos (by omega)]; rfl), ((hd1.trans hd2).trans hd3).trans hd4⟩
  · have hday := Lib.hid (show nthDay x k n = x + (k - (x - 1)) % 7 + 7 * (n - 1) from if_neg hneg)
    go_enter Tryd.func55, Tryd.ntmps55
    go_wp2_with fail
    refine (line_Check _ _).mono ?_; rintro e w' ⟨rfl, rfl⟩
    go_wp2_with fail
    refine (line_weekday _ _ (by omega) (by omega)).mono ?_; rintro e w1 ⟨rfl, hd1⟩
    go_wp2_with fail
    refine (whole_Mod _ _ _ (by omega) (by omega) (by omega) (by omega)).mono ?_; rintro e w2 ⟨rfl, hd2⟩
    go_wp2_with fail
    refine (line_Is _ _).mono ?_; rintro e w' ⟨rfl, rfl⟩
    rcases inB_cases (-4000000) 4000000 (x + (k - (x - 1)) % 7 + 7 * (n - 1)) with ⟨hb, hi⟩ | ⟨hb, hi⟩
    · go_wp2_with fail
      go_ret2
      exact ⟨ret_of (by rw [hfin.out, hday.out, if_neg (by omega)]; rfl), hd1.trans hd2⟩
    · go_wp2_with fail
      go_ret2
      exact ⟨ret_of (by rw [hfin.out, hday.out, if_pos (by omega)]; rfl), hd1.trans hd2⟩
end Go.Proofs.YtjpbkkoflaajcabDoor
