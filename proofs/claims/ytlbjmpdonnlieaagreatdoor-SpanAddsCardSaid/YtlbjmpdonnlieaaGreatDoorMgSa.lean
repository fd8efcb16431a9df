/- Several texts in one: Line2, Spa0. -/
import Derived.Test.YtlbjmpdonnlieaaGreatDoorMgW
import Derived.Test.YtlbjmpdonnlieaaGreatDoorMg5
import Derived.Deep.Cut
set_option linter.unusedSimpArgs false
namespace Go.Proofs.YtlbjmpdonnlieaaGreatDoor
set_option linter.unusedVariables false
set_option maxRecDepth 100000
open Go.RowKit
def splitOut (t : Int) : Value :=
  if -4000000 ≤ t / 86400000 ∧ t / 86400000 ≤ 4000000 then .tuple #[.int .i64 (t / 86400000), .int .i64 (t % 86400000), .int .i64 0] else .tuple #[.int .i64 0, .int .i64 0, .int .i64 3]
theorem line_Split (t : Int) (w : World) (h1 : -9223372036854775808 ≤ t) (h2 : t ≤ 9223372036854775807) :
    Calls Tryz.prog 44 #[.int .i64 t] w fun e w' => e = .returned (splitOut t) ∧ Drawn w w' := by
  rcases inB_cases (-4000000) 4000000 (t / 86400000) with ⟨hb, h⟩ | ⟨hb, h⟩
  · go_enter Tryz.func44, Tryz.ntmps44
    go_wp2_with fail
    refine (whole_Div_pos _ _ _ h1 h2 (by omega) (by omega)).mono ?_; rintro e w' ⟨rfl, hd⟩
    go_wp2_with fail
    refine (line_Is _ _).mono ?_; rintro e w' ⟨rfl, rfl⟩
    go_wp2_with fail
    go_ret3
    exact ⟨ret_of (by rw [splitOut, if_pos h]; rfl), hd⟩
  · go_enter Tryz.func44, Tryz.ntmps44
    go_wp2_with fail
    refine (whole_Div_pos _ _ _ h1 h2 (by omega) (by omega)).mono ?_; rintro e w' ⟨rfl, hd⟩
    go_wp2_with fail
    refine (line_Is _ _).mono ?_; rintro e w' ⟨rfl, rfl⟩
    go_wp2_with fail
    go_ret3
    exact ⟨ret_of (by rw [splitOut, if_neg h]; rfl), hd⟩
theorem ref_Instant (t : Int) (w : World) (h1 : -9223372036854775808 ≤ t) (h2 : t ≤ 9223372036854775807) :
    Calls Tryz.prog 20 #[.int .i64 t] w fun e w' => e = .returned (.bool (inB (-4000000) 4000000 (t / 86400000))) ∧ w = w' := by
  go_enter Tryz.func20, Tryz.ntmps20
  go_wp2_with fail
  refine (ref_Floor _ _ _ h1 h2 (by omega) (by omega)).mono ?_; rintro e w' ⟨rfl, rfl⟩
  go_wp2_with fail
  refine (ref_Day _ _).mono ?_; rintro e w' ⟨rfl, rfl⟩
  go_wp2_with fail
  go_ret
  exact ⟨rfl, rfl⟩
set_option linter.unusedSimpArgs false
def okLen (x : Nat → Int) : Bool := inB (-10000) 10000 (x 0) && inB (-10000) 10000 (x 1) && inB (-8000000) 8000000 (x 2) && inB (-345600000000000) 345600000000000 (x 3)
abbrev lenV (x : Nat → Int) : Array Value := #[.int .i64 (x 0), .int .i64 (x 1), .int .i64 (x 2), .int .i64 (x 3)]
abbrev lenO (x : Nat → Int) : Obj := .cells (lenV x) 32
theorem span_inRange (x m : Int) (w : World) (h0 : 0 ≤ m) (h1 : m ≤ 1000000000000000) :
    Calls Tryz.prog 70 #[.int .i64 x, .int .i64 m] w fun e w' => e = .returned (.bool (inB (-m) m x)) ∧ w = w' := by
  by_cases h2 : -m ≤ x
  · by_cases h3 : x ≤ m
    · go_enter Tryz.func70, Tryz.ntmps70
      go_wp2
      go_ret
      exact ⟨ret_bool (inB_yes h2 h3).symm, rfl⟩
    · go_enter Tryz.func70, Tryz.ntmps70
      go_wp2
      go_ret
      exact ⟨ret_bool (inB_no (by omega)).symm, rfl⟩
  · go_enter Tryz.func70, Tryz.ntmps70
    go_wp2
    go_ret
    exact ⟨ret_bool (inB_no (by omega)).symm, rfl⟩
set_option maxHeartbeats 4000000 in
theorem span_Check (x : Nat → Int) (w : World) :
    Calls Tryz.prog 35 #[.agg (lenV x)] w fun e w' => e = .returned (.int .i64 (if okLen x then 0 else 3)) ∧ Below w.heap.size w w' := by
  unfold okLen
  obtain ⟨b0, hb0⟩ : ∃ b, b = inB (-10000) 10000 (x 0) := ⟨_, rfl⟩
  obtain ⟨b1, hb1⟩ : ∃ b, b = inB (-10000) 10000 (x 1) := ⟨_, rfl⟩
  obtain ⟨b2, hb2⟩ : ∃ b, b = inB (-8000000) 8000000 (x 2) := ⟨_, rfl⟩
  obtain ⟨b3, hb3⟩ : ∃ b, b = inB (-345600000000000) 345600000000000 (x 3) := ⟨_, rfl⟩
  rw [← hb0, ← hb1, ← hb2, ← hb3]
  have C0 := Lib.hid (show ∀ W : World, Calls Tryz.prog 70 #[.int .i64 (x 0), .int .i64 10000] W fun e w' => e = .returned (.bool b0) ∧ W = w' from fun W => by rw [hb0]; exact span_inRange (x 0) 10000 W (by decide) (by decide))
  have C1 := Lib.hid (show ∀ W : World, Calls Tryz.prog 70 #[.int .i64 (x 1), .int .i64 10000] W fun e w' => e = .returned (.bool b1) ∧ W = w' from fun W => by rw [hb1]; exact span_inRange (x 1) 10000 W (by decide) (by decide))
  have C2 := Lib.hid (show ∀ W : World, Calls Tryz.prog 70 #[.int .i64 (x 2), .int .i64 8000000] W fun e w' => e = .returned (.bool b2) ∧ W = w' from fun W => by rw [hb2]; exact span_inRange (x 2) 8000000 W (by decide) (by decide))
  have C3 := Lib.hid (show ∀ W : World, Calls Tryz.prog 70 #[.int .i64 (x 3), .int .i64 345600000000000] W fun e w' => e = .returned (.bool b3) ∧ W = w' from fun W => by rw [hb3]; exact span_inRange (x 3) 345600000000000 W (by decide) (by decide))
  clear hb0 hb1 hb2 hb3
  have o0 := One.new w (lenO x)
  cases b0 with
  | false =>
    go_enter Tryz.func35, Tryz.ntmps35
    go_upto_region 1 with fail
    exact q20
  | true =>
    cases b1 with
    | false =>
      go_enter Tryz.func35, Tryz.ntmps35
      go_upto_region 1 with fail
      exact q20
    | true =>
      cases b2 with
      | false =>
        go_enter Tryz.func35, Tryz.ntmps35
        go_upto_region 1 with fail
        exact q20
      | true =>
        cases b3 with
        | false =>
          go_enter Tryz.func35, Tryz.ntmps35
          go_upto_region 1 with fail
          exact q20
        | true =>
          go_enter Tryz.func35, Tryz.ntmps35
          go_upto_region 1 with fail
          exact q20
set_option maxHeartbeats 4000000 in
theorem ref_LengthOK (x : Nat → Int) (w : World) :
    Calls Tryz.prog 16 #[.agg (lenV x)] w fun e w' => e = .returned (.bool (okLen x)) ∧ Below w.heap.size w w' := by
  unfold okLen
  obtain ⟨b0, hb0⟩ : ∃ b, b = inB (-10000) 10000 (x 0) := ⟨_, rfl⟩
  obtain ⟨b1, hb1⟩ : ∃ b, b = inB (-10000) 10000 (x 1) := ⟨_, rfl⟩
  obtain ⟨b2, hb2⟩ : ∃ b, b = inB (-8000000) 8000000 (x 2) := ⟨_, rfl⟩
  obtain ⟨b3, hb3⟩ : ∃ b, b = inB (-345600000000000) 345600000000000 (x 3) := ⟨_, rfl⟩
  rw [← hb0, ← hb1, ← hb2, ← hb3]
  have C0 := Lib.hid (show ∀ W : World, Calls Tryz.prog 15 #[.int .i64 (x 0), .int .i64 (-10000), .int .i64 10000] W fun e w' => e = .returned (.bool b0) ∧ W = w' from fun W => by rw [hb0]; exact ref_In (x 0) (-10000) 10000 W)
  have C1 := Lib.hid (show ∀ W : World, Calls Tryz.prog 15 #[.int .i64 (x 1), .int .i64 (-10000), .int .i64 10000] W fun e w' => e = .returned (.bool b1) ∧ W = w' from fun W => by rw [hb1]; exact ref_In (x 1) (-10000) 10000 W)
  have C2 := Lib.hid (show ∀ W : World, Calls Tryz.prog 15 #[.int .i64 (x 2), .int .i64 (-8000000), .int .i64 8000000] W fun e w' => e = .returned (.bool b2) ∧ W = w' from fun W => by rw [hb2]; exact ref_In (x 2) (-8000000) 8000000 W)
  have C3 := Lib.hid (show ∀ W : World, Calls Tryz.prog 15 #[.int .i64 (x 3), .int .i64 (-345600000000000), .int .i64 345600000000000] W fun e w' => e = .returned (.bool b3) ∧ W = w' from fun W => by rw [hb3]; exact ref_In (x 3) (-345600000000000) 345600000000000 W)
  clear hb0 hb1 hb2 hb3
  have o0 := One.new w (lenO x)
  cases b0 with
  | false =>
    go_enter Tryz.func16, Tryz.ntmps16
    go_upto_region 1 with fail
    exact q21
  | true =>
    cases b1 with
    | false =>
      go_enter Tryz.func16, Tryz.ntmps16
      go_upto_region 1 with fail
      exact q21
    | true =>
      cases b2 with
      | false =>
        go_enter Tryz.func16, Tryz.ntmps16
        go_upto_region 1 with fail
        exact q21
      | true =>
        cases b3 with
        | false =>
          go_enter Tryz.func16, Tryz.ntmps16
          go_upto_region 1 with fail
          exact q21
        | true =>
          go_enter Tryz.func16, Tryz.ntmps16
          go_upto_region 1 with fail
          exact q21
def instB (t : Int) : Bool := inB (-4000000) 4000000 (t / 86400000)
theorem line_IsInstant (t : Int) (w : World) (h1 : -9223372036854775808 ≤ t) (h2 : t ≤ 9223372036854775807) :
    Calls Tryz.prog 43 #[.int .i64 t] w fun e w' => e = .returned (.bool (instB t)) ∧ Drawn w w' := by
  go_enter Tryz.func43, Tryz.ntmps43
  go_wp2_with fail
  refine (whole_Down _ _ _ h1 h2 (by omega) (by omega)).mono ?_; rintro e w' ⟨rfl, hd⟩
  go_wp2_with fail
  refine (line_Is _ _).mono ?_; rintro e w' ⟨rfl, rfl⟩
  go_wp2_with fail
  go_ret
  exact ⟨rfl, hd⟩
end Go.Proofs.YtlbjmpdonnlieaaGreatDoor
