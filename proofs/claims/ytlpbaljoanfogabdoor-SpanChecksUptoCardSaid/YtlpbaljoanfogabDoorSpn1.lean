/- Contracts of span.Check and span.show; the reference's LengthOK. -/
import Derived.Test.YtlpbaljoanfogabDoorSpn0
import Derived.Test.YtlpbaljoanfogabDoorRcp1
import Derived.Test.YtlpbaljoanfogabDoorOne
import Derived.Test.YtlpbaljoanfogabDoorQuiet
import Derived.Deep.Cut
namespace Go.Proofs.YtlpbaljoanfogabDoor
set_option linter.unusedVariables false
set_option linter.unusedSimpArgs false
set_option maxRecDepth 100000
open Go.RowKit Go.Shelf

abbrev lenV (x : Nat → Int) : Array Value := #[.int .i64 (x 0), .int .i64 (x 1), .int .i64 (x 2), .int .i64 (x 3)]
abbrev lenO (x : Nat → Int) : Obj := .cells (lenV x) 23
theorem span_inRange (x m : Int) (w : World) (h0 : 0 ≤ m) (h1 : m ≤ 1000000000000000) :
    Calls Tryd.prog 18 #[.int .i64 x, .int .i64 m] w fun e w' => e = .returned (.bool (inB (-m) m x)) ∧ w = w' := by
  by_cases h2 : -m ≤ x
  · by_cases h3 : x ≤ m
    · go_enter Tryd.func18, Tryd.ntmps18
      go_wp2
      go_ret
      exact ⟨ret_bool (inB_yes h2 h3).symm, rfl⟩
    · go_enter Tryd.func18, Tryd.ntmps18
      go_wp2
      go_ret
      exact ⟨ret_bool (inB_no (by omega)).symm, rfl⟩
  · go_enter Tryd.func18, Tryd.ntmps18
    go_wp2
    go_ret
    exact ⟨ret_bool (inB_no (by omega)).symm, rfl⟩
set_option maxHeartbeats 4000000 in
theorem span_Check (x : Nat → Int) (w : World) :
    Calls Tryd.prog 7 #[.agg (lenV x)] w fun e w' => e = .returned (.int .i64 (if okLen x then 0 else 3)) ∧ Below w.heap.size w w' := by
  unfold okLen
  obtain ⟨b0, hb0⟩ : ∃ b, b = inB (-10000) 10000 (x 0) := ⟨_, rfl⟩
  obtain ⟨b1, hb1⟩ : ∃ b, b = inB (-10000) 10000 (x 1) := ⟨_, rfl⟩
  obtain ⟨b2, hb2⟩ : ∃ b, b = inB (-8000000) 8000000 (x 2) := ⟨_, rfl⟩
  obtain ⟨b3, hb3⟩ : ∃ b, b = inB (-345600000000000) 345600000000000 (x 3) := ⟨_, rfl⟩
  rw [← hb0, ← hb1, ← hb2, ← hb3]
  have C0 := Lib.hid (show ∀ W : World, Calls Tryd.prog 18 #[.int .i64 (x 0), .int .i64 10000] W fun e w' => e = .returned (.bool b0) ∧ W = w' from fun W => by rw [hb0]; exact span_inRange (x 0) 10000 W (by decide) (by decide))
  have C1 := Lib.hid (show ∀ W : World, Calls Tryd.prog 18 #[.int .i64 (x 1), .int .i64 10000] W fun e w' => e = .returned (.bool b1) ∧ W = w' from fun W => by rw [hb1]; exact span_inRange (x 1) 10000 W (by decide) (by decide))
  have C2 := Lib.hid (show ∀ W : World, Calls Tryd.prog 18 #[.int .i64 (x 2), .int .i64 8000000] W fun e w' => e = .returned (.bool b2) ∧ W = w' from fun W => by rw [hb2]; exact span_inRange (x 2) 8000000 W (by decide) (by decide))
  have C3 := Lib.hid (show ∀ W : World, Calls Tryd.prog 18 #[.int .i64 (x 3), .int .i64 345600000000000] W fun e w' => e = .returned (.bool b3) ∧ W = w' from fun W => by rw [hb3]; exact span_inRange (x 3) 345600000000000 W (by decide) (by decide))
  clear hb0 hb1 hb2 hb3
  have o0 := One.new w (lenO x)
  cases b0 with
  | false =>
    go_enter Tryd.func7, Tryd.ntmps7
    go_upto_region 1 with fail
    generalize World.alloc w _ = W0 at o0 ⊢
    have O0 := Lib.hid o0.2
    have o1 := o0.1
    clear o0
    have d0 := o1.cell 0; have d1 := o1.cell 1; have d2 := o1.cell 2; have d3 := o1.cell 3; simp at d0 d1 d2 d3
    clear o1
    go_wp2_with (go_at_call 18; (first | with_reducible refine (C0.out _).mono ?_ | with_reducible refine (C1.out _).mono ?_ | with_reducible refine (C2.out _).mono ?_ | with_reducible refine (C3.out _).mono ?_); rintro e w' ⟨rfl, rfl⟩)
    go_ret
    exact ⟨rfl, O0.out⟩
  | true =>
    cases b1 with
    | false =>
      go_enter Tryd.func7, Tryd.ntmps7
      go_upto_region 1 with fail
      generalize World.alloc w _ = W0 at o0 ⊢
      have O0 := Lib.hid o0.2
      have o1 := o0.1
      clear o0
      have d0 := o1.cell 0; have d1 := o1.cell 1; have d2 := o1.cell 2; have d3 := o1.cell 3; simp at d0 d1 d2 d3
      clear o1
      go_wp2_with (go_at_call 18; (first | with_reducible refine (C0.out _).mono ?_ | with_reducible refine (C1.out _).mono ?_ | with_reducible refine (C2.out _).mono ?_ | with_reducible refine (C3.out _).mono ?_); rintro e w' ⟨rfl, rfl⟩)
      go_ret
      exact ⟨rfl, O0.out⟩
    | true =>
      cases b2 with
      | false =>
        go_enter Tryd.func7, Tryd.ntmps7
        go_upto_region 1 with fail
        generalize World.alloc w _ = W0 at o0 ⊢
        have O0 := Lib.hid o0.2
        have o1 := o0.1
        clear o0
        have d0 := o1.cell 0; have d1 := o1.cell 1; have d2 := o1.cell 2; have d3 := o1.cell 3; simp at d0 d1 d2 d3
        clear o1
        go_wp2_with (go_at_call 18; (first | with_reducible refine (C0.out _).mono ?_ | with_reducible refine (C1.out _).mono ?_ | with_reducible refine (C2.out _).mono ?_ | with_reducible refine (C3.out _).mono ?_); rintro e w' ⟨rfl, rfl⟩)
        go_ret
        exact ⟨rfl, O0.out⟩
      | true =>
        cases b3 with
        | false =>
          go_enter Tryd.func7, Tryd.ntmps7
          go_upto_region 1 with fail
          generalize World.alloc w _ = W0 at o0 ⊢
          have O0 := Lib.hid o0.2
          have o1 := o0.1
          clear o0
          have d0 := o1.cell 0; have d1 := o1.cell 1; have d2 := o1.cell 2; have d3 := o1.cell 3; simp at d0 d1 d2 d3
          clear o1
          go_wp2_with (go_at_call 18; (first | with_reducible refine (C0.out _).mono ?_ | with_reducible refine (C1.out _).mono ?_ | with_reducible refine (C2.out _).mono ?_ | with_reducible refine (C3.out _).mono ?_); rintro e w' ⟨rfl, rfl⟩)
          go_ret
          exact ⟨rfl, O0.out⟩
        | true =>
          go_enter Tryd.func7, Tryd.ntmps7
          go_upto_region 1 with fail
          generalize World.alloc w _ = W0 at o0 ⊢
          have O0 := Lib.hid o0.2
          have o1 := o0.1
          clear o0
          have d0 := o1.cell 0; have d1 := o1.cell 1; have d2 := o1.cell 2; have d3 := o1.cell 3; simp at d0 d1 d2 d3
          clear o1
          go_wp2_with (go_at_call 18; (first | with_reducible refine (C0.out _).mono ?_ | with_reducible refine (C1.out _).mono ?_ | with_reducible refine (C2.out _).mono ?_ | with_reducible refine (C3.out _).mono ?_); rintro e w' ⟨rfl, rfl⟩)
          go_ret
          exact ⟨rfl, O0.out⟩
set_option maxHeartbeats 4000000 in
theorem ref_LengthOK (x : Nat → Int) (w : World) :
    Calls Tryd.prog 6 #[.agg (lenV x)] w fun e w' => e = .returned (.bool (okLen x)) ∧ Below w.heap.size w w' := by
  unfold okLen
  obtain ⟨b0, hb0⟩ : ∃ b, b = inB (-10000) 10000 (x 0) := ⟨_, rfl⟩
  obtain ⟨b1, hb1⟩ : ∃ b, b = inB (-10000) 10000 (x 1) := ⟨_, rfl⟩
  obtain ⟨b2, hb2⟩ : ∃ b, b = inB (-8000000) 8000000 (x 2) := ⟨_, rfl⟩
  obtain ⟨b3, hb3⟩ : ∃ b, b = inB (-345600000000000) 345600000000000 (x 3) := ⟨_, rfl⟩
  rw [← hb0, ← hb1, ← hb2, ← hb3]
  have C0 := Lib.hid (show ∀ W : World, Calls Tryd.prog 17 #[.int .i64 (x 0), .int .i64 (-10000), .int .i64 10000] W fun e w' => e = .returned (.bool b0) ∧ W = w' from fun W => by rw [hb0]; exact ref_In (x 0) (-10000) 10000 W)
  have C1 := Lib.hid (show ∀ W : World, Calls Tryd.prog 17 #[.int .i64 (x 1), .int .i64 (-10000), .int .i64 10000] W fun e w' => e = .returned (.bool b1) ∧ W = w' from fun W => by rw [hb1]; exact ref_In (x 1) (-10000) 10000 W)
  have C2 := Lib.hid (show ∀ W : World, Calls Tryd.prog 17 #[.int .i64 (x 2), .int .i64 (-8000000), .int .i64 8000000] W fun e w' => e = .returned (.bool b2) ∧ W = w' from fun W => by rw [hb2]; exact ref_In (x 2) (-8000000) 8000000 W)
  have C3 := Lib.hid (show ∀ W : World, Calls Tryd.prog 17 #[.int .i64 (x 3), .int .i64 (-345600000000000), .int .i64 345600000000000] W fun e w' => e = .returned (.bool b3) ∧ W = w' from fun W => by rw [hb3]; exact ref_In (x 3) (-345600000000000) 345600000000000 W)
  clear hb0 hb1 hb2 hb3
  have o0 := One.new w (lenO x)
  cases b0 with
  | false =>
    go_enter Tryd.func6, Tryd.ntmps6
    go_upto_region 1 with fail
    generalize World.alloc w _ = W0 at o0 ⊢
    have O0 := Lib.hid o0.2
    have o1 := o0.1
    clear o0
    have d0 := o1.cell 0; have d1 := o1.cell 1; have d2 := o1.cell 2; have d3 := o1.cell 3; simp at d0 d1 d2 d3
    clear o1
    go_wp2_with (go_at_call 17; (first | with_reducible refine (C0.out _).mono ?_ | with_reducible refine (C1.out _).mono ?_ | with_reducible refine (C2.out _).mono ?_ | with_reducible refine (C3.out _).mono ?_); rintro e w' ⟨rfl, rfl⟩)
    go_ret
    exact ⟨rfl, O0.out⟩
  | true =>
    cases b1 with
    | false =>
      go_enter Tryd.func6, Tryd.ntmps6
      go_upto_region 1 with fail
      generalize World.alloc w _ = W0 at o0 ⊢
      have O0 := Lib.hid o0.2
      have o1 := o0.1
      clear o0
      have d0 := o1.cell 0; have d1 := o1.cell 1; have d2 := o1.cell 2; have d3 := o1.cell 3; simp at d0 d1 d2 d3
      clear o1
      go_wp2_with (go_at_call 17; (first | with_reducible refine (C0.out _).mono ?_ | with_reducible refine (C1.out _).mono ?_ | with_reducible refine (C2.out _).mono ?_ | with_reducible refine (C3.out _).mono ?_); rintro e w' ⟨rfl, rfl⟩)
      go_ret
      exact ⟨rfl, O0.out⟩
    | true =>
      cases b2 with
      | false =>
        go_enter Tryd.func6, Tryd.ntmps6
        go_upto_region 1 with fail
        generalize World.alloc w _ = W0 at o0 ⊢
        have O0 := Lib.hid o0.2
        have o1 := o0.1
        clear o0
        have d0 := o1.cell 0; have d1 := o1.cell 1; have d2 := o1.cell 2; have d3 := o1.cell 3; simp at d0 d1 d2 d3
        clear o1
        go_wp2_with (go_at_call 17; (first | with_reducible refine (C0.out _).mono ?_ | with_reducible refine (C1.out _).mono ?_ | with_reducible refine (C2.out _).mono ?_ | with_reducible refine (C3.out _).mono ?_); rintro e w' ⟨rfl, rfl⟩)
        go_ret
        exact ⟨rfl, O0.out⟩
      | true =>
        cases b3 with
        | false =>
          go_enter Tryd.func6, Tryd.ntmps6
          go_upto_region 1 with fail
          generalize World.alloc w _ = W0 at o0 ⊢
          have O0 := Lib.hid o0.2
          have o1 := o0.1
          clear o0
          have d0 := o1.cell 0; have d1 := o1.cell 1; have d2 := o1.cell 2; have d3 := o1.cell 3; simp at d0 d1 d2 d3
          clear o1
          go_wp2_with (go_at_call 17; (first | with_reducible refine (C0.out _).mono ?_ | with_reducible refine (C1.out _).mono ?_ | with_reducible refine (C2.out _).mono ?_ | with_reducible refine (C3.out _).mono ?_); rintro e w' ⟨rfl, rfl⟩)
          go_ret
          exact ⟨rfl, O0.out⟩
        | true =>
          go_enter Tryd.func6, Tryd.ntmps6
          go_upto_region 1 with fail
          generalize World.alloc w _ = W0 at o0 ⊢
          have O0 := Lib.hid o0.2
          have o1 := o0.1
          clear o0
          have d0 := o1.cell 0; have d1 := o1.cell 1; have d2 := o1.cell 2; have d3 := o1.cell 3; simp at d0 d1 d2 d3
          clear o1
          go_wp2_with (go_at_call 17; (first | with_reducible refine (C0.out _).mono ?_ | with_reducible refine (C1.out _).mono ?_ | with_reducible refine (C2.out _).mono ?_ | with_reducible refine (C3.out _).mono ?_); rintro e w' ⟨rfl, rfl⟩)
          go_ret
          exact ⟨rfl, O0.out⟩
end Go.Proofs.YtlpbaljoanfogabDoor
