/- Contract of numeral.Value. -/
import Derived.Test.YticflmepmmdnfabDoorNml21
import Derived.Test.YticflmepmmdnfabDoorNml22
import Derived.Test.YticflmepmmdnfabDoorNml6
namespace Go.Proofs.YticflmepmmdnfabDoor
set_option linter.unusedVariables false
set_option linter.unusedSimpArgs false
set_option maxRecDepth 100000
open Go.RowKit Go.Shelf Nml

def ValPost (v : Int × Bool) (w : World) (e : Ending) (w' : World) : Prop := e = .returned (.tuple #[.int .i64 v.1, .bool v.2]) ∧ Below w.heap.size w w'
theorem v_idx0 : ∀ W : World, (Instr.index 88 (.agg #[.int .i64 1, .int .i64 5, .int .i64 10, .int .i64 50, .int .i64 100, .int .i64 500, .int .i64 1000]) (.int .i64 0)).run Tryd.prog W = .ok (.int .i64 1) W := fun W => by kernel_rfl
theorem v_idx1 : ∀ W : World, (Instr.index 88 (.agg #[.int .i64 1, .int .i64 5, .int .i64 10, .int .i64 50, .int .i64 100, .int .i64 500, .int .i64 1000]) (.int .i64 1)).run Tryd.prog W = .ok (.int .i64 5) W := fun W => by kernel_rfl
theorem v_idx2 : ∀ W : World, (Instr.index 88 (.agg #[.int .i64 1, .int .i64 5, .int .i64 10, .int .i64 50, .int .i64 100, .int .i64 500, .int .i64 1000]) (.int .i64 2)).run Tryd.prog W = .ok (.int .i64 10) W := fun W => by kernel_rfl
theorem v_idx3 : ∀ W : World, (Instr.index 88 (.agg #[.int .i64 1, .int .i64 5, .int .i64 10, .int .i64 50, .int .i64 100, .int .i64 500, .int .i64 1000]) (.int .i64 3)).run Tryd.prog W = .ok (.int .i64 50) W := fun W => by kernel_rfl
theorem v_idx4 : ∀ W : World, (Instr.index 88 (.agg #[.int .i64 1, .int .i64 5, .int .i64 10, .int .i64 50, .int .i64 100, .int .i64 500, .int .i64 1000]) (.int .i64 4)).run Tryd.prog W = .ok (.int .i64 100) W := fun W => by kernel_rfl
theorem v_idx5 : ∀ W : World, (Instr.index 88 (.agg #[.int .i64 1, .int .i64 5, .int .i64 10, .int .i64 50, .int .i64 100, .int .i64 500, .int .i64 1000]) (.int .i64 5)).run Tryd.prog W = .ok (.int .i64 500) W := fun W => by kernel_rfl
theorem v_idx6 : ∀ W : World, (Instr.index 88 (.agg #[.int .i64 1, .int .i64 5, .int .i64 10, .int .i64 50, .int .i64 100, .int .i64 500, .int .i64 1000]) (.int .i64 6)).run Tryd.prog W = .ok (.int .i64 1000) W := fun W => by kernel_rfl
theorem u_idx0 : ∀ W : World, (Instr.index 89 (.agg #[.int .i64 1, .int .i64 10, .int .i64 100]) (.int .i64 0)).run Tryd.prog W = .ok (.int .i64 1) W := fun W => by kernel_rfl
theorem u_idx1 : ∀ W : World, (Instr.index 89 (.agg #[.int .i64 1, .int .i64 10, .int .i64 100]) (.int .i64 1)).run Tryd.prog W = .ok (.int .i64 10) W := fun W => by kernel_rfl
theorem u_idx2 : ∀ W : World, (Instr.index 89 (.agg #[.int .i64 1, .int .i64 10, .int .i64 100]) (.int .i64 2)).run Tryd.prog W = .ok (.int .i64 100) W := fun W => by kernel_rfl
theorem x_idx0 : ∀ W : World, (Instr.index 89 (.agg #[.int .i64 10, .int .i64 100, .int .i64 1000]) (.int .i64 0)).run Tryd.prog W = .ok (.int .i64 10) W := fun W => by kernel_rfl
theorem x_idx1 : ∀ W : World, (Instr.index 89 (.agg #[.int .i64 10, .int .i64 100, .int .i64 1000]) (.int .i64 1)).run Tryd.prog W = .ok (.int .i64 100) W := fun W => by kernel_rfl
theorem x_idx2 : ∀ W : World, (Instr.index 89 (.agg #[.int .i64 10, .int .i64 100, .int .i64 1000]) (.int .i64 2)).run Tryd.prog W = .ok (.int .i64 1000) W := fun W => by kernel_rfl
theorem y_idx0 : ∀ W : World, (Instr.index 90 (.agg #[.int .i32 21313, .int .i32 30334, .int .i32 21315]) (.int .i64 0)).run Tryd.prog W = .ok (.int .i32 21313) W := fun W => by kernel_rfl
theorem y_idx1 : ∀ W : World, (Instr.index 90 (.agg #[.int .i32 21313, .int .i32 30334, .int .i32 21315]) (.int .i64 1)).run Tryd.prog W = .ok (.int .i32 30334) W := fun W => by kernel_rfl
theorem y_idx2 : ∀ W : World, (Instr.index 90 (.agg #[.int .i32 21313, .int .i32 30334, .int .i32 21315]) (.int .i64 2)).run Tryd.prog W = .ok (.int .i32 21315) W := fun W => by kernel_rfl
set_option maxHeartbeats 4000000 in
theorem num_Value9 (c : Nat) (w : World) (hc : c ≤ 1114111) :
    Calls Tryd.prog 47 #[.int .i64 9, .int .i32 (c : Int)] w (ValPost (romV c) w) := by
  have C := lib_IndexRune7 c w hc
  unfold romS7 at C
  unfold ValPost
  by_cases h0 : c = 73
  · have e1 : romIdx c = 0 := by rw [h0]; rfl
    have e2 : romV c = (1, true) := by rw [h0]; rfl
    rw [e1] at C
    rw [e2]
    have C := Lib.hid C
    have ix := v_idx0
    clear e1 e2 h0
    go_enter Tryd.func47, Tryd.ntmps47
    go_wp2_with fail
    refine C.out.mono ?_
    rintro e w1 ⟨rfl, b⟩
    have B := Lib.hid b; clear b
    go_wp2_with fail
    go_ret2
    exact ⟨rfl, B.out⟩
  by_cases h1 : c = 86
  · have e1 : romIdx c = 1 := by rw [h1]; rfl
    have e2 : romV c = (5, true) := by rw [h1]; rfl
    rw [e1] at C
    rw [e2]
    have C := Lib.hid C
    have ix := v_idx1
    clear e1 e2 h0 h1
    go_enter Tryd.func47, Tryd.ntmps47
    go_wp2_with fail
    refine C.out.mono ?_
    rintro e w1 ⟨rfl, b⟩
    have B := Lib.hid b; clear b
    go_wp2_with fail
    go_ret2
    exact ⟨rfl, B.out⟩
  by_cases h2 : c = 88
  · have e1 : romIdx c = 2 := by rw [h2]; rfl
    have e2 : romV c = (10, true) := by rw [h2]; rfl
    rw [e1] at C
    rw [e2]
    have C := Lib.hid C
    have ix := v_idx2
    clear e1 e2 h0 h1 h2
    go_enter Tryd.func47, Tryd.ntmps47
    go_wp2_with fail
    refine C.out.mono ?_
    rintro e w1 ⟨rfl, b⟩
    have B := Lib.hid b; clear b
    go_wp2_with fail
    go_ret2
    exact ⟨rfl, B.out⟩
  by_cases h3 : c = 76
  · have e1 : romIdx c = 3 := by rw [h3]; rfl
    have e2 : romV c = (50, true) := by rw [h3]; rfl
    rw [e1] at C
    rw [e2]
    have C := Lib.hid C
    have ix := v_idx3
    clear e1 e2 h0 h1 h2 h3
    go_enter Tryd.func47, Tryd.ntmps47
    go_wp2_with fail
    refine C.out.mono ?_
    rintro e w1 ⟨rfl, b⟩
    have B := Lib.hid b; clear b
    go_wp2_with fail
    go_ret2
    exact ⟨rfl, B.out⟩
  by_cases h4 : c = 67
  · have e1 : romIdx c = 4 := by rw [h4]; rfl
    have e2 : romV c = (100, true) := by rw [h4]; rfl
    rw [e1] at C
    rw [e2]
    have C := Lib.hid C
    have ix := v_idx4
    clear e1 e2 h0 h1 h2 h3 h4
    go_enter Tryd.func47, Tryd.ntmps47
    go_wp2_with fail
    refine C.out.mono ?_
    rintro e w1 ⟨rfl, b⟩
    have B := Lib.hid b; clear b
    go_wp2_with fail
    go_ret2
    exact ⟨rfl, B.out⟩
  by_cases h5 : c = 68
  · have e1 : romIdx c = 5 := by rw [h5]; rfl
    have e2 : romV c = (500, true) := by rw [h5]; rfl
    rw [e1] at C
    rw [e2]
    have C := Lib.hid C
    have ix := v_idx5
    clear e1 e2 h0 h1 h2 h3 h4 h5
    go_enter Tryd.func47, Tryd.ntmps47
    go_wp2_with fail
    refine C.out.mono ?_
    rintro e w1 ⟨rfl, b⟩
    have B := Lib.hid b; clear b
    go_wp2_with fail
    go_ret2
    exact ⟨rfl, B.out⟩
  by_cases h6 : c = 77
  · have e1 : romIdx c = 6 := by rw [h6]; rfl
    have e2 : romV c = (1000, true) := by rw [h6]; rfl
    rw [e1] at C
    rw [e2]
    have C := Lib.hid C
    have ix := v_idx6
    clear e1 e2 h0 h1 h2 h3 h4 h5 h6
    go_enter Tryd.func47, Tryd.ntmps47
    go_wp2_with fail
    refine C.out.mono ?_
    rintro e w1 ⟨rfl, b⟩
    have B := Lib.hid b; clear b
    go_wp2_with fail
    go_ret2
    exact ⟨rfl, B.out⟩
  have e1 : romIdx c = -1 := by unfold romIdx; rw [if_neg h0, if_neg h1, if_neg h2, if_neg h3, if_neg h4, if_neg h5, if_neg h6]
  have e2 : romV c = (0, false) := by unfold romV; rw [if_neg h0, if_neg h1, if_neg h2, if_neg h3, if_neg h4, if_neg h5, if_neg h6]
  rw [e1] at C
  rw [e2]
  have C := Lib.hid C
  clear e1 e2 h0 h1 h2 h3 h4 h5 h6
  go_enter Tryd.func47, Tryd.ntmps47
  go_wp2_with fail
  refine C.out.mono ?_
  rintro e w1 ⟨rfl, b⟩
  have B := Lib.hid b; clear b
  go_wp2_with fail
  go_ret2
  exact ⟨rfl, B.out⟩
theorem conv_rune (c : Nat) : ∃ E : ByteArray, E.data.toList = encB c ∧ ∀ W, (convert 21 9 (.int .i32 (c : Int))).run Tryd.prog W = .ok (.string E) W :=
  ⟨Utf8.encode (c : Int), rfl, fun W => run_convert_int_string W 21 9 .i32 (c : Int) (by kernel_rfl) Tryd.underlying9⟩
/-- Two texts that differ, in the words of a walk. -/
theorem diff_facts {A B : ByteArray} (h : ¬ A.data.toList = B.data.toList) : A ≠ B ∧ (A.toList == B.toList) = false ∧ (!(A.toList == B.toList)) = true ∧ (A.toList != B.toList) = true := by
  have h2 : (A.toList == B.toList) = false := by rw [str_list, str_list]; simpa using h
  refine ⟨fun e => h (by rw [e]), h2, by rw [h2]; rfl, ?_⟩
  unfold bne; rw [h2]; rfl
set_option maxHeartbeats 16000000 in
theorem num_Value10 (c : Nat) (w : World) (hc : c ≤ 1114111) :
    Calls Tryd.prog 47 #[.int .i64 10, .int .i32 (c : Int)] w (ValPost (sgV true c) w) := by
  obtain ⟨E, hE, hcv⟩ := conv_rune c
  have CS : ∀ (p n : Nat) (W : World), p < 3 → n < 10 → Calls Tryd.prog 60 #[.int .i64 10, .int .i64 (p : Int), .int .i64 (n : Int)] W fun e w' => e = .returned (.string ⟨(sgn true p n).toArray⟩) ∧ Below W.heap.size W w' := fun p n W hp hn => by
    have := num_sign true p (n : Int) W hp (by omega) (by omega)
    exact this
  have CS := Lib.hid CS
  unfold sgV ValPost
  rw [← hE]
  obtain ⟨ANS, hA⟩ : ∃ A, A = sgRest true E.data.toList 3 := ⟨_, rfl⟩
  rw [← hA]
  have HA := Lib.hid hA.symm; clear hA hE
  go_enter Tryd.func47, Tryd.ntmps47
  go_wp2_with fail
  go_loopw [28] (fun i wr => ∃ p : Nat, p ≤ 3 ∧ i = .int .i64 p ∧ Below w.heap.size w wr ∧ sgRest true E.data.toList (3 - p) = ANS) (fun i _ => 3 - (intOf i).toNat)
  case atStart => exact ⟨0, by omega, rfl, Below.refl _ _, HA.out⟩
  case round =>
    clear HA
    obtain ⟨p, hp, rfl, hb, hrest⟩ := hrel
    have HB := Lib.hid hb; clear hb
    have hp3 : p = 0 ∨ p = 1 ∨ p = 2 ∨ p = 3 := by omega
    clear hp
    rcases hp3 with rfl | rfl | rfl | rfl
    · have ux := u_idx0
      have HRR := Lib.hid (show sgOr (sgRow true 0 1 E.data.toList 9 1) (sgRest true E.data.toList 2) = ANS from hrest)
      clear hrest
      go_wp2_with fail
      go_loopw [9] (fun i wr => ∃ m : Nat, 1 ≤ m ∧ m ≤ 10 ∧ i = .int .i64 m ∧ Below w.heap.size w wr ∧ sgOr (sgRow true 0 1 E.data.toList (10 - m) m) (sgRest true E.data.toList 2) = ANS) (fun i _ => 10 - (intOf i).toNat)
      case atStart => exact ⟨1, by omega, by omega, rfl, HB.out, HRR.out⟩
      case round =>
        clear HRR HB
        obtain ⟨m, m1, m2, rfl, hb, hrow⟩ := hrel
        have HB := Lib.hid hb; clear hb
        by_cases h9 : m ≤ 9
        · rw [show 10 - m = (9 - m) + 1 by omega] at hrow
          unfold sgRow at hrow
          have CSm := CS.out 0 m
          obtain ⟨SG, hSG⟩ : ∃ SG : ByteArray, SG = ⟨(sgn true 0 m).toArray⟩ := ⟨_, rfl⟩
          have hSGL : SG.data.toList = sgn true 0 m := by rw [hSG]
          rw [← hSG] at CSm
          have CSm := Lib.hid CSm
          rw [← hSGL] at hrow
          by_cases heq : SG.data.toList = E.data.toList
          · rw [if_pos heq] at hrow
            have he : SG = E := by rw [← str_eta SG, heq, str_eta]
            subst he
            have HR := Lib.hid (show (((m * 1 : Nat) : Int), true) = ANS from hrow)
            clear hrow hSG hSGL heq
            go_wp2_with fail
            refine (CSm.out _ (by omega) (by omega)).mono ?_
            rintro e w1 ⟨rfl, b⟩
            have B1 := Lib.hid (below_then HB.out b); clear b
            go_wp2_with fail
            go_ret2
            exact ⟨by rw [← HR.out]; simp, B1.out⟩
          · rw [if_neg heq] at hrow
            obtain ⟨f1, f2, f3, f4⟩ := diff_facts heq
            have HR := Lib.hid hrow
            clear hrow hSG hSGL heq
            go_wp2_with fail
            refine (CSm.out _ (by omega) (by omega)).mono ?_
            rintro e w1 ⟨rfl, b⟩
            have B1 := Lib.hid (below_then HB.out b); clear b
            go_wp2_with fail
            go_roundw
            case rel => exact ⟨_, _, _, _, _, _, _, _, _, _, _, _, _, _, _, _, _, _, _, ⟨m + 1, by omega, by omega, by go_num, B1.out, by rw [show 10 - (m + 1) = 9 - m by omega]; exact HR.out⟩, rfl⟩
            case measure => simp [intOf]; omega
        · obtain rfl : m = 10 := by omega
          have HR := Lib.hid (show sgRest true E.data.toList 2 = ANS from hrow)
          clear hrow
          go_wp2_with fail
          go_roundw
          case rel => exact ⟨1, by omega, by go_num, HB.out, HR.out⟩
          case measure => simp [intOf]
    · have ux := u_idx1
      have HRR := Lib.hid (show sgOr (sgRow true 1 10 E.data.toList 9 1) (sgRest true E.data.toList 1) = ANS from hrest)
      clear hrest
      go_wp2_with fail
      go_loopw [9] (fun i wr => ∃ m : Nat, 1 ≤ m ∧ m ≤ 10 ∧ i = .int .i64 m ∧ Below w.heap.size w wr ∧ sgOr (sgRow true 1 10 E.data.toList (10 - m) m) (sgRest true E.data.toList 1) = ANS) (fun i _ => 10 - (intOf i).toNat)
      case atStart => exact ⟨1, by omega, by omega, rfl, HB.out, HRR.out⟩
      case round =>
        clear HRR HB
        obtain ⟨m, m1, m2, rfl, hb, hrow⟩ := hrel
        have HB := Lib.hid hb; clear hb
        by_cases h9 : m ≤ 9
        · rw [show 10 - m = (9 - m) + 1 by omega] at hrow
          unfold sgRow at hrow
          have CSm := CS.out 1 m
          obtain ⟨SG, hSG⟩ : ∃ SG : ByteArray, SG = ⟨(sgn true 1 m).toArray⟩ := ⟨_, rfl⟩
          have hSGL : SG.data.toList = sgn true 1 m := by rw [hSG]
          rw [← hSG] at CSm
          have CSm := Lib.hid CSm
          rw [← hSGL] at hrow
          by_cases heq : SG.data.toList = E.data.toList
          · rw [if_pos heq] at hrow
            have he : SG = E := by rw [← str_eta SG, heq, str_eta]
            subst he
            have HR := Lib.hid (show (((m * 10 : Nat) : Int), true) = ANS from hrow)
            clear hrow hSG hSGL heq
            go_wp2_with fail
            refine (CSm.out _ (by omega) (by omega)).mono ?_
            rintro e w1 ⟨rfl, b⟩
            have B1 := Lib.hid (below_then HB.out b); clear b
            go_wp2_with fail
            go_ret2
            exact ⟨by rw [← HR.out]; simp, B1.out⟩
          · rw [if_neg heq] at hrow
            obtain ⟨f1, f2, f3, f4⟩ := diff_facts heq
            have HR := Lib.hid hrow
            clear hrow hSG hSGL heq
            go_wp2_with fail
            refine (CSm.out _ (by omega) (by omega)).mono ?_
            rintro e w1 ⟨rfl, b⟩
            have B1 := Lib.hid (below_then HB.out b); clear b
            go_wp2_with fail
            go_roundw
            case rel => exact ⟨_, _, _, _, _, _, _, _, _, _, _, _, _, _, _, _, _, _, _, ⟨m + 1, by omega, by omega, by go_num, B1.out, by rw [show 10 - (m + 1) = 9 - m by omega]; exact HR.out⟩, rfl⟩
            case measure => simp [intOf]; omega
        · obtain rfl : m = 10 := by omega
          have HR := Lib.hid (show sgRest true E.data.toList 1 = ANS from hrow)
          clear hrow
          go_wp2_with fail
          go_roundw
          case rel => exact ⟨2, by omega, by go_num, HB.out, HR.out⟩
          case measure => simp [intOf]
    · have ux := u_idx2
      have HRR := Lib.hid (show sgOr (sgRow true 2 100 E.data.toList 9 1) (sgRest true E.data.toList 0) = ANS from hrest)
      clear hrest
      go_wp2_with fail
      go_loopw [9] (fun i wr => ∃ m : Nat, 1 ≤ m ∧ m ≤ 10 ∧ i = .int .i64 m ∧ Below w.heap.size w wr ∧ sgOr (sgRow true 2 100 E.data.toList (10 - m) m) (sgRest true E.data.toList 0) = ANS) (fun i _ => 10 - (intOf i).toNat)
      case atStart => exact ⟨1, by omega, by omega, rfl, HB.out, HRR.out⟩
      case round =>
        clear HRR HB
        obtain ⟨m, m1, m2, rfl, hb, hrow⟩ := hrel
        have HB := Lib.hid hb; clear hb
        by_cases h9 : m ≤ 9
        · rw [show 10 - m = (9 - m) + 1 by omega] at hrow
          unfold sgRow at hrow
          have CSm := CS.out 2 m
          obtain ⟨SG, hSG⟩ : ∃ SG : ByteArray, SG = ⟨(sgn true 2 m).toArray⟩ := ⟨_, rfl⟩
          have hSGL : SG.data.toList = sgn true 2 m := by rw [hSG]
          rw [← hSG] at CSm
          have CSm := Lib.hid CSm
          rw [← hSGL] at hrow
          by_cases heq : SG.data.toList = E.data.toList
          · rw [if_pos heq] at hrow
            have he : SG = E := by rw [← str_eta SG, heq, str_eta]
            subst he
            have HR := Lib.hid (show (((m * 100 : Nat) : Int), true) = ANS from hrow)
            clear hrow hSG hSGL heq
            go_wp2_with fail
            refine (CSm.out _ (by omega) (by omega)).mono ?_
            rintro e w1 ⟨rfl, b⟩
            have B1 := Lib.hid (below_then HB.out b); clear b
            go_wp2_with fail
            go_ret2
            exact ⟨by rw [← HR.out]; simp, B1.out⟩
          · rw [if_neg heq] at hrow
            obtain ⟨f1, f2, f3, f4⟩ := diff_facts heq
            have HR := Lib.hid hrow
            clear hrow hSG hSGL heq
            go_wp2_with fail
            refine (CSm.out _ (by omega) (by omega)).mono ?_
            rintro e w1 ⟨rfl, b⟩
            have B1 := Lib.hid (below_then HB.out b); clear b
            go_wp2_with fail
            go_roundw
            case rel => exact ⟨_, _, _, _, _, _, _, _, _, _, _, _, _, _, _, _, _, _, _, ⟨m + 1, by omega, by omega, by go_num, B1.out, by rw [show 10 - (m + 1) = 9 - m by omega]; exact HR.out⟩, rfl⟩
            case measure => simp [intOf]; omega
        · obtain rfl : m = 10 := by omega
          have HR := Lib.hid (show sgRest true E.data.toList 0 = ANS from hrow)
          clear hrow
          go_wp2_with fail
          go_roundw
          case rel => exact ⟨3, by omega, by go_num, HB.out, HR.out⟩
          case measure => simp [intOf]
    · have HR := Lib.hid (show ((0 : Int), false) = ANS from hrest)
      clear hrest
      go_wp2_with fail
      go_ret2
      exact ⟨by rw [← HR.out]; rfl, HB.out⟩
set_option maxHeartbeats 16000000 in
theorem num_Value11 (c : Nat) (w : World) (hc : c ≤ 1114111) :
    Calls Tryd.prog 47 #[.int .i64 11, .int .i32 (c : Int)] w (ValPost (sgV false c) w) := by
  obtain ⟨E, hE, hcv⟩ := conv_rune c
  have CS : ∀ (p n : Nat) (W : World), p < 3 → n < 10 → Calls Tryd.prog 60 #[.int .i64 11, .int .i64 (p : Int), .int .i64 (n : Int)] W fun e w' => e = .returned (.string ⟨(sgn false p n).toArray⟩) ∧ Below W.heap.size W w' := fun p n W hp hn => by
    have := num_sign false p (n : Int) W hp (by omega) (by omega)
    exact this
  have CS := Lib.hid CS
  unfold sgV ValPost
  rw [← hE]
  obtain ⟨ANS, hA⟩ : ∃ A, A = sgRest false E.data.toList 3 := ⟨_, rfl⟩
  rw [← hA]
  have HA := Lib.hid hA.symm; clear hA hE
  go_enter Tryd.func47, Tryd.ntmps47
  go_wp2_with fail
  go_loopw [28] (fun i wr => ∃ p : Nat, p ≤ 3 ∧ i = .int .i64 p ∧ Below w.heap.size w wr ∧ sgRest false E.data.toList (3 - p) = ANS) (fun i _ => 3 - (intOf i).toNat)
  case atStart => exact ⟨0, by omega, rfl, Below.refl _ _, HA.out⟩
  case round =>
    clear HA
    obtain ⟨p, hp, rfl, hb, hrest⟩ := hrel
    have HB := Lib.hid hb; clear hb
    have hp3 : p = 0 ∨ p = 1 ∨ p = 2 ∨ p = 3 := by omega
    clear hp
    rcases hp3 with rfl | rfl | rfl | rfl
    · have ux := u_idx0
      have HRR := Lib.hid (show sgOr (sgRow false 0 1 E.data.toList 9 1) (sgRest false E.data.toList 2) = ANS from hrest)
      clear hrest
      go_wp2_with fail
      go_loopw [9] (fun i wr => ∃ m : Nat, 1 ≤ m ∧ m ≤ 10 ∧ i = .int .i64 m ∧ Below w.heap.size w wr ∧ sgOr (sgRow false 0 1 E.data.toList (10 - m) m) (sgRest false E.data.toList 2) = ANS) (fun i _ => 10 - (intOf i).toNat)
      case atStart => exact ⟨1, by omega, by omega, rfl, HB.out, HRR.out⟩
      case round =>
        clear HRR HB
        obtain ⟨m, m1, m2, rfl, hb, hrow⟩ := hrel
        have HB := Lib.hid hb; clear hb
        by_cases h9 : m ≤ 9
        · rw [show 10 - m = (9 - m) + 1 by omega] at hrow
          unfold sgRow at hrow
          have CSm := CS.out 0 m
          obtain ⟨SG, hSG⟩ : ∃ SG : ByteArray, SG = ⟨(sgn false 0 m).toArray⟩ := ⟨_, rfl⟩
          have hSGL : SG.data.toList = sgn false 0 m := by rw [hSG]
          rw [← hSG] at CSm
          have CSm := Lib.hid CSm
          rw [← hSGL] at hrow
          by_cases heq : SG.data.toList = E.data.toList
          · rw [if_pos heq] at hrow
            have he : SG = E := by rw [← str_eta SG, heq, str_eta]
            subst he
            have HR := Lib.hid (show (((m * 1 : Nat) : Int), true) = ANS from hrow)
            clear hrow hSG hSGL heq
            go_wp2_with fail
            refine (CSm.out _ (by omega) (by omega)).mono ?_
            rintro e w1 ⟨rfl, b⟩
            have B1 := Lib.hid (below_then HB.out b); clear b
            go_wp2_with fail
            go_ret2
            exact ⟨by rw [← HR.out]; simp, B1.out⟩
          · rw [if_neg heq] at hrow
            obtain ⟨f1, f2, f3, f4⟩ := diff_facts heq
            have HR := Lib.hid hrow
            clear hrow hSG hSGL heq
            go_wp2_with fail
            refine (CSm.out _ (by omega) (by omega)).mono ?_
            rintro e w1 ⟨rfl, b⟩
            have B1 := Lib.hid (below_then HB.out b); clear b
            go_wp2_with fail
            go_roundw
            case rel => exact ⟨_, _, _, _, _, _, _, _, _, _, _, _, _, _, _, _, _, _, _, ⟨m + 1, by omega, by omega, by go_num, B1.out, by rw [show 10 - (m + 1) = 9 - m by omega]; exact HR.out⟩, rfl⟩
            case measure => simp [intOf]; omega
        · obtain rfl : m = 10 := by omega
          have HR := Lib.hid (show sgRest false E.data.toList 2 = ANS from hrow)
          clear hrow
          go_wp2_with fail
          go_roundw
          case rel => exact ⟨1, by omega, by go_num, HB.out, HR.out⟩
          case measure => simp [intOf]
    · have ux := u_idx1
      have HRR := Lib.hid (show sgOr (sgRow false 1 10 E.data.toList 9 1) (sgRest false E.data.toList 1) = ANS from hrest)
      clear hrest
      go_wp2_with fail
      go_loopw [9] (fun i wr => ∃ m : Nat, 1 ≤ m ∧ m ≤ 10 ∧ i = .int .i64 m ∧ Below w.heap.size w wr ∧ sgOr (sgRow false 1 10 E.data.toList (10 - m) m) (sgRest false E.data.toList 1) = ANS) (fun i _ => 10 - (intOf i).toNat)
      case atStart => exact ⟨1, by omega, by omega, rfl, HB.out, HRR.out⟩
      case round =>
        clear HRR HB
        obtain ⟨m, m1, m2, rfl, hb, hrow⟩ := hrel
        have HB := Lib.hid hb; clear hb
        by_cases h9 : m ≤ 9
        · rw [show 10 - m = (9 - m) + 1 by omega] at hrow
          unfold sgRow at hrow
          have CSm := CS.out 1 m
          obtain ⟨SG, hSG⟩ : ∃ SG : ByteArray, SG = ⟨(sgn false 1 m).toArray⟩ := ⟨_, rfl⟩
          have hSGL : SG.data.toList = sgn false 1 m := by rw [hSG]
          rw [← hSG] at CSm
          have CSm := Lib.hid CSm
          rw [← hSGL] at hrow
          by_cases heq : SG.data.toList = E.data.toList
          · rw [if_pos heq] at hrow
            have he : SG = E := by rw [← str_eta SG, heq, str_eta]
            subst he
            have HR := Lib.hid (show (((m * 10 : Nat) : Int), true) = ANS from hrow)
            clear hrow hSG hSGL heq
            go_wp2_with fail
            refine (CSm.out _ (by omega) (by omega)).mono ?_
            rintro e w1 ⟨rfl, b⟩
            have B1 := Lib.hid (below_then HB.out b); clear b
            go_wp2_with fail
            go_ret2
            exact ⟨by rw [← HR.out]; simp, B1.out⟩
          · rw [if_neg heq] at hrow
            obtain ⟨f1, f2, f3, f4⟩ := diff_facts heq
            have HR := Lib.hid hrow
            clear hrow hSG hSGL heq
            go_wp2_with fail
            refine (CSm.out _ (by omega) (by omega)).mono ?_
            rintro e w1 ⟨rfl, b⟩
            have B1 := Lib.hid (below_then HB.out b); clear b
            go_wp2_with fail
            go_roundw
            case rel => exact ⟨_, _, _, _, _, _, _, _, _, _, _, _, _, _, _, _, _, _, _, ⟨m + 1, by omega, by omega, by go_num, B1.out, by rw [show 10 - (m + 1) = 9 - m by omega]; exact HR.out⟩, rfl⟩
            case measure => simp [intOf]; omega
        · obtain rfl : m = 10 := by omega
          have HR := Lib.hid (show sgRest false E.data.toList 1 = ANS from hrow)
          clear hrow
          go_wp2_with fail
          go_roundw
          case rel => exact ⟨2, by omega, by go_num, HB.out, HR.out⟩
          case measure => simp [intOf]
    · have ux := u_idx2
      have HRR := Lib.hid (show sgOr (sgRow false 2 100 E.data.toList 9 1) (sgRest false E.data.toList 0) = ANS from hrest)
      clear hrest
      go_wp2_with fail
      go_loopw [9] (fun i wr => ∃ m : Nat, 1 ≤ m ∧ m ≤ 10 ∧ i = .int .i64 m ∧ Below w.heap.size w wr ∧ sgOr (sgRow false 2 100 E.data.toList (10 - m) m) (sgRest false E.data.toList 0) = ANS) (fun i _ => 10 - (intOf i).toNat)
      case atStart => exact ⟨1, by omega, by omega, rfl, HB.out, HRR.out⟩
      case round =>
        clear HRR HB
        obtain ⟨m, m1, m2, rfl, hb, hrow⟩ := hrel
        have HB := Lib.hid hb; clear hb
        by_cases h9 : m ≤ 9
        · rw [show 10 - m = (9 - m) + 1 by omega] at hrow
          unfold sgRow at hrow
          have CSm := CS.out 2 m
          obtain ⟨SG, hSG⟩ : ∃ SG : ByteArray, SG = ⟨(sgn false 2 m).toArray⟩ := ⟨_, rfl⟩
          have hSGL : SG.data.toList = sgn false 2 m := by rw [hSG]
          rw [← hSG] at CSm
          have CSm := Lib.hid CSm
          rw [← hSGL] at hrow
          by_cases heq : SG.data.toList = E.data.toList
          · rw [if_pos heq] at hrow
            have he : SG = E := by rw [← str_eta SG, heq, str_eta]
            subst he
            have HR := Lib.hid (show (((m * 100 : Nat) : Int), true) = ANS from hrow)
            clear hrow hSG hSGL heq
            go_wp2_with fail
            refine (CSm.out _ (by omega) (by omega)).mono ?_
            rintro e w1 ⟨rfl, b⟩
            have B1 := Lib.hid (below_then HB.out b); clear b
            go_wp2_with fail
            go_ret2
            exact ⟨by rw [← HR.out]; simp, B1.out⟩
          · rw [if_neg heq] at hrow
            obtain ⟨f1, f2, f3, f4⟩ := diff_facts heq
            have HR := Lib.hid hrow
            clear hrow hSG hSGL heq
            go_wp2_with fail
            refine (CSm.out _ (by omega) (by omega)).mono ?_
            rintro e w1 ⟨rfl, b⟩
            have B1 := Lib.hid (below_then HB.out b); clear b
            go_wp2_with fail
            go_roundw
            case rel => exact ⟨_, _, _, _, _, _, _, _, _, _, _, _, _, _, _, _, _, _, _, ⟨m + 1, by omega, by omega, by go_num, B1.out, by rw [show 10 - (m + 1) = 9 - m by omega]; exact HR.out⟩, rfl⟩
            case measure => simp [intOf]; omega
        · obtain rfl : m = 10 := by omega
          have HR := Lib.hid (show sgRest false E.data.toList 0 = ANS from hrow)
          clear hrow
          go_wp2_with fail
          go_roundw
          case rel => exact ⟨3, by omega, by go_num, HB.out, HR.out⟩
          case measure => simp [intOf]
    · have HR := Lib.hid (show ((0 : Int), false) = ANS from hrest)
      clear hrest
      go_wp2_with fail
      go_ret2
      exact ⟨by rw [← HR.out]; rfl, HB.out⟩
set_option maxHeartbeats 16000000 in
theorem num_Value12 (c : Nat) (w : World) (hc : c ≤ 1114111) :
    Calls Tryd.prog 47 #[.int .i64 12, .int .i32 (c : Int)] w (ValPost (chV c) w) := by
  obtain ⟨E, hE, hcv⟩ := conv_rune c
  have CD := Lib.hid (fun (n : Nat) (W : World) (hn : n < 10) => num_chineseDigit (n : Int) W (by omega) (by omega))
  unfold chV ValPost
  rw [← hE]
  obtain ⟨BIG, hBIG⟩ : ∃ B, B = chBig c := ⟨_, rfl⟩
  rw [← hBIG]
  obtain ⟨ANS, hA⟩ : ∃ A, A = sgOr (chRow E.data.toList 10 0) BIG := ⟨_, rfl⟩
  rw [← hA]
  have HA := Lib.hid hA.symm; clear hA hE
  have HBIG := Lib.hid hBIG; clear hBIG
  go_enter Tryd.func47, Tryd.ntmps47
  go_wp2_with fail
  go_loopw [50] (fun i wr => ∃ m : Nat, m ≤ 10 ∧ i = .int .i64 m ∧ wr = w ∧ sgOr (chRow E.data.toList (10 - m) m) BIG = ANS) (fun i _ => 10 - (intOf i).toNat)
  case atStart => exact ⟨0, by omega, rfl, rfl, HA.out⟩
  case round =>
    clear HA
    obtain ⟨m, m2, rfl, hwr, hrow⟩ := hrel
    obtain rfl := hwr.symm
    by_cases h9 : m ≤ 9
    · rw [show 10 - m = (9 - m) + 1 by omega] at hrow
      unfold chRow at hrow
      have CSm := CD.out m
      rw [show ((m : Int)).toNat = m by omega] at CSm
      obtain ⟨SG, hSG⟩ : ∃ SG : ByteArray, SG = ⟨(chD m).toArray⟩ := ⟨_, rfl⟩
      have hSGL : SG.data.toList = chD m := by rw [hSG]
      rw [← hSG] at CSm
      have CSm := Lib.hid CSm
      rw [← hSGL] at hrow
      by_cases heq : SG.data.toList = E.data.toList
      · rw [if_pos heq] at hrow
        have he : SG = E := by rw [← str_eta SG, heq, str_eta]
        subst he
        have HR := Lib.hid (show (((m : Nat) : Int), true) = ANS from hrow)
        clear hrow hSG hSGL heq
        go_wp2_with fail
        refine (CSm.out _ (by omega)).mono ?_
        rintro e w1 ⟨rfl, rfl⟩
        go_wp2_with fail
        go_ret2
        exact ⟨by rw [← HR.out]; rfl, Below.refl _ _⟩
      · rw [if_neg heq] at hrow
        obtain ⟨f1, f2, f3, f4⟩ := diff_facts heq
        have HR := Lib.hid hrow
        clear hrow hSG hSGL heq
        go_wp2_with fail
        refine (CSm.out _ (by omega)).mono ?_
        rintro e w1 ⟨rfl, rfl⟩
        go_wp2_with fail
        go_roundw
        case rel => exact ⟨m + 1, by omega, by go_num, by first | rfl | trivial, by rw [show 10 - (m + 1) = 9 - m by omega]; exact HR.out⟩
        case measure => simp [intOf]; omega
    · obtain rfl : m = 10 := by omega
      have HR := Lib.hid (show BIG = ANS from hrow)
      clear hrow
      go_wp2_with fail
      go_loopw [61] (fun i wr => ∃ m : Nat, m ≤ 3 ∧ i = .int .i64 m ∧ wr = w ∧ (0 < m → ¬ c = 21313) ∧ (1 < m → ¬ c = 30334) ∧ (2 < m → ¬ c = 21315)) (fun i _ => 3 - (intOf i).toNat)
      case atStart => exact ⟨0, by omega, rfl, rfl, by omega, by omega, by omega⟩
      case round =>
        obtain ⟨q, q2, rfl, hwr, n1, n2, n3⟩ := hrel
        obtain rfl := hwr.symm
        have hq : q = 0 ∨ q = 1 ∨ q = 2 ∨ q = 3 := by omega
        clear q2
        rcases hq with rfl | rfl | rfl | rfl
        · have yx := y_idx0
          have xx := x_idx0
          by_cases he : c = 21313
          · have dd : ((21313 : Int) == (c : Int)) = true := by rw [he]; rfl
            have HF := Lib.hid (show ANS = (10, true) by rw [← HR.out, HBIG.out, he]; rfl)
            clear n1 n2 n3 he
            go_wp2_with fail
            go_ret2
            exact ⟨by rw [HF.out]; rfl, Below.refl _ _⟩
          · have dd : ((21313 : Int) == (c : Int)) = false := by simp; omega
            have HN := Lib.hid (show (0 < 1 → ¬ c = 21313) ∧ (1 < 1 → ¬ c = 30334) ∧ (2 < 1 → ¬ c = 21315) from ⟨fun _ => he, fun h => absurd h (by omega), fun h => absurd h (by omega)⟩)
            clear n1 n2 n3 he
            go_wp2_with fail
            go_roundw
            case rel => exact ⟨1, by omega, by go_num, by first | rfl | trivial, HN.out.1, HN.out.2.1, HN.out.2.2⟩
            case measure => simp [intOf]
        · have yx := y_idx1
          have xx := x_idx1
          by_cases he : c = 30334
          · have dd : ((30334 : Int) == (c : Int)) = true := by rw [he]; rfl
            have HF := Lib.hid (show ANS = (100, true) by rw [← HR.out, HBIG.out, he]; rfl)
            clear n1 n2 n3 he
            go_wp2_with fail
            go_ret2
            exact ⟨by rw [HF.out]; rfl, Below.refl _ _⟩
          · have dd : ((30334 : Int) == (c : Int)) = false := by simp; omega
            have HN := Lib.hid (show (0 < 2 → ¬ c = 21313) ∧ (1 < 2 → ¬ c = 30334) ∧ (2 < 2 → ¬ c = 21315) from ⟨fun _ => n1 (by omega), fun h => he, fun h => absurd h (by omega)⟩)
            clear n1 n2 n3 he
            go_wp2_with fail
            go_roundw
            case rel => exact ⟨2, by omega, by go_num, by first | rfl | trivial, HN.out.1, HN.out.2.1, HN.out.2.2⟩
            case measure => simp [intOf]
        · have yx := y_idx2
          have xx := x_idx2
          by_cases he : c = 21315
          · have dd : ((21315 : Int) == (c : Int)) = true := by rw [he]; rfl
            have HF := Lib.hid (show ANS = (1000, true) by rw [← HR.out, HBIG.out, he]; rfl)
            clear n1 n2 n3 he
            go_wp2_with fail
            go_ret2
            exact ⟨by rw [HF.out]; rfl, Below.refl _ _⟩
          · have dd : ((21315 : Int) == (c : Int)) = false := by simp; omega
            have HN := Lib.hid (show (0 < 3 → ¬ c = 21313) ∧ (1 < 3 → ¬ c = 30334) ∧ (2 < 3 → ¬ c = 21315) from ⟨fun _ => n1 (by omega), fun h => n2 (by omega), fun h => he⟩)
            clear n1 n2 n3 he
            go_wp2_with fail
            go_roundw
            case rel => exact ⟨3, by omega, by go_num, by first | rfl | trivial, HN.out.1, HN.out.2.1, HN.out.2.2⟩
            case measure => simp [intOf]
        · have HF := Lib.hid (show ANS = (0, false) by rw [← HR.out, HBIG.out]; unfold chBig; rw [if_neg (n1 (by omega)), if_neg (n2 (by omega)), if_neg (n3 (by omega))])
          clear n1 n2 n3
          go_wp2_with fail
          go_ret2
          exact ⟨by rw [HF.out]; rfl, Below.refl _ _⟩
set_option maxHeartbeats 16000000 in
theorem num_ValueP (k c : Nat) (w : World) (hk : k < 9) (hc : c ≤ 1114111) (hz : Zer w) :
    Calls Tryd.prog 47 #[.int .i64 (k : Int), .int .i32 (c : Int)] w (ValPost (posV (zeroOf k) c) w) := by
  have hcell := hz.cell k hk
  obtain ⟨z1, z2⟩ := zero_bounds k
  have hg : ∀ q, (w.drewN q).cell? ⟨0, k, none⟩ = some (.int .i32 (zeroOf k)) := fun q => hcell
  have hd := hg
  have hdr : w.drew.cell? ⟨0, k, none⟩ = some (.int .i32 (zeroOf k)) := hcell
  unfold ValPost
  generalize zeroOf k = Z at *
  have d9 : ((k : Int) == 9) = false := by simp; omega
  have d10 : ((k : Int) == 10) = false := by simp; omega
  have d11 : ((k : Int) == 11) = false := by simp; omega
  have d12 : ((k : Int) == 12) = false := by simp; omega
  have k9 : (k : Int) < 9 := by omega
  have i1 : IntKind.i32.wrap ((c : Int) - (Z : Int)) = (c : Int) - Z := IntWalk.i32_in _ (by omega)
  have i2 : IntKind.i32.wrap ((Z : Int) + 10) = (Z : Int) + 10 := IntWalk.i32_in _ (by omega)
  have i3 : IntKind.i64.wrap ((c : Int) - (Z : Int)) = (c : Int) - Z := IntWalk.i64_in _ (by omega)
  clear hz hg hd hk
  by_cases h45 : c = 45
  · subst h45
    have HF := Lib.hid (show posV Z 45 = ((45 : Int) - Z, true) by unfold posV; simp)
    go_enter Tryd.func47, Tryd.ntmps47
    go_wp2_with fail
    go_quiet (fail)
    go_wp2_with fail
    go_ret2
    exact ⟨by rw [HF.out]; rfl, below_drewN (Below.refl _ _) _⟩
  · have d45 : ((c : Int) == 45) = false := by simp; omega
    by_cases h1 : Z ≤ c
    · have f1 : decide (Z ≤ c) = true := decide_eq_true (by omega)
      by_cases h2 : c < Z + 10
      · have f2 : decide ((c : Int) < (Z : Int) + 10) = true := decide_eq_true (by omega)
        have f3 : decide (c < Z + 10) = true := decide_eq_true (by omega)
        have HF := Lib.hid (show posV Z c = ((c : Int) - Z, true) by unfold posV; rw [decide_eq_true h1, decide_eq_true h2]; simp)
        clear h1 h2 h45
        go_enter Tryd.func47, Tryd.ntmps47
        go_wp2_with fail
        go_quiet (fail)
        go_wp2_with fail
        go_ret2
        exact ⟨by rw [HF.out]; rfl, below_drewN (Below.refl _ _) _⟩
      · have f2 : decide ((c : Int) < (Z : Int) + 10) = false := decide_eq_false (by omega)
        have f3 : decide (c < Z + 10) = false := decide_eq_false (by omega)
        have HF := Lib.hid (show posV Z c = ((c : Int) - Z, false) by unfold posV; rw [decide_eq_true h1, decide_eq_false h2, decide_eq_false h45]; rfl)
        clear h1 h2 h45
        go_enter Tryd.func47, Tryd.ntmps47
        go_wp2_with fail
        go_quiet (fail)
        go_wp2_with fail
        go_ret2
        exact ⟨by rw [HF.out]; rfl, below_drewN (Below.refl _ _) _⟩
    · have f1 : decide (Z ≤ c) = false := decide_eq_false (by omega)
      have HF := Lib.hid (show posV Z c = ((c : Int) - Z, false) by unfold posV; rw [decide_eq_false h1, decide_eq_false h45]; rfl)
      clear h1 h45
      go_enter Tryd.func47, Tryd.ntmps47
      go_wp2_with fail
      go_quiet (fail)
      go_wp2_with fail
      go_ret2
      exact ⟨by rw [HF.out]; rfl, below_drewN (Below.refl _ _) _⟩
theorem num_Value (s : Int) (c : Nat) (w : World) (hs : inB 0 12 s = true) (hc : c ≤ 1114111) (hz : Zer w) :
    Calls Tryd.prog 47 #[.int .i64 s, .int .i32 (c : Int)] w (ValPost (valP s c) w) := by
  obtain ⟨s0, s1⟩ := inB_iff.1 hs
  unfold valP
  by_cases h9 : s = 9
  · rw [if_pos h9, h9]; exact num_Value9 c w hc
  rw [if_neg h9]
  by_cases h10 : s = 10
  · rw [if_pos h10, h10]; exact num_Value10 c w hc
  rw [if_neg h10]
  by_cases h11 : s = 11
  · rw [if_pos h11, h11]; exact num_Value11 c w hc
  rw [if_neg h11]
  by_cases h12 : s = 12
  · rw [if_pos h12, h12]; exact num_Value12 c w hc
  rw [if_neg h12]
  have := num_ValueP s.toNat c w (by omega) hc hz
  rwa [show ((s.toNat : Nat) : Int) = s by omega] at this
end Go.Proofs.YticflmepmmdnfabDoor
