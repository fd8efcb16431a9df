/- Contracts of span.Text and of the reference's LengthText. -/
import Derived.Test.YtlpbaljoanfogabDoorSpn2
import Derived.Test.YtlpbaljoanfogabDoorLayTrims
import Derived.Deep.CutRange
import Derived.Deep.DeepCutAuto
namespace Go.Proofs.YtlpbaljoanfogabDoor
set_option linter.unusedVariables false
set_option linter.unusedSimpArgs false
set_option maxRecDepth 100000
open Go.RowKit Go.Shelf

set_option maxHeartbeats 4000000 in
theorem span_Text (x : Nat → Int) (w : World) (hx : ∀ j, I64 (x j)) (hp : Pow w) :
    Calls Tryd.prog 5 #[.agg (lenV x)] w fun e w' => e = .returned (.tuple #[.string ⟨(if okLen x then lenS x else []).toArray⟩, .int .i64 (if okLen x then 0 else 3)]) ∧ Below w.heap.size w w' := by
  have HP := Lib.hid hp
  have CC := Lib.hid (fun W : World => span_Check x W)
  have CS := Lib.hid (fun (W : World) (hW : Below w.heap.size w W) => span_show x W hx (HP.out.below hW))
  obtain ⟨R, hR⟩ : ∃ R, R = lenS x := ⟨_, rfl⟩
  rw [← hR] at CS ⊢
  clear hx hp hR
  have o0 := One.new w (lenO x)
  obtain ⟨b, hb⟩ : ∃ b, b = okLen x := ⟨_, rfl⟩
  rw [← hb] at CC ⊢
  clear hb
  go_enter Tryd.func5, Tryd.ntmps5
  go_upto_region 1 with fail
  generalize World.alloc w _ = W0 at o0 ⊢
  have O0 := Lib.hid o0
  have o1 := o0.1
  clear o0
  have d0 := o1.cell 0; have d1 := o1.cell 1; have d2 := o1.cell 2; have d3 := o1.cell 3; simp at d0 d1 d2 d3
  clear o1
  go_wp2_with fail
  refine (CC.out _).mono ?_
  cases b with
  | false =>
    rintro e W1 ⟨rfl, hb⟩
    have O1 := Lib.hid (O0.out.step hb)
    clear hb d0 d1 d2 d3
    go_wp2_with fail
    go_ret2
    exact ⟨rfl, O1.out.2⟩
  | true =>
    rintro e W1 ⟨rfl, hb⟩
    have o1 := O0.out.step hb
    have O1 := Lib.hid o1
    have o2 := o1.1
    clear hb d0 d1 d2 d3 o1
    have d0 := o2.cell 0; have d1 := o2.cell 1; have d2 := o2.cell 2; have d3 := o2.cell 3; simp at d0 d1 d2 d3
    clear o2
    go_wp2_with fail
    refine (CS.out _ O1.out.2).mono ?_
    rintro e W2 ⟨rfl, hb⟩
    have O2 := Lib.hid (below_then O1.out.2 hb)
    clear hb
    go_wp2_with fail
    go_ret2
    exact ⟨rfl, O2.out⟩
/-- The text with a space behind each part. -/
def spS (x : Nat → Int) (j : Nat) : List UInt8 := (headP x j).flatMap fun p => p ++ [32]
theorem spS_zero (x : Nat → Int) {j : Nat} (h : j < 4) (hz : x j = 0) : spS x (j + 1) = spS x j := by unfold spS; rw [headP_zero x h hz]
theorem spS_word (x : Nat → Int) {j : Nat} (h : j < 4) (hz : x j ≠ 0) : spS x (j + 1) = spS x j ++ (Lib.itoa (x j) ++ (unK j ++ [32])) := by unfold spS; rw [headP_word x h hz rfl]; simp
theorem sp_join : ∀ (l : List (List UInt8)), l ≠ [] → l.flatMap (fun p => p ++ [32]) = Lib.join l [32] ++ [32]
  | [], h => absurd rfl h
  | a :: r, _ => by
    rw [join_glue]
    induction r generalizing a with
    | nil => simp [glue]
    | cons b r ih => rw [List.flatMap_cons, ih b (by simp), glue]; simp
theorem spS_nil (x : Nat → Int) : spS x 4 = [] ↔ tailP x 0 = [] := by
  unfold spS
  rw [headP_all]
  cases tailP x 0 with
  | nil => simp
  | cons a r => simp
theorem spS_cut (x : Nat → Int) (h : tailP x 0 ≠ []) : Lib.trimSuffix (spS x 4) [32] = lenS x := by
  unfold spS
  rw [headP_all, sp_join _ h, suffix_word, lenS, if_neg h]
theorem spS_len (x : Nat → Int) (h : ∀ j, I64 (x j)) : ∀ j, j ≤ 4 → (spS x j).length ≤ 24 * j
  | 0, _ => by simp [spS, headP]
  | j + 1, hj => by
    have ih := spS_len x h j (by omega)
    by_cases hz : x j = 0
    · rw [spS_zero x (by omega) hz]; omega
    · rw [spS_word x (by omega) hz]
      have h1 := itoa_len21 (h j)
      have h2 : (unK j).length ≤ 2 := by rcases (show j = 0 ∨ j = 1 ∨ j = 2 ∨ j = 3 by omega) with rfl | rfl | rfl | rfl <;> decide
      simp only [List.length_append, List.length_cons, List.length_nil]
      omega
set_option maxHeartbeats 8000000 in
theorem ref_LengthText (x : Nat → Int) (w : World) (hx : ∀ j, I64 (x j)) (hp : Pow w) :
    Calls Tryd.prog 8 #[.agg (lenV x)] w fun e w' => e = .returned (.string ⟨(lenS x).toArray⟩) ∧ Below w.heap.size w w' := by
  have HX := Lib.hid hx
  have HP := Lib.hid hp
  have CI := Lib.hid (fun (W : World) (hW : Below w.heap.size w W) (j : Nat) => lib_Itoa (x j) W (HX.out j).1 (HX.out j).2 (HP.out.below hW))
  obtain ⟨R, hR⟩ : ∃ R, R = lenS x := ⟨_, rfl⟩
  rw [← hR]
  have HR := Lib.hid hR
  clear hx hp hR
  have o0 := One.new w (lenO x)
  go_enter Tryd.func8, Tryd.ntmps8
  go_upto_region 2 with fail
  generalize World.alloc w _ = W0 at o0 ⊢
  have O0 := Lib.hid o0
  have o1 := o0.1
  clear o0
  have d0 := o1.cell 0; have d1 := o1.cell 1; have d2 := o1.cell 2; have d3 := o1.cell 3; simp at d0 d1 d2 d3
  clear o1
  obtain ⟨S1, hS1⟩ : ∃ q, q = spS x 1 := ⟨_, rfl⟩
  have HS1 := Lib.hid hS1
  have SL1 := Lib.hid (show S1.length ≤ 100 from by rw [hS1]; have := spS_len x HX.out 1 (by omega); omega)
  clear hS1
  obtain ⟨S2, hS2⟩ : ∃ q, q = spS x 2 := ⟨_, rfl⟩
  have HS2 := Lib.hid hS2
  have SL2 := Lib.hid (show S2.length ≤ 100 from by rw [hS2]; have := spS_len x HX.out 2 (by omega); omega)
  clear hS2
  obtain ⟨S3, hS3⟩ : ∃ q, q = spS x 3 := ⟨_, rfl⟩
  have HS3 := Lib.hid hS3
  have SL3 := Lib.hid (show S3.length ≤ 100 from by rw [hS3]; have := spS_len x HX.out 3 (by omega); omega)
  clear hS3
  obtain ⟨S4, hS4⟩ : ∃ q, q = spS x 4 := ⟨_, rfl⟩
  have HS4 := Lib.hid hS4
  have SL4 := Lib.hid (show S4.length ≤ 100 from by rw [hS4]; have := spS_len x HX.out 4 (by omega); omega)
  clear hS4
  have OW := O0
  obtain ⟨S0, hS0⟩ : ∃ q : List UInt8, q = [] := ⟨_, rfl⟩
  have HS0 := Lib.hid (show S0 = spS x 0 from hS0)
  rw [show (#[] : Array UInt8) = S0.toArray from by rw [hS0]]
  clear hS0
  go_upto_if 6 with fail
  go_cut [3] from 4 (fun v wx => v = .string ⟨S1.toArray⟩ ∧ One w (lenO x) wx)
  case first =>
    by_cases hz : x 0 = 0
    · have hce : (x 0 != 0) = false := by simpa using hz
      obtain rfl : S1 = S0 := by rw [HS1.out, HS0.out]; exact spS_zero x (by omega) hz
      clear hz
      go_wp2_with fail
      go_meet
      case rel => exact ⟨rfl, OW.out⟩
    · have hce : (x 0 != 0) = true := by simpa using hz
      obtain ⟨M, hM⟩ : ∃ M, M = Lib.itoa (x 0) := ⟨_, rfl⟩
      have hMe : itoaS (x 0) = ⟨M.toArray⟩ := by rw [hM]; rfl
      have hMl : M.length ≤ 21 := by rw [hM]; exact itoa_len21 (HX.out 0)
      have CJ := Lib.hid (show ∀ W : World, Below w.heap.size w W → Calls Tryd.prog 19 #[.int .i64 (x 0)] W fun e w' => e = .returned (.string ⟨M.toArray⟩) ∧ Below W.heap.size W w' from fun W hW => by rw [← hMe]; exact CI.out W hW 0)
      obtain ⟨T, hT⟩ : ∃ T, M ++ [121, 32] = T := ⟨_, rfl⟩
      have hTl : T.length ≤ 24 := by rw [← hT]; simp; omega
      have p1 := addL M [121, 32] T hT (by omega)
      have p2 := addL S0 T S1 (by rw [HS1.out, HS0.out, ← hT, hM, spS_word x (by omega) hz]; rfl) (by have := SL1.out; omega)
      clear hz hM hMe hMl hT hTl
      go_wp2_with (go_at_call 19; (refine (CJ.out _ OW.out.2).mono ?_); rintro e w2 ⟨rfl, hb⟩)
      go_meet
      case rel => exact ⟨rfl, OW.out.step hb⟩
  case rest =>
  obtain ⟨rfl, o1⟩ := hcut
  clear OW d0 d1 d2 d3
  have OW := Lib.hid o1
  obtain ⟨W1, rfl⟩ : ∃ q, q = wc := ⟨_, rfl⟩
  have o2 := o1.1
  clear o1
  have d0 := o2.cell 0; have d1 := o2.cell 1; have d2 := o2.cell 2; have d3 := o2.cell 3; simp at d0 d1 d2 d3
  clear o2
  go_upto_if 15 with fail
  go_cut [3] from 4 (fun v wx => v = .string ⟨S2.toArray⟩ ∧ One w (lenO x) wx)
  case first =>
    by_cases hz : x 1 = 0
    · have hce : (x 1 != 0) = false := by simpa using hz
      obtain rfl : S2 = S1 := by rw [HS2.out, HS1.out]; exact spS_zero x (by omega) hz
      clear hz
      go_wp2_with fail
      go_meet
      case rel => exact ⟨rfl, OW.out⟩
    · have hce : (x 1 != 0) = true := by simpa using hz
      obtain ⟨M, hM⟩ : ∃ M, M = Lib.itoa (x 1) := ⟨_, rfl⟩
      have hMe : itoaS (x 1) = ⟨M.toArray⟩ := by rw [hM]; rfl
      have hMl : M.length ≤ 21 := by rw [hM]; exact itoa_len21 (HX.out 1)
      have CJ := Lib.hid (show ∀ W : World, Below w.heap.size w W → Calls Tryd.prog 19 #[.int .i64 (x 1)] W fun e w' => e = .returned (.string ⟨M.toArray⟩) ∧ Below W.heap.size W w' from fun W hW => by rw [← hMe]; exact CI.out W hW 1)
      obtain ⟨T, hT⟩ : ∃ T, M ++ [109, 32] = T := ⟨_, rfl⟩
      have hTl : T.length ≤ 24 := by rw [← hT]; simp; omega
      have p1 := addL M [109, 32] T hT (by omega)
      have p2 := addL S1 T S2 (by rw [HS2.out, HS1.out, ← hT, hM, spS_word x (by omega) hz]; rfl) (by have := SL2.out; omega)
      clear hz hM hMe hMl hT hTl
      go_wp2_with (go_at_call 19; (refine (CJ.out _ OW.out.2).mono ?_); rintro e w2 ⟨rfl, hb⟩)
      go_meet
      case rel => exact ⟨rfl, OW.out.step hb⟩
  case rest =>
  obtain ⟨rfl, o1⟩ := hcut
  clear OW d0 d1 d2 d3
  have OW := Lib.hid o1
  obtain ⟨W2, rfl⟩ : ∃ q, q = wc := ⟨_, rfl⟩
  have o2 := o1.1
  clear o1
  have d0 := o2.cell 0; have d1 := o2.cell 1; have d2 := o2.cell 2; have d3 := o2.cell 3; simp at d0 d1 d2 d3
  clear o2
  go_upto_if 24 with fail
  go_cut [3] from 4 (fun v wx => v = .string ⟨S3.toArray⟩ ∧ One w (lenO x) wx)
  case first =>
    by_cases hz : x 2 = 0
    · have hce : (x 2 != 0) = false := by simpa using hz
      obtain rfl : S3 = S2 := by rw [HS3.out, HS2.out]; exact spS_zero x (by omega) hz
      clear hz
      go_wp2_with fail
      go_meet
      case rel => exact ⟨rfl, OW.out⟩
    · have hce : (x 2 != 0) = true := by simpa using hz
      obtain ⟨M, hM⟩ : ∃ M, M = Lib.itoa (x 2) := ⟨_, rfl⟩
      have hMe : itoaS (x 2) = ⟨M.toArray⟩ := by rw [hM]; rfl
      have hMl : M.length ≤ 21 := by rw [hM]; exact itoa_len21 (HX.out 2)
      have CJ := Lib.hid (show ∀ W : World, Below w.heap.size w W → Calls Tryd.prog 19 #[.int .i64 (x 2)] W fun e w' => e = .returned (.string ⟨M.toArray⟩) ∧ Below W.heap.size W w' from fun W hW => by rw [← hMe]; exact CI.out W hW 2)
      obtain ⟨T, hT⟩ : ∃ T, M ++ [100, 32] = T := ⟨_, rfl⟩
      have hTl : T.length ≤ 24 := by rw [← hT]; simp; omega
      have p1 := addL M [100, 32] T hT (by omega)
      have p2 := addL S2 T S3 (by rw [HS3.out, HS2.out, ← hT, hM, spS_word x (by omega) hz]; rfl) (by have := SL3.out; omega)
      clear hz hM hMe hMl hT hTl
      go_wp2_with (go_at_call 19; (refine (CJ.out _ OW.out.2).mono ?_); rintro e w2 ⟨rfl, hb⟩)
      go_meet
      case rel => exact ⟨rfl, OW.out.step hb⟩
  case rest =>
  obtain ⟨rfl, o1⟩ := hcut
  clear OW d0 d1 d2 d3
  have OW := Lib.hid o1
  obtain ⟨W3, rfl⟩ : ∃ q, q = wc := ⟨_, rfl⟩
  have o2 := o1.1
  clear o1
  have d0 := o2.cell 0; have d1 := o2.cell 1; have d2 := o2.cell 2; have d3 := o2.cell 3; simp at d0 d1 d2 d3
  clear o2
  go_upto_if 33 with fail
  go_cut [3] from 4 (fun v wx => v = .string ⟨S4.toArray⟩ ∧ One w (lenO x) wx)
  case first =>
    by_cases hz : x 3 = 0
    · have hce : (x 3 != 0) = false := by simpa using hz
      obtain rfl : S4 = S3 := by rw [HS4.out, HS3.out]; exact spS_zero x (by omega) hz
      clear hz
      go_wp2_with fail
      go_meet
      case rel => exact ⟨rfl, OW.out⟩
    · have hce : (x 3 != 0) = true := by simpa using hz
      obtain ⟨M, hM⟩ : ∃ M, M = Lib.itoa (x 3) := ⟨_, rfl⟩
      have hMe : itoaS (x 3) = ⟨M.toArray⟩ := by rw [hM]; rfl
      have hMl : M.length ≤ 21 := by rw [hM]; exact itoa_len21 (HX.out 3)
      have CJ := Lib.hid (show ∀ W : World, Below w.heap.size w W → Calls Tryd.prog 19 #[.int .i64 (x 3)] W fun e w' => e = .returned (.string ⟨M.toArray⟩) ∧ Below W.heap.size W w' from fun W hW => by rw [← hMe]; exact CI.out W hW 3)
      obtain ⟨T, hT⟩ : ∃ T, M ++ [109, 115, 32] = T := ⟨_, rfl⟩
      have hTl : T.length ≤ 24 := by rw [← hT]; simp; omega
      have p1 := addL M [109, 115, 32] T hT (by omega)
      have p2 := addL S3 T S4 (by rw [HS4.out, HS3.out, ← hT, hM, spS_word x (by omega) hz]; rfl) (by have := SL4.out; omega)
      clear hz hM hMe hMl hT hTl
      go_wp2_with (go_at_call 19; (refine (CJ.out _ OW.out.2).mono ?_); rintro e w2 ⟨rfl, hb⟩)
      go_meet
      case rel => exact ⟨rfl, OW.out.step hb⟩
  case rest =>
  obtain ⟨rfl, o1⟩ := hcut
  clear OW d0 d1 d2 d3
  have OW := Lib.hid o1
  obtain ⟨W4, rfl⟩ : ∃ q, q = wc := ⟨_, rfl⟩
  have o2 := o1.1
  clear o1
  have d0 := o2.cell 0; have d1 := o2.cell 1; have d2 := o2.cell 2; have d3 := o2.cell 3; simp at d0 d1 d2 d3
  clear o2
  by_cases h0 : tailP x 0 = []
  · obtain rfl : S4 = [] := by rw [HS4.out]; exact (spS_nil x).2 h0
    obtain rfl : R = [48, 100] := by rw [HR.out, lenS, if_pos h0]
    clear h0
    go_wp2_with fail
    go_ret
    exact ⟨rfl, OW.out.2⟩
  · have hne : (S4 == []) = false := by
      rw [beq_eq_false_iff_ne]
      intro e
      exact h0 ((spS_nil x).1 (by rw [← HS4.out, e]))
    have CT := Lib.hid (show Calls Tryd.prog 20 #[.string ⟨S4.toArray⟩, .string ⟨#[32]⟩] W4 (fun e w' => e = .returned (.string ⟨R.toArray⟩) ∧ w' = W4) from by
      have h := Any.strings_TrimSuffix Tryd.laysn102 ⟨S4.toArray⟩ ⟨#[32]⟩ W4 (by have := SL4.out; show S4.toArray.size ≤ _; simp; omega)
      have e : Lib.trimSuffix S4 [32] = R := by rw [HR.out, HS4.out]; exact spS_cut x h0
      rw [← e]; exact h)
    clear h0
    go_wp2_with fail
    refine CT.out.mono ?_
    rintro e W5 ⟨rfl, rfl⟩
    go_wp2_with fail
    go_ret
    exact ⟨rfl, OW.out.2⟩
end Go.Proofs.YtlpbaljoanfogabDoor
