/- SpanChecks: the Go text returns true at every input of the bound. -/
import Derived.Test.YtlpbaljoanfogabDoorRows
import Derived.Test.YtlpbaljoanfogabDoorSpn5
import Derived.Test.YtlpbaljoanfogabDoorLaid
import Derived.Test.YtlpbaljoanfogabDoorRows2
namespace Go.Proofs.YtlpbaljoanfogabDoor.spanChecksLaw
set_option linter.unusedVariables false
set_option linter.unusedSimpArgs false
set_option maxRecDepth 100000
open Go.RowKit Go.ChangeShapes Go.WideShapes Go.Shelf

abbrev zA : Value := .agg #[.int .i64 0, .int .i64 0, .int .i64 0, .int .i64 0]
abbrev vA (v : Nat → Int) : Value := .agg #[.int .i64 (v 0), .int .i64 (v 1), .int .i64 (v 2), .int .i64 (v 3)]
theorem agg_congr {v u : Nat → Int} (h : ∀ j, j < 4 → v j = u j) : vA v = vA u := by
  unfold vA
  rw [h 0 (by omega), h 1 (by omega), h 2 (by omega), h 3 (by omega)]
/-- How the two readers end: both refuse, or both give the same. -/
theorem agree (S : List UInt8) : (∃ y : Nat → Int, (∀ w w' e, ReadPost S w e w' → e = .returned (.tuple #[zA, .int .i64 4]) ∧ Below w.heap.size w w') ∧ ∀ e, LR1 S e → e = .returned (.tuple #[vA y, .bool false]))
    ∨ (∃ y : Nat → Int, (∀ w w' e, ReadPost S w e w' → e = .returned (.tuple #[vA y, .int .i64 0]) ∧ Below w.heap.size w w') ∧ ∀ e, LR1 S e → e = .returned (.tuple #[vA y, .bool true])) := by
  by_cases h0 : S = [48, 100]
  · refine .inr ⟨zeroV, fun w w' e h => ?_, fun e h => ?_⟩
    · unfold ReadPost at h
      rw [h0, if_pos span_zero.1] at h
      refine ⟨h.1.trans ?_, h.2⟩
      rw [show Value.agg (lenV (readL [48, 100])) = vA zeroV from agg_congr span_zero.2]
    · unfold LR1 at h
      rw [if_pos h0] at h
      exact h
  · have hr := span_read S h0
    have key : ∀ r, refV (-1) zeroV (spl 32 S) = r → ∀ e, LR1 S e → LR2 r e := fun r hr e h => by
      unfold LR1 at h
      rw [if_neg h0, hr] at h
      exact h
    cases hv : refV (-1) zeroV (spl 32 S) with
    | none =>
      rw [hv] at hr
      refine .inl ⟨zeroV, fun w w' e h => ?_, fun e h => key _ hv e h⟩
      unfold ReadPost at h
      rw [if_neg (by rw [show okSp S = false from hr]; decide)] at h
      exact h
    | some y =>
      rw [hv] at hr
      obtain ⟨r1, r2⟩ : okSp S = okLen y ∧ (okLen y = true → ∀ j, j < 4 → readL S j = y j) := hr
      cases ho : okLen y with
      | false =>
        refine .inl ⟨y, fun w w' e h => ?_, fun e h => ?_⟩
        · unfold ReadPost at h
          rw [if_neg (by rw [r1, ho]; decide)] at h
          exact h
        · have := key _ hv e h
          unfold LR2 at this
          simp only [ho] at this
          exact this
      | true =>
        refine .inr ⟨y, fun w w' e h => ?_, fun e h => ?_⟩
        · unfold ReadPost at h
          rw [if_pos (by rw [r1, ho])] at h
          refine ⟨h.1.trans ?_, h.2⟩
          rw [show Value.agg (lenV (readL S)) = vA y from agg_congr (r2 ho)]
        · have := key _ hv e h
          unfold LR2 at this
          simp only [ho] at this
          exact this
def oneX : Nat → Int := fun j => if j = 1 then 1 else if j = 2 then -2 else 0
theorem one_text : okLen oneX = true ∧ lenS oneX = [49, 109, 32, 45, 50, 100] := by decide +kernel
theorem oneX_I64 : ∀ j, I64 (oneX j) := fun j => by
  unfold oneX
  split
  · exact ⟨by decide, by decide⟩
  split
  · exact ⟨by decide, by decide⟩
  · exact ⟨by decide, by decide⟩
set_option maxHeartbeats 8000000 in
theorem core (W : World) (x : Nat → Int) (hx : ∀ j, I64 (x j)) (S : List UInt8) (hS : S.length ≤ 4294960000) (hp : Pow W) (hE : Errs W) (m : Int) (hm : W.cell? ⟨6, 0, none⟩ = some (.int .i64 m)) :
    Calls Tryd.prog 3 #[vA x, .string ⟨S.toArray⟩] W fun e w' => e = .returned (.bool true) ∧ Below W.heap.size W w' := by
  have hgm := World.block_lt_of_cell? _ _ hm
  have HP := Lib.hid hp
  have CT1 := Lib.hid (fun (V : World) (hV : Below W.heap.size W V) => show Calls Tryd.prog 5 #[.agg #[.int .i64 0, .int .i64 1, .int .i64 (-2), .int .i64 0]] V (fun e w' => e = .returned (.tuple #[.string ⟨#[49, 109, 32, 45, 50, 100]⟩, .int .i64 0]) ∧ Below V.heap.size V w') from by
    have h := span_Text oneX V oneX_I64 (HP.out.below hV)
    rw [one_text.1, one_text.2] at h
    exact h)
  obtain ⟨R, hR⟩ : ∃ R, R = lenS x := ⟨_, rfl⟩
  obtain ⟨b, hb⟩ : ∃ b, b = okLen x := ⟨_, rfl⟩
  have CT := Lib.hid (fun (V : World) (hV : Below W.heap.size W V) => show Calls Tryd.prog 5 #[vA x] V (fun e w' => e = .returned (.tuple #[.string ⟨(if b then R else []).toArray⟩, .int .i64 (if b then 0 else 3)]) ∧ Below V.heap.size V w') from by rw [hR, hb]; exact span_Text x V hx (HP.out.below hV))
  have CK := Lib.hid (fun (V : World) => show Calls Tryd.prog 7 #[vA x] V (fun e w' => e = .returned (.int .i64 (if b then 0 else 3)) ∧ Below V.heap.size V w') from by rw [hb]; exact span_Check x V)
  have CO := Lib.hid (fun (V : World) => show Calls Tryd.prog 6 #[vA x] V (fun e w' => e = .returned (.bool b) ∧ Below V.heap.size V w') from by rw [hb]; exact ref_LengthOK x V)
  have CX := Lib.hid (fun (V : World) (hV : Below W.heap.size W V) => show Calls Tryd.prog 8 #[vA x] V (fun e w' => e = .returned (.string ⟨R.toArray⟩) ∧ Below V.heap.size V w') from by rw [hR]; exact ref_LengthText x V hx (HP.out.below hV))
  have HE := Lib.hid hE
  have CR := Lib.hid (fun (V : World) (hV : Below W.heap.size W V) => span_Read S V (by omega) (HP.out.below hV) (HE.out.below hV))
  have CL := Lib.hid (fun (V : World) (hV : Below W.heap.size W V) => ref_LengthRead S V m ((hV.cell (p := ⟨6, 0, none⟩) hgm).trans hm) hS)
  have AG := Lib.hid (agree S)
  have o0 := One.new W (.cells #[.int .i64 (x 0), .int .i64 (x 1), .int .i64 (x 2), .int .i64 (x 3)] 23)
  clear hp hE hm hgm hR hb hx hS
  go_enter Tryd.func3, Tryd.ntmps3
  go_upto_region 1 with fail
  generalize World.alloc W _ = W0 at o0 ⊢
  have O0 := Lib.hid o0
  clear o0
  go_wp2_with fail
  refine (CT1.out _ O0.out.2).mono ?_
  rintro e W1 ⟨rfl, hb1⟩
  have O1 := Lib.hid (O0.out.step hb1)
  have B1 := Lib.hid O1.out.2
  clear hb1 O0 CT1
  have d0 := O1.out.1.cell 0; have d1 := O1.out.1.cell 1; have d2 := O1.out.1.cell 2; have d3 := O1.out.1.cell 3
  simp at d0 d1 d2 d3
  go_wp2_with fail
  refine (CT.out _ B1.out).mono ?_
  rintro e W2 ⟨he, hb2⟩
  have O2 := Lib.hid (O1.out.step hb2)
  have B2 := Lib.hid O2.out.2
  clear hb2 O1 B1 CT d0 d1 d2 d3
  cases b with
  | false =>
    obtain rfl : e = .returned (.tuple #[.string ⟨#[]⟩, .int .i64 3]) := he
    have d0 := O2.out.1.cell 0; have d1 := O2.out.1.cell 1; have d2 := O2.out.1.cell 2; have d3 := O2.out.1.cell 3
    simp at d0 d1 d2 d3
    go_wp2_with fail
    refine (CO.out _).mono ?_
    rintro e W3 ⟨rfl, hb⟩
    have O3 := Lib.hid (O2.out.step hb)
    have B3 := Lib.hid O3.out.2
    clear hb O2 d0 d1 d2 d3
    have d0 := O3.out.1.cell 0; have d1 := O3.out.1.cell 1; have d2 := O3.out.1.cell 2; have d3 := O3.out.1.cell 3
    simp at d0 d1 d2 d3
    go_wp2_with fail
    refine (CK.out _).mono ?_
    rintro e W4 ⟨he, hb⟩
    obtain rfl : e = .returned (.int .i64 3) := he
    have O4 := Lib.hid (O3.out.step hb)
    have B4 := Lib.hid O4.out.2
    clear hb O3 d0 d1 d2 d3
    rcases AG.out with ⟨y, q1, q2⟩ | ⟨y, q1, q2⟩
    · have CR2 := Lib.hid (fun (V : World) (hV : Below W.heap.size W V) => (CR.out V hV).mono fun e w' h => q1 V w' e h)
      have CL2 := Lib.hid (fun (V : World) (hV : Below W.heap.size W V) => (CL.out V hV).mono fun e w' h => (⟨q2 e h.1, h.2⟩ : e = .returned (.tuple #[vA y, .bool false]) ∧ Below V.heap.size V w'))
      clear q1 q2 CR CL AG
      go_wp2_with fail
      refine (CR2.out _ B4.out).mono ?_
      rintro e V1 ⟨rfl, hb⟩
      have C1 := Lib.hid (below_then B4.out hb)
      clear hb
      have a1 := At.new V1 (.cells #[.int .i64 0, .int .i64 0, .int .i64 0, .int .i64 0] 23)
      have c1 := below_new C1.out (.cells #[.int .i64 0, .int .i64 0, .int .i64 0, .int .i64 0] 23)
      go_upto_region 11 with fail
      generalize World.alloc V1 _ = V2 at a1 c1 ⊢
      have A1 := Lib.hid a1
      have C2 := Lib.hid c1
      clear a1 c1
      go_wp2_with fail
      refine (CL2.out _ C2.out).mono ?_
      rintro e V3 ⟨rfl, hb⟩
      have A3 := Lib.hid (A1.out.then_ hb)
      have C3 := Lib.hid (below_then C2.out hb)
      clear hb A1
      have a4 := A3.out.alloc (.cells #[.int .i64 (y 0), .int .i64 (y 1), .int .i64 (y 2), .int .i64 (y 3)] 23)
      have n4 := At.new V3 (.cells #[.int .i64 (y 0), .int .i64 (y 1), .int .i64 (y 2), .int .i64 (y 3)] 23)
      have c4 := below_new C3.out (.cells #[.int .i64 (y 0), .int .i64 (y 1), .int .i64 (y 2), .int .i64 (y 3)] 23)
      go_upto_region 12 with fail
      obtain ⟨G, hG⟩ : ∃ G, G = V3.heap.size := ⟨_, rfl⟩
      rw [← hG] at n4 ⊢
      clear hG
      generalize World.alloc V3 _ = V4 at a4 n4 c4 ⊢
      have x0 := a4.cell 0; have x1 := a4.cell 1; have x2 := a4.cell 2; have x3 := a4.cell 3
      have y0 := n4.cell 0; have y1 := n4.cell 1; have y2 := n4.cell 2; have y3 := n4.cell 3
      simp at x0 x1 x2 x3 y0 y1 y2 y3
      have C4 := Lib.hid c4
      clear a4 n4 c4 A3
      go_wp2_with fail
      go_ret
      exact ⟨ret_bool (by simp), C4.out⟩
    · have CR2 := Lib.hid (fun (V : World) (hV : Below W.heap.size W V) => (CR.out V hV).mono fun e w' h => q1 V w' e h)
      have CL2 := Lib.hid (fun (V : World) (hV : Below W.heap.size W V) => (CL.out V hV).mono fun e w' h => (⟨q2 e h.1, h.2⟩ : e = .returned (.tuple #[vA y, .bool true]) ∧ Below V.heap.size V w'))
      clear q1 q2 CR CL AG
      go_wp2_with fail
      refine (CR2.out _ B4.out).mono ?_
      rintro e V1 ⟨rfl, hb⟩
      have C1 := Lib.hid (below_then B4.out hb)
      clear hb
      have a1 := At.new V1 (.cells #[.int .i64 (y 0), .int .i64 (y 1), .int .i64 (y 2), .int .i64 (y 3)] 23)
      have c1 := below_new C1.out (.cells #[.int .i64 (y 0), .int .i64 (y 1), .int .i64 (y 2), .int .i64 (y 3)] 23)
      go_upto_region 11 with fail
      generalize World.alloc V1 _ = V2 at a1 c1 ⊢
      have A1 := Lib.hid a1
      have C2 := Lib.hid c1
      clear a1 c1
      go_wp2_with fail
      refine (CL2.out _ C2.out).mono ?_
      rintro e V3 ⟨rfl, hb⟩
      have A3 := Lib.hid (A1.out.then_ hb)
      have C3 := Lib.hid (below_then C2.out hb)
      clear hb A1
      have a4 := A3.out.alloc (.cells #[.int .i64 (y 0), .int .i64 (y 1), .int .i64 (y 2), .int .i64 (y 3)] 23)
      have n4 := At.new V3 (.cells #[.int .i64 (y 0), .int .i64 (y 1), .int .i64 (y 2), .int .i64 (y 3)] 23)
      have c4 := below_new C3.out (.cells #[.int .i64 (y 0), .int .i64 (y 1), .int .i64 (y 2), .int .i64 (y 3)] 23)
      go_upto_region 12 with fail
      obtain ⟨G, hG⟩ : ∃ G, G = V3.heap.size := ⟨_, rfl⟩
      rw [← hG] at n4 ⊢
      clear hG
      generalize World.alloc V3 _ = V4 at a4 n4 c4 ⊢
      have x0 := a4.cell 0; have x1 := a4.cell 1; have x2 := a4.cell 2; have x3 := a4.cell 3
      have y0 := n4.cell 0; have y1 := n4.cell 1; have y2 := n4.cell 2; have y3 := n4.cell 3
      simp at x0 x1 x2 x3 y0 y1 y2 y3
      have C4 := Lib.hid c4
      clear a4 n4 c4 A3
      go_wp2_with fail
      go_ret
      exact ⟨ret_bool (by simp), C4.out⟩
  | true =>
    obtain rfl : e = .returned (.tuple #[.string ⟨R.toArray⟩, .int .i64 0]) := he
    have d0 := O2.out.1.cell 0; have d1 := O2.out.1.cell 1; have d2 := O2.out.1.cell 2; have d3 := O2.out.1.cell 3
    simp at d0 d1 d2 d3
    go_wp2_with fail
    refine (CO.out _).mono ?_
    rintro e W3 ⟨rfl, hb⟩
    have O3 := Lib.hid (O2.out.step hb)
    have B3 := Lib.hid O3.out.2
    clear hb O2 d0 d1 d2 d3
    have d0 := O3.out.1.cell 0; have d1 := O3.out.1.cell 1; have d2 := O3.out.1.cell 2; have d3 := O3.out.1.cell 3
    simp at d0 d1 d2 d3
    go_wp2_with fail
    refine (CK.out _).mono ?_
    rintro e W4 ⟨he, hb⟩
    obtain rfl : e = .returned (.int .i64 0) := he
    have O4 := Lib.hid (O3.out.step hb)
    have B4 := Lib.hid O4.out.2
    clear hb O3 d0 d1 d2 d3
    have d0 := O4.out.1.cell 0; have d1 := O4.out.1.cell 1; have d2 := O4.out.1.cell 2; have d3 := O4.out.1.cell 3
    simp at d0 d1 d2 d3
    go_wp2_with fail
    refine (CX.out _ B4.out).mono ?_
    rintro e W5 ⟨rfl, hb⟩
    have O5 := Lib.hid (O4.out.step hb)
    have B5 := Lib.hid O5.out.2
    clear hb O4 d0 d1 d2 d3
    rcases AG.out with ⟨y, q1, q2⟩ | ⟨y, q1, q2⟩
    · have CR2 := Lib.hid (fun (V : World) (hV : Below W.heap.size W V) => (CR.out V hV).mono fun e w' h => q1 V w' e h)
      have CL2 := Lib.hid (fun (V : World) (hV : Below W.heap.size W V) => (CL.out V hV).mono fun e w' h => (⟨q2 e h.1, h.2⟩ : e = .returned (.tuple #[vA y, .bool false]) ∧ Below V.heap.size V w'))
      clear q1 q2 CR CL AG
      go_wp2_with fail
      refine (CR2.out _ B5.out).mono ?_
      rintro e V1 ⟨rfl, hb⟩
      have C1 := Lib.hid (below_then B5.out hb)
      clear hb
      have a1 := At.new V1 (.cells #[.int .i64 0, .int .i64 0, .int .i64 0, .int .i64 0] 23)
      have c1 := below_new C1.out (.cells #[.int .i64 0, .int .i64 0, .int .i64 0, .int .i64 0] 23)
      go_upto_region 11 with fail
      generalize World.alloc V1 _ = V2 at a1 c1 ⊢
      have A1 := Lib.hid a1
      have C2 := Lib.hid c1
      clear a1 c1
      go_wp2_with fail
      refine (CL2.out _ C2.out).mono ?_
      rintro e V3 ⟨rfl, hb⟩
      have A3 := Lib.hid (A1.out.then_ hb)
      have C3 := Lib.hid (below_then C2.out hb)
      clear hb A1
      have a4 := A3.out.alloc (.cells #[.int .i64 (y 0), .int .i64 (y 1), .int .i64 (y 2), .int .i64 (y 3)] 23)
      have n4 := At.new V3 (.cells #[.int .i64 (y 0), .int .i64 (y 1), .int .i64 (y 2), .int .i64 (y 3)] 23)
      have c4 := below_new C3.out (.cells #[.int .i64 (y 0), .int .i64 (y 1), .int .i64 (y 2), .int .i64 (y 3)] 23)
      go_upto_region 12 with fail
      obtain ⟨G, hG⟩ : ∃ G, G = V3.heap.size := ⟨_, rfl⟩
      rw [← hG] at n4 ⊢
      clear hG
      generalize World.alloc V3 _ = V4 at a4 n4 c4 ⊢
      have x0 := a4.cell 0; have x1 := a4.cell 1; have x2 := a4.cell 2; have x3 := a4.cell 3
      have y0 := n4.cell 0; have y1 := n4.cell 1; have y2 := n4.cell 2; have y3 := n4.cell 3
      simp at x0 x1 x2 x3 y0 y1 y2 y3
      have C4 := Lib.hid c4
      clear a4 n4 c4 A3
      go_wp2_with fail
      go_ret
      exact ⟨ret_bool (by simp), C4.out⟩
    · have CR2 := Lib.hid (fun (V : World) (hV : Below W.heap.size W V) => (CR.out V hV).mono fun e w' h => q1 V w' e h)
      have CL2 := Lib.hid (fun (V : World) (hV : Below W.heap.size W V) => (CL.out V hV).mono fun e w' h => (⟨q2 e h.1, h.2⟩ : e = .returned (.tuple #[vA y, .bool true]) ∧ Below V.heap.size V w'))
      clear q1 q2 CR CL AG
      go_wp2_with fail
      refine (CR2.out _ B5.out).mono ?_
      rintro e V1 ⟨rfl, hb⟩
      have C1 := Lib.hid (below_then B5.out hb)
      clear hb
      have a1 := At.new V1 (.cells #[.int .i64 (y 0), .int .i64 (y 1), .int .i64 (y 2), .int .i64 (y 3)] 23)
      have c1 := below_new C1.out (.cells #[.int .i64 (y 0), .int .i64 (y 1), .int .i64 (y 2), .int .i64 (y 3)] 23)
      go_upto_region 11 with fail
      generalize World.alloc V1 _ = V2 at a1 c1 ⊢
      have A1 := Lib.hid a1
      have C2 := Lib.hid c1
      clear a1 c1
      go_wp2_with fail
      refine (CL2.out _ C2.out).mono ?_
      rintro e V3 ⟨rfl, hb⟩
      have A3 := Lib.hid (A1.out.then_ hb)
      have C3 := Lib.hid (below_then C2.out hb)
      clear hb A1
      have a4 := A3.out.alloc (.cells #[.int .i64 (y 0), .int .i64 (y 1), .int .i64 (y 2), .int .i64 (y 3)] 23)
      have n4 := At.new V3 (.cells #[.int .i64 (y 0), .int .i64 (y 1), .int .i64 (y 2), .int .i64 (y 3)] 23)
      have c4 := below_new C3.out (.cells #[.int .i64 (y 0), .int .i64 (y 1), .int .i64 (y 2), .int .i64 (y 3)] 23)
      go_upto_region 12 with fail
      obtain ⟨G, hG⟩ : ∃ G, G = V3.heap.size := ⟨_, rfl⟩
      rw [← hG] at n4 ⊢
      clear hG
      generalize World.alloc V3 _ = V4 at a4 n4 c4 ⊢
      have x0 := a4.cell 0; have x1 := a4.cell 1; have x2 := a4.cell 2; have x3 := a4.cell 3
      have y0 := n4.cell 0; have y1 := n4.cell 1; have y2 := n4.cell 2; have y3 := n4.cell 3
      simp at x0 x1 x2 x3 y0 y1 y2 y3
      have C4 := Lib.hid c4
      clear a4 n4 c4 A3
      go_wp2_with fail
      go_ret
      exact ⟨ret_bool (by simp), C4.out⟩
theorem open_Length {H : Type} {enc : TypeId × Value → H} {v : Value} {d : DataW H} {p : List MemPlace} {base : Nat} {W : World}
    (o : Value.okWide Tryd.prog W .any base 23 v) (h : DataW.Trod enc Tryd.prog W 0 (fun _ => true) true 23 v d p) : ∃ x : Nat → Int, v = vA x ∧ ∀ j, I64 (x j) := by
  obtain ⟨cs, n, rfl, hl, hf⟩ := open_agg Tryd.underlying23 (by kernel_rfl) (by kernel_rfl) o h
  match cs, hl with
  | [v0, v1, v2, v3], _ =>
    obtain ⟨_, _, e0, t0⟩ := hf 0 _ rfl
    obtain ⟨_, _, e1, t1⟩ := hf 1 _ rfl
    obtain ⟨_, _, e2, t2⟩ := hf 2 _ rfl
    obtain ⟨_, _, e3, t3⟩ := hf 3 _ rfl
    obtain ⟨x0, rfl, h0⟩ := open_num t0
    obtain ⟨x1, rfl, h1⟩ := open_num t1
    obtain ⟨x2, rfl, h2⟩ := open_num t2
    obtain ⟨x3, rfl, h3⟩ := open_num t3
    simp at e0 e1 e2 e3
    subst e0 e1 e2 e3
    refine ⟨fun j => if j = 0 then x0 else if j = 1 then x1 else if j = 2 then x2 else x3, rfl, fun j => ?_⟩
    show I64 (if j = 0 then x0 else if j = 1 then x1 else if j = 2 then x2 else x3)
    split
    · exact h0
    split
    · exact h1
    split
    · exact h2
    · exact h3
theorem walk {H : Type} {enc : TypeId × Value → H} {v0 v1 : Value} {d0 d1 : DataW H} {p0 p1 : List MemPlace} {base : Nat} (W : World)
    (o0 : Value.okWide Tryd.prog W .any base 23 v0) (h0 : DataW.Trod enc Tryd.prog W 0 (fun _ => true) true 23 v0 d0 p0)
    (o1 : Value.okWide Tryd.prog W .any base 9 v1) (h1 : DataW.Trod enc Tryd.prog W 0 (fun _ => true) true 9 v1 d1 p1)
    (hsz : ∀ bytes, d1 = .lit (.string bytes) → bytes.length ≤ 4294960000) (hL : laidMet Tryd.prog Rows.spanChecksRow.laid W) (hsh : W.ShapedOpen Tryd.prog) :
    Calls Tryd.prog 3 #[v0, v1] W fun e w' => e = .returned (.bool true) ∧ Below W.heap.size W w' := by
  obtain ⟨x, rfl, hx⟩ := open_Length o0 h0
  obtain ⟨s, rfl, rfl, rfl, hs⟩ := Go.ChangeMaps.open_string Tryd.underlying9 o1 h1
  obtain ⟨m, hm⟩ := Tryd.laysLaysMn146.s1_3 W hsh
  have h := core W x hx s.data.toList (hsz s.data.toList rfl) (laid_pow pow_data.symm hL.tail.tail) (laid_errs hL.tail.tail.tail.tail) m hm
  rw [show (⟨s.data.toList.toArray⟩ : ByteArray) = s from by simp] at h
  exact h
end Go.Proofs.YtlpbaljoanfogabDoor.spanChecksLaw
