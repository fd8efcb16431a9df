/- FracReckons: the Go text returns true at every input, and writes nothing that was there. -/
import Derived.Test.YtmeldkmmmjfdmaaFrac4
import Derived.Test.YtmeldkmmmjfdmaaFracOpen
import Derived.Test.YtmeldkmmmjfdmaaStore
namespace Go.Proofs.Ytmeldkmmmjfdmaa.fracReckonsLaw
set_option linter.unusedVariables false
set_option maxRecDepth 100000
set_option maxHeartbeats 2000000
open Go.RowKit Go.ChangeShapes Go.WideShapes

theorem lit : (if fracOk 1 2 = true ∧ fracOk 1 3 = true then ofOut (1 * 3 + 1 * 2) (2 * 3) else fracVal 0 0 8) = fracVal 5 6 0 := by
  have h : fracOk 1 2 = true := by decide
  have h' : fracOk 1 3 = true := by decide
  have hg : Int.gcd (1 * 3 + 1 * 2) (2 * 3) = 1 := by decide
  rw [if_pos ⟨h, h'⟩, ofOut, if_neg (by omega), hg, if_neg (by decide), fracNum, fracDen, hg]; rfl
theorem core (a b c d : Int) (w : World) (a1 : -9223372036854775808 ≤ a) (a2 : a ≤ 9223372036854775807) (b1 : -9223372036854775808 ≤ b) (b2 : b ≤ 9223372036854775807)
    (c1 : -9223372036854775808 ≤ c) (c2 : c ≤ 9223372036854775807) (d1 : -9223372036854775808 ≤ d) (d2 : d ≤ 9223372036854775807) :
    Calls Try.prog 5 #[.agg #[.int .i64 a, .int .i64 b], .agg #[.int .i64 c, .int .i64 d]] w fun e w' => e = .returned (.bool true) ∧ Below w.heap.size w w' := by
  go_enter Try.func5, Try.ntmps5
  go_wp2_with fail
  refine (frac_Add 1 2 1 3 _ (by omega) (by omega) (by omega) (by omega) (by omega) (by omega) (by omega) (by omega)).mono ?_
  rw [lit, fracVal]
  rintro e w1 ⟨rfl, hb⟩
  have k1 : Two w w.heap.size (w.heap.size + 1) a b c d w1 := by
    refine ⟨?_, ?_, ?_⟩
    · refine At.below ?_ hb (by simp; omega)
      exact (((At.new w _).alloc _).alloc _).alloc _
    · refine At.below ?_ hb (by simp)
      exact ((At.new1 w _ _).alloc _).alloc _
    · refine Below.trans ?_ (hb.mono (by simp; omega))
      exact ((((Below.refl _ _).alloc (Nat.le_refl _) _).alloc (by simp) _).alloc (by simp; omega) _).alloc (by simp; omega) _
  have K1 := Lib.hid k1
  clear hb k1
  have form := opOut_form
  have FM := Lib.hid form
  clear form
  go_wp2_with fail
  go_loopw [29] (fun x wr => ∃ k : Nat, k ≤ 4 ∧ x = .int .i64 k ∧ Two w w.heap.size (w.heap.size + 1) a b c d wr) (fun x _ => 4 - (intOf x).toNat)
  case atStart => exact ⟨0, by omega, rfl, K1.out.step (below_new (Below.refl _ _) _)⟩
  case round =>
    obtain ⟨k, hk4, rfl, hT⟩ := hrel
    rename_i wr
    have KT := Lib.hid hT
    obtain ⟨e0, e1, f0, f1⟩ := hT.cells
    have lt0 := hT.1.lt
    have lt1 := hT.2.1.lt
    clear hT K1
    by_cases hk : k = 4
    · subst hk
      go_wp2_with fail
      go_ret
      exact ⟨rfl, KT.out.2.2⟩
    have hs : k = 0 ∨ k = 1 ∨ k = 2 ∨ k = 3 := by omega
    rcases hs with rfl | rfl | rfl | rfl
    · obtain ⟨p, q, ee, hf⟩ := FM.out 0 a b c d
      have HF := Lib.hid hf
      clear hf
      go_wp2_with fail
      refine (frac_Add _ _ _ _ _ a1 a2 b1 b2 c1 c2 d1 d2).mono ?_
      rw [show (if fracOk a b = true ∧ fracOk c d = true then ofOut (a * d + c * b) (b * d) else fracVal 0 0 8) = _ from HF.out]
      rintro e w2 ⟨rfl, hb⟩
      have k2 := (KT.out.step (below_new (Below.refl _ _) _)).step hb
      have az : At w2 wr.heap.size (.cells #[.int .i64 0, .int .i64 0] 23) := (At.new wr _).below hb (by simp)
      clear e0 e1 f0 f1 hb
      obtain ⟨e0, e1, f0, f1⟩ := k2.cells
      have lt2 := k2.1.lt
      have lt3 := k2.2.1.lt
      have lt4 := az.lt
      have r0 := az.cell 0
      have r1 := az.cell 1
      have z0 := az.frozen 0
      have z1 := az.frozen 1
      simp at r0 r1
      have K2 := Lib.hid k2
      have AZ := Lib.hid az
      clear k2 az
      go_wp2_with fail
      refine (ref_FracOp 0 _ _ _ _ _ a1 a2 b1 b2 c1 c2 d1 d2 (by omega)).mono ?_
      rw [HF.out]
      rintro e w3 ⟨rfl, hb⟩
      have kz := (AZ.out.store2 (.int .i64 p) (.int .i64 q)).below hb (by simp [World.setCell]; omega)
      have k3 : Two w w.heap.size (w.heap.size + 1) a b c d w3 := by
        have q0 := KT.out.1.lt
        have q1 := KT.out.2.1.lt
        refine ⟨((K2.out.1.apart ?_ _).apart ?_ _).below hb ?_, ((K2.out.2.1.apart ?_ _).apart ?_ _).below hb ?_, ((K2.out.2.2.setCell ?_ _).setCell ?_ _).trans (hb.mono ?_)⟩
        all_goals simp [World.setCell]
        all_goals omega
      clear e0 e1 f0 f1 r0 r1 z0 z1 hb lt2 lt3 lt4 AZ K2
      have r0 := kz.cell 0
      have r1 := kz.cell 1
      have lz := kz.lt
      simp at r0 r1
      have K3 := Lib.hid k3
      clear k3 kz
      go_wp2_with fail
      exact ⟨⟨1, by omega, rfl, K3.out.step (below_new (Below.refl _ _) _)⟩, by simp [intOf]⟩
    · obtain ⟨p, q, ee, hf⟩ := FM.out 1 a b c d
      have HF := Lib.hid hf
      clear hf
      go_wp2_with fail
      refine (frac_Sub _ _ _ _ _ a1 a2 b1 b2 c1 c2 d1 d2).mono ?_
      rw [show (if fracOk a b = true ∧ fracOk c d = true then ofOut (a * d - c * b) (b * d) else fracVal 0 0 8) = _ from HF.out]
      rintro e w2 ⟨rfl, hb⟩
      have k2 := (KT.out.step (below_new (Below.refl _ _) _)).step hb
      have az : At w2 wr.heap.size (.cells #[.int .i64 0, .int .i64 0] 23) := (At.new wr _).below hb (by simp)
      clear e0 e1 f0 f1 hb
      obtain ⟨e0, e1, f0, f1⟩ := k2.cells
      have lt2 := k2.1.lt
      have lt3 := k2.2.1.lt
      have lt4 := az.lt
      have r0 := az.cell 0
      have r1 := az.cell 1
      have z0 := az.frozen 0
      have z1 := az.frozen 1
      simp at r0 r1
      have K2 := Lib.hid k2
      have AZ := Lib.hid az
      clear k2 az
      go_wp2_with fail
      refine (ref_FracOp 1 _ _ _ _ _ a1 a2 b1 b2 c1 c2 d1 d2 (by omega)).mono ?_
      rw [HF.out]
      rintro e w3 ⟨rfl, hb⟩
      have kz := (AZ.out.store2 (.int .i64 p) (.int .i64 q)).below hb (by simp [World.setCell]; omega)
      have k3 : Two w w.heap.size (w.heap.size + 1) a b c d w3 := by
        have q0 := KT.out.1.lt
        have q1 := KT.out.2.1.lt
        refine ⟨((K2.out.1.apart ?_ _).apart ?_ _).below hb ?_, ((K2.out.2.1.apart ?_ _).apart ?_ _).below hb ?_, ((K2.out.2.2.setCell ?_ _).setCell ?_ _).trans (hb.mono ?_)⟩
        all_goals simp [World.setCell]
        all_goals omega
      clear e0 e1 f0 f1 r0 r1 z0 z1 hb lt2 lt3 lt4 AZ K2
      have r0 := kz.cell 0
      have r1 := kz.cell 1
      have lz := kz.lt
      simp at r0 r1
      have K3 := Lib.hid k3
      clear k3 kz
      go_wp2_with fail
      exact ⟨⟨2, by omega, rfl, K3.out.step (below_new (Below.refl _ _) _)⟩, by simp [intOf]⟩
    · obtain ⟨p, q, ee, hf⟩ := FM.out 2 a b c d
      have HF := Lib.hid hf
      clear hf
      go_wp2_with fail
      refine (frac_Mul _ _ _ _ _ a1 a2 b1 b2 c1 c2 d1 d2).mono ?_
      rw [show (if fracOk a b = true ∧ fracOk c d = true then ofOut (a * c) (b * d) else fracVal 0 0 8) = _ from HF.out]
      rintro e w2 ⟨rfl, hb⟩
      have k2 := (KT.out.step (below_new (Below.refl _ _) _)).step hb
      have az : At w2 wr.heap.size (.cells #[.int .i64 0, .int .i64 0] 23) := (At.new wr _).below hb (by simp)
      clear e0 e1 f0 f1 hb
      obtain ⟨e0, e1, f0, f1⟩ := k2.cells
      have lt2 := k2.1.lt
      have lt3 := k2.2.1.lt
      have lt4 := az.lt
      have r0 := az.cell 0
      have r1 := az.cell 1
      have z0 := az.frozen 0
      have z1 := az.frozen 1
      simp at r0 r1
      have K2 := Lib.hid k2
      have AZ := Lib.hid az
      clear k2 az
      go_wp2_with fail
      refine (ref_FracOp 2 _ _ _ _ _ a1 a2 b1 b2 c1 c2 d1 d2 (by omega)).mono ?_
      rw [HF.out]
      rintro e w3 ⟨rfl, hb⟩
      have kz := (AZ.out.store2 (.int .i64 p) (.int .i64 q)).below hb (by simp [World.setCell]; omega)
      have k3 : Two w w.heap.size (w.heap.size + 1) a b c d w3 := by
        have q0 := KT.out.1.lt
        have q1 := KT.out.2.1.lt
        refine ⟨((K2.out.1.apart ?_ _).apart ?_ _).below hb ?_, ((K2.out.2.1.apart ?_ _).apart ?_ _).below hb ?_, ((K2.out.2.2.setCell ?_ _).setCell ?_ _).trans (hb.mono ?_)⟩
        all_goals simp [World.setCell]
        all_goals omega
      clear e0 e1 f0 f1 r0 r1 z0 z1 hb lt2 lt3 lt4 AZ K2
      have r0 := kz.cell 0
      have r1 := kz.cell 1
      have lz := kz.lt
      simp at r0 r1
      have K3 := Lib.hid k3
      clear k3 kz
      go_wp2_with fail
      exact ⟨⟨3, by omega, rfl, K3.out.step (below_new (Below.refl _ _) _)⟩, by simp [intOf]⟩
    · obtain ⟨p, q, ee, hf⟩ := FM.out 3 a b c d
      have HF := Lib.hid hf
      clear hf
      go_wp2_with fail
      refine (frac_Div _ _ _ _ _ a1 a2 b1 b2 c1 c2 d1 d2).mono ?_
      rw [show (if fracOk a b = true ∧ fracOk c d = true then ofOut (a * d) (b * c) else fracVal 0 0 8) = _ from HF.out]
      rintro e w2 ⟨rfl, hb⟩
      have k2 := (KT.out.step (below_new (Below.refl _ _) _)).step hb
      have az : At w2 wr.heap.size (.cells #[.int .i64 0, .int .i64 0] 23) := (At.new wr _).below hb (by simp)
      clear e0 e1 f0 f1 hb
      obtain ⟨e0, e1, f0, f1⟩ := k2.cells
      have lt2 := k2.1.lt
      have lt3 := k2.2.1.lt
      have lt4 := az.lt
      have r0 := az.cell 0
      have r1 := az.cell 1
      have z0 := az.frozen 0
      have z1 := az.frozen 1
      simp at r0 r1
      have K2 := Lib.hid k2
      have AZ := Lib.hid az
      clear k2 az
      go_wp2_with fail
      refine (ref_FracOp 3 _ _ _ _ _ a1 a2 b1 b2 c1 c2 d1 d2 (by omega)).mono ?_
      rw [HF.out]
      rintro e w3 ⟨rfl, hb⟩
      have kz := (AZ.out.store2 (.int .i64 p) (.int .i64 q)).below hb (by simp [World.setCell]; omega)
      have k3 : Two w w.heap.size (w.heap.size + 1) a b c d w3 := by
        have q0 := KT.out.1.lt
        have q1 := KT.out.2.1.lt
        refine ⟨((K2.out.1.apart ?_ _).apart ?_ _).below hb ?_, ((K2.out.2.1.apart ?_ _).apart ?_ _).below hb ?_, ((K2.out.2.2.setCell ?_ _).setCell ?_ _).trans (hb.mono ?_)⟩
        all_goals simp [World.setCell]
        all_goals omega
      clear e0 e1 f0 f1 r0 r1 z0 z1 hb lt2 lt3 lt4 AZ K2
      have r0 := kz.cell 0
      have r1 := kz.cell 1
      have lz := kz.lt
      simp at r0 r1
      have K3 := Lib.hid k3
      clear k3 kz
      go_wp2_with fail
      exact ⟨⟨4, by omega, rfl, K3.out.step (below_new (Below.refl _ _) _)⟩, by simp [intOf]⟩
theorem walk {H : Type} {enc : TypeId × Value → H} {v0 v1 : Value} {d0 d1 : DataW H} {p0 p1 : List MemPlace} {base : Nat} (W : World)
    (o0 : Value.okWide Try.prog W .any base 23 v0) (h0 : DataW.Trod enc Try.prog W 0 (fun _ => true) true 23 v0 d0 p0)
    (o1 : Value.okWide Try.prog W .any base 23 v1) (h1 : DataW.Trod enc Try.prog W 0 (fun _ => true) true 23 v1 d1 p1) :
    Calls Try.prog 5 #[v0, v1] W fun e w' => e = .returned (.bool true) ∧ Below W.heap.size W w' := by
  obtain ⟨x, y, rfl, hx, hy⟩ := open_Frac o0 h0
  obtain ⟨z, t, rfl, hz, ht⟩ := open_Frac o1 h1
  exact core x y z t W hx.1 hx.2 hy.1 hy.2 hz.1 hz.2 ht.1 ht.2
end Go.Proofs.Ytmeldkmmmjfdmaa.fracReckonsLaw
