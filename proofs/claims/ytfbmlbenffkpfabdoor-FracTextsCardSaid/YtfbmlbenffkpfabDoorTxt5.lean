/- Contracts of frac.Read and of the reference's FracRead. -/
import Derived.Test.YtfbmlbenffkpfabDoorTxt4
import Derived.Outline
namespace Go.Proofs.YtfbmlbenffkpfabDoor
set_option linter.unusedVariables false
set_option maxRecDepth 100000
open Go.RowKit Go.Shelf Num

/-- Two blocks of the call's own: the result's cell and the fraction in block b. -/
def RdAt (w : World) (b : Nat) (x y : Int) (W : World) : Prop :=
  w.heap.size < b ∧ At W w.heap.size (.cells #[.int .i64 0, .int .i64 0] 23) ∧ At W b (.cells #[.int .i64 x, .int .i64 y] 23) ∧ Below w.heap.size w W
theorem RdAt.step {w W W' : World} {b : Nat} {x y : Int} (h : RdAt w b x y W) (hb : Below W.heap.size W W') : RdAt w b x y W' := ⟨h.1, h.2.1.then_ hb, h.2.2.1.then_ hb, below_then h.2.2.2 hb⟩
theorem RdAt.size {w W : World} {b : Nat} {x y : Int} (h : RdAt w b x y W) : b < W.heap.size ∧ w.heap.size < W.heap.size := ⟨h.2.2.1.lt, h.2.1.lt⟩
theorem RdAt.set0 {w W : World} {b : Nat} {x y : Int} (h : RdAt w b x y W) (u : Int) : RdAt w b u y (W.setCell ⟨b, 0, none⟩ (.int .i64 u)) :=
  ⟨h.1, h.2.1.apart (by have := h.1; show w.heap.size ≠ b; omega) _, by have := h.2.2.1.store 0 (.int .i64 u); simpa using this, below_set h.2.2.2 (by have := h.1; show w.heap.size ≤ b; omega) _⟩
theorem RdAt.set1 {w W : World} {b : Nat} {x y : Int} (h : RdAt w b x y W) (u : Int) : RdAt w b x u (W.setCell ⟨b, 1, none⟩ (.int .i64 u)) :=
  ⟨h.1, h.2.1.apart (by have := h.1; show w.heap.size ≠ b; omega) _, by have := h.2.2.1.store 1 (.int .i64 u); simpa using this, below_set h.2.2.2 (by have := h.1; show w.heap.size ≤ b; omega) _⟩
theorem RdAt.cells {w W : World} {b : Nat} {x y : Int} (h : RdAt w b x y W) : W.cell? ⟨b, 0, none⟩ = some (.int .i64 x) ∧ W.cell? ⟨b, 1, none⟩ = some (.int .i64 y) ∧ W.frozen? ⟨b, 0, none⟩ = false ∧ W.frozen? ⟨b, 1, none⟩ = false ∧
    W.cell? ⟨w.heap.size, 0, none⟩ = some (.int .i64 0) ∧ W.cell? ⟨w.heap.size, 1, none⟩ = some (.int .i64 0) ∧ W.frozen? ⟨w.heap.size, 0, none⟩ = false ∧ W.frozen? ⟨w.heap.size, 1, none⟩ = false :=
  ⟨h.2.2.1.cell 0, h.2.2.1.cell 1, h.2.2.1.frozen 0, h.2.2.1.frozen 1, h.2.1.cell 0, h.2.1.cell 1, h.2.1.frozen 0, h.2.1.frozen 1⟩
theorem cut_size (s : ByteArray) (c : UInt8) : (⟨(cutL s.data.toList c).toArray⟩ : ByteArray).size ≤ s.size ∧ (⟨(cutR s.data.toList c).toArray⟩ : ByteArray).size ≤ s.size := by
  have hl := str_len s
  constructor
  · show (cutL s.data.toList c).toArray.size ≤ _
    rw [List.size_toArray, ← hl, ← cut_take s.data.toList c, List.length_take]; omega
  · show (cutR s.data.toList c).toArray.size ≤ _
    rw [List.size_toArray, ← hl, ← cut_drop s.data.toList c, List.length_drop]; omega
theorem rdNum_bd (l : List UInt8) : -9223372036854775808 ≤ rdNum l ∧ rdNum l ≤ 9223372036854775807 := atoiV_bounds _
theorem rdDen_bd (l : List UInt8) : -9223372036854775808 ≤ rdDen l ∧ rdDen l ≤ 9223372036854775807 := by
  unfold rdDen; split
  · exact atoiV_bounds _
  · omega
set_option maxHeartbeats 8000000 in
theorem frac_Read (s : ByteArray) (w : World) (hs : s.size ≤ 140737488355328) (ht : Pow w) (he : Errs w) :
    Calls Tryd.prog 6 #[.string s] w fun e w' => e = .returned (rdOut s.data.toList) ∧ Below w.heap.size w w' := by
  have HT := Lib.hid ht; have HE := Lib.hid he; clear ht he
  obtain ⟨sz1, sz2⟩ := cut_size s 47
  obtain ⟨n, hn⟩ : ∃ n, n = rdNum s.data.toList := ⟨_, rfl⟩
  obtain ⟨d, hd⟩ : ∃ d, d = rdDen s.data.toList := ⟨_, rfl⟩
  have nb := rdNum_bd s.data.toList; rw [← hn] at nb
  have db := rdDen_bd s.data.toList; rw [← hd] at db
  obtain ⟨n1, n2⟩ := nb; obtain ⟨d1, d2⟩ := db
  obtain ⟨E, hE⟩ : ∃ E, E = rdOut s.data.toList := ⟨_, rfl⟩
  rw [← hE]
  have HO := Lib.hid (show E = if fracOk n d && ((fracS n d).data.toList == s.data.toList) then fracVal n d 0 else fracVal 0 0 4 by rw [hE, hn, hd]; rfl)
  have hv : atoiV (cutL s.data.toList 47) = n := hn.symm
  have HV := Lib.hid hv
  have HD := Lib.hid hd
  clear hn hd hE hv
  cases hc : cutB s.data.toList 47 with
  | false =>
    have hd0 : d = 1 := by rw [HD.out]; unfold rdDen; rw [hc]; rfl
    clear HD
    go_enter Tryd.func6, Tryd.ntmps6
    go_wp2_with fail
    refine (lib_Cut s 47 _ (by omega)).mono ?_
    rw [hc]
    rintro e w1 ⟨rfl, hdr⟩
    clear hc
    have r0 : RdAt w w1.heap.size 0 1 (w1.alloc (.cells #[.int .i64 0, .int .i64 1] 23)) := by
      obtain ⟨q, rfl⟩ := hdr
      exact ⟨by simp, ((At.new w _).drewN q).alloc _, At.new _ _, by (repeat' (first | exact Below.refl _ _ | assumption | refine Below.drew ?_ | refine below_drewN ?_ _ | refine below_new ?_ _ | refine below_set ?_ ?_ _ | refine below_then ?_ (by assumption) | refine below_drawn ?_ (by assumption) | exact Nat.le_refl _ | omega | (simp; done) | (simp; omega)))⟩
    clear hdr
    obtain ⟨b, hbz⟩ : ∃ b, b = w1.heap.size := ⟨_, rfl⟩
    rw [← hbz] at r0
    have HZ := Lib.hid hbz; clear hbz
    have HD0 := Lib.hid hd0; clear hd0
    go_wp2_with fail
    generalize World.alloc w1 _ = W1 at r0 ⊢
    rw [← HZ.out]
    refine (lib_Atoi _ _ (by omega) (HE.out.below r0.2.2.2)).mono ?_
    rintro e w2 ⟨er, _, rfl, hb⟩
    have r2 := r0.step hb
    clear r0 hb
    rw [HV.out]
    obtain ⟨x0, x1, f0, f1, y0, y1, g0, g1⟩ := r2.cells
    obtain ⟨z2, z3⟩ := r2.size
    have z4 := r2.1
    have R3 := Lib.hid (r2.set0 n)
    clear r2
    go_wp2_with fail
    clear x0 x1 f0 f1 y0 y1 g0 g1 z2 z3 z4
    have d0 := HD0.out; clear HD0
    subst d0
    generalize World.setCell _ _ _ = W3 at R3 ⊢
    rcases Bool.eq_false_or_eq_true (fracOk n 1) with hk | hk
    · have hfe : fracErr n 1 = 0 := by rw [fracErr, hk]; rfl
      refine (frac_Check n 1 _ n1 n2 (by omega) (by omega)).mono ?_
      rw [hfe]
      rintro e w4 ⟨rfl, hb⟩
      have r4 := R3.out.step hb
      clear hfe hb R3
      obtain ⟨x0, x1, f0, f1, y0, y1, g0, g1⟩ := r4.cells
      have R4 := Lib.hid r4; clear r4
      go_wp2_with fail
      refine (frac_show n 1 _ n1 n2 (by omega) (by omega) (HT.out.below R4.out.2.2.2)).mono ?_
      rintro e w5 ⟨rfl, hb⟩
      have r5 := R4.out.step hb
      clear R4 hb x0 x1 f0 f1 y0 y1 g0 g1
      obtain ⟨x0, x1, f0, f1, y0, y1, g0, g1⟩ := r5.cells
      obtain ⟨z2, z3⟩ := r5.size
      have z4 := r5.1
      have R5 := Lib.hid r5; clear r5
      rcases Bool.eq_false_or_eq_true ((fracS n 1).data.toList == s.data.toList) with hq | hq
      · have HR := Lib.hid (show E = fracVal n 1 0 by rw [HO.out, hk, hq]; rfl)
        have e1 : ((fracS n 1).toList == s.toList) = true := by rw [str_list, str_list]; exact hq
        have e2 : ((fracS n 1).toList != s.toList) = false := by unfold bne; rw [e1]; rfl
        clear hq hk
        go_wp2_with fail
        exact bodyPost_ret (v := fracVal n 1 0) (by simp [results, Tryd.results6, go_sem, fracVal, *]) rfl ⟨by rw [HR.out], below_set (below_set R5.out.2.2.2 (Nat.le_refl _) _) (Nat.le_refl _) _⟩
      · have HR := Lib.hid (show E = fracVal 0 0 4 by rw [HO.out, hk, hq]; rfl)
        have e1 : ((fracS n 1).toList == s.toList) = false := by rw [str_list, str_list]; exact hq
        have e2 : ((fracS n 1).toList != s.toList) = true := by unfold bne; rw [e1]; rfl
        clear hq hk
        go_wp2_with fail
        exact bodyPost_ret (v := fracVal 0 0 4) (by simp [results, Tryd.results6, go_sem, fracVal, *]) rfl ⟨by rw [HR.out], below_set (below_set R5.out.2.2.2 (Nat.le_refl _) _) (Nat.le_refl _) _⟩
    · have hfe : fracErr n 1 = 8 := by rw [fracErr, hk]; rfl
      have HR := Lib.hid (show E = fracVal 0 0 4 by rw [HO.out, hk]; rfl)
      clear hk
      refine (frac_Check n 1 _ n1 n2 (by omega) (by omega)).mono ?_
      rw [hfe]
      rintro e w4 ⟨rfl, hb⟩
      have r4 := R3.out.step hb
      clear hfe hb R3
      obtain ⟨x0, x1, f0, f1, y0, y1, g0, g1⟩ := r4.cells
      obtain ⟨z2, z3⟩ := r4.size
      have z4 := r4.1
      have R4 := Lib.hid r4; clear r4
      go_wp2_with fail
      exact bodyPost_ret (v := fracVal 0 0 4) (by simp [results, Tryd.results6, go_sem, fracVal, *]) rfl ⟨by rw [HR.out], below_set (below_set R4.out.2.2.2 (Nat.le_refl _) _) (Nat.le_refl _) _⟩
  | true =>
    have hd0 : d = atoiV (cutR s.data.toList 47) := by rw [HD.out]; unfold rdDen; rw [hc]; rfl
    clear HD
    go_enter Tryd.func6, Tryd.ntmps6
    go_wp2_with fail
    refine (lib_Cut s 47 _ (by omega)).mono ?_
    rw [hc]
    rintro e w1 ⟨rfl, hdr⟩
    clear hc
    have r0 : RdAt w w1.heap.size 0 1 (w1.alloc (.cells #[.int .i64 0, .int .i64 1] 23)) := by
      obtain ⟨q, rfl⟩ := hdr
      exact ⟨by simp, ((At.new w _).drewN q).alloc _, At.new _ _, by (repeat' (first | exact Below.refl _ _ | assumption | refine Below.drew ?_ | refine below_drewN ?_ _ | refine below_new ?_ _ | refine below_set ?_ ?_ _ | refine below_then ?_ (by assumption) | refine below_drawn ?_ (by assumption) | exact Nat.le_refl _ | omega | (simp; done) | (simp; omega)))⟩
    clear hdr
    obtain ⟨b, hbz⟩ : ∃ b, b = w1.heap.size := ⟨_, rfl⟩
    rw [← hbz] at r0
    have HZ := Lib.hid hbz; clear hbz
    have HD0 := Lib.hid hd0; clear hd0
    go_wp2_with fail
    generalize World.alloc w1 _ = W1 at r0 ⊢
    rw [← HZ.out]
    refine (lib_Atoi _ _ (by omega) (HE.out.below r0.2.2.2)).mono ?_
    rintro e w2 ⟨er, _, rfl, hb⟩
    have r2 := r0.step hb
    clear r0 hb
    rw [HV.out]
    obtain ⟨x0, x1, f0, f1, y0, y1, g0, g1⟩ := r2.cells
    obtain ⟨z2, z3⟩ := r2.size
    have z4 := r2.1
    have R3 := Lib.hid (r2.set0 n)
    clear r2
    go_wp2_with fail
    clear x0 x1 f0 f1 y0 y1 g0 g1 z2 z3 z4
    generalize World.setCell _ _ _ = W2 at R3 ⊢
    refine (lib_Atoi _ _ (by omega) (HE.out.below R3.out.2.2.2)).mono ?_
    rintro e w2' ⟨er2, _, rfl, hb⟩
    have r2 := R3.out.step hb
    clear R3 hb
    rw [← HD0.out]
    obtain ⟨x0, x1, f0, f1, y0, y1, g0, g1⟩ := r2.cells
    obtain ⟨z2, z3⟩ := r2.size
    have z4 := r2.1
    have R3 := Lib.hid (r2.set1 d)
    clear r2
    go_wp2_with fail
    clear x0 x1 f0 f1 y0 y1 g0 g1 z2 z3 z4
    generalize World.setCell _ _ _ = W3 at R3 ⊢
    rcases Bool.eq_false_or_eq_true (fracOk n d) with hk | hk
    · have hfe : fracErr n d = 0 := by rw [fracErr, hk]; rfl
      refine (frac_Check n d _ n1 n2 d1 d2).mono ?_
      rw [hfe]
      rintro e w4 ⟨rfl, hb⟩
      have r4 := R3.out.step hb
      clear hfe hb R3
      obtain ⟨x0, x1, f0, f1, y0, y1, g0, g1⟩ := r4.cells
      have R4 := Lib.hid r4; clear r4
      go_wp2_with fail
      refine (frac_show n d _ n1 n2 d1 d2 (HT.out.below R4.out.2.2.2)).mono ?_
      rintro e w5 ⟨rfl, hb⟩
      have r5 := R4.out.step hb
      clear R4 hb x0 x1 f0 f1 y0 y1 g0 g1
      obtain ⟨x0, x1, f0, f1, y0, y1, g0, g1⟩ := r5.cells
      obtain ⟨z2, z3⟩ := r5.size
      have z4 := r5.1
      have R5 := Lib.hid r5; clear r5
      rcases Bool.eq_false_or_eq_true ((fracS n d).data.toList == s.data.toList) with hq | hq
      · have HR := Lib.hid (show E = fracVal n d 0 by rw [HO.out, hk, hq]; rfl)
        have e1 : ((fracS n d).toList == s.toList) = true := by rw [str_list, str_list]; exact hq
        have e2 : ((fracS n d).toList != s.toList) = false := by unfold bne; rw [e1]; rfl
        clear hq hk
        go_wp2_with fail
        exact bodyPost_ret (v := fracVal n d 0) (by simp [results, Tryd.results6, go_sem, fracVal, *]) rfl ⟨by rw [HR.out], below_set (below_set R5.out.2.2.2 (Nat.le_refl _) _) (Nat.le_refl _) _⟩
      · have HR := Lib.hid (show E = fracVal 0 0 4 by rw [HO.out, hk, hq]; rfl)
        have e1 : ((fracS n d).toList == s.toList) = false := by rw [str_list, str_list]; exact hq
        have e2 : ((fracS n d).toList != s.toList) = true := by unfold bne; rw [e1]; rfl
        clear hq hk
        go_wp2_with fail
        exact bodyPost_ret (v := fracVal 0 0 4) (by simp [results, Tryd.results6, go_sem, fracVal, *]) rfl ⟨by rw [HR.out], below_set (below_set R5.out.2.2.2 (Nat.le_refl _) _) (Nat.le_refl _) _⟩
    · have hfe : fracErr n d = 8 := by rw [fracErr, hk]; rfl
      have HR := Lib.hid (show E = fracVal 0 0 4 by rw [HO.out, hk]; rfl)
      clear hk
      refine (frac_Check n d _ n1 n2 d1 d2).mono ?_
      rw [hfe]
      rintro e w4 ⟨rfl, hb⟩
      have r4 := R3.out.step hb
      clear hfe hb R3
      obtain ⟨x0, x1, f0, f1, y0, y1, g0, g1⟩ := r4.cells
      obtain ⟨z2, z3⟩ := r4.size
      have z4 := r4.1
      have R4 := Lib.hid r4; clear r4
      go_wp2_with fail
      exact bodyPost_ret (v := fracVal 0 0 4) (by simp [results, Tryd.results6, go_sem, fracVal, *]) rfl ⟨by rw [HR.out], below_set (below_set R4.out.2.2.2 (Nat.le_refl _) _) (Nat.le_refl _) _⟩
end Go.Proofs.YtfbmlbenffkpfabDoor
