/- Contract of the reference's FracRead. -/
import Derived.Test.YtfbmlbenffkpfabDoorTxt5
namespace Go.Proofs.YtfbmlbenffkpfabDoor
set_option linter.unusedVariables false
set_option maxRecDepth 100000
open Go.RowKit Go.Shelf Num

theorem rfDen_bd (l : List UInt8) : -9223372036854775808 ≤ rfDen l ∧ rfDen l ≤ 9223372036854775807 := by
  unfold rfDen plainNum; split
  · by_cases h : plainOk (cutR l 47) = true
    · have := plain_bound h; unfold plainNum at this; omega
    · rw [if_neg h]; omega
  · omega
theorem rfNum_bd (l : List UInt8) : -9223372036854775808 ≤ plainNum (cutL l 47) ∧ plainNum (cutL l 47) ≤ 9223372036854775807 := by
  by_cases h : plainOk (cutL l 47) = true
  · have := plain_bound h; omega
  · rw [plain_no (by simpa using h)]; omega
set_option maxHeartbeats 4000000 in
theorem ref_FracRead (s : ByteArray) (w : World) (hs : s.size ≤ 140737488355328) :
    Calls Tryd.prog 10 #[.string s] w fun e w' => e = .returned (rdOut s.data.toList) ∧ Below w.heap.size w w' := by
  obtain ⟨sz1, sz2⟩ := cut_size s 47
  have nb := rfNum_bd s.data.toList
  have db := rfDen_bd s.data.toList
  obtain ⟨E, hE⟩ : ∃ E, E = rdOut s.data.toList := ⟨_, rfl⟩
  rw [← hE]
  have HE := Lib.hid (show E = if rfPlain s.data.toList && fracOk (plainNum (cutL s.data.toList 47)) (rfDen s.data.toList) then fracVal (plainNum (cutL s.data.toList 47)) (rfDen s.data.toList) 0 else fracVal 0 0 4 by rw [hE, rdOut_ref]; rfl)
  clear hE
  have CA : ∀ W, Calls Tryd.prog 30 #[.string ⟨(cutL s.data.toList 47).toArray⟩] W fun e w' => e = .returned (.tuple #[.int .i64 (plainNum (cutL s.data.toList 47)), .bool (plainOk (cutL s.data.toList 47))]) ∧ W = w' := fun W => ref_Plain _ W (by omega)
  have CB : ∀ W, Calls Tryd.prog 30 #[.string ⟨(cutR s.data.toList 47).toArray⟩] W fun e w' => e = .returned (.tuple #[.int .i64 (plainNum (cutR s.data.toList 47)), .bool (plainOk (cutR s.data.toList 47))]) ∧ W = w' := fun W => ref_Plain _ W (by omega)
  unfold rfPlain rfDen at HE
  unfold rfDen at db
  cases hc : cutB s.data.toList 47 with
  | false =>
    rw [hc] at HE
    simp only [Bool.false_eq_true, if_false, Bool.not_false, Bool.true_or, Bool.and_true] at HE
    clear CB sz2 db
    obtain ⟨n, hn⟩ : ∃ n, n = plainNum (cutL s.data.toList 47) := ⟨_, rfl⟩
    rw [← hn] at HE CA nb
    clear hn
    obtain ⟨n1, n2⟩ := nb
    cases p1 : plainOk (cutL s.data.toList 47) with
    | false =>
      rw [p1] at HE CA
      clear p1
      have CA := Lib.hid CA
      have HR := Lib.hid (show E = fracVal 0 0 4 by rw [HE.out]; simp)
      clear HE
      go_enter Tryd.func10, Tryd.ntmps10
      go_wp2_with fail
      refine (lib_Cut s 47 _ (by omega)).mono ?_
      rw [hc]
      rintro e w1 ⟨rfl, hdr⟩
      clear hc
      have g0 : w.heap.size < w1.heap.size ∧ At w1 w.heap.size (.cells #[.int .i64 0, .int .i64 0] 23) ∧ Below w.heap.size w w1 := by
        obtain ⟨q, rfl⟩ := hdr
        exact ⟨by simp, (At.new w _).drewN q, by (repeat' (first | exact Below.refl _ _ | assumption | refine Below.drew ?_ | refine below_drewN ?_ _ | refine below_new ?_ _ | refine below_set ?_ ?_ _ | refine below_then ?_ (by assumption) | refine below_drawn ?_ (by assumption) | exact Nat.le_refl _ | omega | (simp; done) | (simp; omega)))⟩
      have G0 := Lib.hid g0
      clear g0 hdr
      go_wp2_with fail
      refine (CA.out w1).mono ?_
      rintro e w' ⟨rfl, rfl⟩
      have r0 : RdAt w w1.heap.size n 1 (w1.alloc (.cells #[.int .i64 n, .int .i64 1] 23)) := ⟨G0.out.1, G0.out.2.1.alloc _, At.new _ _, below_new G0.out.2.2 _⟩
      have y0 := G0.out.2.1.cell 0; have y1 := G0.out.2.1.cell 1; have g0 := G0.out.2.1.frozen 0; have g1 := G0.out.2.1.frozen 1; simp at y0 y1
      have z4 := r0.1
      have R4 := Lib.hid r0; clear r0
      go_wp2_with fail
      exact bodyPost_ret (v := fracVal 0 0 4) (by simp [results, Tryd.results10, go_sem, fracVal, *]) rfl ⟨by rw [HR.out], below_new (below_set (below_set G0.out.2.2 (Nat.le_refl _) _) (Nat.le_refl _) _) _⟩
    | true =>
      rw [p1] at HE CA
      clear p1
      have CA := Lib.hid CA
      go_enter Tryd.func10, Tryd.ntmps10
      go_wp2_with fail
      refine (lib_Cut s 47 _ (by omega)).mono ?_
      rw [hc]
      rintro e w1 ⟨rfl, hdr⟩
      clear hc
      have g0 : w.heap.size < w1.heap.size ∧ At w1 w.heap.size (.cells #[.int .i64 0, .int .i64 0] 23) ∧ Below w.heap.size w w1 := by
        obtain ⟨q, rfl⟩ := hdr
        exact ⟨by simp, (At.new w _).drewN q, by (repeat' (first | exact Below.refl _ _ | assumption | refine Below.drew ?_ | refine below_drewN ?_ _ | refine below_new ?_ _ | refine below_set ?_ ?_ _ | refine below_then ?_ (by assumption) | refine below_drawn ?_ (by assumption) | exact Nat.le_refl _ | omega | (simp; done) | (simp; omega)))⟩
      have G0 := Lib.hid g0
      clear g0 hdr
      go_wp2_with fail
      refine (CA.out w1).mono ?_
      rintro e w' ⟨rfl, rfl⟩
      go_wp2_with fail
      have r0 : RdAt w w1.heap.size n 1 (w1.alloc (.cells #[.int .i64 n, .int .i64 1] 23)) := ⟨G0.out.1, G0.out.2.1.alloc _, At.new _ _, below_new G0.out.2.2 _⟩
      obtain ⟨b, hbz⟩ : ∃ b, b = w1.heap.size := ⟨_, rfl⟩
      rw [← hbz] at r0
      have HZ := Lib.hid hbz; clear hbz
      generalize World.alloc w1 _ = W1 at r0 ⊢
      try rw [← HZ.out]
      rcases Bool.eq_false_or_eq_true (fracOk n 1) with hk | hk
      · have HR := Lib.hid (show E = fracVal n 1 0 by rw [HE.out, hk]; simp)
        refine (ref_FracOK n 1 _ n1 n2 (by omega) (by omega)).mono ?_
        rw [hk]
        rintro e w4 ⟨rfl, hb⟩
        have r4 := r0.step hb
        clear hk hb r0
        obtain ⟨x0, x1, f0, f1, y0, y1, g0, g1⟩ := r4.cells
        obtain ⟨z2, z3⟩ := r4.size
        have z4 := r4.1
        have R4 := Lib.hid r4; clear r4
        go_wp2_with fail
        exact bodyPost_ret (v := fracVal n 1 0) (by simp [results, Tryd.results10, go_sem, fracVal, *]) rfl ⟨by rw [HR.out], below_set (below_set R4.out.2.2.2 (Nat.le_refl _) _) (Nat.le_refl _) _⟩
      · have HR := Lib.hid (show E = fracVal 0 0 4 by rw [HE.out, hk]; simp)
        refine (ref_FracOK n 1 _ n1 n2 (by omega) (by omega)).mono ?_
        rw [hk]
        rintro e w4 ⟨rfl, hb⟩
        have r4 := r0.step hb
        clear hk hb r0
        obtain ⟨x0, x1, f0, f1, y0, y1, g0, g1⟩ := r4.cells
        obtain ⟨z2, z3⟩ := r4.size
        have z4 := r4.1
        have R4 := Lib.hid r4; clear r4
        go_wp2_with fail
        exact bodyPost_ret (v := fracVal 0 0 4) (by simp [results, Tryd.results10, go_sem, fracVal, *]) rfl ⟨by rw [HR.out], below_set (below_set R4.out.2.2.2 (Nat.le_refl _) _) (Nat.le_refl _) _⟩
  | true =>
    rw [hc] at HE db
    simp only [if_true, Bool.not_true, Bool.false_or] at HE db
    obtain ⟨n, hn⟩ : ∃ n, n = plainNum (cutL s.data.toList 47) := ⟨_, rfl⟩
    rw [← hn] at HE CA nb
    clear hn
    obtain ⟨n1, n2⟩ := nb
    obtain ⟨d, hd⟩ : ∃ d : Int, d = plainNum (cutR s.data.toList 47) := ⟨_, rfl⟩
    rw [← hd] at HE CB db
    clear hd
    obtain ⟨d1, d2⟩ := db
    cases p1 : plainOk (cutL s.data.toList 47) with
    | false =>
      rw [p1] at HE CA
      clear p1
      have HR := Lib.hid (show E = fracVal 0 0 4 by rw [HE.out]; simp)
      cases p2 : plainOk (cutR s.data.toList 47) with
      | false =>
        rw [p2] at CB
        clear p2 HE
        have CA := Lib.hid CA; have CB := Lib.hid CB
        go_enter Tryd.func10, Tryd.ntmps10
        go_wp2_with fail
        refine (lib_Cut s 47 _ (by omega)).mono ?_
        rw [hc]
        rintro e w1 ⟨rfl, hdr⟩
        clear hc
        have g0 : w.heap.size < w1.heap.size ∧ At w1 w.heap.size (.cells #[.int .i64 0, .int .i64 0] 23) ∧ Below w.heap.size w w1 := by
          obtain ⟨q, rfl⟩ := hdr
          exact ⟨by simp, (At.new w _).drewN q, by (repeat' (first | exact Below.refl _ _ | assumption | refine Below.drew ?_ | refine below_drewN ?_ _ | refine below_new ?_ _ | refine below_set ?_ ?_ _ | refine below_then ?_ (by assumption) | refine below_drawn ?_ (by assumption) | exact Nat.le_refl _ | omega | (simp; done) | (simp; omega)))⟩
        have G0 := Lib.hid g0
        clear g0 hdr
        go_wp2_with fail
        refine (CA.out w1).mono ?_
        rintro e w' ⟨rfl, rfl⟩
        go_wp2_with fail
        refine (CB.out w1).mono ?_
        rintro e w' ⟨rfl, rfl⟩
        have r0 : RdAt w w1.heap.size n d (w1.alloc (.cells #[.int .i64 n, .int .i64 d] 23)) := ⟨G0.out.1, G0.out.2.1.alloc _, At.new _ _, below_new G0.out.2.2 _⟩
        have y0 := G0.out.2.1.cell 0; have y1 := G0.out.2.1.cell 1; have g0 := G0.out.2.1.frozen 0; have g1 := G0.out.2.1.frozen 1; simp at y0 y1
        have z4 := r0.1
        have R4 := Lib.hid r0; clear r0
        go_wp2_with fail
        exact bodyPost_ret (v := fracVal 0 0 4) (by simp [results, Tryd.results10, go_sem, fracVal, *]) rfl ⟨by rw [HR.out], below_new (below_set (below_set G0.out.2.2 (Nat.le_refl _) _) (Nat.le_refl _) _) _⟩
      | true =>
        rw [p2] at CB
        clear p2 HE
        have CA := Lib.hid CA; have CB := Lib.hid CB
        go_enter Tryd.func10, Tryd.ntmps10
        go_wp2_with fail
        refine (lib_Cut s 47 _ (by omega)).mono ?_
        rw [hc]
        rintro e w1 ⟨rfl, hdr⟩
        clear hc
        have g0 : w.heap.size < w1.heap.size ∧ At w1 w.heap.size (.cells #[.int .i64 0, .int .i64 0] 23) ∧ Below w.heap.size w w1 := by
          obtain ⟨q, rfl⟩ := hdr
          exact ⟨by simp, (At.new w _).drewN q, by (repeat' (first | exact Below.refl _ _ | assumption | refine Below.drew ?_ | refine below_drewN ?_ _ | refine below_new ?_ _ | refine below_set ?_ ?_ _ | refine below_then ?_ (by assumption) | refine below_drawn ?_ (by assumption) | exact Nat.le_refl _ | omega | (simp; done) | (simp; omega)))⟩
        have G0 := Lib.hid g0
        clear g0 hdr
        go_wp2_with fail
        refine (CA.out w1).mono ?_
        rintro e w' ⟨rfl, rfl⟩
        go_wp2_with fail
        refine (CB.out w1).mono ?_
        rintro e w' ⟨rfl, rfl⟩
        have r0 : RdAt w w1.heap.size n d (w1.alloc (.cells #[.int .i64 n, .int .i64 d] 23)) := ⟨G0.out.1, G0.out.2.1.alloc _, At.new _ _, below_new G0.out.2.2 _⟩
        have y0 := G0.out.2.1.cell 0; have y1 := G0.out.2.1.cell 1; have g0 := G0.out.2.1.frozen 0; have g1 := G0.out.2.1.frozen 1; simp at y0 y1
        have z4 := r0.1
        have R4 := Lib.hid r0; clear r0
        go_wp2_with fail
        exact bodyPost_ret (v := fracVal 0 0 4) (by simp [results, Tryd.results10, go_sem, fracVal, *]) rfl ⟨by rw [HR.out], below_new (below_set (below_set G0.out.2.2 (Nat.le_refl _) _) (Nat.le_refl _) _) _⟩
    | true =>
      rw [p1] at HE CA
      clear p1
      cases p2 : plainOk (cutR s.data.toList 47) with
      | false =>
        rw [p2] at HE CB
        clear p2
        have HR := Lib.hid (show E = fracVal 0 0 4 by rw [HE.out]; simp)
        clear HE
        have CA := Lib.hid CA; have CB := Lib.hid CB
        go_enter Tryd.func10, Tryd.ntmps10
        go_wp2_with fail
        refine (lib_Cut s 47 _ (by omega)).mono ?_
        rw [hc]
        rintro e w1 ⟨rfl, hdr⟩
        clear hc
        have g0 : w.heap.size < w1.heap.size ∧ At w1 w.heap.size (.cells #[.int .i64 0, .int .i64 0] 23) ∧ Below w.heap.size w w1 := by
          obtain ⟨q, rfl⟩ := hdr
          exact ⟨by simp, (At.new w _).drewN q, by (repeat' (first | exact Below.refl _ _ | assumption | refine Below.drew ?_ | refine below_drewN ?_ _ | refine below_new ?_ _ | refine below_set ?_ ?_ _ | refine below_then ?_ (by assumption) | refine below_drawn ?_ (by assumption) | exact Nat.le_refl _ | omega | (simp; done) | (simp; omega)))⟩
        have G0 := Lib.hid g0
        clear g0 hdr
        go_wp2_with fail
        refine (CA.out w1).mono ?_
        rintro e w' ⟨rfl, rfl⟩
        go_wp2_with fail
        refine (CB.out w1).mono ?_
        rintro e w' ⟨rfl, rfl⟩
        have r0 : RdAt w w1.heap.size n d (w1.alloc (.cells #[.int .i64 n, .int .i64 d] 23)) := ⟨G0.out.1, G0.out.2.1.alloc _, At.new _ _, below_new G0.out.2.2 _⟩
        have y0 := G0.out.2.1.cell 0; have y1 := G0.out.2.1.cell 1; have g0 := G0.out.2.1.frozen 0; have g1 := G0.out.2.1.frozen 1; simp at y0 y1
        have z4 := r0.1
        have R4 := Lib.hid r0; clear r0
        go_wp2_with fail
        exact bodyPost_ret (v := fracVal 0 0 4) (by simp [results, Tryd.results10, go_sem, fracVal, *]) rfl ⟨by rw [HR.out], below_new (below_set (below_set G0.out.2.2 (Nat.le_refl _) _) (Nat.le_refl _) _) _⟩
      | true =>
        rw [p2] at HE CB
        clear p2
        have CA := Lib.hid CA; have CB := Lib.hid CB
        by_cases hgt : 1 < d
        · rw [decide_eq_true hgt] at HE
          go_enter Tryd.func10, Tryd.ntmps10
          go_wp2_with fail
          refine (lib_Cut s 47 _ (by omega)).mono ?_
          rw [hc]
          rintro e w1 ⟨rfl, hdr⟩
          clear hc
          have g0 : w.heap.size < w1.heap.size ∧ At w1 w.heap.size (.cells #[.int .i64 0, .int .i64 0] 23) ∧ Below w.heap.size w w1 := by
            obtain ⟨q, rfl⟩ := hdr
            exact ⟨by simp, (At.new w _).drewN q, by (repeat' (first | exact Below.refl _ _ | assumption | refine Below.drew ?_ | refine below_drewN ?_ _ | refine below_new ?_ _ | refine below_set ?_ ?_ _ | refine below_then ?_ (by assumption) | refine below_drawn ?_ (by assumption) | exact Nat.le_refl _ | omega | (simp; done) | (simp; omega)))⟩
          have G0 := Lib.hid g0
          clear g0 hdr
          go_wp2_with fail
          refine (CA.out w1).mono ?_
          rintro e w' ⟨rfl, rfl⟩
          go_wp2_with fail
          refine (CB.out w1).mono ?_
          rintro e w' ⟨rfl, rfl⟩
          go_wp2_with fail
          have r0 : RdAt w w1.heap.size n d (w1.alloc (.cells #[.int .i64 n, .int .i64 d] 23)) := ⟨G0.out.1, G0.out.2.1.alloc _, At.new _ _, below_new G0.out.2.2 _⟩
          obtain ⟨b, hbz⟩ : ∃ b, b = w1.heap.size := ⟨_, rfl⟩
          rw [← hbz] at r0
          have HZ := Lib.hid hbz; clear hbz
          generalize World.alloc w1 _ = W1 at r0 ⊢
          try rw [← HZ.out]
          rcases Bool.eq_false_or_eq_true (fracOk n d) with hk | hk
          · have HR := Lib.hid (show E = fracVal n d 0 by rw [HE.out, hk]; simp)
            refine (ref_FracOK n d _ n1 n2 d1 d2).mono ?_
            rw [hk]
            rintro e w4 ⟨rfl, hb⟩
            have r4 := r0.step hb
            clear hk hb r0
            obtain ⟨x0, x1, f0, f1, y0, y1, g0, g1⟩ := r4.cells
            obtain ⟨z2, z3⟩ := r4.size
            have z4 := r4.1
            have R4 := Lib.hid r4; clear r4
            go_wp2_with fail
            exact bodyPost_ret (v := fracVal n d 0) (by simp [results, Tryd.results10, go_sem, fracVal, *]) rfl ⟨by rw [HR.out], below_set (below_set R4.out.2.2.2 (Nat.le_refl _) _) (Nat.le_refl _) _⟩
          · have HR := Lib.hid (show E = fracVal 0 0 4 by rw [HE.out, hk]; simp)
            refine (ref_FracOK n d _ n1 n2 d1 d2).mono ?_
            rw [hk]
            rintro e w4 ⟨rfl, hb⟩
            have r4 := r0.step hb
            clear hk hb r0
            obtain ⟨x0, x1, f0, f1, y0, y1, g0, g1⟩ := r4.cells
            obtain ⟨z2, z3⟩ := r4.size
            have z4 := r4.1
            have R4 := Lib.hid r4; clear r4
            go_wp2_with fail
            exact bodyPost_ret (v := fracVal 0 0 4) (by simp [results, Tryd.results10, go_sem, fracVal, *]) rfl ⟨by rw [HR.out], below_set (below_set R4.out.2.2.2 (Nat.le_refl _) _) (Nat.le_refl _) _⟩
        · rw [decide_eq_false hgt] at HE
          have HR := Lib.hid (show E = fracVal 0 0 4 by rw [HE.out]; simp)
          clear HE
          have hle : d ≤ 1 := by omega
          clear hgt
          go_enter Tryd.func10, Tryd.ntmps10
          go_wp2_with fail
          refine (lib_Cut s 47 _ (by omega)).mono ?_
          rw [hc]
          rintro e w1 ⟨rfl, hdr⟩
          clear hc
          have g0 : w.heap.size < w1.heap.size ∧ At w1 w.heap.size (.cells #[.int .i64 0, .int .i64 0] 23) ∧ Below w.heap.size w w1 := by
            obtain ⟨q, rfl⟩ := hdr
            exact ⟨by simp, (At.new w _).drewN q, by (repeat' (first | exact Below.refl _ _ | assumption | refine Below.drew ?_ | refine below_drewN ?_ _ | refine below_new ?_ _ | refine below_set ?_ ?_ _ | refine below_then ?_ (by assumption) | refine below_drawn ?_ (by assumption) | exact Nat.le_refl _ | omega | (simp; done) | (simp; omega)))⟩
          have G0 := Lib.hid g0
          clear g0 hdr
          go_wp2_with fail
          refine (CA.out w1).mono ?_
          rintro e w' ⟨rfl, rfl⟩
          go_wp2_with fail
          refine (CB.out w1).mono ?_
          rintro e w' ⟨rfl, rfl⟩
          have r0 : RdAt w w1.heap.size n d (w1.alloc (.cells #[.int .i64 n, .int .i64 d] 23)) := ⟨G0.out.1, G0.out.2.1.alloc _, At.new _ _, below_new G0.out.2.2 _⟩
          have y0 := G0.out.2.1.cell 0; have y1 := G0.out.2.1.cell 1; have g0 := G0.out.2.1.frozen 0; have g1 := G0.out.2.1.frozen 1; simp at y0 y1
          have z4 := r0.1
          have R4 := Lib.hid r0; clear r0
          go_wp2_with fail
          exact bodyPost_ret (v := fracVal 0 0 4) (by simp [results, Tryd.results10, go_sem, fracVal, *]) rfl ⟨by rw [HR.out], below_new (below_set (below_set G0.out.2.2 (Nat.le_refl _) _) (Nat.le_refl _) _) _⟩
end Go.Proofs.YtfbmlbenffkpfabDoor
