/- Contract of the reference's LengthRead. -/
import Derived.Test.YtlpbaljoanfogabDoorSpn4
import Derived.Test.YtlpbaljoanfogabDoorTxt2
import Derived.Test.YtlpbaljoanfogabDoorLaySplit
import Derived.Test.YtlpbaljoanfogabDoorTail
namespace Go.Proofs.YtlpbaljoanfogabDoor
set_option linter.unusedVariables false
set_option linter.unusedSimpArgs false
set_option maxRecDepth 100000
open Go.RowKit Go.Shelf

abbrev wdO (l : List (List UInt8)) : Obj := .cells (l.map strV).toArray 9
theorem pcs_strs (c : UInt8) (t : ByteArray) : (pcs ⟨#[c]⟩ t).map Value.string = (spl c t.data.toList).map strV := by
  rw [← pcs_spl, List.map_map]
  refine List.map_congr_left fun x _ => ?_
  show Value.string x = .string ⟨x.data.toList.toArray⟩
  simp
theorem pcs_count (c : UInt8) (t : ByteArray) : (spl c t.data.toList).length = Lib.countB t ⟨#[c]⟩ + 1 := by
  have h := Lib.splitB_all ⟨#[c]⟩ (show 1 ≤ (⟨#[c]⟩ : ByteArray).size from Nat.le_refl 1) 0 (Lib.count t.data.toList [c]) t (by simp [Lib.countB])
  have h2 := congrArg List.length (pcs_spl c t)
  rw [List.length_map] at h2
  rw [← h2]
  exact h
theorem lib_Split32 (S : List UInt8) (W : World) (m : Int) (hm : W.cell? ⟨6, 0, none⟩ = some (.int .i64 m)) (hS : S.length ≤ 4294960000) :
    Calls Tryd.prog 24 #[.string ⟨S.toArray⟩, .string ⟨#[32]⟩] W fun e w' => e = .returned (.slice (some ⟨W.heap.size, 0, none⟩) (spl 32 S).length (spl 32 S).length) ∧ w' = W.alloc (wdO (spl 32 S)) := by
  have hz : (⟨S.toArray⟩ : ByteArray).size = S.length := by show S.toArray.size = _; simp
  have h1 := Any.strings_Split { Tryd.laysLaysMn146 with } Tryd.laysLaysMn146.i9 ⟨S.toArray⟩ ⟨#[32]⟩ m W (by rw [hz]; omega) hm (by decide)
  have e1 := pcs_count 32 ⟨S.toArray⟩
  have e2 := pcs_strs 32 ⟨S.toArray⟩
  rw [show (⟨S.toArray⟩ : ByteArray).data.toList = S from by simp] at e1 e2
  rw [← e1, show (Lib.splitB ⟨#[32]⟩ 0 (Lib.countB ⟨S.toArray⟩ ⟨#[32]⟩) ⟨S.toArray⟩).map Value.string = (spl 32 S).map strV from e2] at h1
  exact h1
theorem wd_cell {w : World} {T : Nat} {l : List (List UInt8)} (h : At w T (wdO l)) {j : Nat} {t : List UInt8} (hj : l[j]? = some t) : w.cell? ⟨T, j, none⟩ = some (.string ⟨t.toArray⟩) := by
  rw [At.cell h j]
  simp [hj, strV]
/-- The number of the unit among the first j. -/
def idxT (U : List UInt8) : Nat → Int
  | 0 => -1
  | j + 1 => if unK j = U then (j : Int) else idxT U j
theorem idxT_all (U : List UInt8) : idxT U 4 = idxK U := by
  unfold idxK
  simp only [idxT]
  have e : ∀ {a b : List UInt8} {x y : Int}, (if a = b then x else y) = if b = a then x else y := fun {a b x y} => by
    by_cases h : a = b
    · rw [if_pos h, if_pos h.symm]
    · rw [if_neg h, if_neg fun e => h e.symm]
  show (if unK 3 = U then ((3 : Nat) : Int) else if unK 2 = U then ((2 : Nat) : Int) else if unK 1 = U then ((1 : Nat) : Int) else if unK 0 = U then ((0 : Nat) : Int) else -1) = _
  rw [e, e (a := unK 2), e (a := unK 1), e (a := unK 0)]
  rfl
def LR2 (r : Option (Nat → Int)) (e : Ending) : Prop := match r with
  | none => e = .returned (.tuple #[.agg (lenV zeroV), .bool false])
  | some y => e = .returned (.tuple #[.agg (lenV y), .bool (okLen y)])
def LR1 (S : List UInt8) (e : Ending) : Prop := if S = [48, 100] then e = .returned (.tuple #[.agg (lenV zeroV), .bool true]) else LR2 (refV (-1) zeroV (spl 32 S)) e
abbrev unO : Obj := .cells #[.string ⟨#[121]⟩, .string ⟨#[109]⟩, .string ⟨#[100]⟩, .string ⟨#[109, 115]⟩] 9
abbrev zeO : Obj := .cells #[.int .i64 0, .int .i64 0, .int .i64 0, .int .i64 0] 23
abbrev arZ : Obj := .cells #[.int .i64 0, .int .i64 0, .int .i64 0, .int .i64 0] 56
abbrev arO (v : Nat → Int) : Obj := .cells #[.int .i64 (v 0), .int .i64 (v 1), .int .i64 (v 2), .int .i64 (v 3)] 56
theorem at_setA {W : World} {b : Nat} {v : Nat → Int} (h : At W b (arO v)) (n : Int) : At (W.setCell ⟨b, 0, none⟩ (.int .i64 n)) b (arO (setK v 0 n)) ∧ At (W.setCell ⟨b, 1, none⟩ (.int .i64 n)) b (arO (setK v 1 n)) ∧ At (W.setCell ⟨b, 2, none⟩ (.int .i64 n)) b (arO (setK v 2 n)) ∧ At (W.setCell ⟨b, 3, none⟩ (.int .i64 n)) b (arO (setK v 3 n)) :=
  ⟨h.store 0 _, h.store 1 _, h.store 2 _, h.store 3 _⟩
def LR3 (v : Nat → Int) (w : World) (G : Nat) (W : World) : Prop := At W G (.cells #[.int .i64 (v 0), .int .i64 (v 1), .int .i64 (v 2), .int .i64 (v 3)] 23) ∧ At W w.heap.size zeO ∧ Below w.heap.size w W
theorem LR3.drew {v : Nat → Int} {w W : World} {G : Nat} (h : LR3 v w G W) : LR3 v w G W.drew := ⟨h.1.drew, h.2.1.drew, h.2.2.drew⟩
theorem LR3.then_ {v : Nat → Int} {w W W' : World} {G : Nat} (h : LR3 v w G W) (hb : Below W.heap.size W W') : LR3 v w G W' := ⟨h.1.then_ hb, h.2.1.then_ hb, below_then h.2.2 hb⟩
set_option maxHeartbeats 4000000 in
theorem ref_LengthReadZ (w : World) :
    Calls Tryd.prog 10 #[.string ⟨#[48, 100]⟩] w fun e w' => e = .returned (.tuple #[.agg (lenV zeroV), .bool true]) ∧ Below w.heap.size w w' := by
  have o0 := One.new w zeO
  go_enter Tryd.func10, Tryd.ntmps10
  go_upto_region 1 with fail
  generalize World.alloc w _ = W0 at o0 ⊢
  have O0 := Lib.hid o0
  have o1 := o0.1
  clear o0
  have d0 := o1.cell 0; have d1 := o1.cell 1; have d2 := o1.cell 2; have d3 := o1.cell 3; simp at d0 d1 d2 d3
  have f0 := o1.frozen 0; have f1 := o1.frozen 1; have f2 := o1.frozen 2; have f3 := o1.frozen 3
  have hl := o1.lt
  clear o1
  go_wp2_with fail
  have AF := O0.out.1.storeL4 (.int .i64 0) (.int .i64 0) (.int .i64 0) (.int .i64 0)
  have BF := Lib.hid (below_setL4 (p := w.heap.size) O0.out.2 (Nat.le_refl _) (.int .i64 0) (.int .i64 0) (.int .i64 0) (.int .i64 0))
  clear d0 d1 d2 d3 f0 f1 f2 f3
  generalize World.setCell (World.setCell _ _ _) _ _ = W3 at AF BF ⊢
  have y0 := AF.cell 0; have y1 := AF.cell 1; have y2 := AF.cell 2; have y3 := AF.cell 3; simp at y0 y1 y2 y3
  exact bodyPost_ret (v := .tuple #[.agg #[.int .i64 0, .int .i64 0, .int .i64 0, .int .i64 0], .bool true]) (by simp [results, Tryd.results10, go_sem, y0, y1, y2, y3]) rfl ⟨rfl, BF.out⟩
set_option maxHeartbeats 8000000 in
theorem ref_LengthReadN (S : List UInt8) (w : World) (m : Int) (hm : w.cell? ⟨6, 0, none⟩ = some (.int .i64 m)) (hS : S.length ≤ 4294960000) (h0 : S ≠ [48, 100]) :
    Calls Tryd.prog 10 #[.string ⟨S.toArray⟩] w fun e w' => LR2 (refV (-1) zeroV (spl 32 S)) e ∧ Below w.heap.size w w' := by
  have hgm := World.block_lt_of_cell? _ _ hm
  have CS := Lib.hid (fun (W : World) (hW : Below w.heap.size w W) => lib_Split32 S W m ((hW.cell (p := ⟨6, 0, none⟩) hgm).trans hm) hS)
  obtain ⟨ws, hws⟩ : ∃ ws, ws = spl 32 S := ⟨_, rfl⟩
  have HSZ := Lib.hid (show ∀ t ∈ ws, t.length ≤ 4294960000 by rw [hws]; exact fun t ht => Nat.le_trans (spl_size 32 S t ht) hS)
  obtain ⟨N, hN⟩ : ∃ N, N = ws.length := ⟨_, rfl⟩
  have hNS : N ≤ 4294960001 := by
    rw [hN, hws]
    have := spl_len 32 S
    omega
  rw [← hws, ← hN] at CS
  have HN := Lib.hid hN
  rw [← hws]
  obtain ⟨RV, hRV⟩ : ∃ r, r = refV (-1) zeroV ws := ⟨_, rfl⟩
  rw [← hRV]
  have HRV := Lib.hid hRV
  clear hm hgm hws hN hRV
  have d0 : (S == [48, 100]) = false := by simpa using h0
  clear h0
  have o0 := At.new w zeO
  have o1 := At.new (w.alloc zeO) arZ
  rw [World.size_alloc] at o1
  have b1 : Below w.heap.size w ((w.alloc zeO).alloc arZ) := below_new (below_new (Below.refl _ _) _) _
  have o2 := o0.alloc arZ
  clear o0
  go_enter Tryd.func10, Tryd.ntmps10
  go_upto_region 5 with fail
  (try rw [World.size_alloc])
  generalize World.alloc (World.alloc w _) _ = W1 at o1 o2 b1 ⊢
  have O0 := Lib.hid o2
  have O1 := Lib.hid o1
  have B1 := Lib.hid b1
  clear o1 o2 b1 d0
  go_wp2_with fail
  refine (CS.out W1 B1.out).mono ?_
  rintro e w2 ⟨rfl, rfl⟩
  obtain ⟨T, hT⟩ : ∃ T, T = W1.heap.size := ⟨_, rfl⟩
  have wt := At.new W1 (wdO ws)
  have O0' := Lib.hid (O0.out.alloc (wdO ws))
  have O1' := Lib.hid (O1.out.alloc (wdO ws))
  have B1' := Lib.hid (below_new B1.out (wdO ws))
  have hT0 : w.heap.size + 1 < T := by rw [hT]; exact O1.out.lt
  rw [← hT] at wt ⊢
  generalize World.alloc W1 _ = W2 at wt O0' O1' B1' ⊢
  have WT := Lib.hid wt
  clear hT wt O0 O1 B1 CS
  go_wp2_with fail
  go_loopw [5, 21] (fun a i wr => ∃ (j : Nat) (at' : Int) (v : Nat → Int), j ≤ N ∧ a = .int .i64 at' ∧ i = .int .i64 j ∧ -1 ≤ at' ∧ at' ≤ 3 ∧ At wr (w.heap.size + 1) (arO v) ∧ At wr w.heap.size zeO ∧ At wr T (wdO ws) ∧ Below w.heap.size w wr ∧ RV = refV at' v (ws.drop j)) (fun a i _ => N - (intOf i).toNat)
  case atStart => exact ⟨0, -1, zeroV, by omega, rfl, rfl, by omega, by omega, O1'.out, O0'.out, WT.out, B1'.out, HRV.out⟩
  case round =>
    clear O1' O0' WT B1' HRV
    obtain ⟨j, at', v, hj, rfl, rfl, t1, t2, h1, h2, h3, h4, h5⟩ := hrel
    have A1 := Lib.hid h1; have A2 := Lib.hid h2; have A3 := Lib.hid h3; have A4 := Lib.hid h4
    by_cases hlt : j < N
    · obtain ⟨X, hX⟩ : ∃ X, ws[j]? = some X := ⟨ws[j]'(by rw [← HN.out]; exact hlt), List.getElem?_eq_getElem _⟩
      have hdr : ws.drop j = X :: ws.drop (j + 1) := by
        obtain ⟨hj', e⟩ := List.getElem?_eq_some_iff.1 hX
        rw [← e]; exact List.drop_eq_getElem_cons hj'
      rw [hdr, refV] at h5
      have xw := wd_cell h3 hX
      have hXl := HSZ.out X (List.mem_of_getElem? hX)
      have hlT := h3.lt
      obtain ⟨U, hU⟩ : ∃ U, U = unitW X := ⟨_, rfl⟩
      obtain ⟨D, hD⟩ : ∃ D, D = Lib.trimSuffix X U := ⟨_, rfl⟩
      rw [← hU, ← hD] at h5
      have H5 := Lib.hid h5
      have CTL := Lib.hid (fun W : World => show Calls Tryd.prog 25 #[.string ⟨X.toArray⟩, .string ⟨#[45, 48, 49, 50, 51, 52, 53, 54, 55, 56, 57]⟩] W (fun e w' => e = .returned (.string ⟨U.toArray⟩) ∧ Below W.heap.size W w') from by rw [hU]; exact lib_TrimLeftD ⟨X.toArray⟩ W)
      have CTS := Lib.hid (fun W : World => show Calls Tryd.prog 20 #[.string ⟨X.toArray⟩, .string ⟨U.toArray⟩] W (fun e w' => e = .returned (.string ⟨D.toArray⟩) ∧ w' = W) from by rw [hD]; exact Any.strings_TrimSuffix Tryd.laysn102 ⟨X.toArray⟩ ⟨U.toArray⟩ W (by show X.toArray.size ≤ _; simp; omega))
      have hDl : D.length ≤ X.length := by rw [hD]; unfold Lib.trimSuffix; split <;> simp
      obtain ⟨pn, hpn⟩ : ∃ q, q = Num.plainNum D := ⟨_, rfl⟩
      obtain ⟨pk, hpk⟩ : ∃ q, q = Num.plainOk D := ⟨_, rfl⟩
      have CPL := Lib.hid (fun W : World => show Calls Tryd.prog 26 #[.string ⟨D.toArray⟩] W (fun e w' => e = .returned (.tuple #[.int .i64 pn, .bool pk]) ∧ W = w') from by rw [hpn, hpk]; exact ref_Plain ⟨D.toArray⟩ W (by show D.toArray.size ≤ _; simp; omega))
      rw [← hpn, ← hpk] at H5
      obtain ⟨K, hK⟩ : ∃ K, K = idxK U := ⟨_, rfl⟩
      have hKg := idxK_ge U
      rw [← hK] at H5 hKg
      have HKU := Lib.hid hK
      clear h1 h2 h3 h4 h5 hX hdr hU hD hpn hpk hXl hDl hK
      go_wp2_with (go_at_call 25; refine (CTL.out _).mono ?_; rintro e w4 ⟨rfl, hb4⟩)
      have B4 := Lib.hid (below_then A4.out hb4)
      have B5 := Lib.hid (below_new B4.out unO)
      have C1 := Lib.hid ((A1.out.then_ hb4).alloc unO)
      have C2 := Lib.hid ((A2.out.then_ hb4).alloc unO)
      have C3 := Lib.hid ((A3.out.then_ hb4).alloc unO)
      have n0 := At.new w4 unO
      obtain ⟨Q, hQ⟩ : ∃ Q, Q = w4.heap.size := ⟨_, rfl⟩
      rw [← hQ] at n0 ⊢
      clear hb4 A1 A2 A3 A4 hQ xw B4 CTL
      have l0 := n0.lt
      have e0 := n0.cell 0; have e1 := n0.cell 1; have e2 := n0.cell 2; have e3 := n0.cell 3
      simp at e0 e1 e2 e3
      generalize World.alloc w4 _ = W5 at n0 l0 e0 e1 e2 e3 B5 C1 C2 C3 ⊢
      clear n0
      go_loopw [9, 29] (fun k i wx => ∃ (n : Nat) (p : Int), p = (n : Int) ∧ n ≤ 4 ∧ k = .int .i64 (idxT U n) ∧ i = .int .i64 p ∧ wx = W5) (fun k i _ => 4 - (intOf i).toNat)
      case atStart => exact ⟨0, 0, rfl, by omega, rfl, rfl, rfl⟩
      case round =>
        obtain ⟨n, p, hp, hn, rfl, rfl, hwx⟩ := hrel
        subst hwx
        by_cases hn4 : n < 4
        · rcases (show n = 0 ∨ n = 1 ∨ n = 2 ∨ n = 3 by omega) with rfl | rfl | rfl | rfl
          · obtain rfl : p = 0 := by omega
            clear hn4 hp hn
            by_cases hu : ([121] : List UInt8) = U
            · have du : (([121] : List UInt8) == U) = true := by simpa using hu
              have HI := Lib.hid (show idxT U 1 = 0 from if_pos hu)
              clear hu
              go_wp2_with fail
              go_roundw
              case rel => exact ⟨1, 1, rfl, by omega, by rw [HI.out], (by first | rfl | go_num), (by first | rfl | trivial)⟩
              case measure => simp [intOf]
            · have du : (([121] : List UInt8) == U) = false := by simpa using hu
              have HI := Lib.hid (show idxT U 1 = idxT U 0 from if_neg hu)
              clear hu
              go_wp2_with fail
              go_roundw
              case rel => exact ⟨1, 1, rfl, by omega, by rw [HI.out], (by first | rfl | go_num), (by first | rfl | trivial)⟩
              case measure => simp [intOf]
          · obtain rfl : p = 1 := by omega
            clear hn4 hp hn
            by_cases hu : ([109] : List UInt8) = U
            · have du : (([109] : List UInt8) == U) = true := by simpa using hu
              have HI := Lib.hid (show idxT U 2 = 1 from if_pos hu)
              clear hu
              go_wp2_with fail
              go_roundw
              case rel => exact ⟨2, 2, rfl, by omega, by rw [HI.out], (by first | rfl | go_num), (by first | rfl | trivial)⟩
              case measure => simp [intOf]
            · have du : (([109] : List UInt8) == U) = false := by simpa using hu
              have HI := Lib.hid (show idxT U 2 = idxT U 1 from if_neg hu)
              clear hu
              go_wp2_with fail
              go_roundw
              case rel => exact ⟨2, 2, rfl, by omega, by rw [HI.out], (by first | rfl | go_num), (by first | rfl | trivial)⟩
              case measure => simp [intOf]
          · obtain rfl : p = 2 := by omega
            clear hn4 hp hn
            by_cases hu : ([100] : List UInt8) = U
            · have du : (([100] : List UInt8) == U) = true := by simpa using hu
              have HI := Lib.hid (show idxT U 3 = 2 from if_pos hu)
              clear hu
              go_wp2_with fail
              go_roundw
              case rel => exact ⟨3, 3, rfl, by omega, by rw [HI.out], (by first | rfl | go_num), (by first | rfl | trivial)⟩
              case measure => simp [intOf]
            · have du : (([100] : List UInt8) == U) = false := by simpa using hu
              have HI := Lib.hid (show idxT U 3 = idxT U 2 from if_neg hu)
              clear hu
              go_wp2_with fail
              go_roundw
              case rel => exact ⟨3, 3, rfl, by omega, by rw [HI.out], (by first | rfl | go_num), (by first | rfl | trivial)⟩
              case measure => simp [intOf]
          · obtain rfl : p = 3 := by omega
            clear hn4 hp hn
            by_cases hu : ([109, 115] : List UInt8) = U
            · have du : (([109, 115] : List UInt8) == U) = true := by simpa using hu
              have HI := Lib.hid (show idxT U 4 = 3 from if_pos hu)
              clear hu
              go_wp2_with fail
              go_roundw
              case rel => exact ⟨4, 4, rfl, by omega, by rw [HI.out], (by first | rfl | go_num), (by first | rfl | trivial)⟩
              case measure => simp [intOf]
            · have du : (([109, 115] : List UInt8) == U) = false := by simpa using hu
              have HI := Lib.hid (show idxT U 4 = idxT U 3 from if_neg hu)
              clear hu
              go_wp2_with fail
              go_roundw
              case rel => exact ⟨4, 4, rfl, by omega, by rw [HI.out], (by first | rfl | go_num), (by first | rfl | trivial)⟩
              case measure => simp [intOf]
        · obtain rfl : n = 4 := by omega
          obtain rfl : p = 4 := by omega
          rw [idxT_all, ← HKU.out]
          clear hn4 hp hn e0 e1 e2 e3 l0 HKU
          have a1 := C1.out
          have hl1 := a1.lt
          clear a1
          by_cases hA : K ≤ at'
          · have HR := Lib.hid (H5.out.trans (if_pos (.inl hA)))
            have z0 := C2.out.frozen 0; have z1 := C2.out.frozen 1; have z2 := C2.out.frozen 2; have z3 := C2.out.frozen 3
            have y0 := C2.out.cell 0; have y1 := C2.out.cell 1; have y2 := C2.out.cell 2; have y3 := C2.out.cell 3
            simp at y0 y1 y2 y3
            have hl2 := C2.out.lt
            go_wp2_with (first | (go_at_call 20; refine (CTS.out _).mono ?_; rintro e w6 ⟨rfl, rfl⟩) | (go_at_call 26; refine (CPL.out _).mono ?_; rintro e w6 ⟨rfl, rfl⟩))
            have AF := C2.out.storeL4 (.int .i64 0) (.int .i64 0) (.int .i64 0) (.int .i64 0)
            have BF := Lib.hid (below_setL4 (p := w.heap.size) B5.out (Nat.le_refl _) (.int .i64 0) (.int .i64 0) (.int .i64 0) (.int .i64 0))
            clear y0 y1 y2 y3 z0 z1 z2 z3
            generalize World.setCell (World.setCell _ _ _) _ _ = W3 at AF BF ⊢
            have c0 := AF.cell 0; have c1 := AF.cell 1; have c2 := AF.cell 2; have c3 := AF.cell 3
            simp at c0 c1 c2 c3
            (try simp only [Exit.inBlock, Exit.then])
            exact bodyPost_ret (v := .tuple #[.agg #[.int .i64 0, .int .i64 0, .int .i64 0, .int .i64 0], .bool false]) (by simp [results, Tryd.results10, go_sem, c0, c1, c2, c3]) rfl ⟨by rw [HR.out]; rfl, BF.out⟩
          cases pk with
          | false =>
            have HR := Lib.hid (H5.out.trans (if_pos (.inr (.inl rfl))))
            have z0 := C2.out.frozen 0; have z1 := C2.out.frozen 1; have z2 := C2.out.frozen 2; have z3 := C2.out.frozen 3
            have y0 := C2.out.cell 0; have y1 := C2.out.cell 1; have y2 := C2.out.cell 2; have y3 := C2.out.cell 3
            simp at y0 y1 y2 y3
            have hl2 := C2.out.lt
            go_wp2_with (first | (go_at_call 20; refine (CTS.out _).mono ?_; rintro e w6 ⟨rfl, rfl⟩) | (go_at_call 26; refine (CPL.out _).mono ?_; rintro e w6 ⟨rfl, rfl⟩))
            have AF := C2.out.storeL4 (.int .i64 0) (.int .i64 0) (.int .i64 0) (.int .i64 0)
            have BF := Lib.hid (below_setL4 (p := w.heap.size) B5.out (Nat.le_refl _) (.int .i64 0) (.int .i64 0) (.int .i64 0) (.int .i64 0))
            clear y0 y1 y2 y3 z0 z1 z2 z3
            generalize World.setCell (World.setCell _ _ _) _ _ = W3 at AF BF ⊢
            have c0 := AF.cell 0; have c1 := AF.cell 1; have c2 := AF.cell 2; have c3 := AF.cell 3
            simp at c0 c1 c2 c3
            (try simp only [Exit.inBlock, Exit.then])
            exact bodyPost_ret (v := .tuple #[.agg #[.int .i64 0, .int .i64 0, .int .i64 0, .int .i64 0], .bool false]) (by simp [results, Tryd.results10, go_sem, c0, c1, c2, c3]) rfl ⟨by rw [HR.out]; rfl, BF.out⟩
          | true =>
            by_cases hC : pn = 0
            · have dC : (pn == 0) = true := by simpa using hC
              have HR := Lib.hid (H5.out.trans (if_pos (.inr (.inr hC))))
              clear hC
              have z0 := C2.out.frozen 0; have z1 := C2.out.frozen 1; have z2 := C2.out.frozen 2; have z3 := C2.out.frozen 3
              have y0 := C2.out.cell 0; have y1 := C2.out.cell 1; have y2 := C2.out.cell 2; have y3 := C2.out.cell 3
              simp at y0 y1 y2 y3
              have hl2 := C2.out.lt
              go_wp2_with (first | (go_at_call 20; refine (CTS.out _).mono ?_; rintro e w6 ⟨rfl, rfl⟩) | (go_at_call 26; refine (CPL.out _).mono ?_; rintro e w6 ⟨rfl, rfl⟩))
              have AF := C2.out.storeL4 (.int .i64 0) (.int .i64 0) (.int .i64 0) (.int .i64 0)
              have BF := Lib.hid (below_setL4 (p := w.heap.size) B5.out (Nat.le_refl _) (.int .i64 0) (.int .i64 0) (.int .i64 0) (.int .i64 0))
              clear y0 y1 y2 y3 z0 z1 z2 z3
              generalize World.setCell (World.setCell _ _ _) _ _ = W3 at AF BF ⊢
              have c0 := AF.cell 0; have c1 := AF.cell 1; have c2 := AF.cell 2; have c3 := AF.cell 3
              simp at c0 c1 c2 c3
              (try simp only [Exit.inBlock, Exit.then])
              exact bodyPost_ret (v := .tuple #[.agg #[.int .i64 0, .int .i64 0, .int .i64 0, .int .i64 0], .bool false]) (by simp [results, Tryd.results10, go_sem, c0, c1, c2, c3]) rfl ⟨by rw [HR.out]; rfl, BF.out⟩
            have dC : (pn == 0) = false := by simpa using hC
            have HR := Lib.hid (H5.out.trans (if_neg (fun h => h.elim hA fun h => h.elim (fun h => by cases h) hC)))
            clear hC
            rcases (show K = 0 ∨ K = 1 ∨ K = 2 ∨ K = 3 by omega) with rfl | rfl | rfl | rfl
            · have z0 := C1.out.frozen 0
              have y0 := C1.out.cell 0
              simp at y0
              go_wp2_with (first | (go_at_call 20; refine (CTS.out _).mono ?_; rintro e w6 ⟨rfl, rfl⟩) | (go_at_call 26; refine (CPL.out _).mono ?_; rintro e w6 ⟨rfl, rfl⟩))
              go_roundw
              case rel =>
                refine ⟨j + 1, 0, setK v 0 pn, by omega, rfl, by go_num, by omega, by omega, (at_setA C1.out pn).1, C2.out.apart (p := ⟨w.heap.size + 1, 0, none⟩) (by simp) _, C3.out.apart (p := ⟨w.heap.size + 1, 0, none⟩) (by simp; omega) _, below_set B5.out (by simp) _, HR.out⟩
              case measure => simp [intOf]; omega
            · have z0 := C1.out.frozen 1
              have y0 := C1.out.cell 1
              simp at y0
              go_wp2_with (first | (go_at_call 20; refine (CTS.out _).mono ?_; rintro e w6 ⟨rfl, rfl⟩) | (go_at_call 26; refine (CPL.out _).mono ?_; rintro e w6 ⟨rfl, rfl⟩))
              go_roundw
              case rel =>
                refine ⟨j + 1, 1, setK v 1 pn, by omega, rfl, by go_num, by omega, by omega, (at_setA C1.out pn).2.1, C2.out.apart (p := ⟨w.heap.size + 1, 1, none⟩) (by simp) _, C3.out.apart (p := ⟨w.heap.size + 1, 1, none⟩) (by simp; omega) _, below_set B5.out (by simp) _, HR.out⟩
              case measure => simp [intOf]; omega
            · have z0 := C1.out.frozen 2
              have y0 := C1.out.cell 2
              simp at y0
              go_wp2_with (first | (go_at_call 20; refine (CTS.out _).mono ?_; rintro e w6 ⟨rfl, rfl⟩) | (go_at_call 26; refine (CPL.out _).mono ?_; rintro e w6 ⟨rfl, rfl⟩))
              go_roundw
              case rel =>
                refine ⟨j + 1, 2, setK v 2 pn, by omega, rfl, by go_num, by omega, by omega, (at_setA C1.out pn).2.2.1, C2.out.apart (p := ⟨w.heap.size + 1, 2, none⟩) (by simp) _, C3.out.apart (p := ⟨w.heap.size + 1, 2, none⟩) (by simp; omega) _, below_set B5.out (by simp) _, HR.out⟩
              case measure => simp [intOf]; omega
            · have z0 := C1.out.frozen 3
              have y0 := C1.out.cell 3
              simp at y0
              go_wp2_with (first | (go_at_call 20; refine (CTS.out _).mono ?_; rintro e w6 ⟨rfl, rfl⟩) | (go_at_call 26; refine (CPL.out _).mono ?_; rintro e w6 ⟨rfl, rfl⟩))
              go_roundw
              case rel =>
                refine ⟨j + 1, 3, setK v 3 pn, by omega, rfl, by go_num, by omega, by omega, (at_setA C1.out pn).2.2.2, C2.out.apart (p := ⟨w.heap.size + 1, 3, none⟩) (by simp) _, C3.out.apart (p := ⟨w.heap.size + 1, 3, none⟩) (by simp; omega) _, below_set B5.out (by simp) _, HR.out⟩
              case measure => simp [intOf]; omega
    · obtain rfl : j = N := by omega
      rw [List.drop_eq_nil_of_le (by rw [HN.out]; exact Nat.le_refl _), refV] at h5
      have HR := Lib.hid h5
      have x0 := A1.out.cell 0; have x1 := A1.out.cell 1; have x2 := A1.out.cell 2; have x3 := A1.out.cell 3
      simp at x0 x1 x2 x3
      have hl1 := A1.out.lt
      clear h1 h2 h3 h4 h5
      go_upto_region 23 with fail
      have n7 := At.new wr (.cells #[.int .i64 (v 0), .int .i64 (v 1), .int .i64 (v 2), .int .i64 (v 3)] 23)
      have k7 := A2.out.alloc (.cells #[.int .i64 (v 0), .int .i64 (v 1), .int .i64 (v 2), .int .i64 (v 3)] 23)
      have b7 := below_new A4.out (.cells #[.int .i64 (v 0), .int .i64 (v 1), .int .i64 (v 2), .int .i64 (v 3)] 23)
      clear x0 x1 x2 x3 hl1 A1 A3
      obtain ⟨G, hG⟩ : ∃ G, G = wr.heap.size := ⟨_, rfl⟩
      have hGw : w.heap.size < G := by rw [hG]; exact A2.out.lt
      rw [← hG] at n7 ⊢
      generalize World.alloc wr _ = W7 at n7 k7 b7 ⊢
      clear hG A2 A4
      obtain ⟨ok, hok⟩ : ∃ q, q = okLen v := ⟨_, rfl⟩
      have CL := Lib.hid (fun W : World => show Calls Tryd.prog 6 #[.agg #[.int .i64 (v 0), .int .i64 (v 1), .int .i64 (v 2), .int .i64 (v 3)]] W (fun e w' => e = .returned (.bool ok) ∧ Below W.heap.size W w') from by rw [hok]; exact ref_LengthOK v W)
      have HOK := Lib.hid hok
      clear hok
      have K7 : LR3 v w G W7 := ⟨n7, k7, b7⟩
      clear n7 k7 b7
      (refine region_class_tail 3 (LR3 v w G) (by kernel_rfl) (by kernel_rfl) (K7.drew) ?_; simp only [List.take_succ_cons, List.take_zero, List.drop_succ_cons, List.drop_zero]; repeat ((first | (refine class_take ?_ (by rfl) ?_ ?_; rotate_left; focus (intro wq hq; ((have q0 := hq.1.cell 0; have q1 := hq.1.cell 1; have q2 := hq.1.cell 2; have q3 := hq.1.cell 3; simp at q0 q1 q2 q3)); go_simp; first | done | with_reducible rfl | ((go_at_call 6; (with_reducible refine (CL.out _).mono ?_); rintro e w' ⟨rfl, hb⟩; refine ⟨?_, hq.then_ hb⟩; with_reducible rfl)))) | refine class_skip (by rfl) ?_); try simp only [Act.put, List.setIfInBounds_toArray, List.set_cons_zero, List.set_cons_succ]))
      refine wpQuiet_nil ?_
      intro W8 hW8
      obtain ⟨g1, g2, g3⟩ := hW8
      have z0 := g2.frozen 0; have z1 := g2.frozen 1; have z2 := g2.frozen 2; have z3 := g2.frozen 3
      have y0 := g2.cell 0; have y1 := g2.cell 1; have y2 := g2.cell 2; have y3 := g2.cell 3
      simp at y0 y1 y2 y3
      have hl2 := g2.lt
      have HB := Lib.hid g3
      clear g1 g3 K7
      go_wp2_with fail
      have AF := g2.storeL4 (.int .i64 (v 0)) (.int .i64 (v 1)) (.int .i64 (v 2)) (.int .i64 (v 3))
      have BF := Lib.hid (below_setL4 (p := w.heap.size) HB.out (Nat.le_refl _) (.int .i64 (v 0)) (.int .i64 (v 1)) (.int .i64 (v 2)) (.int .i64 (v 3)))
      clear y0 y1 y2 y3 z0 z1 z2 z3 g2
      generalize World.setCell (World.setCell _ _ _) _ _ = W3 at AF BF ⊢
      have c0 := AF.cell 0; have c1 := AF.cell 1; have c2 := AF.cell 2; have c3 := AF.cell 3
      simp at c0 c1 c2 c3
      (try simp only [Exit.inBlock, Exit.then])
      exact bodyPost_ret (v := .tuple #[.agg #[.int .i64 (v 0), .int .i64 (v 1), .int .i64 (v 2), .int .i64 (v 3)], .bool ok]) (by simp [results, Tryd.results10, go_sem, c0, c1, c2, c3]) rfl ⟨by rw [HR.out, HOK.out]; rfl, BF.out⟩
/-- Both ways. -/
theorem ref_LengthRead (S : List UInt8) (w : World) (m : Int) (hm : w.cell? ⟨6, 0, none⟩ = some (.int .i64 m)) (hS : S.length ≤ 4294960000) :
    Calls Tryd.prog 10 #[.string ⟨S.toArray⟩] w fun e w' => LR1 S e ∧ Below w.heap.size w w' := by
  by_cases h0 : S = [48, 100]
  · subst h0
    refine (ref_LengthReadZ w).mono fun e w' h => ⟨?_, h.2⟩
    unfold LR1
    rw [if_pos rfl]
    exact h.1
  · refine (ref_LengthReadN S w m hm hS h0).mono fun e w' h => ⟨?_, h.2⟩
    unfold LR1
    rw [if_neg h0]
    exact h.1
end Go.Proofs.YtlpbaljoanfogabDoor
