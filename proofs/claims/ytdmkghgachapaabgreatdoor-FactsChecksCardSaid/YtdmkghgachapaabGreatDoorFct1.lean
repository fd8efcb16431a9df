import Derived.Test.YtdmkghgachapaabGreatDoorFct0
import Derived.Test.YtdmkghgachapaabGreatDoorObxS
namespace Go.Proofs.YtdmkghgachapaabGreatDoor
set_option linter.unusedVariables false
set_option linter.unusedSimpArgs false
set_option maxRecDepth 100000
open Go.RowKit Go.Shelf
abbrev regZ : Obj := .cells #[.slice none 0 0, .slice none 0 0] 45
theorem conv_New (w : World) : Calls Tryz.prog 6 #[] w fun e w' => e = .returned (.pointer (some ⟨w.heap.size, 0, none⟩)) ∧ w' = w.alloc regZ := by
  go_enter Tryz.func6, Tryz.ntmps6
  go_wp2_with fail
  go_ret
  exact ⟨rfl, rfl⟩
set_option maxHeartbeats 1000000 in
theorem clone_nilS (w : World) : Calls Tryz.prog 30 #[.slice none 0 0] w fun e w' => e = .returned (.slice none 0 0) ∧ w' = w := by
  have q22 : ∀ (w : World) (a : Option Addr) (n c n' c' : Nat), (binOp .eql 22 (.slice a n c) (.slice none n' c')).run Tryz.prog w = .ok (.bool a.isNone) w := fun w a n c n' c' => Lib.run_eql_slice_nil w _ _ a n c n' c' Tryz.underlying22
  go_enter Tryz.func30, Tryz.ntmps30
  go_wp2_with fail
  go_ret
  exact ⟨rfl, rfl⟩
set_option maxHeartbeats 1000000 in
theorem conv_Names (w : World) (b : Nat) (h : At w b regZ) : Calls Tryz.prog 13 #[.pointer (some ⟨b, 0, none⟩)] w fun e w' => e = .returned (.slice none 0 0) ∧ w' = w := by
  have x0 := h.cell 0
  simp at x0
  have hlt := h.lt
  go_enter Tryz.func13, Tryz.ntmps13
  go_wp2_with (go_at_call 30; refine (clone_nilS _).mono ?_; rintro e w' ⟨rfl, rfl⟩)
  go_ret
  exact ⟨rfl, rfl⟩
set_option maxHeartbeats 1000000 in
theorem facts_reserved (s : ByteArray) (w : World) : Calls Tryz.prog 16 #[.string s] w fun e w' => e = .returned (.bool (Lib.containsS resL s)) ∧ Below w.heap.size w w' := by
  have CC := Lib.hid (show Calls Tryz.prog 15 #[.slice (some ⟨w.heap.size, 0, none⟩) 6 6, .string s] (w.alloc (.cells (resL.map Value.string).toArray 9)) (fun e w' => e = .returned (.bool (Lib.containsS resL s)) ∧ w' = w.alloc (.cells (resL.map Value.string).toArray 9)) from
    Any.slices_Contains_string Tryz.laysn110 w.heap.size 0 6 6 resL s _ (by decide) (by omega) (fun j hj => by
      rw [At.cell (At.new w _)]
      match j, hj with
      | 0, _ => rfl
      | 1, _ => rfl
      | 2, _ => rfl
      | 3, _ => rfl
      | 4, _ => rfl
      | 5, _ => rfl
      | j + 6, hj => exact absurd hj (by simp [resL])))
  have hb := below_new (Below.refl w.heap.size w) (.cells (resL.map Value.string).toArray 9)
  go_enter Tryz.func16, Tryz.ntmps16
  go_wp2_with fail
  refine CC.out.mono ?_
  rintro e w' ⟨rfl, hw⟩
  rw [← hw] at hb
  clear hw CC
  go_wp2_with fail
  go_ret
  exact ⟨rfl, hb⟩
theorem names_str : namesBF.map Value.string = namesL.map strV := by
  unfold namesBF strV
  rw [List.map_map]; rfl
theorem names_txts {w : World} {g : Nat} (hg : g < w.heap.size) (hc : ∀ (j : Nat) (l : List UInt8), namesL[j]? = some l → w.cell? ⟨g, 0 + j, none⟩ = some (.string ⟨l.toArray⟩)) : TxtsX w w.heap.size (some ⟨g, 0, none⟩) 40 namesBF := by
  refine ⟨namesBF_len, by omega, fun _ => ⟨g, 0, rfl, hg, fun i x hx j v hv => ?_⟩⟩
  unfold namesBF at hx
  rw [List.getElem?_map, Option.map_eq_some_iff] at hx
  obtain ⟨l, hl, rfl⟩ := hx
  match j, hv with
  | 0, hv =>
    simp [encSX] at hv; subst hv
    have := hc i l hl
    simpa using this
  | j + 1, hv => simp [encSX] at hv
theorem txts_nil (w : World) (B : Nat) : TxtsX w B none 0 [] := ⟨rfl, by omega, fun h => absurd h (by omega)⟩
set_option maxHeartbeats 8000000 in
theorem facts_Check (w : World) (m : Int) (hm : w.cell? ⟨0, 0, none⟩ = some (.int .i64 m)) (hlv : Lvl w) (hsg : Sgn w) (RB : Nat) (hR : At w RB regZ) (a1 a2 a3 : Option Addr) (n1 n2 n3 c1 c2 c3 : Nat) (cs ts : List ByteArray) (fs : List Fst)
    (k1 : n1 ≤ c1) (m1 : c1 ≤ 9223372036854775807) (h1 : Strs w w.heap.size a1 n1 cs) (k2 : n2 ≤ c2) (m2 : c2 ≤ 9223372036854775807) (h2 : Strs w w.heap.size a2 n2 ts) (k3 : n3 ≤ c3) (m3 : c3 ≤ 9223372036854775807) (h3 : Feasts w w.heap.size a3 n3 fs) :
    Calls Tryz.prog 5 #[.pointer (some ⟨RB, 0, none⟩), .agg #[.slice a1 n1 c1, .slice a2 n2 c2, .slice a3 n3 c3]] w fun e w' => e = .returned (.int .i64 (planE cs ts fs)) ∧ Below w.heap.size w w' := by
  have FB := Lib.hid (fun (t : Fst) (ad : Option Addr) (n c : Nat) (h : FSub w w.heap.size t ad n) (hc : n ≤ c) (hm' : c ≤ 9223372036854775807) => show FBoth w t.kind t.va t.vb t.nm ad n c (fstErr t) from by
    cases t with
    | node k a b s ks => exact feast_both w m hm hlv hsg k a b s ks ad n c h hc hm')
  have S1 := Lib.hid (fun (W : World) (hW : Below w.heap.size w W) => h1.then_ hW)
  have H1 := Lib.hid h1; have H2 := Lib.hid h2; have H3 := Lib.hid h3
  have l1 := h1.1; have l2 := h2.1; have l3 := h3.1
  have z1 := h1.2.1; have z2 := h2.2.1; have z3 := h3.2.1
  have HPE := Lib.hid (show planE cs ts fs = if 8 < n1 ∨ 20 < n3 then 2 else if n2 ≠ n3 then 8 else if calsE cs 0 cs ≠ 0 then calsE cs 0 cs else if titE ts ≠ 0 then titE ts else feaE fs by unfold planE; rw [l1, l2, l3])
  have L1 := Lib.hid l1; have L2 := Lib.hid l2; have L3 := Lib.hid l3
  obtain ⟨PE, hPE⟩ : ∃ E, E = planE cs ts fs := ⟨_, rfl⟩
  rw [← hPE] at HPE ⊢
  clear hPE h1 h2 h3 l1 l2 l3 hm hlv hsg
  have HR := Lib.hid hR
  clear hR
  go_enter Tryz.func5, Tryz.ntmps5
  go_upto_region 1 with fail
  have t0 := At.new w (.cells #[.slice a1 n1 c1, .slice a2 n2 c2, .slice a3 n3 c3] 25)
  have b0 := below_new (Below.refl w.heap.size w) (.cells #[.slice a1 n1 c1, .slice a2 n2 c2, .slice a3 n3 c3] 25)
  generalize World.alloc w _ = W1 at t0 b0 ⊢
  have BX := Lib.hid t0; have BW := Lib.hid b0
  clear t0 b0
  have xb := BX.out
  have x0 := xb.cell 0; have x1 := xb.cell 1; have x2 := xb.cell 2
  simp at x0 x1 x2
  have xl := xb.lt
  clear xb
  by_cases h8 : 8 < n1
  · have HE := Lib.hid (show PE = 2 by rw [HPE.out, if_pos (.inl h8)])
    go_wp2_with fail
    go_ret
    exact ⟨by rw [HE.out]; rfl, BW.out⟩
  by_cases h20 : 20 < n3
  · have HE := Lib.hid (show PE = 2 by rw [HPE.out, if_pos (.inr h20)])
    go_wp2_with fail
    go_ret
    exact ⟨by rw [HE.out]; rfl, BW.out⟩
  by_cases h23 : n2 = n3
  case neg =>
    have HE := Lib.hid (show PE = 8 by rw [HPE.out, if_neg (by omega), if_pos h23])
    have hq : ((n2 : Int) == (n3 : Int)) = false := by rw [beq_eq_false_iff_ne]; omega
    have hq2 : ¬ (n2 : Int) = (n3 : Int) := by omega
    go_wp2_with fail
    go_ret
    exact ⟨by rw [HE.out]; rfl, BW.out⟩
  have HE := Lib.hid (show PE = if calsE cs 0 cs ≠ 0 then calsE cs 0 cs else if titE ts ≠ 0 then titE ts else feaE fs by rw [HPE.out, if_neg (by omega), if_neg (fun h => h h23)])
  have hq : (n2 : Int) = (n3 : Int) := by omega
  have hn1 : n1 ≤ 8 := by omega
  have hn3 : n3 ≤ 20 := by omega
  have hn2 : n2 ≤ 20 := by omega
  clear HPE h8 h20
  subst h23
  go_upto_region 5 with fail
  clear x0 x1 x2 xl
  go_wp2_with (go_at_call 13; refine (conv_Names _ RB (HR.out.then_ BW.out)).mono ?_; rintro e w' ⟨rfl, rfl⟩)
  refine (cat_Names _).mono ?_
  rintro e W2 ⟨v, rfl, hown, hb⟩
  obtain ⟨g, cn, rfl, hc40, hg, hcells⟩ := own_strs hown names_len (by omega)
  have TX := Lib.hid (names_txts hg hcells)
  have BX2 := Lib.hid (BX.out.then_ hb)
  have BW2 := Lib.hid (below_then BW.out hb)
  clear hown hb hcells hg BX BW
  go_wp2_with fail
  have t3 := At.new W2 (.cells #[.slice none 0 0, .slice (some ⟨g, 0, none⟩) 40 cn] 22)
  have b3 := below_new (Below.refl W2.heap.size W2) (.cells #[.slice none 0 0, .slice (some ⟨g, 0, none⟩) 40 cn] 22)
  obtain ⟨Z3, hZ3⟩ : ∃ Z, Z = W2.heap.size := ⟨_, rfl⟩
  rw [← hZ3] at t3 ⊢
  clear hZ3
  generalize World.alloc W2 _ = W3 at t3 b3 ⊢
  have BX3 := Lib.hid (BX2.out.then_ b3)
  have BW3 := Lib.hid (below_then BW2.out b3)
  refine (concat_strs W3 Z3 0 2 none (some ⟨g, 0, none⟩) 0 0 40 cn [] namesBF t3.lt (t3.cell 0) (t3.cell 1) (txts_nil _ _) (txts_thenX TX.out b3) (by omega) (by omega) (fun _ => rfl) (fun h => by cases h)).mono ?_
  rintro e W5 ⟨v, rfl, hown, hb⟩
  rw [List.nil_append, names_str] at hown
  obtain ⟨g5, cn5, rfl, hc5, hg5, hcells5⟩ := own_strs hown names_len (by omega)
  have BX5 := Lib.hid (BX3.out.then_ hb)
  have BW5 := Lib.hid (below_then BW3.out hb)
  have CN := Lib.hid (fun (s : ByteArray) (W : World) (hW : Below W5.heap.size W5 W) => show Calls Tryz.prog 15 #[.slice (some ⟨g5, 0, none⟩) (0 + 40) cn5, .string s] W (fun e w' => e = .returned (.bool (calKn s)) ∧ w' = W) from by
    have h := Any.slices_Contains_string Tryz.laysn110 g5 0 40 cn5 namesBF s W (by rw [namesBF_len]; omega) (by omega) (fun j hj => by
      rw [namesBF_len] at hj
      have hx := List.getElem?_eq_getElem (show j < namesL.length by rw [names_len]; exact hj)
      rw [(hW.cell (p := ⟨g5, 0 + j, none⟩) hg5).trans (hcells5 j _ hx), namesBF, List.getD_eq_getElem?_getD, List.getElem?_map, hx]; rfl)
    rw [namesBF_any] at h
    exact h)
  clear hown hb hcells5 hg5 TX BX2 BX3 BW2 BW3 t3 b3
  have BX := Lib.hid BX5.out; have BW := Lib.hid BW5.out
  clear BX5 BW5
  have xb := BX.out
  have x0 := xb.cell 0; have x1 := xb.cell 1; have x2 := xb.cell 2
  simp at x0 x1 x2
  have xl := xb.lt
  clear xb
  go_wp2_with fail
  clear x0 x1 x2 xl
  go_loopw [38] (fun i wr => ∃ k : Nat, k ≤ n1 ∧ i = .int .i64 k ∧ calsE cs k (cs.drop k) = calsE cs 0 cs ∧ Below W5.heap.size W5 wr) (fun i _ => n1 - (intOf i).toNat)
  case atStart => exact ⟨0, by omega, rfl, rfl, Below.refl _ _⟩
  case round =>
    obtain ⟨k, hk, rfl, hall, hbw⟩ := hrel
    have HA := Lib.hid hall
    have HB := Lib.hid hbw
    have BXr := Lib.hid (BX.out.then_ hbw)
    have BWr := Lib.hid (below_then BW.out hbw)
    clear hall hbw
    by_cases hlt : k < n1
    · obtain ⟨sb, so, s, rfl, hsb, hsc, hsx, hss⟩ := H1.out.get hlt
      have hst := (congrArg (calsE cs k) (dropF hsx)).symm.trans HA.out
      rw [calsE_cons] at hst
      have HST := Lib.hid hst
      have hsc2 := (BWr.out.cell (p := ⟨sb, so + k, none⟩) hsb).trans hsc
      have hsbr : sb < wr.heap.size := by have := BWr.out.size; omega
      clear hst hsc hsx HA
      have x0 := BXr.out.cell 0
      simp at x0
      have xl := BXr.out.lt
      by_cases hcal : calKn s = false
      · have HE5 := Lib.hid (show PE = 5 by rw [HE.out, ← HST.out, if_pos hcal]; rfl)
        go_wp2_with (go_at_call 15; refine (CN.out s _ HB.out).mono ?_; rw [hcal]; rintro e w' ⟨rfl, rfl⟩)
        go_ret
        exact ⟨by rw [HE5.out]; rfl, BWr.out⟩
      have hcal' : calKn s = true := by simpa using hcal
      have hs2 := HST.out
      rw [if_neg hcal] at hs2
      have CK := Lib.hid (lib_ContainsK wr _ n1 k c1 cs s (S1.out wr BWr.out) hk (by omega))
      by_cases htw : Lib.containsS (cs.take k) s = true
      · rw [if_pos htw] at hs2
        have HE7 := Lib.hid (show PE = 7 by rw [HE.out, ← hs2]; rfl)
        rw [htw] at CK
        clear hs2 htw hcal
        go_upto_region 9 with fail
        go_wp2_with (go_at_call 15; first | (refine (CN.out s _ HB.out).mono ?_; rw [hcal']; rintro e w' ⟨rfl, rfl⟩) | (refine CK.out.mono ?_; rintro e w' ⟨rfl, rfl⟩))
        go_ret
        exact ⟨by rw [HE7.out]; rfl, BWr.out⟩
      have htw' : Lib.containsS (cs.take k) s = false := by simpa using htw
      rw [if_neg htw] at hs2
      rw [htw'] at CK
      have HS2 := Lib.hid hs2
      have hrs := res_cal hcal'
      have CRS := Lib.hid (facts_reserved s wr)
      rw [hrs] at CRS
      clear hs2 htw htw' hrs HST hcal
      go_upto_region 9 with fail
      go_wp2_with (go_at_call 15; first | (refine (CN.out s _ HB.out).mono ?_; rw [hcal']; rintro e w' ⟨rfl, rfl⟩) | (refine CK.out.mono ?_; rintro e w' ⟨rfl, rfl⟩))
      refine CRS.out.mono ?_
      rintro e w9 ⟨rfl, hb9⟩
      have HB9 := Lib.hid (below_then HB.out hb9)
      clear hb9
      go_wp2_with fail
      go_roundw
      case rel => exact ⟨k + 1, by omega, by go_num, HS2.out, HB9.out⟩
      case measure => first | (simp [intOf]; done) | (simp [intOf]; omega)
    · have hdr : cs.drop k = [] := List.drop_eq_nil_of_le (by rw [L1.out]; omega)
      have h0 := HA.out
      rw [hdr] at h0
      have HE2 := Lib.hid (show PE = if titE ts ≠ 0 then titE ts else feaE fs by rw [HE.out, ← h0]; rfl)
      clear h0 hdr HA
      go_upto_region 14 with fail
      have x1 := BXr.out.cell 1
      simp at x1
      have xl := BXr.out.lt
      go_wp2_with fail
      clear x1 xl
      go_loopw [61] (fun i wx => ∃ k : Nat, k ≤ n2 ∧ i = .int .i64 k ∧ titE (ts.drop k) = titE ts ∧ wr = wx) (fun i _ => n2 - (intOf i).toNat)
      case atStart => exact ⟨0, by omega, rfl, rfl, rfl⟩
      case round =>
        obtain ⟨q, hq2, rfl, hall, hwx⟩ := hrel
        subst hwx
        have HA := Lib.hid hall
        clear hall
        by_cases hlq : q < n2
        · obtain ⟨sb, so, s, rfl, hsb, hsc, hsx, hss⟩ := H2.out.get hlq
          have hst := (congrArg titE (dropF hsx)).symm.trans HA.out
          rw [titE_cons] at hst
          have hsc2 := (BWr.out.cell (p := ⟨sb, so + q, none⟩) hsb).trans hsc
          have hsbr : sb < wr.heap.size := by have := BWr.out.size; omega
          clear hsc hsx HA
          by_cases hnm : isName s = false
          · rw [if_pos hnm] at hst
            have HE5 := Lib.hid (show PE = 5 by rw [HE2.out, ← hst]; rfl)
            clear hst
            go_wp2_with (go_at_call 17; refine (rule_IsName s _ hss).mono ?_; rw [hnm]; rintro e w' ⟨rfl, rfl⟩)
            go_ret
            exact ⟨by rw [HE5.out]; rfl, BWr.out⟩
          rw [if_neg hnm] at hst
          have HST := Lib.hid hst
          have hnm' : isName s = true := by simpa using hnm
          clear hst hnm
          go_wp2_with (go_at_call 17; refine (rule_IsName s _ hss).mono ?_; rw [hnm']; rintro e w' ⟨rfl, rfl⟩)
          go_roundw
          case rel => exact ⟨q + 1, by omega, by go_num, HST.out, by first | rfl | trivial⟩
          case measure => first | (simp [intOf]; done) | (simp [intOf]; omega)
        · have hdr : ts.drop q = [] := List.drop_eq_nil_of_le (by rw [L2.out]; omega)
          have h0 := HA.out
          rw [hdr] at h0
          have HE3 := Lib.hid (show PE = feaE fs by rw [HE2.out, ← h0]; rfl)
          clear h0 hdr HA
          go_upto_region 20 with fail
          have x2 := BXr.out.cell 2
          simp at x2
          have xl := BXr.out.lt
          go_wp2_with fail
          clear x2 xl
          go_loopw [72] (fun i wx => ∃ k : Nat, k ≤ n2 ∧ i = .int .i64 k ∧ feaE (fs.drop k) = feaE fs ∧ Below w.heap.size w wx) (fun i _ => n2 - (intOf i).toNat)
          case atStart => exact ⟨0, by omega, rfl, rfl, BWr.out⟩
          case round =>
            obtain ⟨r, hr2, rfl, hall, hwx⟩ := hrel
            have HA := Lib.hid hall
            have HBx := Lib.hid hwx
            clear hall hwx
            by_cases hlr : r < n2
            · obtain ⟨fb, fo, rfl, hfb, hrow⟩ := H3.out.2.2 (by omega)
              obtain ⟨t, ht⟩ : ∃ t, fs[r]? = some t := ⟨_, List.getElem?_eq_getElem (by rw [L3.out]; exact hlr)⟩
              obtain ⟨fa, fn, fc, hcell, hsub⟩ := FRow.get fs fb fo r t hrow ht
              have hcm := hcell.move HBx.out hfb
              obtain ⟨y0, y1, y2, y3, y4, hfn, hfc⟩ := hcm
              have hst := (congrArg feaE (dropF ht)).symm.trans HA.out
              rw [feaE_cons] at hst
              have HST := Lib.hid hst
              have FBT := Lib.hid (FB.out t fa fn fc hsub hfn hfc)
              have hfbr : fb < wr.heap.size := by have := HBx.out.size; omega
              clear hst ht hrow hsub hcell HA
              obtain ⟨FE, hFE⟩ : ∃ E, E = fstErr t := ⟨_, rfl⟩
              rw [← hFE] at HST FBT
              clear hFE
              obtain ⟨t1, ht1⟩ : ∃ x, x = t.kind := ⟨_, rfl⟩
              obtain ⟨t2, ht2⟩ : ∃ x, x = t.va := ⟨_, rfl⟩
              obtain ⟨t3, ht3⟩ : ∃ x, x = t.vb := ⟨_, rfl⟩
              obtain ⟨t4, ht4⟩ : ∃ x, x = t.nm := ⟨_, rfl⟩
              rw [← ht1] at y0 FBT; rw [← ht2] at y1 FBT; rw [← ht3] at y2 FBT; rw [← ht4] at y3 FBT
              clear ht1 ht2 ht3 ht4
              go_upto_region 23 with fail
              have bn := Lib.hid (below_new HBx.out (fO t1 t2 t3 t4 fa fn fc))
              have u0 := At.new wr (fO t1 t2 t3 t4 fa fn fc)
              clear y0 y1 y2 y3 y4
              obtain ⟨Z7, hZ7⟩ : ∃ Z, Z = wr.heap.size := ⟨_, rfl⟩
              rw [← hZ7] at u0 ⊢
              clear hZ7
              generalize World.alloc wr _ = W7 at u0 bn ⊢
              have v0 := u0.cell 0; have v1 := u0.cell 1; have v2 := u0.cell 2; have v3 := u0.cell 3; have v4 := u0.cell 4
              simp at v0 v1 v2 v3 v4
              have vl := u0.lt
              clear u0
              have CF := Lib.hid ((FBT.out W7 bn.out).1)
              go_wp2_with fail
              refine CF.out.mono ?_
              rintro e W8 ⟨rfl, hb8⟩
              have B8 := Lib.hid (below_then bn.out hb8)
              clear hb8 v0 v1 v2 v3 v4 vl CF FBT bn
              by_cases hz : FE = 0
              · subst hz
                have hs2 := HST.out
                rw [if_neg (by simp)] at hs2
                have HS2 := Lib.hid hs2
                clear hs2 HST
                go_wp2_with fail
                go_roundw
                case rel => exact ⟨r + 1, by omega, by go_num, HS2.out, B8.out⟩
                case measure => first | (simp [intOf]; done) | (simp [intOf]; omega)
              · have hs2 := HST.out
                rw [if_pos hz] at hs2
                have HE9 := Lib.hid (show PE = FE by rw [HE3.out, ← hs2])
                have hzb : (FE != 0) = true := by simpa using hz
                clear hs2 HST hz
                go_wp2_with fail
                go_ret
                exact ⟨by rw [HE9.out]; rfl, B8.out⟩
            · have hdr : fs.drop r = [] := List.drop_eq_nil_of_le (by rw [L3.out]; omega)
              have h0 := HA.out
              rw [hdr] at h0
              have HE0 := Lib.hid (show PE = 0 by rw [HE3.out, ← h0]; rfl)
              clear h0 hdr HA
              go_wp2_with fail
              go_ret
              exact ⟨by rw [HE0.out]; rfl, HBx.out⟩
end Go.Proofs.YtdmkghgachapaabGreatDoor
