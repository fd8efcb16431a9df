/- Contract of the reference's ZoneRead: it answers as zonetext.Parse. -/
import Derived.Test.YthpiiocncdpimabDoorZrd4
import Derived.Test.YthpiiocncdpimabDoorTxt2
namespace Go.Proofs.YthpiiocncdpimabDoor
set_option linter.unusedVariables false
set_option linter.unusedSimpArgs false
set_option maxRecDepth 100000
open Go.RowKit Go.Shelf Num

theorem lnO_get (S : List UInt8) (k : Nat) (h : k < (lnO S).length) : (spl 10 S)[k]? = some ((lnO S).getD k []) := by
  have e : (lnO S)[k]? = (spl 10 S)[k]? := by
    unfold lnO at h ⊢
    split
    · rename_i hw
      rw [if_pos hw] at h
      rw [List.getElem?_dropLast]
      rw [List.length_dropLast] at h
      rw [if_pos h]
    · rfl
  rw [← e, List.getD_eq_getElem?_getD, List.getElem?_eq_getElem h]; rfl
theorem lnO_len (S : List UInt8) : (lnO S).length = if whO S = true then (spl 10 S).length - 1 else (spl 10 S).length := by
  unfold lnO; split
  · rw [List.length_dropLast]
  · rfl
theorem lnO_drop (S : List UInt8) (k : Nat) (h : k < (lnO S).length) : (lnO S).drop k = (lnO S).getD k [] :: (lnO S).drop (k + 1) := by
  rw [List.drop_eq_getElem_cons h, List.getD_eq_getElem?_getD, List.getElem?_eq_getElem h]; rfl
theorem last_at (l : List (List UInt8)) (L1 : Nat) (h : l.length = L1 + 1) : l[L1]? = some (l.getLastD []) := by
  rw [List.getLastD_eq_getLast?, List.getLast?_eq_getElem?, h, Nat.add_sub_cancel]
  rw [List.getElem?_eq_getElem (by omega)]; rfl
set_option maxHeartbeats 32000000 in
theorem ref_ZoneRead (w : World) (S : List UInt8) (m : Int) (hm : w.cell? ⟨0, 0, none⟩ = some (.int .i64 m)) (hS : S.length ≤ 9223372036854775806) :
    Calls Tryd.prog 8 #[.string ⟨S.toArray⟩] w (ZonePost (readO S) w) := by
  obtain ⟨RES, hRES⟩ : ∃ RES, RES = readO S := ⟨_, rfl⟩
  rw [← hRES]
  have hz : (⟨S.toArray⟩ : ByteArray).size = S.length := bS_size S
  by_cases hbig : 20000 < S.length
  · have HR := Lib.hid (show RES = (z0S, 0, 2) by rw [hRES]; unfold readO; rw [if_pos hbig])
    have hb2 : (20000 : Int) < ((⟨S.toArray⟩ : ByteArray).size : Int) := by omega
    have a0 := At.new w (zO ⟨#[]⟩ 0 (.slice none 0 0))
    have B0 := below_new (Below.refl w.heap.size w) (zO ⟨#[]⟩ 0 (.slice none 0 0))
    have A0 := Lib.hid a0; have HB := Lib.hid B0
    have z0 := a0.frozen 0; have z1 := a0.frozen 1; have z2 := a0.frozen 2; have zl := a0.lt
    have y0 := a0.cell 0; have y1 := a0.cell 1; have y2 := a0.cell 2
    simp at y0 y1 y2
    clear hRES hbig hm a0 B0
    go_enter Tryd.func8, Tryd.ntmps8
    go_wp2_with fail
    have c0 := A0.out.cell 0; have c1 := A0.out.cell 1; have c2 := A0.out.cell 2
    simp at c0 c1 c2
    refine bodyPost_ret (v := .tuple #[.agg #[.string ⟨#[]⟩, .int .i64 0, .slice none 0 0], .int .i64 0, .int .i64 2]) (by simp [results, Tryd.results8, go_sem, c0, c1, c2]) rfl ?_
    rw [HR.out]
    exact ⟨none, 0, rfl, changes_none _ _, HB.out⟩
  · have HL := Lib.hid (show RES = runO 0 z0S (whO S) ((lnO S).drop 0) by rw [hRES]; unfold readO; rw [if_neg hbig]; rfl)
    have hb2 : ¬ (20000 : Int) < ((⟨S.toArray⟩ : ByteArray).size : Int) := by omega
    have HM := Lib.hid hm
    obtain ⟨rb, hrb⟩ : ∃ rb, rb = w.heap.size := ⟨_, rfl⟩
    obtain ⟨ls, hls⟩ : ∃ ls, ls = spl 10 S := ⟨_, rfl⟩
    obtain ⟨L1, hL1⟩ : ∃ L1, ls.length = L1 + 1 := by obtain ⟨p, q, e⟩ := spl_cons 10 S; exact ⟨q.length, by rw [hls, e]; rfl⟩
    have hL2 : L1 ≤ 20000 := by have := spl_len 10 S; rw [← hls, hL1] at this; omega
    have CS := Lib.hid (lib_SplitC 10 S (w.alloc (zO ⟨#[]⟩ 0 (.slice none 0 0))) m (max_below hm (below_new (Below.refl _ _) _)) (by omega))
    rw [← hls, World.size_alloc, ← hrb, hL1] at CS
    have a0 := (At.newAt w (zO ⟨#[]⟩ 0 (.slice none 0 0)) rb hrb).alloc (wdO ls)
    have a1 : At ((w.alloc (zO ⟨#[]⟩ 0 (.slice none 0 0))).alloc (wdO ls)) (rb + 1) (wdO ls) := At.newAt _ _ _ (by rw [World.size_alloc, hrb])
    have B1 := below_new (below_new (Below.refl w.heap.size w) (zO ⟨#[]⟩ 0 (.slice none 0 0))) (wdO ls)
    have hz1 : ((w.alloc (zO ⟨#[]⟩ 0 (.slice none 0 0))).alloc (wdO ls)).heap.size = rb + 2 := by rw [World.size_alloc, World.size_alloc, hrb]
    obtain ⟨xl, hxl⟩ : ∃ xl, xl = ls.getLastD [] := ⟨_, rfl⟩
    have xc := wd_cell a1 (last_at ls L1 hL1)
    rw [← hxl] at xc
    obtain ⟨wh, hwh⟩ : ∃ wh, wh = whO S := ⟨_, rfl⟩
    have hwx : wh = (xl == []) := by rw [hwh]; unfold whO; rw [← hls, ← hxl]
    have hln := lnO_len S
    rw [← hwh, ← hls, hL1] at hln
    rw [← hwh] at HL
    obtain ⟨N, hN⟩ : ∃ N, N = (lnO S).length := ⟨_, rfl⟩
    rw [← hN, Nat.add_sub_cancel] at hln
    have HNN := Lib.hid hN
    have HN2 : N ≤ 20001 := by rw [hln]; split <;> omega
    have HLN := Lib.hid hln
    have HLS := Lib.hid hls
    have HA0 := Lib.hid a0; have HA1 := Lib.hid a1; have HB1 := Lib.hid B1; have HZ1 := Lib.hid hz1
    have HRB := Lib.hid hrb
    have HL1 := Lib.hid hL1
    have hSz : S.length ≤ 20000 := by omega
    clear hm hRES hls hL1 hwh hN a0 a1 B1 hxl hz1 hln
    generalize World.alloc (World.alloc w _) _ = W1 at HA0 HA1 HB1 xc CS HZ1
    have hi1 : (((L1 + 1 : Nat) : Int)) - 1 = (L1 : Int) := by omega
    have hi2 : (L1 : Int) + 1 - 1 = (L1 : Int) := by omega
    go_enter Tryd.func8, Tryd.ntmps8
    go_upto_region 4 with (refine CS.out.mono ?_; rintro e w1 ⟨rfl, rfl⟩)
    rw [← hrb]
    clear hrb CS
    go_cut [6] from 27 (fun y wx => y = .bool wh ∧ w1 = wx)
    case first =>
      by_cases hx : xl = []
      · subst hx
        have hw2 : wh = true := by rw [hwx]; rfl
        clear hwx
        go_wp2_with fail
        go_meet
        case rel => exact ⟨by rw [hw2], rfl⟩
      · have hw2 : wh = false := by rw [hwx]; simpa using hx
        have hx1 : xl.isEmpty = false := by cases xl with | nil => exact absurd rfl hx | cons _ _ => rfl
        have hx2 : (xl == []) = false := by simpa using hx
        clear hwx
        go_wp2_with fail
        go_meet
        case rel => exact ⟨by rw [hw2], rfl⟩
    case rest =>
    obtain ⟨rfl, rfl⟩ := hcut
    clear hwx xc
    go_upto_if 34 with fail
    go_cut [5] from 34 (fun y wx => y = .slice (some ⟨rb + 1, 0, none⟩) N (L1 + 1) ∧ w1 = wx)
    case first =>
      cases wh with
      | true =>
        have hn : N = L1 := HLN.out
        subst hn
        go_wp2_with fail
        go_meet
        case rel => exact ⟨rfl, rfl⟩
      | false =>
        have hn : N = L1 + 1 := HLN.out
        subst hn
        go_wp2_with fail
        go_meet
        case rel => exact ⟨rfl, rfl⟩
    case rest =>
    obtain ⟨rfl, rfl⟩ := hcut
    clear hi1 hi2
    go_upto_region 8 with fail
    rw [HZ1.out]
    have Z0 : ZBox (w1.alloc (zO ⟨#[]⟩ 0 (.slice none 0 0))) (rb + 2) (rb + 3) (.slice none 0 0) z0S :=
      ⟨At.newAt _ _ _ HZ1.out.symm, World.ownsRow_nil _ _ _ _, by omega, by rw [World.size_alloc, HZ1.out]; omega⟩
    have HZ0 := Lib.hid Z0
    have HA2 := Lib.hid (HA0.out.alloc (zO ⟨#[]⟩ 0 (.slice none 0 0)))
    have HT2 := Lib.hid (HA1.out.alloc (zO ⟨#[]⟩ 0 (.slice none 0 0)))
    have HB2 := Lib.hid (below_new HB1.out (zO ⟨#[]⟩ 0 (.slice none 0 0)))
    clear Z0 HA0 HA1 HB1 HZ1
    generalize World.alloc w1 _ = W2 at HZ0 HA2 HT2 HB2 ⊢
    go_wp2_with fail
    go_loopw [8, 9, 10, 11, 12, 13, 14, 15, 16, 17, 18, 19, 42] (fun a8 a9 a10 a11 a12 a13 a14 a15 a16 a17 a18 a19 i wr => ∃ (k : Nat) (st : ZSt) (v : Value), i = .int .i64 k ∧ k ≤ N ∧ st.2.2.length ≤ k ∧ StOk st ∧ RES = runO k st wh ((lnO S).drop k) ∧ ZBox wr (rb + 2) (rb + 3) v st ∧ At wr rb (zO ⟨#[]⟩ 0 (.slice none 0 0)) ∧ At wr (rb + 1) (wdO ls) ∧ Below w.heap.size w wr ∧ (∃ V, V = a8) ∧ (∃ V, V = a9) ∧ (∃ V, V = a10) ∧ (∃ V, V = a11) ∧ (∃ V, V = a12) ∧ (∃ V, V = a13) ∧ (∃ V, V = a14) ∧ (∃ V, V = a15) ∧ (∃ V, V = a16) ∧ (∃ V, V = a17) ∧ (∃ V, V = a18) ∧ (∃ V, V = a19)) (fun _ _ _ _ _ _ _ _ _ _ _ _ i _ => N - (intOf i).toNat)
    case atStart => exact ⟨0, z0S, .slice none 0 0, rfl, by omega, by simp [z0S], stOk_zero, HL.out, HZ0.out, HA2.out, HT2.out, HB2.out, ⟨_, rfl⟩, ⟨_, rfl⟩, ⟨_, rfl⟩, ⟨_, rfl⟩, ⟨_, rfl⟩, ⟨_, rfl⟩, ⟨_, rfl⟩, ⟨_, rfl⟩, ⟨_, rfl⟩, ⟨_, rfl⟩, ⟨_, rfl⟩, ⟨_, rfl⟩⟩
    case round =>
      obtain ⟨k, st, v, rfl, hk, hst, hok, hres, hzb, hat, htt, hb, ⟨V8, rfl⟩, ⟨V9, rfl⟩, ⟨V10, rfl⟩, ⟨V11, rfl⟩, ⟨V12, rfl⟩, ⟨V13, rfl⟩, ⟨V14, rfl⟩, ⟨V15, rfl⟩, ⟨V16, rfl⟩, ⟨V17, rfl⟩, ⟨V18, rfl⟩, ⟨V19, rfl⟩⟩ := hrel
      clear hz hbig hb2
      have HOK := Lib.hid hok; have HZ := Lib.hid hzb; have HA := Lib.hid hat; have HB := Lib.hid hb; have HT := Lib.hid htt
      have HRS := Lib.hid hres
      clear hok hzb hat hb hres htt HL HZ0 HA2 HT2 HB2
      by_cases hlt : k < N
      · obtain ⟨t, ht⟩ : ∃ t, t = (lnO S).getD k [] := ⟨_, rfl⟩
        have hget := lnO_get S k (by rw [← HNN.out]; exact hlt)
        rw [← ht, ← HLS.out] at hget
        have htl : t.length ≤ 20000 := by
          have := spl_size 10 S t (by rw [← HLS.out]; exact List.mem_of_getElem? hget)
          omega
        have xk := wd_cell HT.out hget
        have HRT := Lib.hid (show RES = match rowO (k == 0) st t with | none => (z0S, (k : Int), 4) | some st' => runO (k + 1) st' wh ((lnO S).drop (k + 1)) by
          rw [HRS.out, lnO_drop S k (by rw [← HNN.out]; exact hlt), ← ht, runO_cons]; cases rowO (k == 0) st t <;> rfl)
        have HOKC := Lib.hid (fun st' (h : rowO (k == 0) st t = some st') => (rowO_ok HOK.out htl h).1)
        obtain ⟨ws, hws⟩ : ∃ ws, ws = spl 32 t := ⟨_, rfl⟩
        have hwsz : ∀ x ∈ ws, x.length ≤ 20000 := fun x hx => by have := spl_size 32 t x (by rw [← hws]; exact hx); omega
        have hwl : ws.length ≤ 20001 := by have := spl_len 32 t; rw [hws]; omega
        have CS2 := Lib.hid (lib_SplitC 32 t wr m (max_below HM.out HB.out) (by omega))
        rw [← hws] at CS2
        obtain ⟨T2, hT2⟩ : ∃ T2, T2 = wr.heap.size := ⟨_, rfl⟩
        rw [← hT2] at CS2
        have A2 := Lib.hid (show At (wr.alloc (wdO ws)) T2 (wdO ws) by rw [hT2]; exact At.new wr _)
        have Z5 := Lib.hid (HZ.out.then_ (below_new (Below.refl wr.heap.size wr) (wdO ws)))
        have A5 := Lib.hid (HA.out.alloc (wdO ws))
        have T5 := Lib.hid (HT.out.alloc (wdO ws))
        have B5 := Lib.hid (below_new HB.out (wdO ws))
        have hrl := HT.out.lt
        have HRL := Lib.hid hrl
        clear ht hget hT2 HRS hrl HZ HA HT
        generalize wr.alloc (wdO ws) = W5 at A2 Z5 A5 T5 B5 CS2
        by_cases hk0 : k = 0
        · subst hk0
          have HRO := Lib.hid (show rowO (0 == 0) st t = _ from rowO_t st t hws)
          clear hws
          by_cases hL : ws.length = 3
          · obtain ⟨a, b, c, rfl⟩ := three_of hL
            have x0 := wd_cell A2.out (j := 0) rfl
            by_cases ha : a = [122, 111, 110, 101]
            · subst ha
              have HR2 := Lib.hid (show rowO (0 == 0) st t = if offOkR c = true then some (bS b, offVR c, st.2.2) else none by
                rw [HRO.out]
                by_cases hq : offOkR c = true
                · rw [if_pos ⟨rfl, rfl, hq⟩, if_pos hq]; rfl
                · rw [if_neg (fun h => hq h.2.2), if_neg hq])
              have x2 := wd_cell A2.out (j := 2) rfl
              have CO := Lib.hid (ref_offsetRead ⟨c.toArray⟩ W5 (by rw [bS_size]; have := hwsz c (by simp); omega))
              rw [bS_list] at CO
              have HOV := Lib.hid (@offRV_yes c)
              clear HRO hL hwsz
              generalize offRV c = n at CO HOV
              generalize offOkR c = OK at HR2 CO HOV
              go_wp2_with fail
              refine CS2.out.mono ?_
              rintro e w5 ⟨rfl, rfl⟩
              go_wp2_with fail
              refine CO.out.mono ?_
              rintro e w6 ⟨rfl, hb6⟩
              have A6 := Lib.hid (A2.out.then_ hb6)
              have Z6 := Lib.hid (Z5.out.then_ hb6)
              have R6 := Lib.hid (A5.out.then_ hb6)
              have T6 := Lib.hid (T5.out.then_ hb6)
              have B6 := Lib.hid (below_then B5.out hb6)
              have x1 := wd_cell A6.out (j := 1) rfl
              have z0 := Z6.out.box.frozen 0; have z1 := Z6.out.box.frozen 1; have zl := Z6.out.box.lt
              have y0 := Z6.out.box.cell 0; have y1 := Z6.out.box.cell 1
              simp at y0 y1
              clear hb6 x0 x2
              go_upto_region 16 with fail
              have Z8 := Lib.hid (Z6.out.head ⟨b.toArray⟩ n)
              have B8 := Lib.hid (below_set (below_set B6.out (p := ⟨rb + 2, 0, none⟩) (by have := HRB.out; show _ ≤ rb + 2; omega) (.string ⟨b.toArray⟩)) (p := ⟨rb + 2, 1, none⟩) (by have := HRB.out; show _ ≤ rb + 2; omega) (.int .i64 n))
              have R8 := Lib.hid ((R6.out.apart (p := ⟨rb + 2, 0, none⟩) (by show rb ≠ rb + 2; omega) (.string ⟨b.toArray⟩)).apart (p := ⟨rb + 2, 1, none⟩) (by show rb ≠ rb + 2; omega) (.int .i64 n))
              have T8 := Lib.hid ((T6.out.apart (p := ⟨rb + 2, 0, none⟩) (by show rb + 1 ≠ rb + 2; omega) (.string ⟨b.toArray⟩)).apart (p := ⟨rb + 2, 1, none⟩) (by show rb + 1 ≠ rb + 2; omega) (.int .i64 n))
              generalize World.setCell (World.setCell w6 _ _) _ _ = W8 at Z8 B8 R8 T8 ⊢
              clear z0 z1 zl y0 y1 x1 Z6 R6 T6 B6 A6
              cases OK with
              | false =>
                have HR := Lib.hid (show RES = (z0S, ((0 : Nat) : Int), 4) by rw [HRT.out, HR2.out]; rfl)
                go_upto_region 23 with fail
                have zz0 := R8.out.frozen 0; have zz1 := R8.out.frozen 1; have zz2 := R8.out.frozen 2; have zzl := R8.out.lt
                have yy0 := R8.out.cell 0; have yy1 := R8.out.cell 1; have yy2 := R8.out.cell 2
                simp at yy0 yy1 yy2
                go_wp2_with fail
                have A9 := at_storeZ3 R8.out ⟨#[]⟩ 0 (.slice none 0 0)
                have B9 := below_setZ3 B8.out (p := rb) (by have := HRB.out; omega) (.string ⟨#[]⟩) (.int .i64 0) (.slice none 0 0)
                generalize World.setCell (World.setCell (World.setCell W8 _ _) _ _) _ _ = W9 at A9 B9 ⊢
                have c0 := A9.cell 0; have c1 := A9.cell 1; have c2 := A9.cell 2
                simp at c0 c1 c2
                refine bodyPost_ret (v := .tuple #[.agg #[.string ⟨#[]⟩, .int .i64 0, .slice none 0 0], .int .i64 0, .int .i64 4]) (by simp [results, Tryd.results8, go_sem, c0, c1, c2]) rfl ?_
                rw [HR.out]
                exact ⟨none, 0, rfl, changes_none _ _, B9⟩
              | true =>
                have hsome : rowO (0 == 0) st t = some (bS b, n, st.2.2) := by rw [HR2.out, if_pos rfl, HOV.out rfl]
                have HR := Lib.hid (show RES = runO (0 + 1) (bS b, n, st.2.2) wh ((lnO S).drop (0 + 1)) by rw [HRT.out, hsome])
                have HO9 := Lib.hid (HOKC.out _ hsome)
                clear hsome
                go_wp2_with fail
                go_roundw
                case rel => exact ⟨1, (bS b, n, st.2.2), v, by first | rfl | go_num, by omega, by simp; omega, HO9.out, HR.out, Z8.out, R8.out, T8.out, B8.out, ⟨_, rfl⟩, ⟨_, rfl⟩, ⟨_, rfl⟩, ⟨_, rfl⟩, ⟨_, rfl⟩, ⟨_, rfl⟩, ⟨_, rfl⟩, ⟨_, rfl⟩, ⟨_, rfl⟩, ⟨_, rfl⟩, ⟨_, rfl⟩, ⟨_, rfl⟩⟩
                case measure => simp [intOf]; omega
            · have hro := (HRO.out).trans (if_neg (fun h => ha h.2.1))
              have d1 : (a == [122, 111, 110, 101]) = false := by simpa using ha
              have d2 : (a != [122, 111, 110, 101]) = true := by simpa using ha
              have HR := Lib.hid (show RES = (z0S, ((0 : Nat) : Int), 4) by rw [HRT.out, hro])
              clear hro ha hL hwsz HRO
              go_wp2_with fail
              refine CS2.out.mono ?_
              rintro e w5 ⟨rfl, rfl⟩
              go_upto_region 23 with fail
              have zz0 := A5.out.frozen 0; have zz1 := A5.out.frozen 1; have zz2 := A5.out.frozen 2; have zzl := A5.out.lt
              have yy0 := A5.out.cell 0; have yy1 := A5.out.cell 1; have yy2 := A5.out.cell 2
              simp at yy0 yy1 yy2
              go_wp2_with fail
              have A9 := at_storeZ3 A5.out ⟨#[]⟩ 0 (.slice none 0 0)
              have B9 := below_setZ3 B5.out (p := rb) (by have := HRB.out; omega) (.string ⟨#[]⟩) (.int .i64 0) (.slice none 0 0)
              generalize World.setCell (World.setCell (World.setCell w5 _ _) _ _) _ _ = W9 at A9 B9 ⊢
              have c0 := A9.cell 0; have c1 := A9.cell 1; have c2 := A9.cell 2
              simp at c0 c1 c2
              refine bodyPost_ret (v := .tuple #[.agg #[.string ⟨#[]⟩, .int .i64 0, .slice none 0 0], .int .i64 0, .int .i64 4]) (by simp [results, Tryd.results8, go_sem, c0, c1, c2]) rfl ?_
              rw [HR.out]
              exact ⟨none, 0, rfl, changes_none _ _, B9⟩
          · have hro := (HRO.out).trans (if_neg (fun h => hL h.1))
            have d2 : ((ws.length : Int) != 3) = true := by simp; omega
            have d1 : ((ws.length : Int) == 3) = false := by simp; omega
            have HR := Lib.hid (show RES = (z0S, ((0 : Nat) : Int), 4) by rw [HRT.out, hro])
            clear hro hL hwsz HRO
            generalize ws.length = L at d1 d2 hwl CS2
            go_wp2_with fail
            refine CS2.out.mono ?_
            rintro e w5 ⟨rfl, rfl⟩
            go_upto_region 23 with fail
            have zz0 := A5.out.frozen 0; have zz1 := A5.out.frozen 1; have zz2 := A5.out.frozen 2; have zzl := A5.out.lt
            have yy0 := A5.out.cell 0; have yy1 := A5.out.cell 1; have yy2 := A5.out.cell 2
            simp at yy0 yy1 yy2
            go_wp2_with fail
            have A9 := at_storeZ3 A5.out ⟨#[]⟩ 0 (.slice none 0 0)
            have B9 := below_setZ3 B5.out (p := rb) (by have := HRB.out; omega) (.string ⟨#[]⟩) (.int .i64 0) (.slice none 0 0)
            generalize World.setCell (World.setCell (World.setCell w5 _ _) _ _) _ _ = W9 at A9 B9 ⊢
            have c0 := A9.cell 0; have c1 := A9.cell 1; have c2 := A9.cell 2
            simp at c0 c1 c2
            refine bodyPost_ret (v := .tuple #[.agg #[.string ⟨#[]⟩, .int .i64 0, .slice none 0 0], .int .i64 0, .int .i64 4]) (by simp [results, Tryd.results8, go_sem, c0, c1, c2]) rfl ?_
            rw [HR.out]
            exact ⟨none, 0, rfl, changes_none _ _, B9⟩
        · have e0 : ((k : Int) == 0) = false := by simp; omega
          have e00 : (k == 0) = false := by simpa using hk0
          have e01 : (0 : Int) < (k : Int) := by omega
          have HRO := Lib.hid ((congrArg (fun b => rowO b st t) e00).trans (rowO_f st t hws))
          clear hws e00
          by_cases hL : ws.length = 5
          · obtain ⟨a, b, c, d, g, rfl⟩ := five_of hL
            have x0 := wd_cell A2.out (j := 0) rfl
            by_cases ha : a = [97, 116]
            · subst ha
              have HR2 := Lib.hid (show rowO (k == 0) st t = if (plainOk b && plainOk c && offOkR d && dayO (plainNum b) && msO (plainNum c)) = true then some (st.1, st.2.1, st.2.2 ++ [(plainNum b * 86400000 + plainNum c, offVR d, (⟨g.toArray⟩ : ByteArray))]) else none by
                rw [HRO.out]
                by_cases hq : chgOkR [[97, 116], b, c, d, g] = true
                · rw [if_pos ⟨rfl, rfl, hq⟩]; exact (if_pos (show (plainOk b && plainOk c && offOkR d && dayO (plainNum b) && msO (plainNum c)) = true from hq)).symm
                · rw [if_neg (fun h => hq h.2.2)]; exact (if_neg (show ¬ (plainOk b && plainOk c && offOkR d && dayO (plainNum b) && msO (plainNum c)) = true from hq)).symm)
              have bsz : ∀ x ∈ [[97, 116], b, c, d, g], (⟨x.toArray⟩ : ByteArray).size ≤ 9223372036854775806 := fun x hx => by rw [bS_size]; have := hwsz x hx; omega
              have C1 := Lib.hid (fun W => ref_Plain ⟨b.toArray⟩ W (bsz b (by simp)))
              have C2 := Lib.hid (fun W => ref_Plain ⟨c.toArray⟩ W (bsz c (by simp)))
              have C3 := Lib.hid (fun W => ref_offsetRead ⟨d.toArray⟩ W (by have := bsz d (by simp); omega))
              unfold plainRes at C1 C2
              simp only [bS_list] at C1 C2 C3
              have HOV := Lib.hid (@offRV_yes d)
              have bb : -100000000000000000 < plainNum b ∧ plainNum b < 100000000000000000 := by
                by_cases h : plainOk b = true
                · exact plain_bound h
                · rw [plain_no (by simpa using h)]; omega
              have bc : -100000000000000000 < plainNum c ∧ plainNum c < 100000000000000000 := by
                by_cases h : plainOk c = true
                · exact plain_bound h
                · rw [plain_no (by simpa using h)]; omega
              clear HRO hL hwsz bsz
              generalize plainOk b = O1 at HR2 C1
              generalize plainOk c = O2 at HR2 C2
              generalize plainNum b = d1 at HR2 C1 bb
              generalize plainNum c = m1 at HR2 C2 bc
              generalize offVR d = F2 at HR2 HOV
              generalize offRV d = n at C3 HOV
              generalize offOkR d = O3 at HR2 C3 HOV
              have x1 := wd_cell A2.out (j := 1) rfl
              have x2 := wd_cell A2.out (j := 2) rfl
              have x3 := wd_cell A2.out (j := 3) rfl
              go_wp2_with fail
              refine CS2.out.mono ?_
              rintro e w5 ⟨rfl, rfl⟩
              go_wp2_with fail
              refine (C1.out _).mono ?_
              rintro e w5' ⟨rfl, rfl⟩
              go_wp2_with fail
              refine (C2.out _).mono ?_
              rintro e w5' ⟨rfl, rfl⟩
              go_wp2_with fail
              refine (C3.out _).mono ?_
              rintro e w4 ⟨rfl, hb4⟩
              have A4 := Lib.hid (A2.out.then_ hb4)
              have Z4 := Lib.hid (Z5.out.then_ hb4)
              have B4 := Lib.hid (below_then B5.out hb4)
              replace A5 := Lib.hid (A5.out.then_ hb4)
              replace T5 := Lib.hid (T5.out.then_ hb4)
              clear hb4 x0 x1 x2 x3 A2 Z5 B5 C1 C2 C3
              obtain ⟨OKK, hOKK⟩ : ∃ OKK, OKK = (O1 && O2 && O3 && dayO d1 && msO m1) := ⟨_, rfl⟩
              rw [← hOKK] at HR2
              have HOKK := Lib.hid hOKK
              obtain ⟨D1, e1⟩ : ∃ D1, IntKind.i64.wrap (d1 * 86400000) = D1 := ⟨_, rfl⟩
              obtain ⟨D2, e2⟩ : ∃ D2, IntKind.i64.wrap (D1 + m1) = D2 := ⟨_, rfl⟩
              have HOKT := Lib.hid (show OKK = true → d1 * 86400000 + m1 = D2 ∧ F2 = n from fun h => by
                rw [hOKK] at h
                simp only [Bool.and_eq_true] at h
                obtain ⟨⟨⟨⟨h1, h2⟩, h3⟩, h4⟩, h5⟩ := h
                have q1 := dayO_bound h4
                have q2 := msO_bound h5
                have q3 : D1 = d1 * 86400000 := by rw [← e1]; exact IntWalk.i64_in _ (by omega)
                refine ⟨?_, (HOV.out h3).symm⟩
                rw [← e2, q3]
                exact (IntWalk.i64_in _ (by omega)).symm)
              clear hOKK HOV
              go_upto_region 20 with fail
              go_cut [11] from 111 to 148 (fun y wx => y = .bool (!OKK) ∧ w4 = wx)
              case first =>
                have hq := HOKK.out
                clear e1 e2
                cases O1 with
                | false =>
                  have hq2 : OKK = false := by rw [hq]; simp
                  clear hq
                  go_wp2_with fail
                  go_meet
                  case rel => exact ⟨by rw [hq2]; rfl, rfl⟩
                | true =>
                cases O2 with
                | false =>
                  have hq2 : OKK = false := by rw [hq]; simp
                  clear hq
                  go_wp2_with fail
                  go_meet
                  case rel => exact ⟨by rw [hq2]; rfl, rfl⟩
                | true =>
                cases O3 with
                | false =>
                  have hq2 : OKK = false := by rw [hq]; simp
                  clear hq
                  go_wp2_with fail
                  go_meet
                  case rel => exact ⟨by rw [hq2]; rfl, rfl⟩
                | true =>
                have CD := Lib.hid (ref_Day d1 w4)
                have CM := Lib.hid (ref_In m1 0 86399999 w4)
                rw [show inB (-4000000) 4000000 d1 = dayO d1 from rfl] at CD
                rw [show inB 0 86399999 m1 = msO m1 from rfl] at CM
                have hq3 : OKK = (dayO d1 && msO m1) := by rw [hq]; simp
                clear hq
                generalize dayO d1 = YD at CD hq3
                generalize msO m1 = YM at CM hq3
                cases YD with
                | false =>
                  have hq2 : OKK = false := by rw [hq3]; rfl
                  clear hq3
                  go_wp2_with fail
                  refine CD.out.mono ?_
                  rintro e w5' ⟨rfl, rfl⟩
                  go_wp2_with fail
                  go_meet
                  case rel => exact ⟨by rw [hq2]; rfl, rfl⟩
                | true =>
                  have hq2 : OKK = YM := by rw [hq3]; simp
                  clear hq3
                  go_wp2_with fail
                  refine CD.out.mono ?_
                  rintro e w5' ⟨rfl, rfl⟩
                  go_wp2_with fail
                  refine CM.out.mono ?_
                  rintro e w5' ⟨rfl, rfl⟩
                  go_wp2_with fail
                  go_meet
                  case rel => exact ⟨by rw [hq2], rfl⟩
              case rest =>
              obtain ⟨rfl, rfl⟩ := hcut
              clear HOKK bb bc
              go_upto_region 21 with fail
              have h1 := Z4.out.box
              have hlo := Z4.out.lo
              have hhi := Z4.out.hi
              have H8 := Lib.hid Z4.out.row
              have H1 := Lib.hid h1
              have hbz : rb + 2 < w4.heap.size := h1.lt
              have c2 : w4.cell? ⟨rb + 2, 2, none⟩ = some v := h1.cell 2
              have c2d : w4.drew.cell? ⟨rb + 2, 2, none⟩ = some v := h1.drew.cell 2
              have c2a : (w4.alloc (.cells #[.int .i64 D2, .int .i64 n, .string ⟨g.toArray⟩] 35)).cell? ⟨rb + 2, 2, none⟩ = some v := (h1.alloc (.cells #[.int .i64 D2, .int .i64 n, .string ⟨g.toArray⟩] 35)).cell 2
              have c2e : (w4.drew.alloc (.cells #[.int .i64 D2, .int .i64 n, .string ⟨g.toArray⟩] 35)).cell? ⟨rb + 2, 2, none⟩ = some v := (h1.drew.alloc (.cells #[.int .i64 D2, .int .i64 n, .string ⟨g.toArray⟩] 35)).cell 2
              have t4 : w4.cell? ⟨T2, 4, none⟩ = some (.string ⟨g.toArray⟩) := wd_cell A4.out (j := 4) rfl
              have t4d : w4.drew.cell? ⟨T2, 4, none⟩ = some (.string ⟨g.toArray⟩) := wd_cell (show At w4.drew T2 _ from A4.out.drew) (j := 4) rfl
              obtain ⟨i0, hi, hz0, hz1, hz2⟩ := info_parts Tryd.infoChange
              have HML := Lib.hid (show (st.2.2.flatMap encChg).length = st.2.2.length * 3 from chg_len _)
              obtain ⟨ML, hML⟩ : ∃ ML, ML = st.2.2.length := ⟨_, rfl⟩
              rw [← hML] at H8 hst
              have HMLL := Lib.hid hML
              clear h1 hML
              go_region_law
                (first
                  | (refine step_append_lies _ (by rfl) _ _ _ (by rfl) (rb + 3) 35 i0 _ 3 32 Tryd.underlying22 hi hz0 hz1 hz2 rfl (by omega) v ML (st.2.2.flatMap encChg) (by rfl) (H8.out.alloc _) ⟨w4.heap.size, 0, none⟩ 1 1 [.int .i64 D2, .int .i64 n, .string ⟨g.toArray⟩] (by rfl) (by rfl) (World.news_of_block (cs := #[.int .i64 D2, .int .i64 n, .string ⟨g.toArray⟩]) (t := 35) (fr := (0, 0)) (heap_alloc_new w4 _)) (by simp [Value.oneCell']) (by omega) (by unfold maxLen; omega) (by omega) (by simp; omega) _ rfl ?_; intro g4 cap4 w7 hown' hgrow hlies hglt; have a7 := (H1.out.alloc (.cells #[.int .i64 D2, .int .i64 n, .string ⟨g.toArray⟩] 35)).grown6 hgrow (fun e => by have := (zown_lt H8.out e.symm).1; omega); have y4 : w7.frozen? ⟨rb + 2, 2, none⟩ = false := a7.frozen 2; have y5 : w7.cell? ⟨rb + 2, 2, none⟩ = some v := a7.cell 2; have y6 : rb + 2 < w7.heap.size := a7.lt)
                  | (refine step_append_lies _ (by rfl) _ _ _ (by rfl) (rb + 3) 35 i0 _ 3 32 Tryd.underlying22 hi hz0 hz1 hz2 rfl (by omega) v ML (st.2.2.flatMap encChg) (by rfl) ((show w4.drew.ownsRow (rb + 3) 35 3 v ML (st.2.2.flatMap encChg) from H8.out).alloc _) ⟨w4.drew.heap.size, 0, none⟩ 1 1 [.int .i64 D2, .int .i64 n, .string ⟨g.toArray⟩] (by rfl) (by rfl) (World.news_of_block (cs := #[.int .i64 D2, .int .i64 n, .string ⟨g.toArray⟩]) (t := 35) (fr := (0, 0)) (heap_alloc_new w4.drew _)) (by simp [Value.oneCell']) (by omega) (by unfold maxLen; omega) (by omega) (by simp; omega) _ rfl ?_; intro g4 cap4 w7 hown' hgrow hlies hglt; have a7 := (H1.out.drew.alloc (.cells #[.int .i64 D2, .int .i64 n, .string ⟨g.toArray⟩] 35)).grown6 hgrow (fun e => by have := (zown_lt H8.out e.symm).1; omega); have y4 : w7.frozen? ⟨rb + 2, 2, none⟩ = false := a7.frozen 2; have y5 : w7.cell? ⟨rb + 2, 2, none⟩ = some v := a7.cell 2; have y6 : rb + 2 < w7.heap.size := a7.lt))
              all_goals
                have hML := HMLL.out
                subst hML
                have hW1 : Below w4.heap.size w4 (w4.drew.alloc (.cells #[.int .i64 D2, .int .i64 n, .string ⟨g.toArray⟩] 35)) := below_new (Below.refl _ _).drew _
                have hnb : ∀ b, v.ownBlock = some b → rb + 2 < b := fun b e => by have := (zown_lt H8.out e).1; omega
                have Z9 := Lib.hid (Z4.out.app hW1 (D2, n, (⟨g.toArray⟩ : ByteArray)) hown' hgrow)
                have B9 := Lib.hid (zbel_app B4.out (by have := HRB.out; omega) hbz hW1 hgrow hnb 2 (.slice (some ⟨g4, 0, none⟩) (st.2.2.length + 1) cap4))
                have A9 := Lib.hid (((A5.out.then_ hW1).grown6 hgrow (fun e => by have := (zown_lt H8.out e.symm).1; omega)).apart (p := ⟨rb + 2, 2, none⟩) (by show rb ≠ rb + 2; omega) (.slice (some ⟨g4, 0, none⟩) (st.2.2.length + 1) cap4))
                have T9 := Lib.hid (((T5.out.then_ hW1).grown6 hgrow (fun e => by have := (zown_lt H8.out e.symm).1; omega)).apart (p := ⟨rb + 2, 2, none⟩) (by show rb + 1 ≠ rb + 2; omega) (.slice (some ⟨g4, 0, none⟩) (st.2.2.length + 1) cap4))
                generalize World.setCell w7 _ _ = W8 at Z9 B9 A9 T9 ⊢
                clear y4 y5 y6 c2 c2d c2a c2e t4 t4d hgrow hown' hW1 a7 hlies hglt
                cases OKK with
                | false =>
                  have HR := Lib.hid (show RES = (z0S, (k : Int), 4) by rw [HRT.out, HR2.out]; rfl)
                  go_upto_region 23 with fail
                  have zz0 := A9.out.frozen 0; have zz1 := A9.out.frozen 1; have zz2 := A9.out.frozen 2; have zzl := A9.out.lt
                  have yy0 := A9.out.cell 0; have yy1 := A9.out.cell 1; have yy2 := A9.out.cell 2
                  simp at yy0 yy1 yy2
                  go_wp2_with fail
                  have A9 := at_storeZ3 A9.out ⟨#[]⟩ 0 (.slice none 0 0)
                  have B9 := below_setZ3 B9.out (p := rb) (by have := HRB.out; omega) (.string ⟨#[]⟩) (.int .i64 0) (.slice none 0 0)
                  generalize World.setCell (World.setCell (World.setCell W8 _ _) _ _) _ _ = W9 at A9 B9 ⊢
                  have c0 := A9.cell 0; have c1 := A9.cell 1; have c2 := A9.cell 2
                  simp at c0 c1 c2
                  refine bodyPost_ret (v := .tuple #[.agg #[.string ⟨#[]⟩, .int .i64 0, .slice none 0 0], .int .i64 (k : Int), .int .i64 4]) (by simp [results, Tryd.results8, go_sem, c0, c1, c2]) rfl ?_
                  rw [HR.out]
                  exact ⟨none, 0, rfl, changes_none _ _, B9⟩
                | true =>
                  obtain ⟨hd2, hn9⟩ := HOKT.out rfl
                  have hsome : rowO (k == 0) st t = some (st.1, st.2.1, st.2.2 ++ [(D2, n, (⟨g.toArray⟩ : ByteArray))]) := by rw [HR2.out, if_pos rfl, hd2, hn9]
                  have HR := Lib.hid (show RES = runO (k + 1) (st.1, st.2.1, st.2.2 ++ [(D2, n, (⟨g.toArray⟩ : ByteArray))]) wh ((lnO S).drop (k + 1)) by rw [HRT.out, hsome])
                  have HO9 := Lib.hid (HOKC.out _ hsome)
                  clear hd2 hn9 hsome
                  go_wp2_with fail
                  go_roundw
                  case rel => exact ⟨k + 1, (st.1, st.2.1, st.2.2 ++ [(D2, n, (⟨g.toArray⟩ : ByteArray))]), _, by go_num, by omega, by simp; omega, HO9.out, HR.out, Z9.out, A9.out, T9.out, B9.out, ⟨_, rfl⟩, ⟨_, rfl⟩, ⟨_, rfl⟩, ⟨_, rfl⟩, ⟨_, rfl⟩, ⟨_, rfl⟩, ⟨_, rfl⟩, ⟨_, rfl⟩, ⟨_, rfl⟩, ⟨_, rfl⟩, ⟨_, rfl⟩, ⟨_, rfl⟩⟩
                  case measure => simp [intOf]; omega
            · have hro := (HRO.out).trans (if_neg (fun h => ha h.2.1))
              have d1 : (a == [97, 116]) = false := by simpa using ha
              have d2 : (a != [97, 116]) = true := by simpa using ha
              have HR := Lib.hid (show RES = (z0S, (k : Int), 4) by rw [HRT.out, hro])
              clear hro ha hL hwsz HRO
              go_wp2_with fail
              refine CS2.out.mono ?_
              rintro e w5 ⟨rfl, rfl⟩
              go_upto_region 23 with fail
              have zz0 := A5.out.frozen 0; have zz1 := A5.out.frozen 1; have zz2 := A5.out.frozen 2; have zzl := A5.out.lt
              have yy0 := A5.out.cell 0; have yy1 := A5.out.cell 1; have yy2 := A5.out.cell 2
              simp at yy0 yy1 yy2
              go_wp2_with fail
              have A9 := at_storeZ3 A5.out ⟨#[]⟩ 0 (.slice none 0 0)
              have B9 := below_setZ3 B5.out (p := rb) (by have := HRB.out; omega) (.string ⟨#[]⟩) (.int .i64 0) (.slice none 0 0)
              generalize World.setCell (World.setCell (World.setCell w5 _ _) _ _) _ _ = W9 at A9 B9 ⊢
              have c0 := A9.cell 0; have c1 := A9.cell 1; have c2 := A9.cell 2
              simp at c0 c1 c2
              refine bodyPost_ret (v := .tuple #[.agg #[.string ⟨#[]⟩, .int .i64 0, .slice none 0 0], .int .i64 (k : Int), .int .i64 4]) (by simp [results, Tryd.results8, go_sem, c0, c1, c2]) rfl ?_
              rw [HR.out]
              exact ⟨none, 0, rfl, changes_none _ _, B9⟩
          · have hro := (HRO.out).trans (if_neg (fun h => hL h.1))
            have d2 : ((ws.length : Int) != 5) = true := by simp; omega
            have d1 : ((ws.length : Int) == 5) = false := by simp; omega
            have HR := Lib.hid (show RES = (z0S, (k : Int), 4) by rw [HRT.out, hro])
            clear hro hL hwsz HRO
            generalize ws.length = L at d1 d2 hwl CS2
            go_wp2_with fail
            refine CS2.out.mono ?_
            rintro e w5 ⟨rfl, rfl⟩
            go_upto_region 23 with fail
            have zz0 := A5.out.frozen 0; have zz1 := A5.out.frozen 1; have zz2 := A5.out.frozen 2; have zzl := A5.out.lt
            have yy0 := A5.out.cell 0; have yy1 := A5.out.cell 1; have yy2 := A5.out.cell 2
            simp at yy0 yy1 yy2
            go_wp2_with fail
            have A9 := at_storeZ3 A5.out ⟨#[]⟩ 0 (.slice none 0 0)
            have B9 := below_setZ3 B5.out (p := rb) (by have := HRB.out; omega) (.string ⟨#[]⟩) (.int .i64 0) (.slice none 0 0)
            generalize World.setCell (World.setCell (World.setCell w5 _ _) _ _) _ _ = W9 at A9 B9 ⊢
            have c0 := A9.cell 0; have c1 := A9.cell 1; have c2 := A9.cell 2
            simp at c0 c1 c2
            refine bodyPost_ret (v := .tuple #[.agg #[.string ⟨#[]⟩, .int .i64 0, .slice none 0 0], .int .i64 (k : Int), .int .i64 4]) (by simp [results, Tryd.results8, go_sem, c0, c1, c2]) rfl ?_
            rw [HR.out]
            exact ⟨none, 0, rfl, changes_none _ _, B9⟩
      · obtain rfl : k = N := by omega
        have HR2 := Lib.hid (show RES = runO k st wh [] by rw [HRS.out, List.drop_eq_nil_of_le (by rw [← HNN.out]; exact Nat.le_refl _)])
        clear HRS
        by_cases hbad : wh = false ∨ k = 0
        · have HR := Lib.hid (show RES = (z0S, (k : Int), 4) by rw [HR2.out, runO_nil, if_pos hbad])
          clear HR2
          cases wh with
          | false =>
            clear hbad
            go_upto_region 26 with fail
            have zz0 := HA.out.frozen 0; have zz1 := HA.out.frozen 1; have zz2 := HA.out.frozen 2; have zzl := HA.out.lt
            have yy0 := HA.out.cell 0; have yy1 := HA.out.cell 1; have yy2 := HA.out.cell 2
            simp at yy0 yy1 yy2
            go_wp2_with fail
            have A9 := at_storeZ3 HA.out ⟨#[]⟩ 0 (.slice none 0 0)
            have B9 := below_setZ3 HB.out (p := rb) (by have := HRB.out; omega) (.string ⟨#[]⟩) (.int .i64 0) (.slice none 0 0)
            generalize World.setCell (World.setCell (World.setCell wr _ _) _ _) _ _ = W9 at A9 B9 ⊢
            have c0 := A9.cell 0; have c1 := A9.cell 1; have c2 := A9.cell 2
            simp at c0 c1 c2
            refine bodyPost_ret (v := .tuple #[.agg #[.string ⟨#[]⟩, .int .i64 0, .slice none 0 0], .int .i64 (k : Int), .int .i64 4]) (by simp [results, Tryd.results8, go_sem, c0, c1, c2]) rfl ?_
            rw [HR.out]
            exact ⟨none, 0, rfl, changes_none _ _, B9⟩
          | true =>
            have hk0 : k = 0 := by rcases hbad with h | h; cases h; exact h
            subst hk0
            clear hbad
            go_upto_region 26 with fail
            have zz0 := HA.out.frozen 0; have zz1 := HA.out.frozen 1; have zz2 := HA.out.frozen 2; have zzl := HA.out.lt
            have yy0 := HA.out.cell 0; have yy1 := HA.out.cell 1; have yy2 := HA.out.cell 2
            simp at yy0 yy1 yy2
            go_wp2_with fail
            have A9 := at_storeZ3 HA.out ⟨#[]⟩ 0 (.slice none 0 0)
            have B9 := below_setZ3 HB.out (p := rb) (by have := HRB.out; omega) (.string ⟨#[]⟩) (.int .i64 0) (.slice none 0 0)
            generalize World.setCell (World.setCell (World.setCell wr _ _) _ _) _ _ = W9 at A9 B9 ⊢
            have c0 := A9.cell 0; have c1 := A9.cell 1; have c2 := A9.cell 2
            simp at c0 c1 c2
            refine bodyPost_ret (v := .tuple #[.agg #[.string ⟨#[]⟩, .int .i64 0, .slice none 0 0], .int .i64 0, .int .i64 4]) (by simp [results, Tryd.results8, go_sem, c0, c1, c2]) rfl ?_
            rw [HR.out]
            exact ⟨none, 0, rfl, changes_none _ _, B9⟩
        · have hw : wh = true := by cases wh with | false => exact absurd (.inl rfl) hbad | true => rfl
          have hk0 : ((k : Int) == 0) = false := by simp; omega
          have HR := Lib.hid (show RES = if zoneErr st.1 st.2.1 st.2.2 = 0 then (st, 0, 0) else (z0S, 0, zoneErr st.1 st.2.1 st.2.2) by rw [HR2.out, runO_nil, if_neg hbad])
          subst hw
          obtain ⟨s, f, xs⟩ := st
          obtain ⟨ok1, ok2, ok3⟩ := HOK.out
          obtain ⟨a, c, rfl, hac, hcm, hch⟩ := own_changes HZ.out.row rfl ok3
          simp only at ok1 ok2 ok3 hst hch HR ⊢
          have CZ := Lib.hid (ref_ZoneError wr s f a xs.length c xs (by omega) ok2.1 ok2.2 hch)
          have x0 := HZ.out.box.cell 0; have x1 := HZ.out.box.cell 1; have x2 := HZ.out.box.cell 2
          simp at x0 x1 x2
          obtain ⟨er, her⟩ : ∃ er, er = zoneErr s f xs := ⟨_, rfl⟩
          rw [← her] at CZ HR
          clear HR2 ok1 ok3 hch her hbad
          go_wp2_with fail
          refine CZ.out.mono ?_
          rintro e w2 ⟨rfl, hb2⟩
          have Z2 := Lib.hid (HZ.out.then_ hb2)
          have A2 := Lib.hid (HA.out.then_ hb2)
          have B2 := Lib.hid (below_then HB.out hb2)
          clear hb2 x0 x1 x2
          by_cases h0 : er = 0
          · subst h0
            have HRR := Lib.hid (show RES = ((s, f, xs), 0, 0) by rw [HR.out, if_pos rfl])
            have x0 := Z2.out.box.cell 0; have x1 := Z2.out.box.cell 1; have x2 := Z2.out.box.cell 2
            have zz0 := A2.out.frozen 0; have zz1 := A2.out.frozen 1; have zz2 := A2.out.frozen 2; have zzl := A2.out.lt
            have yy0 := A2.out.cell 0; have yy1 := A2.out.cell 1; have yy2 := A2.out.cell 2
            simp at x0 x1 x2 yy0 yy1 yy2
            go_wp2_with fail
            have A9 := at_storeZ3 A2.out s f (.slice a xs.length c)
            have B9 := below_setZ3 B2.out (p := rb) (by have := HRB.out; omega) (.string s) (.int .i64 f) (.slice a xs.length c)
            have O9 := zown_kept (w' := ((w2.setCell ⟨rb, 0, none⟩ (.string s)).setCell ⟨rb, 1, none⟩ (.int .i64 f)).setCell ⟨rb, 2, none⟩ (.slice a xs.length c)) Z2.out.row (fun b hb => heap_setZ3 (by have := (zown_lt Z2.out.row hb).1; omega) _ _ _)
            generalize World.setCell (World.setCell (World.setCell w2 _ _) _ _) _ _ = W9 at A9 B9 O9 ⊢
            obtain ⟨a', c', he', _, _, hch'⟩ := own_changes O9 rfl (HOK.out.2.2)
            have c0 := A9.cell 0; have c1 := A9.cell 1; have c2 := A9.cell 2
            simp at c0 c1 c2
            refine bodyPost_ret (v := .tuple #[.agg #[.string s, .int .i64 f, .slice a xs.length c], .int .i64 0, .int .i64 0]) (by simp [results, Tryd.results8, go_sem, c0, c1, c2]) rfl ?_
            rw [HRR.out]
            obtain ⟨rfl, _⟩ : a = a' ∧ c = c' := by injection he' with e1 e2 e3; exact ⟨e1, e3⟩
            exact ⟨a, c, rfl, hch', B9⟩
          · have e1 : (er == 0) = false := by simpa using h0
            have e2 : (er != 0) = true := by simpa using h0
            have HRR := Lib.hid (show RES = (z0S, 0, er) by rw [HR.out, if_neg h0])
            clear h0 HR
            go_upto_region 29 with fail
            have zz0 := A2.out.frozen 0; have zz1 := A2.out.frozen 1; have zz2 := A2.out.frozen 2; have zzl := A2.out.lt
            have yy0 := A2.out.cell 0; have yy1 := A2.out.cell 1; have yy2 := A2.out.cell 2
            simp at yy0 yy1 yy2
            go_wp2_with fail
            have A9 := at_storeZ3 A2.out ⟨#[]⟩ 0 (.slice none 0 0)
            have B9 := below_setZ3 B2.out (p := rb) (by have := HRB.out; omega) (.string ⟨#[]⟩) (.int .i64 0) (.slice none 0 0)
            generalize World.setCell (World.setCell (World.setCell w2 _ _) _ _) _ _ = W9 at A9 B9 ⊢
            have c0 := A9.cell 0; have c1 := A9.cell 1; have c2 := A9.cell 2
            simp at c0 c1 c2
            refine bodyPost_ret (v := .tuple #[.agg #[.string ⟨#[]⟩, .int .i64 0, .slice none 0 0], .int .i64 0, .int .i64 er]) (by simp [results, Tryd.results8, go_sem, c0, c1, c2]) rfl ?_
            rw [HRR.out]
            exact ⟨none, 0, rfl, changes_none _ _, B9⟩
end Go.Proofs.YthpiiocncdpimabDoor
