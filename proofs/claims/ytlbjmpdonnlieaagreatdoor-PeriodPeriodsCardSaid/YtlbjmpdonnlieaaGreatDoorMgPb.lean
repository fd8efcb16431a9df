/- Several texts in one: Per3, Per4, Per5. -/
import Derived.Test.YtlbjmpdonnlieaaGreatDoorMgPa
import Derived.Test.YtlbjmpdonnlieaaGreatDoorMgFb
namespace Go.Proofs.YtlbjmpdonnlieaaGreatDoor
set_option linter.unusedVariables false
set_option linter.unusedSimpArgs false
set_option maxRecDepth 100000
open Go.RowKit Go.Shelf
abbrev pairV (p : Int × Int) : Value := .tuple #[.int .i64 p.1, .int .i64 p.2]
set_option maxHeartbeats 2000000 in
theorem period_of (w0 : World) (m : Int) (hm : w0.cell? ⟨1, 0, none⟩ = some (.int .i64 m)) (hlv : Lvl w0) (hsg : Sgn w0) (k a b : Int) (s : ByteArray) (ks : List Fst) (w : World) (ad : Option Addr) (len cap : Nat) (hok : fstOk (.node k a b s ks)) (hsub : FSub w0 w0.heap.size (.node k a b s ks) ad len) (hbw : Below w0.heap.size w0 w) (hlc : len ≤ cap) (hcap : cap ≤ 9223372036854775807) :
    Calls Tryz.prog 33 #[.agg (fV k a b s ad len cap)] w (fun e w' => e = .returned (pairV (perOk (.node k a b s ks))) ∧ Below w0.heap.size w0 w') := by
  have CO := Lib.hid (fun (W : World) (hW : Below w0.heap.size w0 W) => period_once (.node k a b s ks) W ad len cap ((hsub.below hW (Nat.le_refl _)).more hW.size) hlc hcap)
  have CP := Lib.hid (fun (W : World) (hW : Below w0.heap.size w0 W) => period_period w0 m hm hlv hsg (.node k a b s ks) W ad len cap hok hsub hW hlc hcap)
  have HC := perOk_cases _ hok
  simp only [Fst.kind, Fst.va, Fst.vb, Fst.nm] at CO CP
  generalize perOk (.node k a b s ks) = po at *
  generalize onceP (.node k a b s ks) = on at *
  generalize pcP (.node k a b s ks) = pc at *
  generalize perP (.node k a b s ks) = pp at *
  clear hm hlv hsg hsub hok
  have a0 := At.new w (fO k a b s ad len cap)
  have b0 := below_new hbw (fO k a b s ad len cap)
  rcases HC with ⟨rfl, -, rfl⟩ | ⟨rfl, -, rfl, rfl⟩ | ⟨rfl, hp, rfl, rfl⟩
  all_goals
    go_enter Tryz.func33, Tryz.ntmps33
    go_upto_region 1 with fail
    obtain ⟨T, hT⟩ : ∃ T, T = w.heap.size := ⟨_, rfl⟩
    rw [← hT] at a0 ⊢
    generalize World.alloc w _ = W0 at a0 b0 ⊢
    clear hT hbw
    have d0 := a0.cell 0; have d1 := a0.cell 1; have d2 := a0.cell 2; have d3 := a0.cell 3; have d4 := a0.cell 4; simp at d0 d1 d2 d3 d4
  · go_wp2_with (go_at_call 67; refine (CO.out _ b0).mono ?_; rintro e w1 ⟨rfl, hb⟩)
    go_ret2
    exact ⟨rfl, below_then b0 hb⟩
  · go_upto_region 3 with (go_at_call 67; refine (CO.out _ b0).mono ?_; rintro e w1 ⟨rfl, hb⟩)
    exact q34
  · have hp0 : (pc == 0) = false := by simp; omega
    go_upto_region 3 with (go_at_call 67; refine (CO.out _ b0).mono ?_; rintro e w1 ⟨rfl, hb⟩)
    exact q34
set_option maxHeartbeats 2000000 in
theorem period_Period (w : World) (m : Int) (hm : w.cell? ⟨1, 0, none⟩ = some (.int .i64 m)) (hlv : Lvl w) (hsg : Sgn w) (k a b : Int) (s : ByteArray) (ks : List Fst) (W : World) (ad : Option Addr) (n c : Nat) (hsub : FSub w w.heap.size (.node k a b s ks) ad n) (hW : Below w.heap.size w W) (hc : n ≤ c) (hm' : c ≤ 9223372036854775807) :
    Calls Tryz.prog 11 #[.agg (fV k a b s ad n c)] W (fun e w' => e = .returned (pairV (perOut (.node k a b s ks))) ∧ Below W.heap.size W w') := by
  have hgm := World.block_lt_of_cell? _ _ hm
  have hm2 := (hW.cell (p := ⟨1, 0, none⟩) hgm).trans hm
  have h2 := (hsub.below hW (Nat.le_refl _)).more hW.size
  have cb := feast_both W m hm2 (hlv.below hW) (hsg.below hW) k a b s ks ad n c h2 hc hm'
  unfold FBoth at cb
  have CB := Lib.hid cb
  have CF := Lib.hid (fun (hok : fstOk (.node k a b s ks)) (V : World) (hV : Below W.heap.size W V) => period_of W m hm2 (hlv.below hW) (hsg.below hW) k a b s ks V ad n c hok h2 hV hc hm')
  have HO := Lib.hid (show perOut (.node k a b s ks) = if fstErr (.node k a b s ks) ≠ 0 then (0, fstErr (.node k a b s ks)) else perOk (.node k a b s ks) from rfl)
  have HK := Lib.hid (fun h => fst_ok (t := .node k a b s ks) h)
  generalize fstErr (.node k a b s ks) = E at CB HO HK
  generalize perOut (.node k a b s ks) = po at HO ⊢
  generalize perOk (.node k a b s ks) = pk at CF HO
  obtain ⟨p1, p2⟩ := pk
  clear hm hlv hsg hsub hgm hm2 h2 cb
  have o0 := One.new W (fO k a b s ad n c)
  by_cases hE : E = 0
  case neg =>
    have hf := Lib.hid (HO.out.trans (if_pos hE))
    have hE' : (E != 0) = true := by simpa using hE
    clear hE
    go_enter Tryz.func11, Tryz.ntmps11
    go_upto_region 1 with fail
    generalize World.alloc W _ = W0 at o0 ⊢
    have hq0 : Below W.heap.size W W0 := o0.2
    have o1 := o0.1
    have d0 := o1.cell 0; have d1 := o1.cell 1; have d2 := o1.cell 2; have d3 := o1.cell 3; have d4 := o1.cell 4; simp at d0 d1 d2 d3 d4
    go_wp2_with (go_at_call 9; refine (CB.out _ hq0).1.mono ?_; rintro e w1 ⟨rfl, hb⟩)
    go_ret2
    exact ⟨by rw [hf.out]; rfl, below_then hq0 hb⟩
  subst hE
  have hf := Lib.hid (HO.out.trans (if_neg (by simp)))
  have CF2 := Lib.hid (CF.out (HK.out rfl).1)
  clear CF HK HO
  go_enter Tryz.func11, Tryz.ntmps11
  go_upto_region 1 with fail
  generalize World.alloc W _ = W0 at o0 ⊢
  have hq0 : Below W.heap.size W W0 := o0.2
  have o1 := o0.1
  have d0 := o1.cell 0; have d1 := o1.cell 1; have d2 := o1.cell 2; have d3 := o1.cell 3; have d4 := o1.cell 4; simp at d0 d1 d2 d3 d4
  go_upto_region 4 with (go_at_call 9; refine (CB.out _ hq0).1.mono ?_; rintro e w1 ⟨rfl, hb⟩)
  have hq1 := below_then hq0 hb
  replace o1 := o1.then_ hb
  clear d0 d1 d2 d3 d4 hb
  have d0 := o1.cell 0; have d1 := o1.cell 1; have d2 := o1.cell 2; have d3 := o1.cell 3; have d4 := o1.cell 4; simp at d0 d1 d2 d3 d4
  go_wp2_with (go_at_call 33; refine (CF2.out _ hq1).mono ?_; rintro e w2 ⟨rfl, hb⟩)
  go_ret2
  exact ⟨by rw [hf.out]; rfl, hb⟩
set_option maxHeartbeats 8000000 in
theorem law_periodOf (w0 : World) (m : Int) (hm : w0.cell? ⟨1, 0, none⟩ = some (.int .i64 m)) : ∀ (t : Fst) (w : World) (ad : Option Addr) (len cap : Nat), fstOk t → FSub w0 w0.heap.size t ad len → Below w0.heap.size w0 w → len ≤ cap → cap ≤ 9223372036854775807 →
    Calls Tryz.prog 34 #[.agg (fV t.kind t.va t.vb t.nm ad len cap)] w (fun e w' => e = .returned (.int .i64 (perP t)) ∧ Below w0.heap.size w0 w') := by
  intro t
  refine Fst.all (P := fun t => ∀ (w : World) (ad : Option Addr) (len cap : Nat), fstOk t → FSub w0 w0.heap.size t ad len → Below w0.heap.size w0 w → len ≤ cap → cap ≤ 9223372036854775807 →
    Calls Tryz.prog 34 #[.agg (fV t.kind t.va t.vb t.nm ad len cap)] w (fun e w' => e = .returned (.int .i64 (perP t)) ∧ Below w0.heap.size w0 w')) ?_ t
  intro k a b s ks ih w ad len cap hok hsub hbw hlc hcap
  have hgm := World.block_lt_of_cell? _ _ hm
  have CC := Lib.hid (fun (W : World) (hW : Below w0.heap.size w0 W) => show Calls Tryz.prog 17 #[.string s] W (NamedPost s.data.toList W) from by
    have h := ref_Named s.data.toList W m ((hW.cell (p := ⟨1, 0, none⟩) hgm).trans hm)
    rw [str_back2] at h; exact h)
  clear hm hgm
  have IH := Lib.hid ih; clear ih
  have LN := Lib.hid hsub.len.1
  have hlm := hsub.len.2.1
  have HS := Lib.hid hsub; clear hsub
  have HOK := Lib.hid hok
  have HB := Lib.hid (baseP_in hok)
  clear hok
  simp only [Fst.kind, Fst.va, Fst.vb, Fst.nm]
  have HPC := Lib.hid (perP_node k a b s ks)
  obtain ⟨n0, hn0⟩ : ∃ x, x = baseP k a s := ⟨_, rfl⟩
  have HN0 := Lib.hid hn0
  have hnb := HB.out
  rw [← hn0] at HPC hnb
  clear hn0 HB
  obtain ⟨nb1, nb2⟩ := hnb
  have hwl : IntKind.i64.wrap (len : Int) = (len : Int) := IntWalk.i64_in _ (by omega)
  have a0 := At.new w (fO k a b s ad len cap)
  have b0 := below_new hbw (fO k a b s ad len cap)
  by_cases h5 : k = 5 ∨ k = 6
  · have hz := Lib.hid (show perP (.node k a b s ks) = 0 by rw [HPC.out, if_pos h5])
    clear HPC HN0 CC
    rcases h5 with rfl | rfl
    all_goals
      go_enter Tryz.func34, Tryz.ntmps34
      go_upto_region 1 with fail
      obtain ⟨T, hT⟩ : ∃ T, T = w.heap.size := ⟨_, rfl⟩
      rw [← hT] at a0 ⊢
      generalize World.alloc w _ = W0 at a0 b0 ⊢
      clear hT hbw
      have d0 := a0.cell 0; have d1 := a0.cell 1; have d2 := a0.cell 2; have d3 := a0.cell 3; have d4 := a0.cell 4; simp at d0 d1 d2 d3 d4
      go_wp2_with fail
      go_ret
      exact ⟨ret_int (by rw [hz.out]), b0⟩
  have HPR := Lib.hid (HPC.out.trans (if_neg h5))
  have e5 := kne (show k ≠ 5 by omega)
  have e6 := kne (show k ≠ 6 by omega)
  clear h5 HPC
  go_enter Tryz.func34, Tryz.ntmps34
  go_upto_region 1 with fail
  obtain ⟨T, hT⟩ : ∃ T, T = w.heap.size := ⟨_, rfl⟩
  rw [← hT] at a0 ⊢
  generalize World.alloc w _ = W0 at a0 b0 ⊢
  clear hT hbw
  have A0 := Lib.hid a0; have B0 := Lib.hid b0
  have d0 := a0.cell 0; have d1 := a0.cell 1; have d2 := a0.cell 2; have d3 := a0.cell 3; have d4 := a0.cell 4; simp at d0 d1 d2 d3 d4
  clear a0 b0
  go_cut [3] from 10 (fun y wx => y = .int .i64 1 ∧ W0 = wx)
  case first =>
    go_wp2_with fail
    go_meet
    case rel => exact ⟨rfl, rfl⟩
  case rest =>
  obtain ⟨rfl, rfl⟩ := hcut
  apply_assumption
  refine wp_seq_k ?_
  intro KK hKK
  go_cut [3] from 10 (fun y wx => y = .int .i64 n0 ∧ At wx T (fO k a b s ad len cap) ∧ Below w0.heap.size w0 wx)
  case first =>
    as_aux_lemma =>
    clear hKK
    by_cases hu : k = 1 ∨ k = 12 ∨ k = 2
    · have hmn := (fstOk_node HOK.out).2.1 (usesN_t hu)
      obtain ⟨r, hro⟩ := row_of_months hmn
      have hn := Lib.hid (show n0 = daysTo (shortOf (msL r)) (longOf (msL r)) (lsL r) (calN r : Int) by
        rw [HN0.out]; unfold baseP totN; rw [if_pos (usesN_t hu), hro])
      have hcp := CC.out W0 B0.out
      unfold NamedPost at hcp
      rw [hro] at hcp
      have CP := Lib.hid (show Calls Tryz.prog 17 #[.string s] W0 (fun e w' => ∃ v, e = .returned (.tuple #[v, .bool true]) ∧ YearsRet r W0 v w') from hcp)
      clear hcp hmn hro e5 e6
      rcases hu with rfl | rfl | rfl
      all_goals
        go_upto_region 10 with (go_at_call 17; refine CP.out.mono ?_; rintro e w3 ⟨v, rfl, a1, n1, c1, a2, n2, c2, g, rfl, j1, j2, hcal, hmk, hb⟩)
        have o3 := At.new w3 (.cells #[.string (tkS (ruleL r).nm), .int .i64 (ruleL r).ep, .int .i64 (calN r : Int), .slice a1 n1 c1, .slice a2 n2 c2, .slice (some ⟨g, 0, none⟩) (calN r) (calN r), .int .i64 (shortOf (msL r)), .int .i64 (longOf (msL r)), .int .i64 (daysTo (shortOf (msL r)) (longOf (msL r)) (lsL r) (calN r : Int))] 43)
        have bn := below_new (Below.refl w3.heap.size w3) (.cells #[.string (tkS (ruleL r).nm), .int .i64 (ruleL r).ep, .int .i64 (calN r : Int), .slice a1 n1 c1, .slice a2 n2 c2, .slice (some ⟨g, 0, none⟩) (calN r) (calN r), .int .i64 (shortOf (msL r)), .int .i64 (longOf (msL r)), .int .i64 (daysTo (shortOf (msL r)) (longOf (msL r)) (lsL r) (calN r : Int))] 43)
        have A3 := Lib.hid ((A0.out.then_ hb).then_ bn)
        have B3 := Lib.hid (below_then (below_then B0.out hb) bn)
        clear hb hcal bn hmk
        generalize World.alloc w3 _ = W3 at o3 A3 B3 ⊢
        have y8 := o3.cell 8
        simp at y8
        clear o3
        go_wp2_with fail
        go_meet
        case rel => exact ⟨by rw [hn.out], A3.out, B3.out⟩
    · by_cases h7 : k = 3 ∨ k = 8
      · have hn := Lib.hid (show n0 = 7 by rw [HN0.out]; unfold baseP; rw [if_neg (by rw [usesN_f hu]; simp), if_pos h7])
        clear e5 e6
        rcases h7 with rfl | rfl
        all_goals
          clear hu
          go_wp2_with fail
          go_meet
          case rel => exact ⟨by rw [hn.out], A0.out, B0.out⟩
      · by_cases h4 : k = 4
        · have hn := Lib.hid (show n0 = a by rw [HN0.out]; unfold baseP; rw [if_neg (by rw [usesN_f hu]; simp), if_neg h7, if_pos h4])
          clear e5 e6
          subst h4
          clear hu h7
          go_wp2_with fail
          go_meet
          case rel => exact ⟨by rw [hn.out], A0.out, B0.out⟩
        · have hn := Lib.hid (show n0 = 1 by rw [HN0.out]; unfold baseP; rw [if_neg (by rw [usesN_f hu]; simp), if_neg h7, if_neg h4])
          have e1 := kne (show k ≠ 1 by omega)
          have e2 := kne (show k ≠ 2 by omega)
          have e12 := kne (show k ≠ 12 by omega)
          have e3 := kne (show k ≠ 3 by omega)
          have e8 := kne (show k ≠ 8 by omega)
          have e4 := kne h4
          clear hu h7 h4
          go_wp2_with fail
          go_meet
          case rel => exact ⟨by rw [hn.out], A0.out, B0.out⟩
  case rest =>
  obtain ⟨rfl, a3, b3⟩ := hcut
  clear CC A0 B0 HN0 d0 d1 d2 d3 d4 e5 e6
  have B4 := Lib.hid b3
  have d4 : wc.cell? ⟨T, 4, none⟩ = some (.slice ad len cap) := a3.cell 4
  clear a3 b3
  go_wp2_with fail
  clear d4
  go_loopw [3, 6, 8, 9, 37] (fun n o _ _ i wr => ∃ (j : Nat) (v : Int) (ob : Bool), j ≤ len ∧ i = .int .i64 j ∧ n = .int .i64 v ∧ o = .bool ob ∧ 1 ≤ v ∧ v ≤ 1000000000000000000 ∧ (ob = false → v ≤ 1000000000) ∧ perRow ks n0 false = perRow (ks.drop j) v ob ∧ Below w0.heap.size w0 wr) (fun _ _ _ _ i _ => len - (intOf i).toNat)
  case atStart => exact ⟨0, n0, false, by omega, rfl, rfl, rfl, nb1, by omega, fun _ => (by omega), rfl, B4.out⟩
  case round =>
    clear B4
    obtain ⟨j, v, ob, hj, rfl, rfl, rfl, v0, v1, v2, hrow, ok⟩ := hrel
    have HR := Lib.hid hrow; have V2 := Lib.hid v2; clear hrow v2
    by_cases hlt : j < len
    · obtain ⟨bb, off, rfl, hbB, hcs⟩ := HS.out.kid (by omega)
      obtain ⟨k', x', y', s', ks', ad', n', cc, hx, ⟨z0, z1, z2, z3, z4, q1, q2⟩, hk⟩ := hcs j hlt
      replace z0 := (ok.cell (p := ⟨bb, _, none⟩) hbB).trans z0
      replace z1 := (ok.cell (p := ⟨bb, _, none⟩) hbB).trans z1
      replace z2 := (ok.cell (p := ⟨bb, _, none⟩) hbB).trans z2
      replace z3 := (ok.cell (p := ⟨bb, _, none⟩) hbB).trans z3
      replace z4 := (ok.cell (p := ⟨bb, _, none⟩) hbB).trans z4
      simp only [Fst.kind, Fst.va, Fst.vb, Fst.nm] at z0 z1 z2 z3
      have hz := ok.size
      have hbz : bb < wr.heap.size := by omega
      have hokk := fstOks_mem (fstOk_node HOK.out).2.2.2 (List.mem_of_getElem? hx)
      have hb1 := below_new ok (fO k' x' y' s' ad' n' cc)
      have hcall := IH.out (.node k' x' y' s' ks') (List.mem_of_getElem? hx) (wr.alloc (fO k' x' y' s' ad' n' cc)) ad' n' cc hokk hk hb1 q1 q2
      simp only [Fst.kind, Fst.va, Fst.vb, Fst.nm] at hcall
      have hpi := perP_in _ hokk
      have hdr := perRow_drop v ob hx
      obtain ⟨r, hr⟩ : ∃ r, r = perP (.node k' x' y' s' ks') := ⟨_, rfl⟩
      rw [← hr] at hcall hpi hdr
      obtain ⟨p0, p1⟩ := hpi
      have HDR := Lib.hid (HR.out.trans hdr)
      have HC := Lib.hid hcall
      clear hcs hx hk ok HR hb1 hcall hokk hr hdr
      by_cases r0 : r = 0
      · have hz := Lib.hid (show perP (.node k a b s ks) = 0 by rw [HPR.out, HDR.out, if_pos r0])
        subst r0
        go_wp2_with (go_at_call 34; refine HC.out.mono ?_; rintro e w5 ⟨rfl, hb⟩)
        go_ret
        exact ⟨ret_int (by rw [hz.out]), hb⟩
      have r0' : (r == 0) = false := kne r0
      by_cases r1 : r < 0
      · have HN := Lib.hid (show perRow ks n0 false = perRow (ks.drop (j + 1)) v true by rw [HDR.out, if_neg r0, if_pos r1])
        have r1' : decide (r < 0) = true := decide_eq_true r1
        clear r0 r1 HDR
        go_wp2_with (go_at_call 34; refine HC.out.mono ?_; rintro e w5 ⟨rfl, hb⟩)
        go_roundw
        case rel => exact ⟨j + 1, v, true, by omega, by go_num, rfl, rfl, v0, v1, fun h => (by cases h), HN.out, hb⟩
        case measure => simp [intOf]; omega
      have r1' : decide (r < 0) = false := decide_eq_false r1
      have hr1 : 1 ≤ r := by omega
      cases ob with
      | true =>
        have HN := Lib.hid (show perRow ks n0 false = perRow (ks.drop (j + 1)) v true by rw [HDR.out, if_neg r0, if_neg r1, if_pos rfl])
        clear r0 r1 HDR
        go_wp2_with (go_at_call 34; refine HC.out.mono ?_; rintro e w5 ⟨rfl, hb⟩)
        go_roundw
        case rel => exact ⟨j + 1, v, true, by omega, by go_num, rfl, rfl, v0, v1, fun h => (by cases h), HN.out, hb⟩
        case measure => simp [intOf]; omega
      | false =>
        have hv2 := V2.out rfl
        obtain ⟨g1, g2, g3, g4, g5⟩ := gcd_bounds v0 hr1
        have hl := lcmP_in v0 hv2 hr1 p1
        have HN := Lib.hid (show perRow ks n0 false = perRow (ks.drop (j + 1)) (v / (Int.gcd v r : Int) * r) (decide (1000000000 < v / (Int.gcd v r : Int) * r)) by rw [HDR.out, if_neg r0, if_neg r1, if_neg (by simp)]; rfl)
        have CG := Lib.hid (fun W : World => ref_Gcd v r W (by omega) (by omega) (by omega) (by omega))
        unfold lcmP at hl
        clear HDR r0 r1
        generalize (Int.gcd v r : Int) = g at *
        obtain ⟨lb1, lb2⟩ := hl
        have wg : IntKind.i64.wrap g = g := IntWalk.i64_in _ (by omega)
        clear g2 g3
        by_cases hbig : 1000000000 < v / g * r
        · have hd : decide (1000000000 < v / g * r) = true := decide_eq_true hbig
          rw [hd] at HN
          go_wp2_with (first | (go_at_call 34; refine HC.out.mono ?_; rintro e w5 ⟨rfl, hb⟩) | (go_at_call 69; refine (CG.out _).mono ?_; rintro e w6 ⟨rfl, rfl⟩))
          go_roundw
          case rel => exact ⟨j + 1, v / g * r, true, by omega, by go_num, rfl, rfl, lb1, lb2, fun h => (by cases h), HN.out, hb⟩
          case measure => simp [intOf]; omega
        · have hd : decide (1000000000 < v / g * r) = false := decide_eq_false hbig
          rw [hd] at HN
          go_wp2_with (first | (go_at_call 34; refine HC.out.mono ?_; rintro e w5 ⟨rfl, hb⟩) | (go_at_call 69; refine (CG.out _).mono ?_; rintro e w6 ⟨rfl, rfl⟩))
          go_roundw
          case rel => exact ⟨j + 1, v / g * r, false, by omega, by go_num, rfl, rfl, lb1, lb2, fun _ => (by omega), HN.out, hb⟩
          case measure => simp [intOf]; omega
    · have HN := Lib.hid (show perP (.node k a b s ks) = if ob = true then -1 else v by rw [HPR.out, HR.out, List.drop_eq_nil_of_le (by have := LN.out; omega), perRow_nil])
      cases ob with
      | true =>
        go_wp2_with fail
        go_ret
        exact ⟨ret_int (by rw [HN.out]; rfl), ok⟩
      | false =>
        go_wp2_with fail
        go_ret
        exact ⟨ret_int (by rw [HN.out]; rfl), ok⟩
abbrev gregB : ByteArray := ⟨#[103, 114, 101, 103, 111, 114, 105, 97, 110]⟩
theorem law_leapDay (w : World) : Calls Tryz.prog 12 #[] w fun e w' => e = .returned (.agg (fV 1 2 29 gregB none 0 0)) ∧ Below w.heap.size w w' := by
  have o0 := One.new w (fO 0 0 0 ⟨#[]⟩ none 0 0)
  go_enter Tryz.func12, Tryz.ntmps12
  go_upto_region 1 with fail
  generalize World.alloc w _ = W0 at o0 ⊢
  have hq0 : Below w.heap.size w W0 := o0.2
  have a0 : At W0 w.heap.size (fO 0 0 0 ⟨#[]⟩ none 0 0) := o0.1
  have hl := a0.lt
  have z0 := a0.cell 0; have z1 := a0.cell 1; have z2 := a0.cell 2; have z3 := a0.cell 3; have z4 := a0.cell 4; simp at z0 z1 z2 z3 z4
  have f0 := a0.frozen 0; have f1 := a0.frozen 1; have f2 := a0.frozen 2; have f3 := a0.frozen 3; have f4 := a0.frozen 4
  go_wp2_with fail
  have AF := a0.store5 (.int .i64 1) (.int .i64 2) (.int .i64 29) (.string gregB) (.slice none 0 0)
  have BF := Lib.hid (below_set5 hq0 (p := w.heap.size) (by omega) (.int .i64 1) (.int .i64 2) (.int .i64 29) (.string gregB) (.slice none 0 0))
  clear f0 f1 f2 f3 f4 z0 z1 z2 z3 z4
  generalize World.setCell (World.setCell _ _ _) _ _ = W3 at AF BF ⊢
  have y0 := AF.cell 0; have y1 := AF.cell 1; have y2 := AF.cell 2; have y3 := AF.cell 3; have y4 := AF.cell 4; simp at y0 y1 y2 y3 y4
  exact bodyPost_ret (v := .agg (fV 1 2 29 gregB none 0 0)) (by simp [results, Tryz.results12, go_sem, y0, y1, y2, y3, y4]) rfl ⟨rfl, BF.out⟩
set_option maxHeartbeats 2000000 in
theorem law_periodError (w : World) (m : Int) (hm : w.cell? ⟨1, 0, none⟩ = some (.int .i64 m)) (hlv : Lvl w) (hsg : Sgn w) (k a b : Int) (s : ByteArray) (ks : List Fst) (W : World) (ad : Option Addr) (n c : Nat) (hsub : FSub w w.heap.size (.node k a b s ks) ad n) (hW : Below w.heap.size w W) (hc : n ≤ c) (hm' : c ≤ 9223372036854775807) :
    Calls Tryz.prog 13 #[.agg (fV k a b s ad n c)] W (fun e w' => e = .returned (pairV (perOut (.node k a b s ks))) ∧ Below W.heap.size W w') := by
  have hgm := World.block_lt_of_cell? _ _ hm
  have hm2 := (hW.cell (p := ⟨1, 0, none⟩) hgm).trans hm
  have h2 := (hsub.below hW (Nat.le_refl _)).more hW.size
  have cb := feast_both W m hm2 (hlv.below hW) (hsg.below hW) k a b s ks ad n c h2 hc hm'
  unfold FBoth at cb
  have CB := Lib.hid cb
  have CF := Lib.hid (fun (hok : fstOk (.node k a b s ks)) (V : World) (hV : Below W.heap.size W V) => law_periodOf W m hm2 (.node k a b s ks) V ad n c hok h2 hV hc hm')
  simp only [Fst.kind, Fst.va, Fst.vb, Fst.nm] at CF
  have HO := Lib.hid (show perOut (.node k a b s ks) = if fstErr (.node k a b s ks) ≠ 0 then (0, fstErr (.node k a b s ks)) else if perP (.node k a b s ks) = 0 then (0, 6) else if perP (.node k a b s ks) < 0 then (0, 14) else (perP (.node k a b s ks), 0) from rfl)
  have HK := Lib.hid (fun h => fst_ok (t := .node k a b s ks) h)
  have HP := Lib.hid (perP_in (.node k a b s ks))
  generalize fstErr (.node k a b s ks) = E at CB HO HK
  generalize perOut (.node k a b s ks) = po at HO ⊢
  generalize perP (.node k a b s ks) = p at CF HO HP
  clear hm hlv hsg hsub hgm hm2 h2 cb
  have o0 := One.new W (fO k a b s ad n c)
  by_cases hE : E = 0
  case neg =>
    have hf := Lib.hid (HO.out.trans (if_pos hE))
    have hE' : (E != 0) = true := by simpa using hE
    clear hE
    go_enter Tryz.func13, Tryz.ntmps13
    go_upto_region 1 with fail
    generalize World.alloc W _ = W0 at o0 ⊢
    have hq0 : Below W.heap.size W W0 := o0.2
    have o1 := o0.1
    have d0 := o1.cell 0; have d1 := o1.cell 1; have d2 := o1.cell 2; have d3 := o1.cell 3; have d4 := o1.cell 4; simp at d0 d1 d2 d3 d4
    go_wp2_with (go_at_call 10; refine (CB.out _ hq0).2.mono ?_; rintro e w1 ⟨rfl, hb⟩)
    go_ret2
    exact ⟨by rw [hf.out]; rfl, below_then hq0 hb⟩
  subst hE
  have hf := Lib.hid (HO.out.trans (if_neg (by simp)))
  have CF2 := Lib.hid (CF.out (HK.out rfl).1)
  have hpb := Lib.hid (HP.out (HK.out rfl).1)
  clear CF HK HO HP
  have hcase : (p = 0 ∧ po = (0, 6)) ∨ (p = -1 ∧ po = (0, 14)) ∨ (p ≠ 0 ∧ p ≠ -1 ∧ po = (p, 0)) := by
    have h1 := hf.out
    have h2 := hpb.out
    by_cases h0 : p = 0
    · rw [if_pos h0] at h1; exact .inl ⟨h0, h1⟩
    · rw [if_neg h0] at h1
      by_cases h3 : p < 0
      · rw [if_pos h3] at h1; exact .inr (.inl ⟨by omega, h1⟩)
      · rw [if_neg h3] at h1; exact .inr (.inr ⟨h0, by omega, h1⟩)
  clear hf hpb
  rcases hcase with ⟨rfl, rfl⟩ | ⟨rfl, rfl⟩ | ⟨h0, h1, rfl⟩
  rotate_right
  · have h0' : (p == 0) = false := kne h0
    have h1' : (p == -1) = false := kne h1
    clear h0 h1
    go_enter Tryz.func13, Tryz.ntmps13
    go_upto_region 1 with fail
    generalize World.alloc W _ = W0 at o0 ⊢
    have hq0 : Below W.heap.size W W0 := o0.2
    have o1 := o0.1
    have d0 := o1.cell 0; have d1 := o1.cell 1; have d2 := o1.cell 2; have d3 := o1.cell 3; have d4 := o1.cell 4; simp at d0 d1 d2 d3 d4
    go_upto_region 4 with (go_at_call 10; refine (CB.out _ hq0).2.mono ?_; rintro e w1 ⟨rfl, hb⟩)
    exact q33
  all_goals
    go_enter Tryz.func13, Tryz.ntmps13
    go_upto_region 1 with fail
    generalize World.alloc W _ = W0 at o0 ⊢
    have hq0 : Below W.heap.size W W0 := o0.2
    have o1 := o0.1
    have d0 := o1.cell 0; have d1 := o1.cell 1; have d2 := o1.cell 2; have d3 := o1.cell 3; have d4 := o1.cell 4; simp at d0 d1 d2 d3 d4
    go_upto_region 4 with (go_at_call 10; refine (CB.out _ hq0).2.mono ?_; rintro e w1 ⟨rfl, hb⟩)
    exact q33
end Go.Proofs.YtlbjmpdonnlieaaGreatDoor
