/- Contract of page.groups. -/
import Derived.Test.YthpiiocncdpimaaDoorPly3
namespace Go.Proofs.YthpiiocncdpimaaDoor
set_option linter.unusedVariables false
set_option linter.unusedSimpArgs false
set_option maxRecDepth 100000
open Go.RowKit Go.Shelf

section
variable {W W' w4 : World} {B O k cap g cg : Nat} {pre : List Value} {gs : List (List Nat)} {last : List Nat}
theorem GB.at_ (h : GB W B O k cap g cg pre gs last) : ∃ cur : Array Value, At W O (.cells cur 61) ∧ cur[gs.length]? = some (.slice (some ⟨g, 0, none⟩) last.length cg) := by
  rcases h.outer.2 with ⟨h0, _⟩ | ⟨g', cap', cur, hv, hg, hat, r1, r2, r3, r4⟩
  · cases h0
  injection hv with e1 e2 e3
  injection e1 with e1
  injection e1 with e1
  subst e1 e3
  refine ⟨cur, hat, ?_⟩
  have h1 : (cur.toList.take (k * 1))[gs.length]? = some (.slice (some ⟨g, 0, none⟩) last.length cg) := by
    rw [r4, List.getElem?_append_right (by rw [h.plen]; exact Nat.le_refl _), h.plen, Nat.sub_self]; rfl
  rw [List.getElem?_take, if_pos (by rw [h.len]; omega), Array.getElem?_toList] at h1
  exact h1
theorem GB.slot0 (h : GB W B O k cap g cg pre gs last) : W.frozen? ⟨O, gs.length, none⟩ = false ∧ W.cell? ⟨O, gs.length, none⟩ = some (.slice (some ⟨g, 0, none⟩) last.length cg) ∧ O < W.heap.size := by
  obtain ⟨cur, h1, h2⟩ := h.at_
  exact ⟨h1.frozen _, by rw [h1.cell]; exact h2, h1.lt⟩
theorem GB.slot (h : GB W B O k cap g cg pre gs last) {o : Obj} (hgrow : (W.alloc o).grownBy w4 (some g)) : w4.frozen? ⟨O, gs.length, none⟩ = false ∧ w4.cell? ⟨O, gs.length, none⟩ = some (.slice (some ⟨g, 0, none⟩) last.length cg) ∧ O < w4.heap.size := by
  obtain ⟨cur, h1, h2⟩ := h.at_
  have h3 : At w4 O (.cells cur 61) := (hgrow.block O (h1.alloc o).lt (by intro e; injection e with e; exact h.ne e)).trans (h1.alloc o)
  exact ⟨h3.frozen _, by rw [h3.cell]; exact h2, h3.lt⟩
theorem below_put2 {w : World} (hb : Below w.heap.size w W) (h : GB W w.heap.size O k cap g cg pre gs last) {o : Obj} (hgrow : (W.alloc o).grownBy w4 (some g)) (u : Value) : Below w.heap.size w (w4.setCell ⟨O, gs.length, none⟩ u) :=
  below_set ((below_new hb o).grown hgrow (by have := hb.size; rw [World.size_alloc]; omega) (fun b e => by cases e; exact h.inlt.1)) h.outlt.1 u
end
def GroupsPost (Ws : List Nat) (wd : Nat) (w : World) (e : Ending) (w' : World) : Prop :=
  (if fitB Ws wd = true then ∃ O cap, e = .returned (.tuple #[.slice (some ⟨O, 0, none⟩) (grps (stsO Ws wd) Ws.length).length cap, .bool true]) ∧ (grps (stsO Ws wd) Ws.length).length ≤ cap ∧ cap ≤ 9223372036854775807 ∧ NumRows w' O (grps (stsO Ws wd) Ws.length)
    else e = .returned (.tuple #[.slice none 0 0, .bool false])) ∧ Below w.heap.size w w'
set_option maxHeartbeats 16000000 in
theorem page_groups (w : World) (a : Option Addr) (c : Nat) (Ws : List Nat) (wd : Nat) (h : Ints w w.heap.size a Ws.length (nz Ws)) (h1 : 1 ≤ Ws.length) (h2 : Ws.length ≤ 12) (hW : ∀ j, Ws.getD j 0 ≤ 200) (hwd : wd ≤ 200) :
    Calls Tryd.prog 30 #[.slice a Ws.length c, .int .i64 (wd : Int)] w (GroupsPost Ws wd w) := by
  obtain ⟨b, off, rfl, hb, hc0⟩ := nat_at h (k := 0) (by omega)
  rw [Nat.add_zero] at hc0
  obtain ⟨a0, ha0⟩ : ∃ x, x = Ws.getD 0 0 := ⟨_, rfl⟩
  have ha200 : a0 ≤ 200 := by rw [ha0]; exact hW 0
  rw [← ha0] at hc0
  have HC0 := Lib.hid hc0
  have H := Lib.hid h; have HW := Lib.hid hW
  have HA0 := Lib.hid ha0
  obtain ⟨n, hn⟩ : ∃ n, n = Ws.length := ⟨_, rfl⟩
  have HN := Lib.hid hn
  have HFIT := Lib.hid (show fitB Ws wd = (decide (a0 ≤ wd) && (Ws.drop 1).all fun x => decide (a0 + 2 + x ≤ wd)) by unfold fitB; rw [← ha0])
  have HSTS := Lib.hid (show stsO Ws wd = stGo a0 wd (Ws.drop 1) 1 a0 [1] by unfold stsO; rw [← ha0])
  obtain ⟨F, hF⟩ : ∃ F, F = fitB Ws wd := ⟨_, rfl⟩
  have HF := Lib.hid hF
  rw [← hF] at HFIT
  rw [← hn] at h1 h2 ⊢
  clear h hW ha0 hn hF
  obtain ⟨i0, hi, hz0, hz1, hz2⟩ := info_parts infoNum
  obtain ⟨s0, si, sz0, sz1, sz2⟩ := info_parts (show (Tryd.prog.info? 61).map (fun i => (i.zero, i.size, i.bytes)) = some (some (.slice none 0 0), 1, 24) by kernel_rfl)
  have hb0 : b < w.heap.size := hb
  by_cases h0 : wd < a0
  · have hR := Lib.hid (show fitB Ws wd = false by rw [← HF.out, HFIT.out, decide_eq_false (by omega)]; rfl)
    have e1 : (wd : Int) < (a0 : Int) := by omega
    clear h0
    go_enter Tryd.func30, Tryd.ntmps30
    go_wp2_with fail
    go_ret2
    unfold GroupsPost
    rw [hR.out]
    exact ⟨rfl, Below.refl _ _⟩
  have e1 : ¬ (wd : Int) < (a0 : Int) := by omega
  have HF2 := Lib.hid (show F = (Ws.drop 1).all fun x => decide (a0 + 2 + x ≤ wd) by rw [HFIT.out, decide_eq_true (by omega), Bool.true_and])
  have G0 := gb_start w w.heap.size (Nat.le_refl _)
  have B0 := below_new (below_new (Below.refl w.heap.size w) (.cells #[.int .i64 0] 3)) (.cells #[.slice (some ⟨w.heap.size, 0, none⟩) 1 1] 61)
  have HG0 := Lib.hid G0; have HB0 := Lib.hid B0
  clear h0 G0 B0 hc0
  go_enter Tryd.func30, Tryd.ntmps30
  have c0 := HC0.out
  go_upto_region 4 with fail
  clear c0
  generalize World.alloc (World.alloc w _) _ = W1 at HG0 HB0 ⊢
  have c0 : W1.cell? ⟨b, off, none⟩ = some (.int .i64 (a0 : Int)) := (HB0.out.cell (p := ⟨b, off, none⟩) hb).trans HC0.out
  have c1 : b < W1.heap.size := Nat.lt_of_lt_of_le hb HB0.out.size
  go_wp2_with fail
  clear c0 c1
  go_loopw [6, 7, 8, 9] (fun o u i l wr => ∃ (j used O k cap g cg : Nat) (acc : List Nat) (pre : List Value) (gs : List (List Nat)) (last : List Nat), i = .int .i64 j ∧ u = .int .i64 used ∧ o = .slice (some ⟨O, 0, none⟩) k cap ∧ (∃ V, V = l) ∧ 1 ≤ j ∧ j ≤ n ∧ used ≤ 400 ∧ k ≤ j ∧ last.length ≤ j ∧ GB wr w.heap.size O k cap g cg pre gs last ∧ grps acc j = gs ++ [last] ∧ acc ≠ [] ∧ acc.getLastD 0 ≤ j ∧ stsO Ws wd = stGo a0 wd (Ws.drop j) j used acc ∧ F = ((Ws.drop j).all fun x => decide (a0 + 2 + x ≤ wd)) ∧ Below w.heap.size w wr) (fun _ _ i _ _ => n - (intOf i).toNat)
  case atStart => exact ⟨1, a0, _, 1, 1, _, 1, [1], [], [], [0], rfl, rfl, rfl, ⟨_, rfl⟩, by omega, h1, by omega, by omega, by simp, HG0.out, rfl, by simp, by simp, HSTS.out, HF2.out, HB0.out⟩
  case round =>
    obtain ⟨j, used, O, k, cap, g, cg, acc, pre, gs, last, rfl, rfl, rfl, ⟨V9, rfl⟩, hj1, hjn, hus, hkj, hll, hgb, hgr, hac, hal, hst, hfi, hbw⟩ := hrel
    have HGB := Lib.hid hgb; have HGR := Lib.hid hgr; have HAC := Lib.hid hac; have HAL := Lib.hid hal; have HST := Lib.hid hst; have HFI := Lib.hid hfi; have HB := Lib.hid hbw
    by_cases hlt : j < n
    · obtain ⟨b', off', e', _, hcj⟩ := nat_at H.out (k := j) (by rw [← HN.out]; exact hlt)
      obtain ⟨rfl, rfl⟩ : b = b' ∧ off = off' := by injection e' with e'; injection e' with e1 e2; exact ⟨e1, e2⟩
      obtain ⟨x, hx⟩ : ∃ x, x = Ws.getD j 0 := ⟨_, rfl⟩
      have hx200 : x ≤ 200 := by rw [hx]; exact HW.out j
      rw [← hx] at hcj
      have HCJ := Lib.hid hcj
      have hdr := drop_nat (cs := Ws) (j := j) (by rw [← HN.out]; exact hlt)
      rw [← hx] at hdr
      have HST2 := Lib.hid (show stsO Ws wd = _ by rw [HST.out, hdr, stGo_cons])
      have HFI2 := Lib.hid (show F = (decide (a0 + 2 + x ≤ wd) && (Ws.drop (j + 1)).all fun x => decide (a0 + 2 + x ≤ wd)) by rw [HFI.out, hdr, List.all_cons])
      have c0 : wr.cell? ⟨b, off, none⟩ = some (.int .i64 (a0 : Int)) := (hbw.cell (p := ⟨b, off, none⟩) hb).trans HC0.out
      have c1 : wr.cell? ⟨b, off + j, none⟩ = some (.int .i64 (x : Int)) := (hbw.cell (p := ⟨b, off + j, none⟩) hb).trans HCJ.out
      have c2 : b < wr.heap.size := Nat.lt_of_lt_of_le hb hbw.size
      have w1 : IntKind.i64.wrap ((a0 : Int) + 2) = (a0 : Int) + 2 := IntWalk.i64_in _ (by omega)
      have w2 : IntKind.i64.wrap ((a0 : Int) + 2 + (x : Int)) = (a0 : Int) + 2 + (x : Int) := IntWalk.i64_in _ (by omega)
      have hklen := hgb.len
      have hin := hgb.inner
      have hout := hgb.outer
      have HIN := Lib.hid hin; have HOUT := Lib.hid hout
      have hk1 : (k : Int) - 1 = (gs.length : Int) := by omega
      have hOl := hgb.outlt
      clear e' hx hcj hdr hgb hgr hac hal hst hfi hin hout
      by_cases hf : wd < a0 + 2 + x
      · have hR := Lib.hid (show fitB Ws wd = false by rw [← HF.out, HFI2.out, decide_eq_false (by omega)]; rfl)
        have q1 : (wd : Int) < (a0 : Int) + 2 + (x : Int) := by omega
        have q2 : decide ((wd : Int) < (a0 : Int) + 2 + (x : Int)) = true := by simpa using q1
        clear hf hklen
        go_wp2_with fail
        go_quiet (fail)
        go_wp2_with fail
        go_ret2
        unfold GroupsPost
        rw [hR.out]
        exact ⟨rfl, below_drewN hbw _⟩
      have q1 : ¬ (wd : Int) < (a0 : Int) + 2 + (x : Int) := by omega
      have q2 : decide ((wd : Int) < (a0 : Int) + 2 + (x : Int)) = false := by simpa using q1
      have HFI3 := Lib.hid (show F = (Ws.drop (j + 1)).all fun x => decide (a0 + 2 + x ≤ wd) by rw [HFI2.out, decide_eq_true (by omega), Bool.true_and])
      by_cases hp : wd < used + 2 + x
      · have q3 : (wd : Int) < (used : Int) + 2 + (x : Int) := by omega
        have HST3 := Lib.hid (show stsO Ws wd = stGo a0 wd (Ws.drop (j + 1)) (j + 1) (a0 + 2 + x) (acc ++ [j]) by rw [HST2.out, if_pos hp])
        clear hf hp hklen hk1
        go_wp2_with fail
        go_quiet (fail)
        generalize hWq : World.drewN wr _ = W2
        have hbq : Below wr.heap.size wr W2 := by rw [← hWq]; exact below_drewN (Below.refl _ _) _
        clear hWq c0 c1 c2
        have G2 := Lib.hid (HGB.out.then_ hbq)
        have B2 := Lib.hid (below_then HB.out hbq)
        clear hbq HOUT HIN HB HGB
        have HOUT := Lib.hid G2.out.outer
        have HIN := Lib.hid G2.out.inner
        have c0 : W2.cell? ⟨b, off, none⟩ = some (.int .i64 (a0 : Int)) := (B2.out.cell (p := ⟨b, off, none⟩) hb).trans HC0.out
        have c1 : W2.cell? ⟨b, off + j, none⟩ = some (.int .i64 (x : Int)) := (B2.out.cell (p := ⟨b, off + j, none⟩) hb).trans HCJ.out
        have c2 : b < W2.heap.size := Nat.lt_of_lt_of_le hb B2.out.size
        have hOl2 := G2.out.outlt
        go_upto_region 12 with (at_builtin; refine wpList_append_lies _ rfl _ _ 77 rfl (w.heap.size) 61 s0 (.slice none 0 0) 1 24 Tryd.underlying77 si sz0 sz1 sz2 rfl (by decide) _ _ _ rfl ((HOUT.out.alloc _).alloc _) ⟨W2.heap.size + 1, 0, none⟩ 1 1 [.slice (some ⟨W2.heap.size, 0, none⟩) 1 1] rfl rfl (World.news_of_block (cs := #[.slice (some ⟨W2.heap.size, 0, none⟩) 1 1]) (t := 61) (fr := (0, 0)) (At.newAt _ _ _ (by rw [World.size_alloc]))) (by simp [Value.oneCell']) (by decide) (by unfold maxLen; omega) (by omega) (by rw [World.size_alloc, World.size_alloc]; omega) _ rfl ?_; intro O4 cap5 w5 hown5 hgrow5 hlies5 hglt5)
        have G5 := Lib.hid (G2.out.push hown5 hgrow5 hlies5)
        have B5 := Lib.hid ((below_new (below_new B2.out (.cells #[.int .i64 0] 3)) (.cells #[.slice (some ⟨W2.heap.size, 0, none⟩) 1 1] 61)).grown hgrow5 (by have := B2.out.size; rw [World.size_alloc, World.size_alloc]; omega) (fun b' e => by cases e; exact hOl2.1))
        clear hown5 hgrow5 hlies5 hglt5 c0 c1 c2 G2 HOUT HIN hOl2
        obtain ⟨R2, hR2⟩ : ∃ R, R = W2.heap.size := ⟨_, rfl⟩
        rw [← hR2] at G5
        clear hR2
        obtain ⟨gs2, hgs2⟩ : ∃ gs2, gs2 = gs ++ [last] := ⟨_, rfl⟩
        rw [← hgs2] at G5
        have HGS2 := Lib.hid hgs2
        clear hgs2
        have HIN5 := Lib.hid (show w5.ownsRow w.heap.size 3 1 (.slice (some ⟨R2, 0, none⟩) 1 1) 1 [.int .i64 ((0 : Nat) : Int)] from G5.out.inner)
        have c0 : w5.cell? ⟨b, off, none⟩ = some (.int .i64 (a0 : Int)) := (B5.out.cell (p := ⟨b, off, none⟩) hb).trans HC0.out
        have c1 : w5.cell? ⟨b, off + j, none⟩ = some (.int .i64 (x : Int)) := (B5.out.cell (p := ⟨b, off + j, none⟩) hb).trans HCJ.out
        have c2 : b < w5.heap.size := Nat.lt_of_lt_of_le hb B5.out.size
        have hsz5 : w.heap.size ≤ w5.heap.size := B5.out.size
        have HKL := Lib.hid (show gs2.length = k by have := G5.out.len; omega)
        obtain ⟨hsl1, hsl2, hsl3⟩ := G5.out.slot0; rw [HKL.out] at hsl1 hsl2
        go_upto_region 15 with (at_builtin; refine wpList_append_lies _ rfl _ _ 61 rfl (w.heap.size) 3 i0 (.int .i64 0) 1 8 Tryd.underlying61 hi hz0 hz1 hz2 rfl (by decide) _ _ _ rfl (HIN5.out.alloc _) ⟨w5.heap.size, 0, none⟩ 1 1 [.int .i64 (j : Int)] rfl rfl (World.news_of_block (cs := #[.int .i64 (j : Int)]) (t := 3) (fr := (0, 0)) (heap_alloc_new w5 _)) (by simp [Value.oneCell']) (by decide) (by unfold maxLen; omega) (by omega) (by first | omega | (simp; omega)) _ rfl ?_; intro g4 cap4 w4 hown' hgrow hlies hglt; obtain ⟨y1, y2, y3⟩ := G5.out.slot hgrow; rw [HKL.out] at y1 y2)
        have G9 := G5.out.step hown' hgrow hlies
        have B9 := below_put2 B5.out G5.out hgrow (.slice (some ⟨g4, 0, none⟩) (([0] : List Nat).length + 1) cap4); rw [HKL.out] at G9 B9
        replace G9 := Lib.hid G9; replace B9 := Lib.hid B9
        generalize World.setCell w4 _ _ = W9 at G9 B9 ⊢
        clear y1 y2 y3 hsl1 hsl2 hsl3 hown' hgrow hlies hglt
        have u0 : W9.cell? ⟨b, off, none⟩ = some (.int .i64 (a0 : Int)) := (B9.out.cell (p := ⟨b, off, none⟩) hb).trans HC0.out
        have u1 : W9.cell? ⟨b, off + j, none⟩ = some (.int .i64 (x : Int)) := (B9.out.cell (p := ⟨b, off + j, none⟩) hb).trans HCJ.out
        have u2 : b < W9.heap.size := Nat.lt_of_lt_of_le hb B9.out.size
        go_wp2_with fail
        go_roundw
        case rel => exact ⟨j + 1, a0 + 2 + x, O4, k + 1, cap5, g4, cap4, acc ++ [j], _, gs2, [0] ++ [j], by go_num, by go_num, rfl, ⟨_, rfl⟩, by omega, by omega, by omega, by omega, by simp; omega, G9.out, by rw [grps_snoc _ 0 _ HAC.out, HGR.out, HGS2.out]; rfl, by simp, by simp, HST3.out, HFI3.out, B9.out⟩
        case measure => simp [intOf]; omega
      · have q3 : ¬ (wd : Int) < (used : Int) + 2 + (x : Int) := by omega
        have HST3 := Lib.hid (show stsO Ws wd = stGo a0 wd (Ws.drop (j + 1)) (j + 1) (used + 2 + x) acc by rw [HST2.out, if_neg hp])
        clear hf hp hklen
        go_wp2_with fail
        go_quiet (fail)
        generalize hWq : World.drewN wr _ = W2
        have hbq : Below wr.heap.size wr W2 := by rw [← hWq]; exact below_drewN (Below.refl _ _) _
        clear hWq c0 c1 c2
        have G2 := Lib.hid (HGB.out.then_ hbq)
        have B2 := Lib.hid (below_then HB.out hbq)
        clear hbq HOUT HIN HB HGB
        have HOUT := Lib.hid G2.out.outer
        have HIN := Lib.hid G2.out.inner
        have c0 : W2.cell? ⟨b, off, none⟩ = some (.int .i64 (a0 : Int)) := (B2.out.cell (p := ⟨b, off, none⟩) hb).trans HC0.out
        have c1 : W2.cell? ⟨b, off + j, none⟩ = some (.int .i64 (x : Int)) := (B2.out.cell (p := ⟨b, off + j, none⟩) hb).trans HCJ.out
        have c2 : b < W2.heap.size := Nat.lt_of_lt_of_le hb B2.out.size
        have hOl2 := G2.out.outlt
        obtain ⟨hsl1, hsl2, hsl3⟩ := G2.out.slot0
        go_upto_region 15 with (at_builtin; refine wpList_append_lies _ rfl _ _ 61 rfl (w.heap.size) 3 i0 (.int .i64 0) 1 8 Tryd.underlying61 hi hz0 hz1 hz2 rfl (by decide) _ _ _ rfl (HIN.out.alloc _) ⟨W2.heap.size, 0, none⟩ 1 1 [.int .i64 (j : Int)] rfl rfl (World.news_of_block (cs := #[.int .i64 (j : Int)]) (t := 3) (fr := (0, 0)) (heap_alloc_new W2 _)) (by simp [Value.oneCell']) (by decide) (by unfold maxLen; omega) (by omega) (by first | omega | (simp; omega)) _ rfl ?_; intro g4 cap4 w4 hown' hgrow hlies hglt; obtain ⟨y1, y2, y3⟩ := G2.out.slot hgrow)
        have G9 := G2.out.step hown' hgrow hlies
        have B9 := below_put2 B2.out G2.out hgrow (.slice (some ⟨g4, 0, none⟩) (last.length + 1) cap4)
        replace G9 := Lib.hid G9; replace B9 := Lib.hid B9
        generalize World.setCell w4 _ _ = W9 at G9 B9 ⊢
        clear y1 y2 y3 hsl1 hsl2 hsl3 hown' hgrow hlies hglt
        have u0 : W9.cell? ⟨b, off, none⟩ = some (.int .i64 (a0 : Int)) := (B9.out.cell (p := ⟨b, off, none⟩) hb).trans HC0.out
        have u1 : W9.cell? ⟨b, off + j, none⟩ = some (.int .i64 (x : Int)) := (B9.out.cell (p := ⟨b, off + j, none⟩) hb).trans HCJ.out
        have u2 : b < W9.heap.size := Nat.lt_of_lt_of_le hb B9.out.size
        go_wp2_with fail
        go_roundw
        case rel => exact ⟨j + 1, used + 2 + x, O, k, cap, g4, cap4, acc, _, gs, last ++ [j], by go_num, by go_num, rfl, ⟨_, rfl⟩, by omega, by omega, by omega, by omega, by simp; omega, G9.out, grps_last HGR.out HAC.out HAL.out, HAC.out, by have := HAL.out; omega, HST3.out, HFI3.out, B9.out⟩
        case measure => simp [intOf]; omega
    · obtain rfl : j = n := by omega
      have hfin : Ws.drop j = [] := List.drop_eq_nil_of_le (by rw [← HN.out]; exact Nat.le_refl _)
      have hR := Lib.hid (show fitB Ws wd = true by rw [← HF.out, HFI.out, hfin]; rfl)
      have hG := Lib.hid (show grps (stsO Ws wd) Ws.length = gs ++ [last] by rw [HST.out, hfin, stGo, ← HN.out, HGR.out])
      obtain ⟨r1, r2, r3⟩ := hgb.rows
      have hkl := hgb.len
      have HKL := Lib.hid hkl
      have HR1 := Lib.hid r1
      clear hgb hgr hac hal hst hfi hfin hlt hkl r1
      go_wp2_with fail
      go_ret2
      unfold GroupsPost
      rw [hR.out, hG.out]
      refine ⟨⟨O, cap, ?_, ?_, r3, HR1.out⟩, hbw⟩
      · rw [List.length_append, HKL.out]; rfl
      · rw [List.length_append]; show gs.length + 1 ≤ cap; have := HKL.out; omega
end Go.Proofs.YthpiiocncdpimaaDoor
