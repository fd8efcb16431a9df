/- Contract of the reference's ZoneApply at a zone that is right. -/
import Derived.Test.YticflmepmmdnfaaDoorZedR
import Derived.Deep.RegionHeld3
namespace Go.Proofs.YticflmepmmdnfaaDoor
set_option linter.unusedVariables false
set_option maxRecDepth 100000
open Go.RowKit

set_option maxHeartbeats 16000000 in
theorem ref_ZoneApply (w : World) (s : ByteArray) (f : Int) (p : Option Addr) (n c : Nat) (ms : List Chg) (pe : Option Addr) (m cm : Nat) (es : List Edt) (hs : s.size ≤ 9223372036854775807) (f1 : -9223372036854775808 ≤ f) (f2 : f ≤ 9223372036854775807) (hpc : p = none → n = 0 ∧ c = 0)
    (h1 : Changes w w.heap.size p n ms) (h2 : Edits w w.heap.size pe m es) (hq : zoneErr s f ms = 0) :
    Calls Tryd.prog 12 #[.agg #[.string s, .int .i64 f, .slice p n c], .slice pe m cm] w (ApPost (apErr s f ms es) (apOut s f ms es (apErr s f ms es)) w) := by
  obtain ⟨i0, hi, hz0, hz1, hz2⟩ := info_parts chg_info
  have L1 := Lib.hid h1.len; have L2 := Lib.hid h2.len
  have HCO := Lib.hid h1.2; have HPC := Lib.hid hpc
  have m1 := h2.max
  have H1 := Lib.hid h1; have H2 := Lib.hid h2; clear h1 h2 hpc
  obtain ⟨EE, hEE⟩ : ∃ EE, EE = apErr s f ms es := ⟨_, rfl⟩
  rw [← hEE]
  have hf := Lib.hid (show EE = if 400 < es.length then 2 else if (apF es ms).1 ≠ 0 then (apF es ms).1 else zoneErr s f (apF es ms).2 by rw [hEE, apErr, if_neg (by omega)])
  clear hEE
  go_enter Tryd.func12, Tryd.ntmps12
  go_upto_region 1 with fail
  have a0 := (At.new w (.cells #[.string s, .int .i64 f, .slice p n c] 24)).alloc (.cells #[.string ⟨#[]⟩, .int .i64 0, .slice none 0 0] 24)
  have ar := At.new1 w (.cells #[.string s, .int .i64 f, .slice p n c] 24) (.cells #[.string ⟨#[]⟩, .int .i64 0, .slice none 0 0] 24)
  have b0 : Below w.heap.size w ((w.alloc (.cells #[.string s, .int .i64 f, .slice p n c] 24)).alloc (.cells #[.string ⟨#[]⟩, .int .i64 0, .slice none 0 0] 24)) := by (repeat' (first | exact Below.refl _ _ | assumption | refine Below.drew ?_ | refine below_drewN ?_ _ | refine below_new ?_ _ | refine below_set ?_ ?_ _ | refine below_then ?_ (by assumption) | refine below_drawn ?_ (by assumption) | exact Nat.le_refl _ | omega | (simp; done) | (simp; omega)))
  generalize World.alloc (World.alloc w _) _ = w2 at a0 ar b0 ⊢
  by_cases h400 : 400 < m
  case pos =>
    have hf2 := Lib.hid (hf.out.trans (if_pos (by rw [L2.out]; exact h400)))
    clear a0 hf
    have f0 : w2.frozen? ⟨w.heap.size + 1, 0, none⟩ = false := ar.frozen 0
    have f1 : w2.frozen? ⟨w.heap.size + 1, 1, none⟩ = false := ar.frozen 1
    have f2 : w2.frozen? ⟨w.heap.size + 1, 2, none⟩ = false := ar.frozen 2
    have z0 : w2.cell? ⟨w.heap.size + 1, 0, none⟩ = some (.string ⟨#[]⟩) := ar.cell 0
    have z1 : w2.cell? ⟨w.heap.size + 1, 1, none⟩ = some (.int .i64 0) := ar.cell 1
    have z2 : w2.cell? ⟨w.heap.size + 1, 2, none⟩ = some (.slice none 0 0) := ar.cell 2
    have AR := Lib.hid ar; clear ar
    go_wp2_with fail
    have AF := AR.out.store3 (.string ⟨#[]⟩) (.int .i64 0) (.slice none 0 0)
    have y0 : (((w2.setCell ⟨w.heap.size + 1, 0, none⟩ (.string ⟨#[]⟩)).setCell ⟨w.heap.size + 1, 1, none⟩ (.int .i64 0)).setCell ⟨w.heap.size + 1, 2, none⟩ (.slice none 0 0)).cell? ⟨w.heap.size + 1, 0, none⟩ = some (.string ⟨#[]⟩) := AF.cell 0
    have y1 : (((w2.setCell ⟨w.heap.size + 1, 0, none⟩ (.string ⟨#[]⟩)).setCell ⟨w.heap.size + 1, 1, none⟩ (.int .i64 0)).setCell ⟨w.heap.size + 1, 2, none⟩ (.slice none 0 0)).cell? ⟨w.heap.size + 1, 1, none⟩ = some (.int .i64 0) := AF.cell 1
    have y2 : (((w2.setCell ⟨w.heap.size + 1, 0, none⟩ (.string ⟨#[]⟩)).setCell ⟨w.heap.size + 1, 1, none⟩ (.int .i64 0)).setCell ⟨w.heap.size + 1, 2, none⟩ (.slice none 0 0)).cell? ⟨w.heap.size + 1, 2, none⟩ = some (.slice none 0 0) := AF.cell 2
    exact bodyPost_ret (v := .tuple #[.agg #[.string ⟨#[]⟩, .int .i64 0, .slice none 0 0], .int .i64 2]) (by simp [results, Tryd.results12, go_sem, y0, y1, y2]) rfl (apPost_err hf2.out (by omega) (below_set3 b0 (by omega) _ _ _))
  have hf2 := Lib.hid (hf.out.trans (if_neg (by rw [L2.out]; exact h400)))
  clear hf
  obtain ⟨ord0, l200⟩ := zone_ord hq
  have ORD0 := Lib.hid ord0; clear ord0
  have hn200 : n ≤ 200 := by have := L1.out; omega
  clear l200 hq
  have hl0 := a0.lt; have hl1 := ar.lt
  have x0 : w2.cell? ⟨w.heap.size, 0, none⟩ = some (.string s) := a0.cell 0
  have x1 : w2.cell? ⟨w.heap.size, 1, none⟩ = some (.int .i64 f) := a0.cell 1
  have x2 : w2.cell? ⟨w.heap.size, 2, none⟩ = some (.slice p n c) := a0.cell 2
  obtain ⟨w3, rfl⟩ : ∃ w3, w3 = w2 := ⟨_, rfl⟩
  go_upto_region 4 with fail
  have ac := At.new w3 (.cells #[.string s, .int .i64 f, .slice none 0 0] 24)
  have bc := below_new (Below.refl w3.heap.size w3) (.cells #[.string s, .int .i64 f, .slice none 0 0] 24)
  have hse : (World.alloc w3 (.cells #[.string s, .int .i64 f, .slice none 0 0] 24)).heap.size = w3.heap.size + 1 := by simp only [World.size_alloc]
  clear x0 x1 x2
  have A0 := Lib.hid a0; have AR := Lib.hid ar; have B00 := Lib.hid b0
  clear a0 ar b0
  generalize World.alloc w3 _ = W4 at ac bc hse ⊢
  have a4 := A0.out.then_ bc
  have x2 : W4.cell? ⟨w.heap.size, 2, none⟩ = some (.slice p n c) := a4.cell 2
  have H1W := Lib.hid (H1.out.then_ (below_then B00.out bc))
  generalize hG : w3.heap.size = G at *
  have g2 : W4.cell? ⟨G, 2, none⟩ = some (.slice none 0 0) := ac.cell 2
  have g3 : W4.frozen? ⟨G, 2, none⟩ = false := ac.frozen 2
  have hgl4 := ac.lt
  go_cut [] from 25 to 30 (fun wx => ∃ v, wx.ownsRow (G + 1) 31 3 v n (ms.flatMap encChg) ∧ At wx G (.cells #[.string s, .int .i64 f, v] 24) ∧ Below G w3 wx)
  case first =>
    cases p with
    | none =>
      obtain ⟨rfl, rfl⟩ := HPC.out rfl
      obtain rfl : ms = [] := List.length_eq_zero_iff.1 L1.out
      have r0 : (W4.setCell ⟨G, 2, none⟩ (.slice none 0 0)).ownsRow (G + 1) 31 3 (.slice none 0 0) 0 [] := World.ownsRow_nil _ _ _ _
      have r1 := ac.store 2 (.slice none 0 0)
      have r2 := below_set bc (p := ⟨G, 2, none⟩) (Nat.le_refl _) (.slice none 0 0)
      go_wp2_with fail
      go_meet
      case rel => exact ⟨_, r0, r1, r2⟩
    | some ad =>
      have hnews := changes_news H1W.out
      have HL := Lib.hid L1.out
      go_wp2_with (at_builtin; refine wpList_append_own _ rfl _ _ 22 rfl (G + 1) 31 i0 (.agg #[.int .i64 0, .int .i64 0, .string ⟨#[]⟩]) 3 32 Tryd.underlying22 hi hz0 hz1 hz2 rfl (by decide) (.slice none 0 0) 0 [] rfl (World.ownsRow_nil _ _ _ _) ad n c (ms.flatMap encChg) rfl (by rw [chg_len, HL.out]) hnews (fun u hu => chg_one hu) (by unfold maxLen; omega) (by omega) (by omega) ?_; intro v' w5 hown hgrow _; (have hown2 : w5.ownsRow (G + 1) 31 3 v' n (ms.flatMap encChg) := by simpa using hown); (obtain ⟨va, vc, rfl, _, _, _⟩ := own_changes hown2 HL.out HCO.out); have ac5 := ac.grown6 hgrow (by simp [Value.ownBlock]); have bc5 := bc.grown hgrow (by omega) (by intro k hk; simp [Value.ownBlock] at hk); have k5 : w5.frozen? ⟨G, 2, none⟩ = false := ac5.frozen 2; have k6 : w5.cell? ⟨G, 2, none⟩ = some (.slice none 0 0) := ac5.cell 2; have hl5 := ac5.lt)
      have r0 := own_set8 hown2 (p := ⟨G, 2, none⟩) (by simp only; omega) (.slice va n vc)
      have r1 := ac5.store 2 (.slice va n vc)
      have r2 := below_set bc5 (p := ⟨G, 2, none⟩) (Nat.le_refl _) (.slice va n vc)
      go_wp2_with fail
      go_meet
      case rel => exact ⟨_, r0, r1, r2⟩
  case rest =>
  obtain ⟨v0, hown0, ac0, bc0⟩ := hcut
  obtain ⟨W6, rfl⟩ : ∃ W6, W6 = wc := ⟨_, rfl⟩
  clear ac bc hse a4 x2 g2 g3 hgl4 H1W
  have AC1 := Lib.hid ac0; have BC1 := Lib.hid bc0; have OWN1 := Lib.hid hown0
  clear hown0 ac0 bc0
  go_wp2_with fail
  go_loopw [8, 9, 10, 11, 13, 14, 33, 40] (fun _ _ _ _ _ _ vi _ wr => ∃ (k : Nat) (v : Value) (L : List Chg), k ≤ m ∧ vi = .int .i64 k ∧ apF (es.drop k) L = apF es ms ∧ Ord L ∧ (∀ x ∈ L, okChg x) ∧ L.length ≤ n + k ∧ wr.ownsRow (G + 1) 31 3 v L.length (L.flatMap encChg) ∧ At wr G (.cells #[.string s, .int .i64 f, v] 24) ∧ Below G w3 wr) (fun _ _ _ _ _ _ vi _ _ => m - (intOf vi).toNat)
  case atStart => exact ⟨0, v0, ms, by omega, rfl, rfl, ORD0.out, HCO.out, by have := L1.out; omega, by rw [L1.out]; exact OWN1.out, AC1.out, BC1.out⟩
  case round =>
    obtain ⟨k, v, L, hk, rfl, hap, hord, hokL, hlen, hown, ac, bw⟩ := hrel
    have bw' : Below w3.heap.size w3 wr := by rw [hG]; exact bw
    have hbs := bw'.size
    have hgl := ac.lt
    have HAP := Lib.hid hap; have HORD := Lib.hid hord; have HOKL := Lib.hid hokL
    have OWN := Lib.hid hown; have AC := Lib.hid ac; have BW := Lib.hid bw; have B0 := Lib.hid (below_then B00.out bw')
    have AR1 := Lib.hid (AR.out.then_ bw')
    clear hap hord hokL hown bw
    by_cases hlt : k < m
    · obtain ⟨eb, eo, rfl, hebB, hcs⟩ := (H2.out.then_ B0.out).open_ (by omega)
      obtain ⟨u, t, o, l, k0, k1, k2, k3, hx, hoe⟩ := hcs k hlt
      have HN := Lib.hid ((apF_cons (u, t, o, l) (es.drop (k + 1)) L).symm.trans ((congrArg (fun r => apF r L) (drop_row hx)).symm.trans HAP.out))
      have HOE := Lib.hid hoe
      clear hcs hx hoe HAP
      go_upto_region 8 with fail
      have hx1 := At.new wr (.cells #[.int .i64 u, .int .i64 t, .int .i64 o, .string l] 33)
      have bx1 := below_new (Below.refl wr.heap.size wr) (.cells #[.int .i64 u, .int .i64 t, .int .i64 o, .string l] 33)
      have acx := AC.out.alloc (.cells #[.int .i64 u, .int .i64 t, .int .i64 o, .string l] 33)
      have ownx := OWN.out.alloc (.cells #[.int .i64 u, .int .i64 t, .int .i64 o, .string l] 33)
      clear k0 k1 k2 k3 ac
      generalize World.alloc wr _ = W7 at hx1 bx1 acx ownx ⊢
      have hsz7 := bx1.size
      have hltx := hx1.lt
      obtain ⟨va, vc, rfl, _, _, hch⟩ := own_changes ownx rfl HOKL.out
      have bwx : Below G w3 W7 := BW.out.trans (bx1.mono (by omega))
      have g2 : W7.cell? ⟨G, 2, none⟩ = some (.slice va L.length vc) := acx.cell 2
      have HX := Lib.hid hx1; have ACX := Lib.hid acx; have BWX := Lib.hid bwx; have CHX := Lib.hid hch
      clear hx1 bx1 acx ownx bwx hch
      generalize hXB : wr.heap.size = XB at *
      generalize hB2 : W7.heap.size = B2 at *
      have hG2 : G + 1 ≤ B2 := by omega
      go_wp2_with fail
      go_loopw [9, 10, 11, 13, 40] (fun v9 vh vs _ vi wr => ∃ i : Nat, i ≤ L.length ∧ vi = .int .i64 i ∧ vh = .bool (hitB (t, o, l) (L.take i)) ∧ vs = .bool (hasT (nxF u (t, o, l) (L.take i)) t) ∧ wr.ownsRow B2 31 3 v9 (nxF u (t, o, l) (L.take i)).length ((nxF u (t, o, l) (L.take i)).flatMap encChg) ∧ Below B2 W7 wr) (fun _ _ _ _ vi _ => L.length - (intOf vi).toNat)
      case atStart => exact ⟨0, by omega, rfl, rfl, by unfold nxF; split <;> rfl, by unfold nxF; split <;> exact World.ownsRow_nil _ _ _ _, Below.refl _ _⟩
      case round =>
        clear g2
        obtain ⟨i, hil, rfl, rfl, rfl, hown, hb⟩ := hrel
        obtain ⟨W8, rfl⟩ : ∃ W8, W8 = wr := ⟨_, rfl⟩
        have hb' : Below W7.heap.size W7 W8 := by rw [hB2]; exact hb
        have hx8 := HX.out.then_ hb'
        have OWN8 := Lib.hid hown; have HB8 := Lib.hid hb
        have hsz8 := hb.size
        have hnl : (nxF u (t, o, l) (L.take i)).length ≤ i := Nat.le_trans (nx_len _ _ _) (by rw [List.length_take]; omega)
        clear hown hb
        by_cases hlt2 : i < L.length
        · obtain ⟨cb, co, rfl, hcb, hcs⟩ := (CHX.out.below HB8.out (Nat.le_refl _)).open_ (by omega)
          obtain ⟨t', o', l', c0, c1, c2, hx, _⟩ := hcs i hlt2
          have HH := Lib.hid (hit_snoc (c := (t, o, l)) hx)
          have HXI := Lib.hid hx
          obtain ⟨S, hS⟩ : ∃ S, S = hasT (nxF u (t, o, l) (L.take i)) t := ⟨_, rfl⟩
          obtain ⟨H, hH⟩ : ∃ H, H = hitB (t, o, l) (L.take i) := ⟨_, rfl⟩
          rw [← hH] at HH
          rw [← hS, ← hH]
          have HS := Lib.hid hS; have HHH := Lib.hid hH
          clear hcs hx hS hH hb'
          go_upto_region 13 with fail
          have az := At.new W8 (.cells #[.int .i64 t', .int .i64 o', .string l'] 31)
          have hx9 := hx8.alloc (.cells #[.int .i64 t', .int .i64 o', .string l'] 31)
          have own9 := OWN8.out.alloc (.cells #[.int .i64 t', .int .i64 o', .string l'] 31)
          have hb9 := HB8.out.alloc (show B2 ≤ W8.heap.size by omega) (.cells #[.int .i64 t', .int .i64 o', .string l'] 31)
          have hsz9 := az.lt
          clear c0 c1 c2 hx8
          generalize World.alloc W8 _ = W9 at az hx9 own9 hb9 hsz9 ⊢
          have x0 : W9.cell? ⟨XB, 0, none⟩ = some (.int .i64 u) := hx9.cell 0
          have x1 : W9.cell? ⟨XB, 1, none⟩ = some (.int .i64 t) := hx9.cell 1
          have x2 : W9.cell? ⟨XB, 2, none⟩ = some (.int .i64 o) := hx9.cell 2
          have x3 : W9.cell? ⟨XB, 3, none⟩ = some (.string l) := hx9.cell 3
          have z0 : W9.cell? ⟨W8.heap.size, 0, none⟩ = some (.int .i64 t') := az.cell 0
          have z1 : W9.cell? ⟨W8.heap.size, 1, none⟩ = some (.int .i64 o') := az.cell 1
          have z2 : W9.cell? ⟨W8.heap.size, 2, none⟩ = some (.string l') := az.cell 2
          have OWN9 := Lib.hid own9; have HB9 := Lib.hid hb9
          clear own9 hb9 az hx9 OWN8 HB8
          have hc : (t' = t ∧ o' = o ∧ l' = l) ∨ (t' == t) = false ∨ (t' = t ∧ (o' == o) = false) ∨ (t' = t ∧ o' = o ∧ (l'.toList == l.toList) = false) := by
            by_cases h1 : t' = t
            · by_cases h2 : o' = o
              · by_cases h3 : l' = l
                · exact .inl ⟨h1, h2, h3⟩
                · refine .inr (.inr (.inr ⟨h1, h2, ?_⟩))
                  rw [beq_eq_false_iff_ne]
                  intro e
                  exact h3 (toList_back e)
              · exact .inr (.inr (.inl ⟨h1, by simpa using h2⟩))
            · exact .inr (.inl (by simpa using h1))
          rcases hc with ⟨rfl, rfl, rfl⟩ | hc
          · by_cases hu : u = 1
            · have HNX := Lib.hid (nx_skip (k := u) HXI.out hu rfl)
              subst hu
              go_wp2_with fail
              go_roundw
              case rel => exact ⟨i + 1, by omega, by go_num, by rw [HH.out]; simp, by rw [HNX.out]; exact congrArg Value.bool HS.out, by rw [HNX.out]; exact OWN9.out, HB9.out⟩
              case measure => first | (simp [intOf]; done) | (simp [intOf]; omega)
            · have HNX := Lib.hid (nx_keep (k := u) (c := (t', o', l')) HXI.out (.inl hu))
              have HST := Lib.hid (show hasT (nxF u (t', o', l') (L.take (i + 1))) t' = true by rw [HNX.out, hasT_snoc]; simp)
              have hu' : (u == 1) = false := by simpa using hu
              generalize hN : nxF u (t', o', l') (L.take i) = N at OWN9 hnl HNX HS
              clear hN
              rcases Bool.eq_false_or_eq_true S with rfl | rfl
              all_goals
                go_wp2_with (at_builtin; refine wpList_append_own _ rfl _ _ 22 rfl B2 31 i0 (.agg #[.int .i64 0, .int .i64 0, .string ⟨#[]⟩]) 3 32 Tryd.underlying22 hi hz0 hz1 hz2 rfl (by decide) _ _ _ rfl (OWN9.out.alloc _) ⟨W9.heap.size, 0, none⟩ 1 1 [.int .i64 t', .int .i64 o', .string l'] rfl rfl (World.news_of_block (cs := #[.int .i64 t', .int .i64 o', .string l']) (t := 31) (fr := (0, 0)) (heap_alloc_new W9 _)) (by simp [Value.oneCell']) (by unfold maxLen; omega) (by omega) (by first | omega | (simp; omega)) ?_; intro v' w4 hown' hgrow _)
                have OWN4 := Lib.hid hown'
                have BW4 := Lib.hid ((HB9.out.alloc (show B2 ≤ W9.heap.size by omega) (.cells #[.int .i64 t', .int .i64 o', .string l'] 31)).grown hgrow (by simp; omega) (fun b hb => own_far5 OWN9.out hb))
                clear hown' hgrow
                go_wp2_with fail
                go_roundw
                case rel => exact ⟨i + 1, by omega, by go_num, by rw [HH.out]; simp, by rw [HST.out], by rw [HNX.out, List.flatMap_append, List.length_append]; simpa [encChg] using OWN4.out, BW4.out⟩
                case measure => first | (simp [intOf]; done) | (simp [intOf]; omega)
          · have hne : ((t', o', l') : Chg) ≠ (t, o, l) := by
              intro e
              simp only [Prod.mk.injEq] at e
              obtain ⟨e1, e2, e3⟩ := e
              rcases hc with hc | ⟨_, hc⟩ | ⟨_, _, hc⟩
              · rw [e1] at hc; simp at hc
              · rw [e2] at hc; simp at hc
              · rw [e3] at hc; simp at hc
            have HNX := Lib.hid (nx_keep (k := u) (c := (t, o, l)) HXI.out (.inr hne))
            have HST := Lib.hid (show hasT (nxF u (t, o, l) (L.take (i + 1))) t = (S || decide (t' = t)) by rw [HNX.out, hasT_snoc, ← HS.out])
            have HHT := Lib.hid (show hitB (t, o, l) (L.take (i + 1)) = H by rw [HH.out, decide_eq_false hne]; simp)
            generalize hN : nxF u (t, o, l) (L.take i) = N at OWN9 hnl HNX HS
            clear hN hne HH
            rcases hc with hc | ⟨rfl, hc⟩ | ⟨rfl, rfl, hc⟩
            all_goals
              rcases Bool.eq_false_or_eq_true S with rfl | rfl
              all_goals
                go_wp2_with (at_builtin; refine wpList_append_own _ rfl _ _ 22 rfl B2 31 i0 (.agg #[.int .i64 0, .int .i64 0, .string ⟨#[]⟩]) 3 32 Tryd.underlying22 hi hz0 hz1 hz2 rfl (by decide) _ _ _ rfl (OWN9.out.alloc _) ⟨W9.heap.size, 0, none⟩ 1 1 [.int .i64 t', .int .i64 o', .string l'] rfl rfl (World.news_of_block (cs := #[.int .i64 t', .int .i64 o', .string l']) (t := 31) (fr := (0, 0)) (heap_alloc_new W9 _)) (by simp [Value.oneCell']) (by unfold maxLen; omega) (by omega) (by first | omega | (simp; omega)) ?_; intro v' w4 hown' hgrow _)
                have OWN4 := Lib.hid hown'
                have BW4 := Lib.hid ((HB9.out.alloc (show B2 ≤ W9.heap.size by omega) (.cells #[.int .i64 t', .int .i64 o', .string l'] 31)).grown hgrow (by simp; omega) (fun b hb => own_far5 OWN9.out hb))
                clear hown' hgrow
                go_wp2_with fail
                go_roundw
                case rel => exact ⟨i + 1, by omega, by go_num, by rw [HHT.out], by rw [HST.out]; first | (simp; done) | (have hc' := hc; simp at hc' ⊢; omega), by rw [HNX.out, List.flatMap_append, List.length_append]; simpa [encChg] using OWN4.out, BW4.out⟩
                case measure => first | (simp [intOf]; done) | (simp [intOf]; omega)
        · obtain rfl : L.length = i := by omega
          simp only [List.take_length] at OWN8 hnl ⊢
          have bw8 : Below G w3 W8 := BWX.out.trans (HB8.out.mono (by omega))
          have bw8' : Below w3.heap.size w3 W8 := by rw [hG]; exact bw8
          have B8 := Lib.hid (below_then B00.out bw8')
          have AR8 := Lib.hid (AR.out.then_ bw8')
          have AC8 := Lib.hid (ACX.out.then_ hb')
          have HX8 := Lib.hid hx8
          have BW8 := Lib.hid bw8
          have x0 : W8.cell? ⟨XB, 0, none⟩ = some (.int .i64 u) := hx8.cell 0
          clear bw8 bw8' hb' hx8
          obtain ⟨a9, c9, rfl, _, _, hch9⟩ := own_changes OWN8.out rfl (nx_ok HOKL.out)
          have g2 : W8.cell? ⟨G, 2, none⟩ = some (.slice va L.length vc) := AC8.out.cell 2
          have g3 : W8.frozen? ⟨G, 2, none⟩ = false := AC8.out.frozen 2
          have CH9 := Lib.hid hch9; clear hch9
          have hk : u = 1 ∨ (u ≠ 1 ∧ u = 2) ∨ (u ≠ 1 ∧ u ≠ 2) := by omega
          rcases hk with rfl | ⟨hk1, rfl⟩ | ⟨hk1, hk2⟩
          · rcases Bool.eq_false_or_eq_true (hitB (t, o, l) L) with hh | hh
            · have HN2 := Lib.hid (show apF (es.drop (k + 1)) (nxF 1 (t, o, l) L) = apF es ms by have := HN.out; rw [edF_drop, if_pos hh] at this; rwa [if_pos rfl] at this)
              have HO2 := Lib.hid (show Ord (nxF 1 (t, o, l) L) by have := ord_ed HORD.out (1, t, o, l); rw [edF_drop, if_pos hh] at this; exact this)
              have HK2 := Lib.hid (show ∀ x ∈ nxF 1 (t, o, l) L, okChg x from nx_ok HOKL.out)
              rw [hh]
              generalize hN : nxF 1 (t, o, l) L = N at OWN8 hnl HN2 HO2 HK2 CH9 ⊢
              clear hN hh HN
              go_wp2_with fail
              have ac9 := AC8.out.store 2 (.slice a9 N.length c9)
              have bw9 := below_set BW8.out (p := ⟨G, 2, none⟩) (Nat.le_refl _) (.slice a9 N.length c9)
              have own9 := own_set8 (own_lowZ OWN8.out hG2) (p := ⟨G, 2, none⟩) (by simp only; omega) (.slice a9 N.length c9)
              simp only [List.setIfInBounds_toArray, List.set_cons_succ, List.set_cons_zero] at ac9
              have AC9 := Lib.hid ac9; have BW9 := Lib.hid bw9; have OWN9 := Lib.hid own9
              clear ac9 bw9 own9
              go_roundw
              case rel => exact ⟨k + 1, .slice a9 N.length c9, N, by omega, by go_num, HN2.out, HO2.out, HK2.out, by omega, OWN9.out, AC9.out, BW9.out⟩
              case measure => first | (simp [intOf]; done) | (simp [intOf]; omega)
            · rw [hh]
              have he : edF L (1, (t, o, l)) = (6, []) := by simp [edF_drop, hh]
              have hap2 : apF es ms = (6, []) := by have := HN.out; rw [he] at this; rw [if_neg (by simp)] at this; exact this.symm
              have hf3 := Lib.hid (hf2.out.trans (if_pos (by rw [hap2]; simp)))
              rw [hap2] at hf3
              have b0 := B8.out
              have ar := AR8.out
              clear HN hap2 he hl0 hl1
              have f0 : W8.frozen? ⟨w.heap.size + 1, 0, none⟩ = false := ar.frozen 0
              have f1 : W8.frozen? ⟨w.heap.size + 1, 1, none⟩ = false := ar.frozen 1
              have f2 : W8.frozen? ⟨w.heap.size + 1, 2, none⟩ = false := ar.frozen 2
              have z0 : W8.cell? ⟨w.heap.size + 1, 0, none⟩ = some (.string ⟨#[]⟩) := ar.cell 0
              have z1 : W8.cell? ⟨w.heap.size + 1, 1, none⟩ = some (.int .i64 0) := ar.cell 1
              have z2 : W8.cell? ⟨w.heap.size + 1, 2, none⟩ = some (.slice none 0 0) := ar.cell 2
              have AR := Lib.hid ar; clear ar
              go_wp2_with fail
              have AF := AR.out.store3 (.string ⟨#[]⟩) (.int .i64 0) (.slice none 0 0)
              have y0 : (((W8.setCell ⟨w.heap.size + 1, 0, none⟩ (.string ⟨#[]⟩)).setCell ⟨w.heap.size + 1, 1, none⟩ (.int .i64 0)).setCell ⟨w.heap.size + 1, 2, none⟩ (.slice none 0 0)).cell? ⟨w.heap.size + 1, 0, none⟩ = some (.string ⟨#[]⟩) := AF.cell 0
              have y1 : (((W8.setCell ⟨w.heap.size + 1, 0, none⟩ (.string ⟨#[]⟩)).setCell ⟨w.heap.size + 1, 1, none⟩ (.int .i64 0)).setCell ⟨w.heap.size + 1, 2, none⟩ (.slice none 0 0)).cell? ⟨w.heap.size + 1, 1, none⟩ = some (.int .i64 0) := AF.cell 1
              have y2 : (((W8.setCell ⟨w.heap.size + 1, 0, none⟩ (.string ⟨#[]⟩)).setCell ⟨w.heap.size + 1, 1, none⟩ (.int .i64 0)).setCell ⟨w.heap.size + 1, 2, none⟩ (.slice none 0 0)).cell? ⟨w.heap.size + 1, 2, none⟩ = some (.slice none 0 0) := AF.cell 2
              exact bodyPost_ret (v := .tuple #[.agg #[.string ⟨#[]⟩, .int .i64 0, .slice none 0 0], .int .i64 6]) (by simp [results, Tryd.results12, go_sem, y0, y1, y2]) rfl (apPost_err hf3.out (by omega) (below_set3 b0 (by omega) _ _ _))
          · rw [nxF_two] at OWN8 hnl CH9 ⊢
            rcases Bool.eq_false_or_eq_true (hasT L t) with hh | hh
            · rw [hh]
              have he : edF L (2, (t, o, l)) = (7, []) := by simp [edF_add, hh]
              have hap2 : apF es ms = (7, []) := by have := HN.out; rw [he] at this; rw [if_neg (by simp)] at this; exact this.symm
              have hf3 := Lib.hid (hf2.out.trans (if_pos (by rw [hap2]; simp)))
              rw [hap2] at hf3
              have b0 := B8.out
              have ar := AR8.out
              clear HN hap2 he hl0 hl1
              have f0 : W8.frozen? ⟨w.heap.size + 1, 0, none⟩ = false := ar.frozen 0
              have f1 : W8.frozen? ⟨w.heap.size + 1, 1, none⟩ = false := ar.frozen 1
              have f2 : W8.frozen? ⟨w.heap.size + 1, 2, none⟩ = false := ar.frozen 2
              have z0 : W8.cell? ⟨w.heap.size + 1, 0, none⟩ = some (.string ⟨#[]⟩) := ar.cell 0
              have z1 : W8.cell? ⟨w.heap.size + 1, 1, none⟩ = some (.int .i64 0) := ar.cell 1
              have z2 : W8.cell? ⟨w.heap.size + 1, 2, none⟩ = some (.slice none 0 0) := ar.cell 2
              have AR := Lib.hid ar; clear ar
              go_wp2_with fail
              have AF := AR.out.store3 (.string ⟨#[]⟩) (.int .i64 0) (.slice none 0 0)
              have y0 : (((W8.setCell ⟨w.heap.size + 1, 0, none⟩ (.string ⟨#[]⟩)).setCell ⟨w.heap.size + 1, 1, none⟩ (.int .i64 0)).setCell ⟨w.heap.size + 1, 2, none⟩ (.slice none 0 0)).cell? ⟨w.heap.size + 1, 0, none⟩ = some (.string ⟨#[]⟩) := AF.cell 0
              have y1 : (((W8.setCell ⟨w.heap.size + 1, 0, none⟩ (.string ⟨#[]⟩)).setCell ⟨w.heap.size + 1, 1, none⟩ (.int .i64 0)).setCell ⟨w.heap.size + 1, 2, none⟩ (.slice none 0 0)).cell? ⟨w.heap.size + 1, 1, none⟩ = some (.int .i64 0) := AF.cell 1
              have y2 : (((W8.setCell ⟨w.heap.size + 1, 0, none⟩ (.string ⟨#[]⟩)).setCell ⟨w.heap.size + 1, 1, none⟩ (.int .i64 0)).setCell ⟨w.heap.size + 1, 2, none⟩ (.slice none 0 0)).cell? ⟨w.heap.size + 1, 2, none⟩ = some (.slice none 0 0) := AF.cell 2
              exact bodyPost_ret (v := .tuple #[.agg #[.string ⟨#[]⟩, .int .i64 0, .slice none 0 0], .int .i64 7]) (by simp [results, Tryd.results12, go_sem, y0, y1, y2]) rfl (apPost_err hf3.out (by omega) (below_set3 b0 (by omega) _ _ _))
            · have he : edF L (2, (t, o, l)) = (0, insC L (t, o, l)) := by simp [edF_add, hh]
              have HN2 := Lib.hid (show apF (es.drop (k + 1)) (insC L (t, o, l)) = apF es ms by have := HN.out; rw [he] at this; rwa [if_pos rfl] at this)
              have HO2 := Lib.hid (ord_ins HORD.out (t, o, l) hh)
              have HK2 := Lib.hid (show ∀ x ∈ insC L (t, o, l), okChg x by have := edF_ok (e := (2, t, o, l)) HOKL.out HOE.out.2; rw [he] at this; exact this)
              have HHT := Lib.hid hh
              rw [hh]
              clear hh HN he
              have x1 : W8.cell? ⟨XB, 1, none⟩ = some (.int .i64 t) := HX8.out.cell 1
              go_upto_region 27 with fail
              go_wp2_with fail
              go_loopw [14] (fun vi wr => ∃ j : Nat, j ≤ L.length ∧ vi = .int .i64 j ∧ (∀ p x, j ≤ p → L[p]? = some x → t < x.1) ∧ Drawn W8 wr) (fun vi _ => (intOf vi).toNat)
              case atStart =>
                refine ⟨L.length, Nat.le_refl _, rfl, ?_, Drawn.refl _⟩
                intro p x hp hx
                rw [List.getElem?_eq_none hp] at hx; cases hx
              case round =>
                obtain ⟨j, hj, rfl, hgt, hd⟩ := hrel
                obtain ⟨W10, rfl⟩ : ∃ W10, W10 = wr := ⟨_, rfl⟩
                obtain ⟨hx10, hb10⟩ : At W10 XB (.cells #[.int .i64 2, .int .i64 t, .int .i64 o, .string l] 33) ∧ Below W8.heap.size W8 W10 := by
                  obtain ⟨nd, rfl⟩ := hd
                  exact ⟨HX8.out.drewN nd, below_drewN (Below.refl _ _) nd⟩
                have HGT := Lib.hid hgt; have HDR := Lib.hid hd
                have x1 : W10.cell? ⟨XB, 1, none⟩ = some (.int .i64 t) := hx10.cell 1
                clear hgt hd
                rcases Nat.eq_zero_or_pos j with hj0 | hj0
                · have HP := Lib.hid (place_of HORD.out HHT.out hj HGT.out (.inl hj0))
                  subst hj0
                  go_wp2_with fail
                  go_quiet (fail)
                  go_upto_region 30 with fail
                  generalize hWq : World.drewN W10 _ = W11
                  have hdq : Drawn W8 W11 := by rw [← hWq]; exact HDR.out.drewN _
                  clear hWq
                  have hb11 : Below W8.heap.size W8 W11 := by obtain ⟨nd, rfl⟩ := hdq; exact below_drewN (Below.refl _ _) nd
                  have own11 := own_then4 OWN8.out hb11
                  have hx11 := HX8.out.then_ hb11
                  have ac11 := AC8.out.then_ hb11
                  have bw11 : Below G w3 W11 := BW8.out.trans (hb11.mono (by omega))
                  have hsz11 : B2 ≤ W11.heap.size := by have := hb11.size; omega
                  have OWN11 := Lib.hid own11; have HX11 := Lib.hid hx11; have AC11 := Lib.hid ac11; have BW11 := Lib.hid bw11
                  clear own11 hx11 ac11 bw11 hb11 hdq HDR HGT g2 g3 x0 hx10 hb10
                  go_wp2_with (at_builtin; refine wpList_append_own _ rfl _ _ 22 rfl B2 31 i0 (.agg #[.int .i64 0, .int .i64 0, .string ⟨#[]⟩]) 3 32 Tryd.underlying22 hi hz0 hz1 hz2 rfl (by decide) _ _ _ rfl (OWN11.out.alloc _) ⟨W11.heap.size, 0, none⟩ 1 1 [.int .i64 0, .int .i64 0, .string ⟨#[]⟩] rfl rfl (World.news_of_block (cs := #[.int .i64 0, .int .i64 0, .string ⟨#[]⟩]) (t := 31) (fr := (0, 0)) (heap_alloc_new W11 _)) (by simp [Value.oneCell']) (by unfold maxLen; omega) (by omega) (by first | omega | (simp; omega)) ?_; intro v' w4 hown' hgrow _; (obtain ⟨g, cap, cur, hv, hBg, hg, hnc, hcm, hcs, htk⟩ := hown'.2.resolve_left (fun h => by have := h.2; omega)); subst hv)
                  have hx4 := (HX11.out.alloc (.cells #[.int .i64 0, .int .i64 0, .string ⟨#[]⟩] 31)).grown6 hgrow (own_nearZ OWN11.out (by omega))
                  have ac4 := (AC11.out.alloc (.cells #[.int .i64 0, .int .i64 0, .string ⟨#[]⟩] 31)).grown6 hgrow (own_nearZ OWN11.out (by omega))
                  have bw4 : Below G w3 w4 := (BW11.out.alloc (show G ≤ W11.heap.size by omega) (.cells #[.int .i64 0, .int .i64 0, .string ⟨#[]⟩] 31)).grown hgrow (by simp; omega) (fun b hb => by have := own_far5 OWN11.out hb; omega)
                  have htk2 : cur.toList.take (L.length * 3) = L.flatMap encChg := by
                    have := congrArg (List.take (L.length * 3)) htk
                    rwa [List.take_take, Nat.min_eq_left (by omega), List.take_left' (by rw [chg_len])] at this
                  have hcapm : cap ≤ 9223372036854775807 := by unfold maxLen at hcm; omega
                  obtain ⟨d, ud, r, dA, dB, uA, uB, hcp⟩ := shift_row g L.length cap 0 ((1 : Int)) (0 : Int) (by omega) rfl cur (L.flatMap encChg) w4.drew hg hcs htk2 (chg_len L) hj hnc (by omega) hcapm (fun x hx => chg_one hx)
                  have hw1 : IntKind.i64.wrap ((1 : Int)) = (1 : Int) := IntWalk.i64_in _ (by omega)
                  obtain ⟨Y1, hY1⟩ : ∃ Y, Y = (cur.toList.take ((0 + 1) * 3) ++ (L.flatMap encChg).drop (0 * 3) ++ cur.toList.drop ((0 + 1) * 3 + ((L.flatMap encChg).drop (0 * 3)).length)).toArray := ⟨_, rfl⟩
                  rw [← hY1] at hcp
                  obtain ⟨hYl, hend⟩ := shift_end L.length cap 0 cur (L.flatMap encChg) [.int .i64 t, .int .i64 o, .string l] hcs htk2 (chg_len L) hj hnc rfl Y1.toList (by rw [hY1])
                  have hY : At (w4.drew.setRow g Y1) g (.cells Y1 31) := setRow_heap w4.drew g cur Y1 31 (0, 0) hg
                  have hx12 := (hx4.drew).setRowZ (g := g) (by omega) Y1
                  have ac12 := (ac4.drew).setRowZ (g := g) (by omega) Y1
                  have bw12 := below_setRow bw4.drew (g := g) (by omega) Y1
                  have HEND := Lib.hid hend
                  have hcap3 : (0 + 1) * 3 ≤ cap * 3 := Nat.mul_le_mul_right _ (by omega)
                  have hYs : Y1.size = cap * 3 := by simpa using hYl
                  clear hx4 ac4 bw4 htk2 htk hcs hown' hgrow hY1 hend hg hYl
                  go_region_law (refine step_copy_run rfl _ _ 22 22 rfl _ _ (by simp [Act.eval, Act.put]) (by simp [Act.eval, Act.put]) (hcp _) ?_)
                  clear dA dB uA uB hcp
                  generalize World.setRow _ g Y1 = W12 at hY hx12 ac12 bw12 ⊢
                  have y0 : W12.cell? ⟨g, 0, none⟩ = some (Y1[0]'(by omega)) := (hY.cell _).trans (Array.getElem?_eq_getElem _)
                  have y1 : W12.cell? ⟨g, 1, none⟩ = some (Y1[1]'(by omega)) := (hY.cell _).trans (Array.getElem?_eq_getElem _)
                  have y2 : W12.cell? ⟨g, 2, none⟩ = some (Y1[2]'(by omega)) := (hY.cell _).trans (Array.getElem?_eq_getElem _)
                  have q0 : W12.frozen? ⟨g, 0, none⟩ = false := hY.frozen _
                  have q1 : W12.frozen? ⟨g, 1, none⟩ = false := hY.frozen _
                  have q2 : W12.frozen? ⟨g, 2, none⟩ = false := hY.frozen _
                  have x1 : W12.cell? ⟨XB, 1, none⟩ = some (.int .i64 t) := hx12.cell 1
                  have x2 : W12.cell? ⟨XB, 2, none⟩ = some (.int .i64 o) := hx12.cell 2
                  have x3 : W12.cell? ⟨XB, 3, none⟩ = some (.string l) := hx12.cell 3
                  have hjl1 : (0 : Nat) < L.length + 1 := by omega
                  have HYA := Lib.hid hY; have AC12 := Lib.hid ac12; have BW12 := Lib.hid bw12
                  clear hY hx12 ac12 bw12
                  go_upto_region 33 with fail
                  have hS := ((HYA.out.store 0 (.int .i64 t)).store 1 (.int .i64 o)).store 2 (.string l)
                  have ac13 := ((AC12.out.apart (p := ⟨g, 0, none⟩) (by simp only; omega) (.int .i64 t)).apart (p := ⟨g, 1, none⟩) (by simp only; omega) (.int .i64 o)).apart (p := ⟨g, 2, none⟩) (by simp only; omega) (.string l)
                  have bw13 := below_set (below_set (below_set BW12.out (p := ⟨g, 0, none⟩) (by simp only; omega) (.int .i64 t)) (p := ⟨g, 1, none⟩) (by simp only; omega) (.int .i64 o)) (p := ⟨g, 2, none⟩) (by simp only; omega) (.string l)
                  have hil : (insC L (t, o, l)).length = L.length + 1 := by
                    unfold insC
                    rw [List.length_append, List.length_append, List.length_take, List.length_drop, HP.out]; simp; omega
                  have own13 : World.ownsRow (((W12.setCell ⟨g, 0, none⟩ (.int .i64 t)).setCell ⟨g, 1, none⟩ (.int .i64 o)).setCell ⟨g, 2, none⟩ (.string l)) (G + 1) 31 3 (.slice (some ⟨g, 0, none⟩) (L.length + 1) cap) (L.length + 1) ((insC L (t, o, l)).flatMap encChg) := by
                    refine ⟨by rw [chg_len, hil], .inr ⟨g, cap, _, rfl, by omega, hS, hnc, hcm, by simpa using hYs, ?_⟩⟩
                    rw [Array.toList_setIfInBounds, Array.toList_setIfInBounds, Array.toList_setIfInBounds]
                    refine (congrArg (List.take _) (set3 _ _ _ Y1.toList 0 (by simp; omega))).trans (HEND.out.trans ?_)
                    rw [ chg_take, chg_drop, show ([.int .i64 t, .int .i64 o, .string l] : List Value) = [((t, o, l) : Chg)].flatMap encChg by simp [encChg], ← List.flatMap_append, ← List.flatMap_append, insC, HP.out]
                  clear hS HYA AC12 BW12 y0 y1 y2 q0 q1 q2 x1 x2 x3
                  generalize World.setCell (World.setCell (World.setCell W12 _ _) _ _) _ _ = W13 at ac13 bw13 own13 ⊢
                  have g2 : W13.cell? ⟨G, 2, none⟩ = some (.slice va L.length vc) := ac13.cell 2
                  have g3 : W13.frozen? ⟨G, 2, none⟩ = false := ac13.frozen 2
                  have hgl13 := ac13.lt
                  have AC13 := Lib.hid ac13; have BW13 := Lib.hid bw13; have OWN13 := Lib.hid own13
                  clear ac13 bw13 own13
                  go_wp2_with fail
                  have ac14 := AC13.out.store 2 (.slice (some ⟨g, 0, none⟩) (L.length + 1) cap)
                  have bw14 := below_set BW13.out (p := ⟨G, 2, none⟩) (Nat.le_refl _) (.slice (some ⟨g, 0, none⟩) (L.length + 1) cap)
                  have own14 := own_set8 OWN13.out (p := ⟨G, 2, none⟩) (by simp only; omega) (.slice (some ⟨g, 0, none⟩) (L.length + 1) cap)
                  simp only [List.setIfInBounds_toArray, List.set_cons_succ, List.set_cons_zero] at ac14
                  have AC14 := Lib.hid ac14; have BW14 := Lib.hid bw14; have OWN14 := Lib.hid own14
                  clear ac14 bw14 own14
                  go_roundw
                  case rel => exact ⟨k + 1, .slice (some ⟨g, 0, none⟩) (L.length + 1) cap, insC L (t, o, l), by omega, by go_num, HN2.out, HO2.out, HK2.out, by omega, by rw [hil]; exact OWN14.out, AC14.out, BW14.out⟩
                  case measure => first | (simp [intOf]; done) | (simp [intOf]; omega)
                · obtain ⟨cb, co, hae, hcb, hcs⟩ := (CH9.out.below hb10 (Nat.le_refl _)).open_ (by omega)
                  obtain ⟨t', o', l', c0, c1, c2, hx, _⟩ := hcs (j - 1) (by omega)
                  have HXI := Lib.hid hx
                  subst hae
                  have hw0 : IntKind.i64.wrap ((j : Int) - 1) = ((j - 1 : Nat) : Int) := by rw [IntWalk.i64_in _ (by omega)]; omega
                  have hjp : (0 : Int) < (j : Int) := by omega
                  have hjl : j - 1 < L.length := by omega
                  clear hcs hx c1 c2
                  rcases Int.lt_or_le t t' with ht | ht
                  · have HG2 := Lib.hid (show ∀ p x, j - 1 ≤ p → L[p]? = some x → t < x.1 by
                      intro p x hp hx
                      rcases Nat.eq_or_lt_of_le hp with h | h
                      · subst h; rw [HXI.out] at hx; injection hx with hx; subst hx; exact ht
                      · exact HGT.out p x (by omega) hx)
                    go_wp2_with fail
                    go_quiet (fail)
                    go_wp2_with fail
                    go_roundw
                    case rel => exact ⟨j - 1, by omega, by go_num, HG2.out, by first | exact HDR.out.drewN _ | exact HDR.out⟩
                    case measure => first | (simp [intOf]; done) | (simp [intOf]; omega)
                  · have HP := Lib.hid (place_of HORD.out HHT.out hj HGT.out (.inr ⟨_, HXI.out, ht⟩))
                    go_wp2_with fail
                    go_quiet (fail)
                    go_upto_region 30 with fail
                    generalize hWq : World.drewN W10 _ = W11
                    have hdq : Drawn W8 W11 := by rw [← hWq]; exact HDR.out.drewN _
                    clear hWq
                    have hb11 : Below W8.heap.size W8 W11 := by obtain ⟨nd, rfl⟩ := hdq; exact below_drewN (Below.refl _ _) nd
                    have own11 := own_then4 OWN8.out hb11
                    have hx11 := HX8.out.then_ hb11
                    have ac11 := AC8.out.then_ hb11
                    have bw11 : Below G w3 W11 := BW8.out.trans (hb11.mono (by omega))
                    have hsz11 : B2 ≤ W11.heap.size := by have := hb11.size; omega
                    have OWN11 := Lib.hid own11; have HX11 := Lib.hid hx11; have AC11 := Lib.hid ac11; have BW11 := Lib.hid bw11
                    clear own11 hx11 ac11 bw11 hb11 hdq HDR HGT g2 g3 x0 hx10 hb10
                    go_wp2_with (at_builtin; refine wpList_append_own _ rfl _ _ 22 rfl B2 31 i0 (.agg #[.int .i64 0, .int .i64 0, .string ⟨#[]⟩]) 3 32 Tryd.underlying22 hi hz0 hz1 hz2 rfl (by decide) _ _ _ rfl (OWN11.out.alloc _) ⟨W11.heap.size, 0, none⟩ 1 1 [.int .i64 0, .int .i64 0, .string ⟨#[]⟩] rfl rfl (World.news_of_block (cs := #[.int .i64 0, .int .i64 0, .string ⟨#[]⟩]) (t := 31) (fr := (0, 0)) (heap_alloc_new W11 _)) (by simp [Value.oneCell']) (by unfold maxLen; omega) (by omega) (by first | omega | (simp; omega)) ?_; intro v' w4 hown' hgrow _; (obtain ⟨g, cap, cur, hv, hBg, hg, hnc, hcm, hcs, htk⟩ := hown'.2.resolve_left (fun h => by have := h.2; omega)); subst hv)
                    have hx4 := (HX11.out.alloc (.cells #[.int .i64 0, .int .i64 0, .string ⟨#[]⟩] 31)).grown6 hgrow (own_nearZ OWN11.out (by omega))
                    have ac4 := (AC11.out.alloc (.cells #[.int .i64 0, .int .i64 0, .string ⟨#[]⟩] 31)).grown6 hgrow (own_nearZ OWN11.out (by omega))
                    have bw4 : Below G w3 w4 := (BW11.out.alloc (show G ≤ W11.heap.size by omega) (.cells #[.int .i64 0, .int .i64 0, .string ⟨#[]⟩] 31)).grown hgrow (by simp; omega) (fun b hb => by have := own_far5 OWN11.out hb; omega)
                    have htk2 : cur.toList.take (L.length * 3) = L.flatMap encChg := by
                      have := congrArg (List.take (L.length * 3)) htk
                      rwa [List.take_take, Nat.min_eq_left (by omega), List.take_left' (by rw [chg_len])] at this
                    have hcapm : cap ≤ 9223372036854775807 := by unfold maxLen at hcm; omega
                    obtain ⟨d, ud, r, dA, dB, uA, uB, hcp⟩ := shift_row g L.length cap j ((j : Int) + 1) (j : Int) (by omega) rfl cur (L.flatMap encChg) w4.drew hg hcs htk2 (chg_len L) hj hnc (by omega) hcapm (fun x hx => chg_one hx)
                    have hw1 : IntKind.i64.wrap ((j : Int) + 1) = (j : Int) + 1 := IntWalk.i64_in _ (by omega)
                    obtain ⟨Y1, hY1⟩ : ∃ Y, Y = (cur.toList.take ((j + 1) * 3) ++ (L.flatMap encChg).drop (j * 3) ++ cur.toList.drop ((j + 1) * 3 + ((L.flatMap encChg).drop (j * 3)).length)).toArray := ⟨_, rfl⟩
                    rw [← hY1] at hcp
                    obtain ⟨hYl, hend⟩ := shift_end L.length cap j cur (L.flatMap encChg) [.int .i64 t, .int .i64 o, .string l] hcs htk2 (chg_len L) hj hnc rfl Y1.toList (by rw [hY1])
                    have hY : At (w4.drew.setRow g Y1) g (.cells Y1 31) := setRow_heap w4.drew g cur Y1 31 (0, 0) hg
                    have hx12 := (hx4.drew).setRowZ (g := g) (by omega) Y1
                    have ac12 := (ac4.drew).setRowZ (g := g) (by omega) Y1
                    have bw12 := below_setRow bw4.drew (g := g) (by omega) Y1
                    have HEND := Lib.hid hend
                    have hcap3 : (j + 1) * 3 ≤ cap * 3 := Nat.mul_le_mul_right _ (by omega)
                    have hYs : Y1.size = cap * 3 := by simpa using hYl
                    clear hx4 ac4 bw4 htk2 htk hcs hown' hgrow hY1 hend hg hYl
                    go_region_law (refine step_copy_run rfl _ _ 22 22 rfl _ _ (by simp [Act.eval, Act.put]) (by simp [Act.eval, Act.put]) (hcp _) ?_)
                    clear dA dB uA uB hcp
                    generalize World.setRow _ g Y1 = W12 at hY hx12 ac12 bw12 ⊢
                    have y0 : W12.cell? ⟨g, j * 3, none⟩ = some (Y1[j * 3]'(by omega)) := (hY.cell _).trans (Array.getElem?_eq_getElem _)
                    have y1 : W12.cell? ⟨g, j * 3 + 1, none⟩ = some (Y1[j * 3 + 1]'(by omega)) := (hY.cell _).trans (Array.getElem?_eq_getElem _)
                    have y2 : W12.cell? ⟨g, j * 3 + 2, none⟩ = some (Y1[j * 3 + 2]'(by omega)) := (hY.cell _).trans (Array.getElem?_eq_getElem _)
                    have q0 : W12.frozen? ⟨g, j * 3, none⟩ = false := hY.frozen _
                    have q1 : W12.frozen? ⟨g, j * 3 + 1, none⟩ = false := hY.frozen _
                    have q2 : W12.frozen? ⟨g, j * 3 + 2, none⟩ = false := hY.frozen _
                    have x1 : W12.cell? ⟨XB, 1, none⟩ = some (.int .i64 t) := hx12.cell 1
                    have x2 : W12.cell? ⟨XB, 2, none⟩ = some (.int .i64 o) := hx12.cell 2
                    have x3 : W12.cell? ⟨XB, 3, none⟩ = some (.string l) := hx12.cell 3
                    have hjl1 : j < L.length + 1 := by omega
                    have HYA := Lib.hid hY; have AC12 := Lib.hid ac12; have BW12 := Lib.hid bw12
                    clear hY hx12 ac12 bw12
                    go_upto_region 33 with fail
                    have hS := ((HYA.out.store (j * 3) (.int .i64 t)).store (j * 3 + 1) (.int .i64 o)).store (j * 3 + 2) (.string l)
                    have ac13 := ((AC12.out.apart (p := ⟨g, j * 3, none⟩) (by simp only; omega) (.int .i64 t)).apart (p := ⟨g, j * 3 + 1, none⟩) (by simp only; omega) (.int .i64 o)).apart (p := ⟨g, j * 3 + 2, none⟩) (by simp only; omega) (.string l)
                    have bw13 := below_set (below_set (below_set BW12.out (p := ⟨g, j * 3, none⟩) (by simp only; omega) (.int .i64 t)) (p := ⟨g, j * 3 + 1, none⟩) (by simp only; omega) (.int .i64 o)) (p := ⟨g, j * 3 + 2, none⟩) (by simp only; omega) (.string l)
                    have hil : (insC L (t, o, l)).length = L.length + 1 := by
                      unfold insC
                      rw [List.length_append, List.length_append, List.length_take, List.length_drop, HP.out]; simp; omega
                    have own13 : World.ownsRow (((W12.setCell ⟨g, j * 3, none⟩ (.int .i64 t)).setCell ⟨g, j * 3 + 1, none⟩ (.int .i64 o)).setCell ⟨g, j * 3 + 2, none⟩ (.string l)) (G + 1) 31 3 (.slice (some ⟨g, 0, none⟩) (L.length + 1) cap) (L.length + 1) ((insC L (t, o, l)).flatMap encChg) := by
                      refine ⟨by rw [chg_len, hil], .inr ⟨g, cap, _, rfl, by omega, hS, hnc, hcm, by simpa using hYs, ?_⟩⟩
                      rw [Array.toList_setIfInBounds, Array.toList_setIfInBounds, Array.toList_setIfInBounds, set3 _ _ _ _ _ (by simp; omega), HEND.out, chg_take, chg_drop, show ([.int .i64 t, .int .i64 o, .string l] : List Value) = [((t, o, l) : Chg)].flatMap encChg by simp [encChg], ← List.flatMap_append, ← List.flatMap_append, insC, HP.out]
                    clear hS HYA AC12 BW12 y0 y1 y2 q0 q1 q2 x1 x2 x3
                    generalize World.setCell (World.setCell (World.setCell W12 _ _) _ _) _ _ = W13 at ac13 bw13 own13 ⊢
                    have g2 : W13.cell? ⟨G, 2, none⟩ = some (.slice va L.length vc) := ac13.cell 2
                    have g3 : W13.frozen? ⟨G, 2, none⟩ = false := ac13.frozen 2
                    have hgl13 := ac13.lt
                    have AC13 := Lib.hid ac13; have BW13 := Lib.hid bw13; have OWN13 := Lib.hid own13
                    clear ac13 bw13 own13
                    go_wp2_with fail
                    have ac14 := AC13.out.store 2 (.slice (some ⟨g, 0, none⟩) (L.length + 1) cap)
                    have bw14 := below_set BW13.out (p := ⟨G, 2, none⟩) (Nat.le_refl _) (.slice (some ⟨g, 0, none⟩) (L.length + 1) cap)
                    have own14 := own_set8 OWN13.out (p := ⟨G, 2, none⟩) (by simp only; omega) (.slice (some ⟨g, 0, none⟩) (L.length + 1) cap)
                    simp only [List.setIfInBounds_toArray, List.set_cons_succ, List.set_cons_zero] at ac14
                    have AC14 := Lib.hid ac14; have BW14 := Lib.hid bw14; have OWN14 := Lib.hid own14
                    clear ac14 bw14 own14
                    go_roundw
                    case rel => exact ⟨k + 1, .slice (some ⟨g, 0, none⟩) (L.length + 1) cap, insC L (t, o, l), by omega, by go_num, HN2.out, HO2.out, HK2.out, by omega, by rw [hil]; exact OWN14.out, AC14.out, BW14.out⟩
                    case measure => first | (simp [intOf]; done) | (simp [intOf]; omega)
          · have he0 : edF L (u, (t, o, l)) = (1, []) := by simp [edF, hk1, hk2]
            have hu1 : (u == 1) = false := by simpa using hk1
            have hu2 : (u == 2) = false := by simpa using hk2
            have he : edF L (u, (t, o, l)) = (1, []) := by exact he0
            have hap2 : apF es ms = (1, []) := by have := HN.out; rw [he] at this; rw [if_neg (by simp)] at this; exact this.symm
            have hf3 := Lib.hid (hf2.out.trans (if_pos (by rw [hap2]; simp)))
            rw [hap2] at hf3
            have b0 := B8.out
            have ar := AR8.out
            clear HN hap2 he hl0 hl1
            have f0 : W8.frozen? ⟨w.heap.size + 1, 0, none⟩ = false := ar.frozen 0
            have f1 : W8.frozen? ⟨w.heap.size + 1, 1, none⟩ = false := ar.frozen 1
            have f2 : W8.frozen? ⟨w.heap.size + 1, 2, none⟩ = false := ar.frozen 2
            have z0 : W8.cell? ⟨w.heap.size + 1, 0, none⟩ = some (.string ⟨#[]⟩) := ar.cell 0
            have z1 : W8.cell? ⟨w.heap.size + 1, 1, none⟩ = some (.int .i64 0) := ar.cell 1
            have z2 : W8.cell? ⟨w.heap.size + 1, 2, none⟩ = some (.slice none 0 0) := ar.cell 2
            have AR := Lib.hid ar; clear ar
            go_wp2_with fail
            have AF := AR.out.store3 (.string ⟨#[]⟩) (.int .i64 0) (.slice none 0 0)
            have y0 : (((W8.setCell ⟨w.heap.size + 1, 0, none⟩ (.string ⟨#[]⟩)).setCell ⟨w.heap.size + 1, 1, none⟩ (.int .i64 0)).setCell ⟨w.heap.size + 1, 2, none⟩ (.slice none 0 0)).cell? ⟨w.heap.size + 1, 0, none⟩ = some (.string ⟨#[]⟩) := AF.cell 0
            have y1 : (((W8.setCell ⟨w.heap.size + 1, 0, none⟩ (.string ⟨#[]⟩)).setCell ⟨w.heap.size + 1, 1, none⟩ (.int .i64 0)).setCell ⟨w.heap.size + 1, 2, none⟩ (.slice none 0 0)).cell? ⟨w.heap.size + 1, 1, none⟩ = some (.int .i64 0) := AF.cell 1
            have y2 : (((W8.setCell ⟨w.heap.size + 1, 0, none⟩ (.string ⟨#[]⟩)).setCell ⟨w.heap.size + 1, 1, none⟩ (.int .i64 0)).setCell ⟨w.heap.size + 1, 2, none⟩ (.slice none 0 0)).cell? ⟨w.heap.size + 1, 2, none⟩ = some (.slice none 0 0) := AF.cell 2
            exact bodyPost_ret (v := .tuple #[.agg #[.string ⟨#[]⟩, .int .i64 0, .slice none 0 0], .int .i64 1]) (by simp [results, Tryd.results12, go_sem, y0, y1, y2]) rfl (apPost_err hf3.out (by omega) (below_set3 b0 (by omega) _ _ _))
    · obtain rfl : k = m := by omega
      have HAP2 := Lib.hid (show apF es ms = (0, L) by rw [← HAP.out, List.drop_eq_nil_of_le (by have := L2.out; omega)]; rfl)
      have hf3 := Lib.hid (show EE = zoneErr s f L by have := hf2.out; rw [HAP2.out] at this; rwa [if_neg (by simp)] at this)
      obtain ⟨va2, vc2, rfl, _, _, hch⟩ := own_changes OWN.out rfl HOKL.out
      have HCH := Lib.hid hch
      have g0 : wr.cell? ⟨G, 0, none⟩ = some (.string s) := ac.cell 0
      have g1 : wr.cell? ⟨G, 1, none⟩ = some (.int .i64 f) := ac.cell 1
      have g2 : wr.cell? ⟨G, 2, none⟩ = some (.slice va2 L.length vc2) := ac.cell 2
      clear hch ac hbs bw' HAP hf2
      go_wp2_with fail
      refine (ref_ZoneError _ s f va2 L.length vc2 L hs f1 f2 HCH.out).mono ?_
      clear g0 g1 g2
      by_cases q : zoneErr s f L = 0
      case neg =>
        have q' : (zoneErr s f L != 0) = true := by simpa using q
        have Q8 := Lib.hid q
        generalize zoneErr s f L = E at hf3 q' Q8 ⊢
        rintro e w8 ⟨rfl, hb⟩
        clear q
        have b0 := below_then B0.out hb
        have ar := AR1.out.then_ hb
        clear hb
        have f0 : w8.frozen? ⟨w.heap.size + 1, 0, none⟩ = false := ar.frozen 0
        have f1 : w8.frozen? ⟨w.heap.size + 1, 1, none⟩ = false := ar.frozen 1
        have f2 : w8.frozen? ⟨w.heap.size + 1, 2, none⟩ = false := ar.frozen 2
        have z0 : w8.cell? ⟨w.heap.size + 1, 0, none⟩ = some (.string ⟨#[]⟩) := ar.cell 0
        have z1 : w8.cell? ⟨w.heap.size + 1, 1, none⟩ = some (.int .i64 0) := ar.cell 1
        have z2 : w8.cell? ⟨w.heap.size + 1, 2, none⟩ = some (.slice none 0 0) := ar.cell 2
        have AR := Lib.hid ar; clear ar
        go_wp2_with fail
        have AF := AR.out.store3 (.string ⟨#[]⟩) (.int .i64 0) (.slice none 0 0)
        have y0 : (((w8.setCell ⟨w.heap.size + 1, 0, none⟩ (.string ⟨#[]⟩)).setCell ⟨w.heap.size + 1, 1, none⟩ (.int .i64 0)).setCell ⟨w.heap.size + 1, 2, none⟩ (.slice none 0 0)).cell? ⟨w.heap.size + 1, 0, none⟩ = some (.string ⟨#[]⟩) := AF.cell 0
        have y1 : (((w8.setCell ⟨w.heap.size + 1, 0, none⟩ (.string ⟨#[]⟩)).setCell ⟨w.heap.size + 1, 1, none⟩ (.int .i64 0)).setCell ⟨w.heap.size + 1, 2, none⟩ (.slice none 0 0)).cell? ⟨w.heap.size + 1, 1, none⟩ = some (.int .i64 0) := AF.cell 1
        have y2 : (((w8.setCell ⟨w.heap.size + 1, 0, none⟩ (.string ⟨#[]⟩)).setCell ⟨w.heap.size + 1, 1, none⟩ (.int .i64 0)).setCell ⟨w.heap.size + 1, 2, none⟩ (.slice none 0 0)).cell? ⟨w.heap.size + 1, 2, none⟩ = some (.slice none 0 0) := AF.cell 2
        exact bodyPost_ret (v := .tuple #[.agg #[.string ⟨#[]⟩, .int .i64 0, .slice none 0 0], .int .i64 E]) (by simp [results, Tryd.results12, go_sem, y0, y1, y2]) rfl (apPost_err hf3.out Q8.out (below_set3 b0 (by omega) _ _ _))
      have hf4 := Lib.hid (hf3.out.trans q)
      rw [q]
      clear q
      rintro e w8 ⟨rfl, hb⟩
      have b0 := below_then B0.out hb
      have ar := AR1.out.then_ hb
      have ac8 := AC.out.then_ hb
      have OWN8 := Lib.hid (own_then4 OWN.out hb)
      have g0 : w8.cell? ⟨G, 0, none⟩ = some (.string s) := ac8.cell 0
      have g1 : w8.cell? ⟨G, 1, none⟩ = some (.int .i64 f) := ac8.cell 1
      have g2 : w8.cell? ⟨G, 2, none⟩ = some (.slice va2 L.length vc2) := ac8.cell 2
      clear hb ac8
      have f0 : w8.frozen? ⟨w.heap.size + 1, 0, none⟩ = false := ar.frozen 0
      have f1 : w8.frozen? ⟨w.heap.size + 1, 1, none⟩ = false := ar.frozen 1
      have f2 : w8.frozen? ⟨w.heap.size + 1, 2, none⟩ = false := ar.frozen 2
      have z0 : w8.cell? ⟨w.heap.size + 1, 0, none⟩ = some (.string ⟨#[]⟩) := ar.cell 0
      have z1 : w8.cell? ⟨w.heap.size + 1, 1, none⟩ = some (.int .i64 0) := ar.cell 1
      have z2 : w8.cell? ⟨w.heap.size + 1, 2, none⟩ = some (.slice none 0 0) := ar.cell 2
      have ARZ := Lib.hid ar; clear ar
      go_wp2_with fail
      have AF := ARZ.out.store3 (.string s) (.int .i64 f) (.slice va2 L.length vc2)
      have y0 : (((w8.setCell ⟨w.heap.size + 1, 0, none⟩ (.string s)).setCell ⟨w.heap.size + 1, 1, none⟩ (.int .i64 f)).setCell ⟨w.heap.size + 1, 2, none⟩ (.slice va2 L.length vc2)).cell? ⟨w.heap.size + 1, 0, none⟩ = some (.string s) := AF.cell 0
      have y1 : (((w8.setCell ⟨w.heap.size + 1, 0, none⟩ (.string s)).setCell ⟨w.heap.size + 1, 1, none⟩ (.int .i64 f)).setCell ⟨w.heap.size + 1, 2, none⟩ (.slice va2 L.length vc2)).cell? ⟨w.heap.size + 1, 1, none⟩ = some (.int .i64 f) := AF.cell 1
      have y2 : (((w8.setCell ⟨w.heap.size + 1, 0, none⟩ (.string s)).setCell ⟨w.heap.size + 1, 1, none⟩ (.int .i64 f)).setCell ⟨w.heap.size + 1, 2, none⟩ (.slice va2 L.length vc2)).cell? ⟨w.heap.size + 1, 2, none⟩ = some (.slice va2 L.length vc2) := AF.cell 2
      have bf := below_set3 b0 (show w.heap.size ≤ w.heap.size + 1 by omega) (.string s) (.int .i64 f) (.slice va2 L.length vc2)
      have ownf := own_set8 (own_set8 (own_set8 OWN8.out (p := ⟨w.heap.size + 1, 0, none⟩) (by simp only; omega) (.string s)) (p := ⟨w.heap.size + 1, 1, none⟩) (by simp only; omega) (.int .i64 f)) (p := ⟨w.heap.size + 1, 2, none⟩) (by simp only; omega) (.slice va2 L.length vc2)
      obtain ⟨ab, cb, hve, _, _, hI⟩ := own_changes ownf rfl HOKL.out
      injection hve with hv1 _ hv3
      subst hv1 hv3
      refine bodyPost_ret (v := .tuple #[.agg #[.string s, .int .i64 f, .slice va2 L.length vc2], .int .i64 0]) (by simp [results, Tryd.results12, go_sem, y0, y1, y2]) rfl ?_
      refine ⟨va2, L.length, vc2, ?_, ?_, bf⟩
      · rw [hf4.out, apOut, if_neg (by simp)]
      · rw [hf4.out, apOut, if_neg (by simp)]; show Changes _ _ _ _ (apF es ms).2; rw [HAP2.out]; exact hI
end Go.Proofs.YticflmepmmdnfaaDoor
