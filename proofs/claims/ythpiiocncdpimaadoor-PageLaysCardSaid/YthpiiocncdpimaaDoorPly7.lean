/- Contract of page.Lay. -/
import Derived.Test.YthpiiocncdpimaaDoorPly6
namespace Go.Proofs.YthpiiocncdpimaaDoor
set_option linter.unusedVariables false
set_option linter.unusedSimpArgs false
set_option maxRecDepth 100000
open Go.RowKit Go.Shelf

theorem head_len {Ws : List Nat} {hd : List ByteArray} {cs : List Nat} (hW : ∀ c, Ws.getD c 0 ≤ 200) (hT : ∀ c, (cellO hd c).size ≤ 200) (hl : cs.length ≤ 12) : (headO Ws hd cs).length ≤ 12002 := by
  unfold headO
  rw [List.length_append]
  have h1 := txtO_len (T := cellO hd) hW (fun c _ => hT c) hl
  have h2 := txtO_len (T := fun i => (⟨(List.replicate (Ws.getD i 0) 45).toArray⟩ : ByteArray)) (cs := cs) hW (fun c _ => by rw [bS_size, List.length_replicate]; exact hW c) hl
  omega
theorem rep_rc (n : Nat) : rcN ⟨(List.replicate n 45).toArray⟩ ≤ n := by
  have := rcN_le ⟨(List.replicate n 45).toArray⟩
  rw [bS_size, List.length_replicate] at this
  exact this
theorem take_min {α : Type} (l : List α) (h m : Nat) (hm : m = l.length) : l.take (min h m) = l.take h := by
  subst hm
  rcases Nat.le_total h l.length with g | g
  · rw [Nat.min_eq_left g]
  · rw [Nat.min_eq_right g, List.take_of_length_le (Nat.le_refl _), List.take_of_length_le g]
theorem drop_min {α : Type} (l : List α) (h m : Nat) (hm : m = l.length) : l.drop (min h m) = l.drop h := by
  subst hm
  rcases Nat.le_total h l.length with g | g
  · rw [Nat.min_eq_left g]
  · rw [Nat.min_eq_right g, List.drop_of_length_le (Nat.le_refl _), List.drop_of_length_le g]
theorem flat_sum (ln : List ByteArray → List UInt8) (B : Nat) (l : List (List ByteArray)) (h : ∀ r ∈ l, (ln r).length ≤ B) : (l.flatMap ln).length ≤ l.length * B := flat_len ln B l h
theorem pgF_size (hl : List UInt8) (ln : List ByteArray → List UInt8) (h B : Nat) : ∀ (f : Nat) (rs : List (List ByteArray)), (∀ r ∈ rs, (ln r).length ≤ B) → ∀ p ∈ pgF hl ln h f rs, p.length ≤ hl.length + h * B
  | 0, _, _, p, hp => by rw [pgF] at hp; cases hp
  | f + 1, rs, hr, p, hp => by
    rw [pgF_succ] at hp
    rcases List.mem_cons.1 hp with rfl | hp
    · rw [List.length_append]
      have h1 := flat_sum ln B (rs.take h) fun r hr' => hr r (List.mem_of_mem_take hr')
      have h2 : (rs.take h).length * B ≤ h * B := Nat.mul_le_mul_right B (by rw [List.length_take]; omega)
      omega
    · split at hp
      · cases hp
      · exact pgF_size hl ln h B f _ (fun r hr' => hr r (List.mem_of_mem_drop hr')) p hp
/-- The world of a call that keeps a row of strings of its own. -/
def PgS (w5 : World) (v : Value) (l : List (List UInt8)) (W : World) : Prop := Below w5.heap.size w5 W ∧ W.ownsRow w5.heap.size 9 1 v l.length (l.map strV)
theorem PgS.step {w5 W W' : World} {v : Value} {l : List (List UInt8)} (h : PgS w5 v l W) (k : Below W.heap.size W W') : PgS w5 v l W' := ⟨below_then h.1 k, own_thenS h.2 k⟩
def pgMeas : Value → Value → Nat
  | .slice _ n _, .bool b => n + (if b then 1 else 0)
  | _, _ => 0
theorem itoa_len (n : Int) (h0 : -9223372036854775808 ≤ n) (h1 : n ≤ 9223372036854775807) : (Lib.itoa n).length ≤ 21 := Lib.itoa_length_le n h0 h1
set_option maxHeartbeats 32000000 in
theorem page_Lay (w : World) (a1 a2 : Option Addr) (n1 c1 n2 c2 : Nat) (hd : List ByteArray) (rs : List (List ByteArray)) (width height : Int) (hw1 : -9223372036854775808 ≤ width) (hw2 : width ≤ 9223372036854775807) (hh1 : -9223372036854775808 ≤ height) (hh2 : height ≤ 9223372036854775807)
    (hT8 : Lib.Utf8Tabs 0 1 w) (hP : Pow w) (k1 : n1 ≤ c1) (m1 : c1 ≤ 9223372036854775807) (k2 : n2 ≤ c2) (m2 : c2 ≤ 9223372036854775807)
    (h1 : Strs w w.heap.size a1 n1 hd) (h2 : RowsAt w w.heap.size a2 n2 rs) (ha2 : a2 = none → n2 = 0 ∧ c2 = 0) :
    Calls Tryd.prog 6 #[.agg #[.slice a1 n1 c1, .slice a2 n2 c2], .int .i64 width, .int .i64 height] w (LayPost (layR hd rs width height) w) := by
  obtain ⟨R, hR⟩ : ∃ R, R = layR hd rs width height := ⟨_, rfl⟩
  rw [← hR]
  have HR := Lib.hid hR
  have hl1 := h1.1; have hl2 := h2.1
  have L1 := Lib.hid hl1; have L2 := Lib.hid hl2
  have H1 := Lib.hid h1; have H2 := Lib.hid h2; have HA2 := Lib.hid ha2; have HT8 := Lib.hid hT8; have HP := Lib.hid hP
  obtain ⟨T, hT⟩ : ∃ T, T = w.heap.size := ⟨_, rfl⟩
  have HT := Lib.hid hT
  obtain ⟨Z, hZ⟩ : ∃ Z : Obj, Z = .cells #[.slice a1 n1 c1, .slice a2 n2 c2] 25 := ⟨_, rfl⟩
  have A0 := At.newAt w Z T hT
  have B0 := below_new (Below.refl w.heap.size w) Z
  rw [hZ] at A0 B0
  have HA0 := Lib.hid A0; have HB0 := Lib.hid B0
  have CC := Lib.hid (fun (W : World) (hW : Below w.heap.size w W) => page_Check W a1 a2 n1 c1 n2 c2 hd rs (Utf8Tabs_below hT8 hW) k1 m1 k2 m2 ((h1.below hW (Nat.le_refl _)).of_le hW.size) ((h2.below hW (Nat.le_refl _)).of_le hW.size) ha2)
  obtain ⟨E, hE⟩ : ∃ E, E = tblErr 7 hd rs := ⟨_, rfl⟩
  have HE := Lib.hid hE
  rw [← hE] at CC
  clear hR h1 h2 ha2 hT8 hP hl1 hl2 hZ A0 B0 hE hT
  go_enter Tryd.func6, Tryd.ntmps6
  go_upto_region 1 with fail
  rw [← HT.out]
  generalize World.alloc w _ = W1 at HA0 HB0 ⊢
  have x0 := HA0.out.cell 0; have x1 := HA0.out.cell 1
  simp at x0 x1
  go_wp2_with fail
  refine (CC.out _ HB0.out).mono ?_
  rintro e w2 ⟨rfl, hb2⟩
  have A2 := Lib.hid (HA0.out.then_ hb2)
  have B2 := Lib.hid (below_then HB0.out hb2)
  clear hb2 x0 x1 HA0 HB0 CC
  by_cases hE0 : E = 0
  rotate_left
  · have e1 : (E == 0) = false := by simpa using hE0
    have e2 : (E != 0) = true := by simpa using hE0
    have HRR := Lib.hid (show R = ([], E) by rw [HR.out]; unfold layR; rw [← HE.out, if_pos hE0])
    clear hE0
    go_wp2_with fail
    go_ret2
    rw [HRR.out]
    exact ⟨none, 0, rfl, by simp, by omega, strs_none _ _, B2.out⟩
  subst hE0
  have tok : TOk hd rs := tok_of HE.out.symm
  have TOK := Lib.hid tok
  obtain ⟨RNG, hRNG⟩ : ∃ b, b = decide (20 ≤ width ∧ width ≤ 200 ∧ 4 ≤ height ∧ height ≤ 100) := ⟨_, rfl⟩
  have CI := Lib.hid (page_inRange width height w2)
  rw [← hRNG] at CI
  cases RNG with
  | false =>
    have hno : ¬ (20 ≤ width ∧ width ≤ 200 ∧ 4 ≤ height ∧ height ≤ 100) := by
      intro h; rw [decide_eq_true h] at hRNG; cases hRNG
    have HRR := Lib.hid (show R = ([], 3) by rw [HR.out]; unfold layR; rw [← HE.out, if_neg (by simp), if_pos hno])
    clear hno hRNG
    go_wp2_with fail
    refine CI.out.mono ?_
    rintro e w3 ⟨rfl, rfl⟩
    go_wp2_with fail
    go_ret2
    rw [HRR.out]
    exact ⟨none, 0, rfl, by simp, by omega, strs_none _ _, B2.out⟩
  | true =>
  have hrng : 20 ≤ width ∧ width ≤ 200 ∧ 4 ≤ height ∧ height ≤ 100 := of_decide_eq_true hRNG.symm
  obtain ⟨wd, rfl⟩ : ∃ wd : Nat, width = (wd : Int) := ⟨width.toNat, by omega⟩
  obtain ⟨h, hh⟩ : ∃ h : Nat, height - 3 = (h : Int) := ⟨(height - 3).toNat, by omega⟩
  have hwd : wd ≤ 200 := by omega
  have hh3 : 1 ≤ h := by omega
  have hh4 : h ≤ 100 := by omega
  have HR2 := Lib.hid (show R = if fitB (wdsO hd.length (hd :: rs)) wd = true then (layO hd rs wd h, 0) else ([], 2) by
    rw [HR.out]; unfold layR
    rw [← HE.out, if_neg (by simp), if_neg (by simpa using hrng), show (wd : Int).toNat = wd from rfl, show (height - 3).toNat = h by omega])
  have t1 := tok.lo; have t2 := tok.hi; have t3 := tok.few
  have i1 : 1 ≤ n1 := by have := L1.out; omega
  have i2 : n1 ≤ 12 := by have := L1.out; omega
  have i3 : n2 ≤ 400 := by have := L2.out; omega
  obtain ⟨Ws, hWs⟩ : ∃ Ws, Ws = wdsO n1 (hd :: rs) := ⟨_, rfl⟩
  have hWl : Ws.length = n1 := by rw [hWs]; unfold wdsO; simp
  have HWL := Lib.hid hWl
  have HWS := Lib.hid (show ∀ c, Ws.getD c 0 ≤ 120 from fun c => by rw [hWs, ← L1.out]; exact tok.wds c)
  have HWG := Lib.hid (show ∀ c, c < n1 → Ws.getD c 0 = maxW (hd :: rs) c from fun c hc => by rw [hWs]; exact wdsO_get _ _ _ hc)
  have HWE := Lib.hid (show wdsO hd.length (hd :: rs) = Ws by rw [hWs, ← L1.out])
  have CW := Lib.hid (fun (W : World) (hW : Below w.heap.size w W) => page_widths W a1 a2 n1 c1 n2 c2 hd rs k1 m1 k2 m2 ((H1.out.below hW (Nat.le_refl _)).of_le hW.size) ((H2.out.below hW (Nat.le_refl _)).of_le hW.size) HA2.out tok)
  rw [← hWs] at CW
  clear hRNG HR tok t1 t2 t3 hWs hWl
  have x0 := A2.out.cell 0; have x1 := A2.out.cell 1
  simp at x0 x1
  go_wp2_with fail
  refine CI.out.mono ?_
  rintro e w3 ⟨rfl, rfl⟩
  go_wp2_with fail
  refine (CW.out _ B2.out).mono ?_
  rintro e w3 ⟨wb, rfl, hwb0, hin3, hb3⟩
  clear CW CI x0 x1
  obtain ⟨Dn, hDn⟩ : ∃ D, D = w3.heap.size := ⟨_, rfl⟩
  have D4 := Lib.hid (At.newAt w3 (.cells #[.slice (some ⟨wb, 0, none⟩) n1 n1] 61) Dn hDn)
  have I4 := Lib.hid ((hin3.below (below_new (Below.refl w3.heap.size w3) (.cells #[.slice (some ⟨wb, 0, none⟩) n1 n1] 61)) (Nat.le_refl _)).more (below_new (Below.refl w3.heap.size w3) (.cells #[.slice (some ⟨wb, 0, none⟩) n1 n1] 61)).size)
  have A4 := Lib.hid ((A2.out.then_ hb3).alloc (.cells #[.slice (some ⟨wb, 0, none⟩) n1 n1] 61))
  have B4 := Lib.hid (below_new (below_then B2.out hb3) (.cells #[.slice (some ⟨wb, 0, none⟩) n1 n1] 61))
  clear hin3 hb3 A2 B2 hwb0
  go_upto_region 7 with fail
  rw [← hDn]
  clear hDn
  generalize World.alloc w3 _ = W4 at D4 I4 A4 B4 ⊢
  have CG := Lib.hid (page_groups W4 (some ⟨wb, 0, none⟩) n1 Ws wd (by rw [HWL.out]; exact I4.out) (by rw [HWL.out]; exact i1) (by rw [HWL.out]; exact i2) (fun j => Nat.le_trans (HWS.out j) (by omega)) hwd)
  rw [HWL.out] at CG
  unfold GroupsPost at CG
  have x0 : W4.cell? ⟨Dn, 0, none⟩ = some (.slice (some ⟨wb, 0, none⟩) n1 n1) := D4.out.cell 0
  go_wp2_with fail
  refine CG.out.mono ?_
  rintro e w5 ⟨hg5, hb5⟩
  rw [HWL.out] at hg5
  have A5 := Lib.hid (A4.out.then_ hb5)
  have D5 := Lib.hid (D4.out.then_ hb5)
  have I5 := Lib.hid ((I4.out.below hb5 (Nat.le_refl _)).more hb5.size)
  have B5 := Lib.hid (below_then B4.out hb5)
  clear x0 hb5 A4 D4 I4 B4 CG
  by_cases hfit : fitB Ws wd = true
  rotate_left
  · have HRR := Lib.hid (show R = ([], 2) by rw [HR2.out, HWE.out, if_neg hfit])
    rw [if_neg hfit] at hg5
    subst hg5
    clear hfit
    go_wp2_with fail
    go_ret2
    rw [HRR.out]
    exact ⟨none, 0, rfl, by simp, by omega, strs_none _ _, B5.out⟩
  rw [if_pos hfit] at hg5
  obtain ⟨O, capO, rfl, ho1, ho2, hnr⟩ := hg5
  obtain ⟨G, hG⟩ : ∃ G, G = grps (stsO Ws wd) n1 := ⟨_, rfl⟩
  rw [← hG] at ho1 hnr ⊢
  have hsin := stsO_in (Ws := Ws) (width := wd) (by rw [HWL.out]; exact i1)
  rw [HWL.out] at hsin
  have HGIN := Lib.hid (show ∀ cs ∈ G, cs.length ≤ n1 ∧ ∀ c ∈ cs, c < n1 from fun cs hcs => by
    rw [hG] at hcs
    exact ⟨grps_len1 _ _ hsin cs hcs, fun c hc => ((grps_in _ _ hsin cs hcs).2 c hc).2 i1⟩)
  have hGl : 1 ≤ G.length ∧ G.length ≤ 12 := by
    rw [hG, grps_len]
    have := stsO_len (Ws := Ws) (width := wd) (by rw [HWL.out]; exact i1)
    rw [HWL.out] at this
    omega
  obtain ⟨BODY, hBODY⟩ : ∃ BODY, BODY = G.flatMap (pagesG Ws hd rs h) := ⟨_, rfl⟩
  have hbo : bodyO hd rs wd h = BODY := by unfold bodyO; rw [hBODY, hG, HWE.out, L1.out]
  have hblen : BODY.length ≤ 5000 := by rw [← hbo]; exact bodyO_len TOK.out wd h
  have HRR := Lib.hid (show R = (footsO BODY BODY.length, 0) by rw [HR2.out, HWE.out, if_pos hfit]; unfold layO; rw [hbo])
  have HBODY := Lib.hid hBODY
  have HNR := Lib.hid hnr
  obtain ⟨K, hK⟩ : ∃ K, K = G.length := ⟨_, rfl⟩
  rw [← hK] at ho1 hGl ⊢
  have HK := Lib.hid hK
  obtain ⟨i0, hi, hz0, hz1, hz2⟩ := info_parts infoStr
  have hTl : T < w5.heap.size := A5.out.lt
  have hDl : Dn < w5.heap.size := D5.out.lt
  have hOl : O < w5.heap.size := hnr.1
  obtain ⟨hKa, hKb⟩ := hGl
  -- what is held behind the fifth world
  have HT0 := Lib.hid (fun (W : World) (hW : Below w5.heap.size w5 W) => show W.cell? ⟨T, 0, none⟩ = some (.slice a1 n1 c1) ∧ W.cell? ⟨T, 1, none⟩ = some (.slice a2 n2 c2) ∧ W.cell? ⟨Dn, 0, none⟩ = some (.slice (some ⟨wb, 0, none⟩) n1 n1) from ⟨(A5.out.then_ hW).cell 0, (A5.out.then_ hW).cell 1, (D5.out.then_ hW).cell 0⟩)
  have HBW := Lib.hid (fun (W : World) (hW : Below w5.heap.size w5 W) => below_then B5.out hW)
  have HIW := Lib.hid (fun (W : World) (hW : Below w5.heap.size w5 W) => show Ints W W.heap.size (some ⟨wb, 0, none⟩) n1 (nz Ws) from (I5.out.below hW (Nat.le_refl _)).more hW.size)
  have HSW := Lib.hid (fun (W : World) (hW : Below w5.heap.size w5 W) => show Strs W W.heap.size a1 n1 hd from (H1.out.below (HBW.out W hW) (Nat.le_refl _)).of_le (HBW.out W hW).size)
  have HRC := Lib.hid (show RowsC w w.heap.size a2 n2 c2 rs from ⟨H2.out, k2, m2, HA2.out⟩)
  have HC120 := Lib.hid (fun (r : List ByteArray) (hr : r ∈ hd :: rs) (c : Nat) => TOK.out.cell hr c)
  clear hG hsin hbo hBODY hnr hfit hK HR2 HWE
  go_upto_region 12 with fail
  go_loopw [12, 14, 15, 16, 17, 18, 20, 43] (fun o g r f n s p ix wr => ∃ (q : Nat) (v : Value) (done : List (List UInt8)), ix = .int .i64 q ∧ v = o ∧ q ≤ K ∧ BODY = done ++ (G.drop q).flatMap (pagesG Ws hd rs h) ∧ wr.ownsRow w5.heap.size 9 1 v done.length (done.map strV) ∧ Below w5.heap.size w5 wr ∧ (∃ V, V = g) ∧ (∃ V, V = r) ∧ (∃ V, V = f) ∧ (∃ V, V = n) ∧ (∃ V, V = s) ∧ (∃ V, V = p)) (fun _ _ _ _ _ _ _ ix _ => K - (intOf ix).toNat)
  case atStart => exact ⟨0, _, [], rfl, rfl, by omega, by rw [HBODY.out]; rfl, World.ownsRow_nil _ _ _ _, Below.refl _ _, ⟨_, rfl⟩, ⟨_, rfl⟩, ⟨_, rfl⟩, ⟨_, rfl⟩, ⟨_, rfl⟩, ⟨_, rfl⟩⟩
  case round =>
    obtain ⟨q, v, done, rfl, rfl, hq, hbd, hown, hb, ⟨V14, rfl⟩, ⟨V15, rfl⟩, ⟨V16, rfl⟩, ⟨V17, rfl⟩, ⟨V18, rfl⟩, ⟨V20, rfl⟩⟩ := hrel
    have OWN := Lib.hid hown; have HB := Lib.hid hb; have HBD := Lib.hid hbd
    by_cases hlt : q < K
    · obtain ⟨cs, hcs⟩ : ∃ cs, cs = G.getD q [] := ⟨_, rfl⟩
      have hmem : cs ∈ G := by rw [hcs, List.getD_eq_getElem?_getD, List.getElem?_eq_getElem (by rw [← HK.out]; exact hlt)]; exact List.getElem_mem _
      obtain ⟨hc1, hc2⟩ := HGIN.out cs hmem
      have hdr : G.drop q = cs :: G.drop (q + 1) := by
        rw [List.drop_eq_getElem_cons (by rw [← HK.out]; exact hlt), hcs, List.getD_eq_getElem?_getD, List.getElem?_eq_getElem (by rw [← HK.out]; exact hlt)]; rfl
      obtain ⟨gb, gc, g1, g2, g3, g4, g5⟩ := numrows_ints HNR.out (i := q) (by rw [← HK.out]; exact hlt) (by rw [← hcs]; intro c hc; have := hc2 c hc; omega) (by rw [← hcs]; omega)
      rw [← hcs] at g1 g2 g5
      replace g1 := (hb.cell (p := ⟨O, q, none⟩) hOl).trans g1
      obtain ⟨hl, hhl⟩ : ∃ hl, hl = headO Ws hd cs := ⟨_, rfl⟩
      obtain ⟨ln, hln⟩ : ∃ ln : List ByteArray → List UInt8, ln = fun r => txtO Ws (cellO r) cs := ⟨_, rfl⟩
      have hbd2 : BODY = done ++ (pgR hl ln h true rs ++ (G.drop (q + 1)).flatMap (pagesG Ws hd rs h)) := by
        rw [hbd, hdr, List.flatMap_cons]
        unfold pgR pagesG
        rw [if_neg (by simp), hhl, hln]
      have HBD2 := Lib.hid hbd2
      have HCS2 := Lib.hid hc2
      -- the group's slice, in any later world
      have HGI := Lib.hid (fun (W : World) (hW : Below w5.heap.size w5 W) => show Ints W W.heap.size (some ⟨gb, 0, none⟩) cs.length (nz cs) from (g5.below hW (Nat.le_refl _)).more hW.size)
      have HH := Lib.hid (fun (W : World) (hW : Below w5.heap.size w5 W) => hW)
      have h200 : ∀ c, Ws.getD c 0 ≤ 200 := fun c => Nat.le_trans (HWS.out c) (by omega)
      have hlhl : hl.length ≤ 12002 := by rw [hhl]; exact head_len h200 (fun c => Nat.le_trans (HC120.out hd (by simp) c) (by omega)) (by omega)
      have hlln : ∀ r ∈ rs, (ln r).length ≤ 6001 := fun r hr => by rw [hln]; exact txtO_len h200 (fun c _ => Nat.le_trans (HC120.out r (by simp [hr]) c) (by omega)) (by omega)
      have HLLN := Lib.hid hlln
      -- the three calls of write
      have CW1 := Lib.hid (fun (W : World) (hW : Below w5.heap.size w5 W) => page_write W (some ⟨gb, 0, none⟩) gc (some ⟨wb, 0, none⟩) n1 cs Ws 32 #[.pointer (some ⟨T, 0, none⟩)] (enters_of Tryd.func32 (by kernel_rfl) rfl) (cellO hd) (HGI.out W hW) (by rw [HWL.out]; exact HIW.out W (HH.out W hW)) (fun c hc => by rw [HWL.out]; exact HCS2.out c hc) (fun c _ => Nat.le_trans (HC120.out hd (by simp) c) (by omega)) (fun c hc => by rw [HWG.out c (HCS2.out c hc)]; exact maxW_mem (by simp) c) h200 (by omega)
        (fun W' c hc hW' => (lay_head W' T n1 c1 a1 (.int .i64 0) hd c (HT0.out W' (below_then (HH.out W hW) hW')).1 (HSW.out W' (below_then (HH.out W hW) hW')) (HCS2.out c hc)).mono fun e w' ⟨he, hw'⟩ => ⟨he, hw' ▸ hW'⟩))
      have CW2 := Lib.hid (fun (W : World) (hW : Below w5.heap.size w5 W) => page_write W (some ⟨gb, 0, none⟩) gc (some ⟨wb, 0, none⟩) n1 cs Ws 33 #[.pointer (some ⟨Dn, 0, none⟩)] (enters_of Tryd.func33 (by kernel_rfl) rfl) (fun i => (⟨(List.replicate (Ws.getD i 0) 45).toArray⟩ : ByteArray)) (HGI.out W hW) (by rw [HWL.out]; exact HIW.out W (HH.out W hW)) (fun c hc => by rw [HWL.out]; exact HCS2.out c hc) (fun c _ => by rw [bS_size, List.length_replicate]; exact h200 c) (fun c hc => rep_rc _) h200 (by omega)
        (fun W' c hc hW' => (lay_dash W' Dn n1 (some ⟨wb, 0, none⟩) Ws c (by rw [HWL.out]; exact (HT0.out W' (below_then (HH.out W hW) hW')).2.2) (by rw [HWL.out]; exact HIW.out W' (below_then (HH.out W hW) hW')) (by rw [HWL.out]; exact HCS2.out c hc) (h200 c)).mono fun e w' ⟨he, hw'⟩ => ⟨he, below_then hW' hw'⟩))
      have CW3 := Lib.hid (fun (r : List ByteArray) (hr : r ∈ rs) (R2 cr : Nat) (ar : Option Addr) (W : World) (hW : Below w5.heap.size w5 W) (hR : ∀ W', Below W.heap.size W W' → W'.cell? ⟨R2, 0, none⟩ = some (.slice ar n1 cr) ∧ Strs W' W'.heap.size ar n1 r) => page_write W (some ⟨gb, 0, none⟩) gc (some ⟨wb, 0, none⟩) n1 cs Ws 35 #[.pointer (some ⟨R2, 0, none⟩)] (enters_of Tryd.func35 (by kernel_rfl) rfl) (cellO r) (HGI.out W hW) (by rw [HWL.out]; exact HIW.out W (HH.out W hW)) (fun c hc => by rw [HWL.out]; exact HCS2.out c hc) (fun c _ => Nat.le_trans (HC120.out r (by simp [hr]) c) (by omega)) (fun c hc => by rw [HWG.out c (HCS2.out c hc)]; exact maxW_mem (by simp [hr]) c) h200 (by omega)
        (fun W' c hc hW' => (lay_row W' R2 n1 cr ar r c (hR W' hW').1 (hR W' hW').2 (HCS2.out c hc)).mono fun e w' ⟨he, hw'⟩ => ⟨he, hw' ▸ hW'⟩))
      rw [HWL.out] at CW1 CW2 CW3
      have HTX1 := Lib.hid (show hl = txtO Ws (cellO hd) cs ++ txtO Ws (fun i => (⟨(List.replicate (Ws.getD i 0) 45).toArray⟩ : ByteArray)) cs by rw [hhl]; rfl)
      have HLNE := Lib.hid (fun r => show txtO Ws (cellO r) cs = ln r by rw [hln])
      generalize txtO Ws (cellO hd) cs = X1 at CW1 HTX1
      generalize txtO Ws (fun i => (⟨(List.replicate (Ws.getD i 0) 45).toArray⟩ : ByteArray)) cs = X2 at CW2 HTX1
      obtain ⟨nc, hnc⟩ : ∃ n, n = cs.length := ⟨_, rfl⟩
      rw [← hnc] at CW1 CW2 CW3 g1 g2
      have hnc2 : nc ≤ 12 := by omega
      have hX12 : X1 ++ X2 = hl := HTX1.out.symm
      have a12 := addL X1 X2 hl hX12 (by omega)
      have x3 := (HT0.out wr hb).2.1
      have hOw : O < wr.heap.size := Nat.lt_of_lt_of_le hOl hb.size
      clear hown hbd hbd2 hcs hdr g5 hhl hln hc2 hlln hnc hX12 h200 hc1 hmem hb
      obtain ⟨REST, hREST⟩ : ∃ X, X = (G.drop (q + 1)).flatMap (pagesG Ws hd rs h) := ⟨_, rfl⟩
      rw [← hREST] at HBD2
      have HREST := Lib.hid hREST
      clear hREST
      have HX := Lib.hid (fun (W : World) (hW : Below w5.heap.size w5 W) => below_then B5.out hW)
      go_upto_region 16 with fail
      go_loopw [12, 15, 16, 17, 18, 20] (fun o r f n s p wx => ∃ (d m c' : Nat) (fb : Bool) (v' : Value) (dn : List (List UInt8)) (a' : Option Addr), v' = o ∧ r = .slice a' m c' ∧ f = .bool fb ∧ d + m = n2 ∧ BODY = dn ++ (pgR hl ln h fb (rs.drop d) ++ REST) ∧ RowsC w w.heap.size a' m c' (rs.drop d) ∧ PgS w5 v' dn wx ∧ (∃ V, V = n) ∧ (∃ V, V = s) ∧ (∃ V, V = p)) (fun _ r f _ _ _ _ => pgMeas r f)
      case atStart => exact ⟨0, n2, c2, true, v, done, a2, rfl, rfl, rfl, by omega, HBD2.out, HRC.out, ⟨HB.out, OWN.out⟩, ⟨_, rfl⟩, ⟨_, rfl⟩, ⟨_, rfl⟩⟩
      case round =>
        obtain ⟨d, m, c', fb, v', dn, a', rfl, rfl, rfl, hdm, hbd, hrc, hpg, ⟨V17', rfl⟩, ⟨V18', rfl⟩, ⟨V20', rfl⟩⟩ := hrel
        have HPG := Lib.hid hpg; have HBD3 := Lib.hid hbd; have HRC3 := Lib.hid hrc
        have hml : (rs.drop d).length = m := hrc.rows.1
        have hdl : dn.length ≤ 5000 := by rw [hbd, List.length_append] at hblen; omega
        clear hbd hpg
        by_cases hgo : fb = true ∨ 0 < m
        · have hne : fb = true ∨ rs.drop d ≠ [] := hgo.elim .inl (fun hp => .inr (fun e => by rw [e] at hml; simp at hml; omega))
          have HST := Lib.hid (pgR_step hl ln h hh3 fb (rs.drop d) hne)
          obtain ⟨k, hk⟩ : ∃ k, k = min h m := ⟨_, rfl⟩
          have hkm : k ≤ m := by omega
          have hkh : k ≤ h := by omega
          have hmn : min (h : Int) (m : Int) = (k : Int) := by omega
          have HTK := Lib.hid (show (rs.drop d).take k = (rs.drop d).take h by rw [hk]; exact take_min _ h m hml.symm)
          have HDK := Lib.hid (show (rs.drop d).drop k = (rs.drop d).drop h by rw [hk]; exact drop_min _ h m hml.symm)
          have HMP := Lib.hid (show (k = 0 → m = 0) by omega)
          obtain ⟨s1, s2, s3⟩ := rows_hi hrc k hkm
          obtain ⟨a3, s4, s5, s6⟩ := rows_lo hrc k hkm
          have S3 := Lib.hid s3; have S6 := Lib.hid s6
          have hcnd : ∃ u : Bool, u = (fb || decide (0 < m)) ∧ u = true := ⟨_, rfl, by simpa using hgo⟩
          have hPw := HPG.out
          clear hrc hml hne hk s3 s6 hcnd
          have HGO := Lib.hid hgo
          obtain ⟨W0, hW0⟩ : ∃ W0, W0 = wr := ⟨_, rfl⟩
          rw [← hW0] at HPG ⊢
          clear hW0
          go_upto_region 16 with fail
          go_cut [54] from 49 to 90 (fun y wx => y = .bool true ∧ W0 = wx)
          case first =>
            cases fb with
            | true =>
              clear hgo
              go_wp2_with fail
              go_meet
              case rel => exact ⟨rfl, rfl⟩
            | false =>
              have hm1 : 0 < m := by rcases hgo with e | e; cases e; exact e
              clear hgo
              go_wp2_with fail
              go_meet
              case rel => exact ⟨by simp [hm1], rfl⟩
          case rest =>
          obtain ⟨rfl, rfl⟩ := hcut
          clear hgo
          go_upto_region 19 with fail
          (refine region_class (PgS w5 v' dn) (by kernel_rfl) (by kernel_rfl) (HPG.out.step (Below.refl _ _).drew) ?_; repeat ((first | (refine class_take ?_ (by rfl) ?_ ?_; rotate_left; focus (intro wq hq; ((have hq1 : Below w5.heap.size w5 wq := hq.1; obtain ⟨x0, x1, x2⟩ := HT0.out wq hq1)); go_simp; first | done | with_reducible rfl | (first | (go_at_call 31; (with_reducible refine (CW1.out _ hq1).mono ?_); rintro e w' ⟨rfl, hb⟩; refine ⟨?_, hq.step hb⟩; with_reducible rfl) | (go_at_call 31; (with_reducible refine (CW2.out _ hq1).mono ?_); rintro e w' ⟨rfl, hb⟩; refine ⟨?_, hq.step hb⟩; with_reducible rfl)))) | refine class_skip (by rfl) ?_); try simp only [Act.put, List.setIfInBounds_toArray, List.set_cons_zero, List.set_cons_succ]))
          refine wpQuiet_nil ?_
          intro W6 h6
          have H6 := Lib.hid h6
          clear h6 hPw
          go_upto_region 21 with fail
          obtain ⟨PG, hPG⟩ : ∃ X, X = hl ++ ((rs.drop d).take k).flatMap ln := ⟨_, rfl⟩
          have HPGE := Lib.hid hPG
          have S3W := Lib.hid (fun (W : World) (hW : Below w5.heap.size w5 W) => S3.out.below (HX.out W hW) (Nat.le_refl _))
          obtain ⟨CH, hCH⟩ : ∃ X, X = (rs.drop d).take k := ⟨_, rfl⟩
          have hchl : CH.length = k := by rw [hCH]; exact S3.out.rows.1
          have HCHL := Lib.hid hchl
          have HCHM := Lib.hid (show ∀ r ∈ CH, r ∈ rs from fun r hr => by rw [hCH] at hr; exact List.mem_of_mem_drop (List.mem_of_mem_take hr))
          rw [← hCH] at hPG S3W
          have HPG2 := Lib.hid hPG
          clear hPG hCH hchl
          go_loopw [18, 20, 73] (fun s p ix wx => ∃ (t : Nat) (l : List UInt8), ix = .int .i64 t ∧ t ≤ k ∧ s = .string ⟨l.toArray⟩ ∧ PG = l ++ (CH.drop t).flatMap ln ∧ l.length ≤ 12002 + t * 6001 ∧ PgS w5 v' dn wx ∧ (∃ V, V = p)) (fun _ _ ix _ => k - (intOf ix).toNat)
          case atStart => exact ⟨0, hl, rfl, by omega, rfl, by rw [HPG2.out]; rfl, by omega, H6.out, ⟨_, rfl⟩⟩
          case round =>
            obtain ⟨t, l, rfl, ht, rfl, hpl, hll, hpg, ⟨V20x, rfl⟩⟩ := hrel
            have HPX := Lib.hid hpg; have HPL := Lib.hid hpl
            by_cases htl : t < k
            · obtain ⟨r, hr⟩ : ∃ r, r = CH.getD t [] := ⟨_, rfl⟩
              have hrm : r ∈ CH := by rw [hr, List.getD_eq_getElem?_getD, List.getElem?_eq_getElem (by rw [HCHL.out]; exact htl)]; exact List.getElem_mem _
              have hrs := HCHM.out r hrm
              have hrl : r.length = n1 := by rw [TOK.out.len r (by simp [hrs]), L1.out]
              have hdr2 : CH.drop t = r :: CH.drop (t + 1) := by
                rw [List.drop_eq_getElem_cons (by rw [HCHL.out]; exact htl), hr, List.getD_eq_getElem?_getD, List.getElem?_eq_getElem (by rw [HCHL.out]; exact htl)]; rfl
              obtain ⟨rb, ro, rfl, hrb, hrc2⟩ := (S3W.out wr hpg.1).rows.2.2 (by omega)
              obtain ⟨ar, cr, q1, q2, q3, q4⟩ := hrc2 t htl
              rw [← hr, hrl] at q1 q3 q4
              obtain ⟨R2, hR2⟩ : ∃ R, R = wr.heap.size := ⟨_, rfl⟩
              have PGX := Lib.hid (hpg.step (below_new (Below.refl wr.heap.size wr) (.cells #[.slice ar n1 cr] 22)))
              have AR := Lib.hid (At.newAt wr (.cells #[.slice ar n1 cr] 22) R2 hR2)
              have SR := Lib.hid (show Strs (wr.alloc (.cells #[.slice ar n1 cr] 22)) w.heap.size ar n1 r from (q4.below (below_new (Below.refl wr.heap.size wr) _) (HX.out wr hpg.1).size))
              have hwsz : w.heap.size ≤ wr.heap.size := (HX.out wr hpg.1).size
              have HWSZ := Lib.hid hwsz
              obtain ⟨LR, hLR⟩ : ∃ X, X = ln r := ⟨_, rfl⟩
              obtain ⟨l2, hl2⟩ : ∃ X, X = l ++ LR := ⟨_, rfl⟩
              have hlr : LR.length ≤ 6001 := by rw [hLR]; exact HLLN.out r hrs
              have hl2l : l2.length ≤ 12002 + (t + 1) * 6001 := by rw [hl2, List.length_append]; omega
              have HPL2 := Lib.hid (show PG = l2 ++ (CH.drop (t + 1)).flatMap ln by rw [hpl, hdr2, List.flatMap_cons, hl2, hLR]; simp)
              have aL := addL l LR l2 hl2.symm (by omega)
              have CX := Lib.hid (CW3.out r hrs R2 cr ar)
              rw [HLNE.out r, ← hLR] at CX
              have hrbl : rb < wr.heap.size := by omega
              clear hpl hpg hr hrm hrl hdr2 hrc2 q4 hl2 hLR hwsz
              go_upto_region 23 with fail
              rw [← hR2]
              clear hR2
              generalize World.alloc wr _ = W8 at PGX AR SR ⊢
              have x0 := (HT0.out W8 PGX.out.1).2.2
              have CX2 := Lib.hid (CX.out W8 PGX.out.1 (fun W' hW' => ⟨(AR.out.then_ hW').cell 0, (SR.out.below hW' (by have := HWSZ.out; have := PGX.out.1.size; have := (HX.out _ PGX.out.1).size; omega)).of_le (by have := (HX.out _ (PGX.out.step hW').1).size; exact this)⟩))
              go_wp2_with fail
              refine CX2.out.mono ?_
              rintro e w9 ⟨rfl, hb9⟩
              have P9 := Lib.hid (PGX.out.step hb9)
              clear hb9 x0
              go_wp2_with fail
              go_roundw
              case rel => exact ⟨t + 1, l2, by go_num, by omega, rfl, HPL2.out, by omega, P9.out, ⟨_, rfl⟩⟩
              case measure => simp [intOf]; omega
            · obtain rfl : t = k := by omega
              have hfin : l = PG := by rw [hpl, List.drop_eq_nil_of_le (by rw [HCHL.out]; exact Nat.le_refl _)]; simp
              subst hfin
              have OWN2 := Lib.hid hpg.2
              have hsz5 : w5.heap.size ≤ wr.heap.size := hpg.1.size
              have HP5 := Lib.hid hpg.1
              clear hpl hpg htl
              go_wp2_with (at_builtin; refine wpList_append_own _ rfl _ _ 22 rfl (w5.heap.size) 9 i0 (.string ⟨#[]⟩) 1 16 Tryd.underlying22 hi hz0 hz1 hz2 rfl (by decide) _ _ _ rfl (OWN2.out.alloc _) ⟨wr.heap.size, 0, none⟩ 1 1 [.string ⟨l.toArray⟩] rfl rfl (World.news_of_block (cs := #[.string ⟨l.toArray⟩]) (t := 9) (fr := (0, 0)) (heap_alloc_new wr _)) (by simp [Value.oneCell']) (by unfold maxLen; omega) (by omega) (by first | omega | (simp; omega)) ?_; intro v' w4 hown' hgrow _)
              have P9 := Lib.hid (show PgS w5 v' (dn ++ [l]) w4 from ⟨(below_new HP5.out (.cells #[.string ⟨l.toArray⟩] 9)).grown hgrow (by rw [World.size_alloc]; omega) (fun b hb => own_farS OWN2.out hb), by rw [List.length_append, List.map_append]; exact hown'⟩)
              clear hown' hgrow
              go_roundw
              case rel => exact ⟨d + t, m - t, c' - t, false, _, dn ++ [l], a3, rfl, rfl, rfl, by omega, by rw [HBD3.out, HST.out, ← HTK.out, ← HDK.out, HPGE.out, List.drop_drop]; simp, by rw [← List.drop_drop]; exact S6.out, P9.out, ⟨_, rfl⟩, ⟨_, rfl⟩, ⟨_, rfl⟩⟩
              case measure =>
                have h1 := HMP.out
                rcases HGO.out with e | e
                · subst e; simp [pgMeas]; omega
                · have : t ≠ 0 := fun e0 => by have := h1 e0; omega
                  simp [pgMeas]; omega
        · have hfb : fb = false := by cases fb with | false => rfl | true => exact absurd (.inl rfl) hgo
          have hm0 : m = 0 := by omega
          subst hfb hm0
          have hnil : rs.drop d = [] := List.length_eq_zero_iff.1 hml
          have HBD4 := Lib.hid (show BODY = dn ++ (G.drop (q + 1)).flatMap (pagesG Ws hd rs h) by rw [HBD3.out, hnil, pgR_end, HREST.out]; rfl)
          clear hgo hnil hml hrc
          go_wp2_with fail
          go_roundw
          case rel => exact ⟨q + 1, _, dn, by go_num, rfl, by omega, HBD4.out, HPG.out.2, HPG.out.1, ⟨_, rfl⟩, ⟨_, rfl⟩, ⟨_, rfl⟩, ⟨_, rfl⟩, ⟨_, rfl⟩, ⟨_, rfl⟩⟩
          case measure => simp [intOf]; omega
    · obtain rfl : q = K := by omega
      have hfin : BODY = done := by rw [hbd, List.drop_eq_nil_of_le (by rw [← HK.out]; exact Nat.le_refl _)]; simp
      subst hfin
      obtain ⟨N, hN⟩ : ∃ N, N = BODY.length := ⟨_, rfl⟩
      have hN1 : 1 ≤ N := by
        rw [hN, HBODY.out]
        cases hGG : G with
        | nil => have := HK.out; rw [hGG] at this; simp at this; omega
        | cons cs r => rw [List.flatMap_cons]; unfold pagesG; rw [pgF_succ]; simp
      have h200 : ∀ c, Ws.getD c 0 ≤ 200 := fun c => Nat.le_trans (HWS.out c) (by omega)
      have HPSZ := Lib.hid (show ∀ p ∈ BODY, p.length ≤ 700000 from fun p hp => by
        rw [HBODY.out] at hp
        obtain ⟨cs, hcs, hp⟩ := List.mem_flatMap.1 hp
        have hc12 := (HGIN.out cs hcs).1
        unfold pagesG at hp
        have h1 := pgF_size _ _ h 6001 _ rs (fun r hr => txtO_len h200 (fun c _ => Nat.le_trans (HC120.out r (by simp [hr]) c) (by omega)) (by omega)) p hp
        have h2 := head_len (cs := cs) h200 (fun c => Nat.le_trans (HC120.out hd (by simp) c) (by omega)) (by omega)
        have h3 : h * 6001 ≤ 100 * 6001 := Nat.mul_le_mul_right 6001 hh4
        omega)
      obtain ⟨g, cap, rfl, hcap, hgl, _⟩ := own_strs hown rfl (by rw [← hN]; exact hN1)
      have hcapm : cap ≤ 9223372036854775807 := by
        rcases hown.2 with ⟨h0, _⟩ | ⟨g', cap', cur, hv, _, _, _, r2, _⟩
        · cases h0
        · injection hv with _ _ e3; subst e3; unfold maxLen at r2; omega
      rw [← hN] at hown hcap HRR hblen ⊢
      have OWN0 := Lib.hid (show wr.ownsRow w5.heap.size 9 1 (.slice (some ⟨g, 0, none⟩) N cap) N ((footsO BODY 0).map strV) by rw [footsO_zero]; exact hown)
      have HNB := Lib.hid hN
      have HB5 := Lib.hid hb
      have hg5 : w5.heap.size ≤ g := own_farS hown rfl
      clear hown hb hbd hlt h200 hgl hN OWN HB HBD
      go_upto_region 29 with fail
      go_loopw [21, 94] (fun i ix wx => ∃ t : Nat, ix = .int .i64 t ∧ t ≤ N ∧ wx.ownsRow w5.heap.size 9 1 (.slice (some ⟨g, 0, none⟩) N cap) N ((footsO BODY t).map strV) ∧ Below w5.heap.size w5 wx ∧ (∃ V, V = i)) (fun _ ix _ => N - (intOf ix).toNat)
      case atStart => exact ⟨0, rfl, by omega, OWN0.out, HB5.out, ⟨_, rfl⟩⟩
      case round =>
        obtain ⟨t, rfl, ht, hown, hb, ⟨V21, rfl⟩⟩ := hrel
        have OWN := Lib.hid hown; have HB := Lib.hid hb
        by_cases htl : t < N
        · obtain ⟨p, hp⟩ : ∃ p, BODY[t]? = some p := ⟨_, List.getElem?_eq_getElem (by rw [← HNB.out]; exact htl)⟩
          have hpl := HPSZ.out p (List.mem_of_getElem? hp)
          have hft : (footsO BODY t)[t]? = some p := by rw [footsO_get, hp]; simp
          obtain ⟨g', cap', hv, _, hgl, hcell⟩ := own_strs hown (by rw [footsO_len, ← HNB.out]) hN1
          obtain ⟨rfl, rfl⟩ : g = g' ∧ cap = cap' := by injection hv with e1 e2 e3; injection e1 with e1; injection e1 with e1; exact ⟨e1, e3⟩
          have hc0 := hcell t p hft
          rw [Nat.zero_add] at hc0
          have HSTP := Lib.hid (footsO_step BODY t p hp)
          obtain ⟨i1, hi1⟩ : ∃ x, x = Lib.itoa ((t : Int) + 1) := ⟨_, rfl⟩
          obtain ⟨i2, hi2⟩ : ∃ x, x = Lib.itoa (N : Int) := ⟨_, rfl⟩
          have hil1 : i1.length ≤ 21 := by rw [hi1]; exact itoa_len _ (by omega) (by omega)
          have hil2 : i2.length ≤ 21 := by rw [hi2]; exact itoa_len _ (by omega) (by omega)
          have CI1 := Lib.hid (fun (W : World) (hW : Below wr.heap.size wr W) => lib_Itoa ((t : Int) + 1) W (by omega) (by omega) (HP.out.below (below_then (below_then B5.out hb) hW)))
          have CI2 := Lib.hid (fun (W : World) (hW : Below wr.heap.size wr W) => lib_Itoa (N : Int) W (by omega) (by omega) (HP.out.below (below_then (below_then B5.out hb) hW)))
          rw [← hi1] at CI1
          rw [← hi2] at CI2
          obtain ⟨s1, hs1⟩ : ∃ s, s = [112, 97, 103, 101, 32] ++ i1 := ⟨_, rfl⟩
          obtain ⟨s2, hs2⟩ : ∃ s, s = s1 ++ [32, 111, 102, 32] := ⟨_, rfl⟩
          obtain ⟨s3, hs3⟩ : ∃ s, s = s2 ++ i2 := ⟨_, rfl⟩
          obtain ⟨s4, hs4⟩ : ∃ s, s = s3 ++ [10] := ⟨_, rfl⟩
          obtain ⟨s5, hs5⟩ : ∃ s, s = p ++ s4 := ⟨_, rfl⟩
          have l1 : s1.length ≤ 26 := by rw [hs1]; simp; omega
          have l2 : s2.length ≤ 30 := by rw [hs2, List.length_append]; simp; omega
          have l3 : s3.length ≤ 51 := by rw [hs3, List.length_append]; omega
          have l4 : s4.length ≤ 52 := by rw [hs4, List.length_append]; simp; omega
          have l5 : s5.length ≤ 700052 := by rw [hs5, List.length_append]; omega
          have b1 := addL [112, 97, 103, 101, 32] i1 s1 hs1.symm (by omega)
          have b2 := addL s1 [32, 111, 102, 32] s2 hs2.symm (by omega)
          have b3 := addL s2 i2 s3 hs3.symm (by omega)
          have b4 := addL s3 [10] s4 hs4.symm (by omega)
          have b5 := addL p s4 s5 hs5.symm (by omega)
          have HS5 := Lib.hid (show s5 = p ++ footO t BODY.length by
            rw [hs5, hs4, hs3, hs2, hs1, hi1, hi2, HNB.out]; unfold footO pageS ofS
            rw [show (((t + 1 : Nat) : Int)) = (t : Int) + 1 by omega])
          have ew : IntKind.i64.wrap ((t : Int) + 1) = (t : Int) + 1 := IntWalk.i64_in _ (by omega)
          have HC0 := Lib.hid hc0
          have HGL := Lib.hid hgl
          clear hown hb hft hcell hv hc0 hs1 hs2 hs3 hs4 hs5 hi1 hi2 hp
          go_upto_region 31 with fail
          (refine region_class_tail 16 (Below wr.heap.size wr) (by kernel_rfl) (by kernel_rfl) ((Below.refl _ _).drew) ?_; simp only [List.take_succ_cons, List.take_zero, List.drop_succ_cons, List.drop_zero]; repeat ((first | (refine class_take ?_ (by rfl) ?_ ?_; rotate_left; focus (intro wq hq; ((have x0 : wq.cell? ⟨g, t, none⟩ = some (.string ⟨p.toArray⟩) := (hq.cell (p := ⟨g, t, none⟩) HGL.out).trans HC0.out; have x1 : g < wq.heap.size := Nat.lt_of_lt_of_le HGL.out hq.size)); go_simp; first | done | with_reducible rfl | (first | (go_at_call 16; (with_reducible refine (CI1.out _ hq).mono ?_); rintro e w' ⟨rfl, hb⟩; refine ⟨?_, below_then hq hb⟩; with_reducible rfl) | (go_at_call 16; (with_reducible refine (CI2.out _ hq).mono ?_); rintro e w' ⟨rfl, hb⟩; refine ⟨?_, below_then hq hb⟩; with_reducible rfl)))) | refine class_skip (by rfl) ?_); try simp only [Act.put, List.setIfInBounds_toArray, List.set_cons_zero, List.set_cons_succ]))
          refine wpQuiet_nil ?_
          intro W8 h8
          have O8 := Lib.hid (own_thenS OWN.out h8)
          have B8 := Lib.hid (below_then HB.out h8)
          have hat8 : ∃ cur : Array Value, At W8 g (.cells cur 9) := by
            rcases O8.out.2 with ⟨h0, _⟩ | ⟨g', cap', cur, hv, _, hat, _⟩
            · cases h0
            · injection hv with e1 _ _; injection e1 with e1; injection e1 with e1; subst e1; exact ⟨cur, hat⟩
          obtain ⟨cur, hat⟩ := hat8
          have y0 := hat.frozen t; have y1 := hat.lt
          have y2 : W8.cell? ⟨g, t, none⟩ = some (.string ⟨p.toArray⟩) := (h8.cell (p := ⟨g, t, none⟩) HGL.out).trans HC0.out
          have O9 := Lib.hid (show (W8.setCell ⟨g, t, none⟩ (.string ⟨s5.toArray⟩)).ownsRow w5.heap.size 9 1 (.slice (some ⟨g, 0, none⟩) N cap) N ((footsO BODY (t + 1)).map strV) by
            rw [HSTP.out, ← HS5.out, List.map_set]; exact own_setIn O8.out t _)
          have B9 := Lib.hid (below_set B8.out (p := ⟨g, t, none⟩) hg5 (.string ⟨s5.toArray⟩))
          clear hat h8
          go_wp2_with fail
          go_roundw
          case rel => exact ⟨t + 1, by go_num, by omega, O9.out, B9.out, ⟨_, rfl⟩⟩
          case measure => simp [intOf]; omega
        · obtain rfl : t = N := by omega
          obtain ⟨g', cap', hv, _, hgl, hcell⟩ := own_strs hown (by rw [footsO_len, ← HNB.out]) hN1
          obtain ⟨rfl, rfl⟩ : g = g' ∧ cap = cap' := by injection hv with e1 e2 e3; injection e1 with e1; injection e1 with e1; exact ⟨e1, e3⟩
          have hfl : (footsO BODY t).length = t := by rw [footsO_len, ← HNB.out]
          have ST := Lib.hid (show Strs wr wr.heap.size (some ⟨g, 0, none⟩) t (txts (footsO BODY t)) from ⟨by unfold txts; rw [List.length_map, hfl], by omega, fun s hs => by
            unfold txts at hs
            obtain ⟨x, hx, rfl⟩ := List.mem_map.1 hs
            obtain ⟨i, hi⟩ := List.mem_iff_getElem?.1 hx
            rw [footsO_get, Option.map_eq_some_iff] at hi
            obtain ⟨y, hy, hxy⟩ := hi
            have hyl := HPSZ.out y (List.mem_of_getElem? hy)
            have hil : i < BODY.length := (List.getElem?_eq_some_iff.1 hy).1
            rw [bS_size, ← hxy]
            split
            · unfold footO pageS ofS
              have e1 := itoa_len (((i + 1 : Nat) : Int)) (by omega) (by have := HNB.out; omega)
              have e2 := itoa_len ((BODY.length : Int)) (by omega) (by have := HNB.out; omega)
              simp only [List.length_append, List.length_cons, List.length_nil]
              omega
            · omega, fun _ => ⟨g, 0, rfl, hgl, fun i hi => by
            have hi2 : (footsO BODY t)[i]? = some ((footsO BODY t)[i]'(by rw [hfl]; exact hi)) := List.getElem?_eq_getElem _
            rw [hcell i _ hi2]
            unfold txts
            rw [List.getD_eq_getElem?_getD, List.getElem?_map, hi2]; rfl⟩⟩)
          clear hown htl hcell hv
          go_wp2_with fail
          go_ret2
          rw [HRR.out]
          refine ⟨some ⟨g, 0, none⟩, cap, ?_, by rw [hfl]; exact hcap, hcapm, ?_, below_then B5.out hb⟩
          · show _ = Ending.returned (.tuple #[.slice (some ⟨g, 0, none⟩) (footsO BODY t).length cap, .int .i64 0])
            rw [hfl]; rfl
          · rw [hfl]; exact ST.out
end Go.Proofs.YthpiiocncdpimaaDoor
