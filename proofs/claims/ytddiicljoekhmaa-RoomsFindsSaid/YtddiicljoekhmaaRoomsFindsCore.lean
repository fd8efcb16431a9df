/- RoomsFinds: the Go text returns true at every input, and writes nothing that was there. -/
import Derived.Test.YtddiicljoekhmaaRows
import Derived.Test.YtddiicljoekhmaaRmG
import Derived.ChangeMaps5
namespace Go.Proofs.Ytddiicljoekhmaa.roomsFindsLaw
set_option linter.unusedVariables false
set_option linter.unusedSimpArgs false
set_option maxRecDepth 100000
open Go.RowKit Go.ChangeShapes Go.WideShapes

theorem int_info : (Try.prog.info? 3).map (fun i => (i.zero, i.size, i.bytes)) = some (some (.int .i64 0), 1, 8) := by kernel_rfl
theorem me_bytes : (⟨#[109, 101]⟩ : ByteArray).size ≤ 9223372036854775807 := by decide
set_option maxHeartbeats 16000000 in
theorem core (w : World) (b : Option Addr) (m d : Nat) (ls : List Stp) (hl : Stps w w.heap.size b m ls) (hmd : m ≤ d) (hdd : d ≤ 9223372036854775807) (len f0 t0 : Int) (hlen : I64 len) (hf0 : I64 f0) (ht0 : I64 t0) :
    Calls Try.prog 4 #[.slice b m d, .int .i64 len, .int .i64 f0, .int .i64 t0] w fun e w' => e = .returned (.bool true) ∧ Below w.heap.size w w' := by
  have HL := Lib.hid hl; have m2 := hl.max
  have f1 := hf0.1; have f2 := hf0.2; have t1 := ht0.1; have t2 := ht0.2; have n1 := hlen.1; have n2 := hlen.2
  have HLEN := Lib.hid hlen; have HF0 := Lib.hid hf0; have HT0 := Lib.hid ht0
  clear hl hlen hf0 ht0
  go_enter Try.func4, Try.ntmps4
  go_wp2_with fail
  refine (law_roomsFact _).mono ?_
  rintro e w1 ⟨rfl, hb1⟩
  have B1 := Lib.hid hb1
  clear hb1
  go_wp2_with fail
  refine (law_pair _).mono ?_
  rintro e w4 ⟨pb, rfl, htx, hb4⟩
  go_wp2_with fail
  refine (new_pair w4 pb htx).mono ?_
  rintro e w5 ⟨P, gn, gb, cn, rfl, hb5, p1, p2, p3, st⟩
  have ST := Lib.hid st; clear st
  have hs2 := B1.out.size; have hs4 := hb4.size; have hs5 := hb5.size
  have HLS := Lib.hid (LawSt.new (w := w) ST.out)
  have hB6 := below_new (below_then (below_then B1.out hb4) hb5) (.cells #[.slice none 0 0] 35)
  have q1 : w.heap.size ≤ gb := by omega
  have q2 : w.heap.size ≤ w5.heap.size := by omega
  have B6 := Lib.hid hB6
  clear htx hb4 hb5 p1 p2 p3 ST B1 hs2 hs4 hs5 hB6
  go_wp2_with fail
  have hMn : min (m : Int) 20 = ((min m 20 : Nat) : Int) := by omega
  have hMx : max ((min m 20 : Nat) : Int) 0 = ((min m 20 : Nat) : Int) := by omega
  rw [hMn, hMx, Int.toNat_natCast]
  have hM1 : min m 20 ≤ m := by omega
  have hM2 : min m 20 ≤ 20 := by omega
  clear hMn hMx
  generalize min m 20 = M at hM1 hM2 ⊢
  have HLM := Lib.hid (HL.out.take hM1)
  obtain ⟨B, hBq⟩ : ∃ B, B = w5.heap.size := ⟨_, rfl⟩
  rw [← hBq] at HLS q2 ⊢
  clear hBq
  generalize World.alloc w5 _ = W6 at HLS B6 ⊢
  obtain ⟨i0, hi, hz0, hz1, hz2⟩ := info_parts bkg_info
  clear HL
  go_loopw [13, 14, 41] (fun _ _ vi wr => ∃ (k : Nat) (v1 v2 vb : Value) (l xs1 xs2 : List Bkg), k ≤ M ∧ vi = .int .i64 k ∧ LawSt wr P gn gb cn (B + 1) v1 v2 vb B l xs1 xs2 ∧ PlainOk l xs1 xs2 ∧ FarB l ∧ l.length ≤ k ∧ Below w.heap.size w wr) (fun _ _ vi _ => M - (intOf vi).toNat)
  case atStart => exact ⟨0, _, _, _, [], [], [], by omega, rfl, HLS.out, plain_nil, (by intro y hy; cases hy), by simp, B6.out⟩
  case round =>
    obtain ⟨k9, v1, v2, vb, l, xs1, xs2, hk9, rfl, hls, hpl, hfar, hll, hb⟩ := hrel
    have hx1 : xs1.length ≤ 40 := by have := hpl.len1; omega
    have hx2 : xs2.length ≤ 40 := by have := hpl.len2; omega
    have hs9 := hb.size
    have HFAR := Lib.hid hfar
    obtain ⟨av, cv, hvb, hlc, hcc2, hbl⟩ := hls.list hpl.ok
    subst hvb
    by_cases hlt9 : k9 < M
    · as_aux_lemma =>
      obtain ⟨bb, bo, rfl, hbB, hcs⟩ := (HLM.out.below hb (Nat.le_refl _)).open_ (by omega)
      obtain ⟨dq, r, f, t, x, k0, k1, k2, k3, k4, hx, hd1, hd2, hrs, hf1, hf2, ht1, ht2, hxs⟩ := hcs k9 hlt9
      have hok : okBkg (r, f, t, ⟨#[109, 101]⟩) := ⟨hrs, ⟨hf1, hf2⟩, ⟨ht1, ht2⟩, me_bytes⟩
      have HPL := Lib.hid hpl; have LS0 := Lib.hid hls; have BW := Lib.hid hb; have HOK := Lib.hid hok
      obtain ⟨g1, g2, g3⟩ := hls.ltg
      obtain ⟨j1, j2, j3⟩ := hls.lt1
      have HBL0 := Lib.hid hbl
      clear hcs hx hpl hls hb hok hbl hfar
      go_upto_region 9 with fail
      have hb8 : Below wr.heap.size wr ((wr.alloc (.cells #[.int .i64 dq, .string r, .int .i64 f, .int .i64 t, .string x] 37)).alloc (.cells #[.string r, .int .i64 f, .int .i64 t, .string ⟨#[109, 101]⟩] 39)) := below_new (below_new (Below.refl _ _) _) _
      have a15 := At.new1 wr (.cells #[.int .i64 dq, .string r, .int .i64 f, .int .i64 t, .string x] 37) (.cells #[.string r, .int .i64 f, .int .i64 t, .string ⟨#[109, 101]⟩] 39)
      have LS9 := Lib.hid (LS0.out.then_ hb8); have BW9 := Lib.hid (below_then BW.out hb8); have HBL := Lib.hid (HBL0.out.then_ hb8)
      clear hb8 k0 k1 k2 k3 k4 LS0 BW HBL0
      generalize World.alloc (World.alloc wr _) _ = W9 at a15 LS9 BW9 HBL ⊢
      generalize wr.heap.size = Z at a15 g1 g2 g3 j1 j2 j3 hs9 ⊢
      have J1 := Lib.hid j1; have J2 := Lib.hid j2; have J3 := Lib.hid j3; clear j1 j2 j3
      have z0 := a15.cell 0; have z1 := a15.cell 1; have z2 := a15.cell 2; have z3 := a15.cell 3; simp at z0 z1 z2 z3
      have A15 := Lib.hid a15
      have hzl := a15.lt
      clear a15
      have hln : l.length < 200 := by omega
      obtain ⟨PE, hPE⟩ : ∃ PE, PE = plainE r f t ⟨#[109, 101]⟩ l := ⟨_, rfl⟩
      have HBE := Lib.hid ((bookE_plain (r := r) (f := f) (t := t) (x := ⟨#[109, 101]⟩) HPL.out hln).trans hPE.symm)
      have HPE := Lib.hid hPE
      clear hPE
      go_wp2_with fail
      refine (books_bookError W9 B av l.length cv l r f t ⟨#[109, 101]⟩ LS9.out.lt (LS9.out.box.cell 0) HBL.out HOK.out).mono ?_
      rw [← HPE.out]
      rintro e w10 ⟨rfl, hb10⟩
      have LS10 := Lib.hid (LS9.out.then_ hb10); have BW10 := Lib.hid (below_then BW9.out hb10)
      have a15 := A15.out.then_ hb10
      clear z0 z1 z2 z3
      have z0 := a15.cell 0; have z1 := a15.cell 1; have z2 := a15.cell 2; have z3 := a15.cell 3; simp at z0 z1 z2 z3
      have A15b := Lib.hid a15
      have hz10 := hb10.size
      clear a15 hb10
      by_cases hE : PE = 0
      · subst hE
        go_wp2_with fail
        refine (rooms_Book w10 P gn gb cn (B + 1) v1 v2 xs1 xs2 r f t ⟨#[109, 101]⟩ LS10.out.st HOK.out (by omega) (by omega)).mono ?_
        rintro e w11 ⟨rfl, haf⟩
        obtain ⟨v1', v2', ls11, hb11, hkeep⟩ := LS10.out.after (B0 := w.heap.size) haf q1
        have a15 : At w11 (Z + 1) _ := (hkeep (Z + 1) (by omega) (by omega) (fun g e => by have := J1.out g e; omega) (fun g e => by have := J2.out g e; omega)).trans A15b.out
        have LS11 := Lib.hid ls11; have BW11 := Lib.hid (BW10.out.trans hb11)
        clear z0 z1 z2 z3
        have z0 := a15.cell 0; have z1 := a15.cell 1; have z2 := a15.cell 2; have z3 := a15.cell 3; simp at z0 z1 z2 z3
        have hz11 := hb11.size
        have hBl := ls11.lt
        clear ls11 hb11 hkeep haf a15
        have HNX := Lib.hid (plain_book HPL.out hln HPE.out.symm HOK.out)
        have HFX := Lib.hid (farB_snoc HFAR.out HPE.out.symm)
        have HOWN := Lib.hid LS11.out.own
        have hBn : some B ≠ Value.ownBlock (.slice av l.length cv) := fun e => by have := own_far5 HOWN.out e.symm; omega
        have z5 : w11.cell? ⟨B, 0, none⟩ = some (.slice av l.length cv) := LS11.out.box.cell 0
        have HBX := Lib.hid LS11.out.box
        have hbase : B + 1 ≤ w11.heap.size := by omega
        go_wp2_with (at_builtin; refine wpList_append_lies _ rfl _ _ 33 rfl (B + 1) 39 i0 (.agg #[.string ⟨#[]⟩, .int .i64 0, .int .i64 0, .string ⟨#[]⟩]) 4 48 Try.underlying33 hi hz0 hz1 hz2 rfl (by decide) _ _ _ rfl (HOWN.out.alloc _) ⟨w11.heap.size, 0, none⟩ 1 1 [.string r, .int .i64 f, .int .i64 t, .string ⟨#[109, 101]⟩] rfl rfl (World.news_of_block (cs := #[.string r, .int .i64 f, .int .i64 t, .string ⟨#[109, 101]⟩]) (t := 39) (fr := (0, 0)) (heap_alloc_new w11 _)) (by simp [Value.oneCell']) (by decide) (by unfold maxLen; omega) (by omega) (by first | omega | (simp; omega)) _ rfl ?_; intro g4 cap4 w4 hown' hgrow hlies hglt; have zc : w4.cell? ⟨B, 0, none⟩ = some (.slice av l.length cv) := (hgrow.cell_far ⟨B, 0, none⟩ (by simp; omega) hBn).trans ((HBX.out.alloc _).cell 0); have zf : w4.frozen? ⟨B, 0, none⟩ = false := (hgrow.frozen_far ⟨B, 0, none⟩ (by simp; omega) hBn).trans ((HBX.out.alloc _).frozen 0))
        have HPT := Lib.hid (LawSt.put (B0 := w.heap.size) (L' := l ++ [(r, f, t, ⟨#[109, 101]⟩)]) (u := .slice (some ⟨g4, 0, none⟩) (l.length + 1) cap4) (LS11.out.then_ (below_new (Below.refl _ _) (.cells #[.string r, .int .i64 f, .int .i64 t, .string ⟨#[109, 101]⟩] 39))) hgrow (by
          have e1 : (l ++ [(r, f, t, (⟨#[109, 101]⟩ : ByteArray))]).length = l.length + 1 := by simp
          have e2 : (l ++ [((r, f, t, ⟨#[109, 101]⟩) : Bkg)]).flatMap encBkg = l.flatMap encBkg ++ [.string r, .int .i64 f, .int .i64 t, .string ⟨#[109, 101]⟩] := by rw [List.flatMap_append]; simp [encBkg]
          rw [e1, e2]; exact hown') (fun g e => by
          have e' : g4 = g := by simpa [Value.ownBlock] using e
          subst e'
          exact hlies.imp id (fun h => by rw [h]; simp)) q2 (by simp; have := BW11.out.size; omega))
        clear hown' hgrow hlies hglt
        go_wp2_with fail
        go_roundw
        case rel => exact ⟨k9 + 1, v1', v2', _, l ++ [(r, f, t, ⟨#[109, 101]⟩)], _, _, by omega, by go_num, HPT.out.1, HNX.out, HFX.out, by simp; omega, (below_new BW11.out _).trans HPT.out.2.1⟩
        case measure => first | (simp [intOf]; done) | (simp [intOf]; omega)
      · have hEb : (PE == 0) = false := by simpa using hE
        clear hE
        go_wp2_with fail
        go_roundw
        case rel => exact ⟨k9 + 1, v1, v2, _, l, xs1, xs2, by omega, by go_num, LS10.out, HPL.out, HFAR.out, by omega, BW10.out⟩
        case measure => first | (simp [intOf]; done) | (simp [intOf]; omega)
    · as_aux_lemma =>
      have HPL := Lib.hid hpl; have LS0 := Lib.hid hls; have BW := Lib.hid hb; have HBL := Lib.hid hbl
      have HROW := Lib.hid (farB_row hpl hfar)
      clear hpl hls hb hbl hfar HLM HLS B6
      have HE := Lib.hid (show findE len f0 t0 = if len < 1 ∨ 86400000 < len then 1 else if (instB f0 && instB t0) = false then 3 else if t0 < f0 then 9 else 0 from rfl)
      have CI := Lib.hid (fun (W : World) => ref_InstantB f0 W f1 f2)
      have CT := Lib.hid (fun (W : World) => ref_InstantB t0 W t1 t2)
      go_wp2_with fail
      refine (rooms_Find wr P gn gb cn (B + 1) v1 v2 xs1 xs2 len f0 t0 HLEN.out HF0.out HT0.out LS0.out.st HROW.out.1 HROW.out.2).mono ?_
      unfold FindPost
      have ARMIN : True := trivial
      by_cases hn : len < 1 ∨ 86400000 < len
      · have HFO := Lib.hid (findO_err (xs1 := xs1) (xs2 := xs2) (HE.out.trans (if_pos hn)) (by decide))
        have hI : inB 1 86400000 len = false := by unfold inB; simp; omega
        rw [HFO.out]
        rintro e w11 ⟨rfl, hb11⟩
        go_wp2_with (first | (go_at_call 7; with_reducible refine (ref_In _ _ _ _).mono ?_; rw [hI]; rintro e w12 ⟨rfl, rfl⟩))
        go_ret
        exact ⟨rfl, below_then BW.out hb11⟩
      have hI : inB 1 86400000 len = true := by unfold inB; simp; omega
      have HE1 := Lib.hid (HE.out.trans (if_neg hn)); clear HE hn
      cases hp : instB f0 with
      | false =>
        have HFO := Lib.hid (findO_err (xs1 := xs1) (xs2 := xs2) (HE1.out.trans (if_pos (by rw [hp]; rfl))) (by decide))
        rw [HFO.out]
        rintro e w11 ⟨rfl, hb11⟩
        go_wp2_with (first | (go_at_call 7; with_reducible refine (ref_In _ _ _ _).mono ?_; rw [hI]; rintro e w12 ⟨rfl, rfl⟩) | (go_at_call 17; with_reducible refine (CI.out _).mono ?_; rw [hp]; rintro e w12 ⟨rfl, rfl⟩))
        go_ret
        exact ⟨rfl, below_then BW.out hb11⟩
      | true =>
      cases hq : instB t0 with
      | false =>
        have HFO := Lib.hid (findO_err (xs1 := xs1) (xs2 := xs2) (HE1.out.trans (if_pos (by rw [hp, hq]; rfl))) (by decide))
        rw [HFO.out]
        rintro e w11 ⟨rfl, hb11⟩
        go_wp2_with (first | (go_at_call 7; with_reducible refine (ref_In _ _ _ _).mono ?_; rw [hI]; rintro e w12 ⟨rfl, rfl⟩) | (go_at_call 17; with_reducible refine (CI.out _).mono ?_; rw [hp]; rintro e w12 ⟨rfl, rfl⟩) | (go_at_call 17; with_reducible refine (CT.out _).mono ?_; rw [hq]; rintro e w12 ⟨rfl, rfl⟩))
        go_ret
        exact ⟨rfl, below_then BW.out hb11⟩
      | true =>
      have HE2 := Lib.hid (show findE len f0 t0 = if t0 < f0 then 9 else 0 by rw [HE1.out, hp, hq]; rfl); clear HE1
      rcases Int.lt_or_le t0 f0 with h3 | h3
      · have HFO := Lib.hid (findO_err (xs1 := xs1) (xs2 := xs2) (HE2.out.trans (if_pos h3)) (by decide))
        rw [HFO.out]
        rintro e w11 ⟨rfl, hb11⟩
        go_wp2_with (first | (go_at_call 7; with_reducible refine (ref_In _ _ _ _).mono ?_; rw [hI]; rintro e w12 ⟨rfl, rfl⟩) | (go_at_call 17; with_reducible refine (CI.out _).mono ?_; rw [hp]; rintro e w12 ⟨rfl, rfl⟩) | (go_at_call 17; with_reducible refine (CT.out _).mono ?_; rw [hq]; rintro e w12 ⟨rfl, rfl⟩))
        go_ret
        exact ⟨rfl, below_then BW.out hb11⟩
      have HFO := Lib.hid (show findO len f0 t0 xs1 xs2 = pickF t0 len (fwdF len f0 xs1) (fwdF len f0 xs2) by
        have h0 : findE len f0 t0 = 0 := HE2.out.trans (if_neg (by omega))
        unfold findO; rw [h0, if_neg (by omega)])
      have fb := inst_bound hp
      have lb : 1 ≤ len ∧ len ≤ 86400000 := by unfold inB at hI; simp at hI; omega
      have HWP := Lib.hid (HFO.out.trans (want_pick t0 len f0 xs1 xs2))
      clear HE2 HFO
      obtain ⟨FR, hFR⟩ : ∃ x, x = findO len f0 t0 xs1 xs2 := ⟨_, rfl⟩
      rw [← hFR] at HWP ⊢
      clear hFR
      obtain ⟨R1, R2, R3, hR⟩ : ∃ R1 R2 R3, FR = (R1, R2, R3) := ⟨FR.1, FR.2.1, FR.2.2, rfl⟩
      subst hR
      dsimp only
      rintro e w11 ⟨rfl, hb11⟩
      have LS11 := Lib.hid (LS0.out.then_ hb11); have BW11 := Lib.hid (below_then BW.out hb11); have HBL11 := Lib.hid (HBL.out.then_ hb11)
      clear hb11 LS0 BW HBL
      go_wp2_with (first | (go_at_call 7; with_reducible refine (ref_In _ _ _ _).mono ?_; rw [hI]; rintro e w12 ⟨rfl, rfl⟩) | (go_at_call 17; with_reducible refine (CI.out _).mono ?_; rw [hp]; rintro e w12 ⟨rfl, rfl⟩) | (go_at_call 17; with_reducible refine (CT.out _).mono ?_; rw [hq]; rintro e w12 ⟨rfl, rfl⟩))
      refine (law_pair _).mono ?_
      rintro e w12 ⟨pb2, rfl, htx, hb12⟩
      have LS12 := Lib.hid (LS11.out.then_ hb12); have BW12 := Lib.hid (below_then BW11.out hb12); have HBL12 := Lib.hid (HBL11.out.then_ hb12)
      have HTX := Lib.hid htx
      clear hb12 htx LS11 BW11 HBL11 hI hp hq CI CT ARMIN HLEN HF0 HT0
      go_wp2_with fail
      go_loopw [19, 20, 22, 23, 25, 27, 106] (fun vw vbest _ _ _ _ vi wr => ∃ k : Nat, k ≤ 2 ∧ vi = .int .i64 k ∧ vw = .string (wantK t0 len f0 xs1 xs2 k).1 ∧ vbest = .int .i64 (wantK t0 len f0 xs1 xs2 k).2 ∧ Below w12.heap.size w12 wr) (fun _ _ _ _ _ _ vi _ => 2 - (intOf vi).toNat)
      case atStart => exact ⟨0, by omega, rfl, rfl, rfl, Below.refl _ _⟩
      case round =>
        obtain ⟨k, hk, rfl, rfl, rfl, hb2⟩ := hrel
        obtain ⟨wr2, rfl⟩ : ∃ wr2, wr2 = wr := ⟨_, rfl⟩
        by_cases hk2 : k < 2
        · as_aux_lemma =>
          obtain ⟨b9, o9, s9, e9, hb9, hc9, hx9⟩ := txts_at ((HTX.out.below hb2 (Nat.le_refl _)).more hb2.size) hk2
          obtain ⟨rfl, rfl⟩ : pb2 = b9 ∧ 0 = o9 := by injection e9 with e9; injection e9 with ea eb; exact ⟨ea, eb⟩
          rw [Nat.zero_add] at hc9
          have hnm : nameK k = s9 := by
            match k, hk2, hx9 with
            | 0, _, hx => simpa [nameK] using hx
            | 1, _, hx => simpa [nameK] using hx
          have HN := Lib.hid (show wantK t0 len f0 xs1 xs2 (k + 1) = if fwdF len f0 (rowL k xs1 xs2) + len ≤ t0 ∧ ((wantK t0 len f0 xs1 xs2 k).1 = none0 ∨ fwdF len f0 (rowL k xs1 xs2) < (wantK t0 len f0 xs1 xs2 k).2) then (nameK k, fwdF len f0 (rowL k xs1 xs2)) else wantK t0 len f0 xs1 xs2 k from rfl)
          have HTF := Lib.hid (times_find HPL.out k hk2 len f0 t0)
          have hrn := row_name HPL.out k hk2
          have far : FarB (rowL k xs1 xs2) := by
            match k, hk2 with
            | 0, _ => exact HROW.out.1
            | 1, _ => exact HROW.out.2
          have hLl : (rowL k xs1 xs2).length ≤ 40 := by unfold rowL; split <;> omega
          rw [hnm] at HN hrn
          have HRN := Lib.hid hrn
          have FAR := Lib.hid (times_far fb far)
          clear hnm hx9 e9 hrn far
          generalize hL : rowL k xs1 xs2 = L at HN HTF HRN FAR hLl
          clear hL
          obtain ⟨WV, hWV⟩ : ∃ x, x = (wantK t0 len f0 xs1 xs2 k).1 := ⟨_, rfl⟩
          obtain ⟨WB, hWB⟩ : ∃ x, x = (wantK t0 len f0 xs1 xs2 k).2 := ⟨_, rfl⟩
          rw [← hWV, ← hWB] at HN ⊢
          have HWV := Lib.hid hWV; have HWB := Lib.hid hWB
          have LS2 := Lib.hid (LS12.out.then_ hb2); have HBL2 := Lib.hid (HBL12.out.then_ hb2); have HB2 := Lib.hid hb2
          have hkI0 : (0 : Int) ≤ (k : Int) := by omega
          have hkI2 : (k : Int) < 2 := by omega
          have hb9' : pb2 < wr2.heap.size := hb9
          obtain ⟨i0, hi, hz0, hz1, hz2⟩ := info_parts int_info
          clear hWV hWB hb2
          go_upto_region 28 with fail
          have LS13 := Lib.hid (LS2.out.then_ (below_new (Below.refl _ _) (.cells #[.int .i64 f0] 3))); have HBL13 := Lib.hid (HBL2.out.then_ (below_new (Below.refl _ _) (.cells #[.int .i64 f0] 3)))
          have HB13 := Lib.hid (below_new (Below.refl wr2.heap.size wr2) (.cells #[.int .i64 f0] 3))
          have a23 := At.new wr2 (.cells #[.int .i64 f0] 3)
          have hz13 : (wr2.alloc (.cells #[.int .i64 f0] 3)).heap.size = wr2.heap.size + 1 := by simp
          generalize World.alloc wr2 _ = W13 at LS13 HBL13 HB13 a23 hz13 ⊢
          obtain ⟨Q, hQ⟩ : ∃ Q, Q = wr2.heap.size := ⟨_, rfl⟩
          rw [← hQ] at a23 HB13 hz13 ⊢
          have HQ := Lib.hid hQ
          have A23 := Lib.hid a23
          clear hQ a23 hc9
          go_wp2_with fail
          refine (books_of2 W13 B av l.length cv l s9 (by omega) LS13.out.lt (LS13.out.box.cell 0) HBL13.out).mono ?_
          rintro e w14 ⟨a3, c3, rfl, hl3, hb14, hnew3⟩
          rw [HRN.out] at hl3 ⊢
          have hz14 := hb14.size
          have HB14 := Lib.hid (HB13.out.trans (hb14.mono (by omega)))
          have ownT : w14.ownsRow Q 3 1 (.slice (some ⟨Q, 0, none⟩) 1 1) 1 [.int .i64 f0] := ⟨rfl, .inr ⟨Q, 1, #[.int .i64 f0], rfl, Nat.le_refl _, A23.out.then_ hb14, Nat.le_refl _, by unfold maxLen; omega, rfl, rfl⟩⟩
          have OWNT := Lib.hid ownT; have HL3 := Lib.hid hl3; have HNEW3 := Lib.hid hnew3
          have hQ14 : Q < w14.heap.size := by omega
          clear hb14 ownT hl3 hnew3 LS13 HBL13 HB13 A23
          go_wp2_with fail
          go_loopw [23, 25, 115] (fun vt _ vj wr3 => ∃ j : Nat, j ≤ L.length ∧ vj = .int .i64 j ∧ wr3.ownsRow Q 3 1 vt (j + 1) ((timesF f0 (L.take j)).map (Value.int .i64)) ∧ (∀ g, vt.ownBlock = some g → g = Q ∨ w14.heap.size ≤ g) ∧ Below Q wr2 wr3 ∧ w14.heap.size ≤ wr3.heap.size ∧ ∀ q, Q < q → q < w14.heap.size → wr3.heap[q]? = w14.heap[q]?) (fun _ _ vj _ => L.length - (intOf vj).toNat)
          case atStart => exact ⟨0, by omega, rfl, OWNT.out, (by intro g e; left; simpa [Value.ownBlock] using e.symm), HB14.out, Nat.le_refl _, fun _ _ _ => rfl⟩
          case round =>
            obtain ⟨j, hj, rfl, hown, hob, hb3, hz3, hkp⟩ := hrel
            obtain ⟨wr3, rfl⟩ : ∃ wr3, wr3 = wr := ⟨_, rfl⟩
            obtain ⟨g, cap, rfl, hQg, hjc, hcc9, hrow⟩ : ∃ g cap, _ ∧ Q ≤ g ∧ j + 1 ≤ cap ∧ cap ≤ 9223372036854775807 ∧ RowI wr3 g (j + 1) (timesF f0 (L.take j)) := by
              rcases row_own hown (by rw [timesF_len, List.length_take]; omega) with ⟨_, h0⟩ | h
              · omega
              · exact h
            have hgob : g = Q ∨ w14.heap.size ≤ g := hob g rfl
            by_cases hjl : j < L.length
            · have HL4 := Lib.hid (Bkgs_block HL3.out (fun b o s e hn => hkp b (by have := HNEW3.out b o s e; omega) (by obtain ⟨b', o', e', hlt', _⟩ := HL3.out.open_ hn; rw [e] at e'; injection e' with e'; injection e' with e1; omega)) hz3)
              obtain ⟨b1, o1, hae, hbB1, hcs⟩ := HL4.out.open_ (by omega)
              subst hae
              obtain ⟨r', f', t', x', c0, c1, c2, c3', hx', _⟩ := hcs j hjl
              have HT := Lib.hid (show timesF f0 (L.take (j + 1)) = timesF f0 (L.take j) ++ [t'] by
                have e : L.take (j + 1) = L.take j ++ [(r', f', t', x')] := by rw [List.take_add_one, hx']; rfl
                rw [e]; simp [timesF])
              have OWN3 := Lib.hid hown; have HB3 := Lib.hid hb3; have HKP := Lib.hid hkp; have HOB := Lib.hid hob
              have hbz3 := hb3.size
              have hQ2 : Q ≤ wr3.heap.size := by omega
              clear hcs hx' hown hb3 hkp hrow hob
              go_upto_region 31 with fail
              have HB4 := Lib.hid (HB3.out.alloc (by omega) (.cells #[.string r', .int .i64 f', .int .i64 t', .string x'] 39))
              have a25 := At.new wr3 (.cells #[.string r', .int .i64 f', .int .i64 t', .string x'] 39)
              have OWN4 := Lib.hid (OWN3.out.alloc (.cells #[.string r', .int .i64 f', .int .i64 t', .string x'] 39))
              have hk4 : ∀ q, q < wr3.heap.size → (wr3.alloc (.cells #[.string r', .int .i64 f', .int .i64 t', .string x'] 39)).heap[q]? = wr3.heap[q]? := fun q hq => (below_new (Below.refl wr3.heap.size wr3) _).block q hq
              have hz4 : (wr3.alloc (.cells #[.string r', .int .i64 f', .int .i64 t', .string x'] 39)).heap.size = wr3.heap.size + 1 := by simp
              have HK4 := Lib.hid hk4
              clear c0 c1 c2 c3' hk4
              generalize wr3.heap.size = Z3 at a25 hz4 HK4 hQ2 hbB1 hz3 hbz3 ⊢
              generalize World.alloc wr3 _ = W15 at HB4 a25 OWN4 HK4 hz4 ⊢
              have c2 : W15.cell? ⟨Z3, 2, none⟩ = some (.int .i64 t') := a25.cell 2
              have hz15 : Q ≤ W15.heap.size := by omega
              have HZ4 := Lib.hid hz4
              clear a25 hz4
              go_wp2_with (at_builtin; refine wpList_append_lies _ rfl _ _ 55 rfl (Q) 3 i0 (.int .i64 0) 1 8 Try.underlying55 hi hz0 hz1 hz2 rfl (by decide) _ _ _ rfl (OWN4.out.alloc _) ⟨W15.heap.size, 0, none⟩ 1 1 [.int .i64 t'] rfl rfl (World.news_of_block (cs := #[.int .i64 t']) (t := 3) (fr := (0, 0)) (heap_alloc_new W15 _)) (by simp [Value.oneCell']) (by decide) (by unfold maxLen; omega) (by omega) (by first | omega | (simp; omega)) _ rfl ?_; intro g4 cap4 w4 hown' hgrow hlies hglt)
              have hgr : World.grownBy (W15.alloc (.cells #[.int .i64 t'] 3)) w4 (Value.ownBlock (.slice (some ⟨g, 0, none⟩) (j + 1) cap)) := hgrow
              have hli : Value.ownBlock (.slice (some ⟨g, 0, none⟩) (j + 1) cap) = some g4 ∨ g4 = (W15.alloc (.cells #[.int .i64 t'] 3)).heap.size := hlies
              clear hgrow hlies
              have hk16 : ∀ q, q < W15.heap.size → q ≠ g → w4.heap[q]? = W15.heap[q]? := fun q hq hqg => (hgr.block q (by simp; omega) (by simp [Value.ownBlock]; exact hqg)).trans ((below_new (Below.refl W15.heap.size W15) _).block q hq)
              have hz16 : W15.heap.size + 1 ≤ w4.heap.size := by have := hgr.size; simp at this; omega
              have HB16 := Lib.hid ((HB4.out.alloc (by omega) (.cells #[.int .i64 t'] 3)).grown hgr (by simp; omega) (by intro b hb; simp [Value.ownBlock] at hb; omega))
              have OWN16 := Lib.hid hown'; have HLIES := Lib.hid hli; have HK16 := Lib.hid hk16
              clear hown' hgr hli hk16
              go_wp2_with fail
              go_roundw
              case rel =>
                refine ⟨j + 1, by omega, by go_num, ?_, ?_, HB16.out, by have := HZ4.out; omega, fun q h1 h2 => ?_⟩
                · rw [HT.out, List.map_append]; exact OWN16.out
                · intro gg e
                  have e' : g4 = gg := by simpa [Value.ownBlock] using e
                  subst e'
                  rcases HLIES.out with h | h
                  · have : g = g4 := by simpa [Value.ownBlock] using h
                    omega
                  · right; rw [h]; simp; have := HZ4.out; omega
                · have := HZ4.out
                  rw [HK16.out q (by omega) (by omega), HK4.out q (by omega)]
                  exact HKP.out q h1 h2
              case measure => first | (simp [intOf]; done) | (simp [intOf]; omega)
            · obtain rfl : j = L.length := by omega
              rw [List.take_length] at hown hrow
              have HRW := Lib.hid hrow; have HB3 := Lib.hid hb3
              have hQ2 := HQ.out
              clear hown hob hkp hrow hb3 HL3 HNEW3 OWNT HB14 hj hjl
              go_wp2_with fail
              refine (sort_ints wr3 g cap (L.length + 1) (timesF f0 L) HRW.out (by omega)).mono ?_
              rintro e w16 ⟨rfl, hr16, hk16⟩
              have HI16 := Lib.hid (hr16.ints (fun x hx => by have := FAR.out x hx; constructor <;> omega) (by omega))
              have HB16 := Lib.hid (hk16.below HB3.out hQg (by have := HB3.out.size; omega))
              have hTl : (sortI (timesF f0 L)).length = L.length + 1 := by rw [sortI_len, timesF_len]
              have HFR := Lib.hid HTF.out
              generalize hTS : sortI (timesF f0 L) = TS at HTF HFR HI16 FAR hTl
              clear hTS hr16 hk16 HRW HB3 HTF
              have HB16b : Below wr2.heap.size wr2 w16 := by have h := HB16.out; rw [HQ.out] at h; exact h
              have LS16 := Lib.hid (LS2.out.then_ HB16b); have HBL16 := Lib.hid (HBL2.out.then_ HB16b); have HB17 := Lib.hid (below_then HB2.out HB16b)
              have HTL := Lib.hid hTl
              clear HB16b HB16 LS2 HBL2 HB2 hTl hQ2 HQ
              go_wp2_with fail
              go_loopw [19, 20, 27, 129] (fun vw vbb _ vj wr4 => ∃ j : Nat, j ≤ L.length + 1 ∧ vj = .int .i64 j ∧ vw = .string WV ∧ vbb = .int .i64 WB ∧ (TS.drop j).find? (askF L len f0 t0) = TS.find? (askF L len f0 t0) ∧ Below w16.heap.size w16 wr4) (fun _ _ _ vj _ => L.length + 1 - (intOf vj).toNat)
              case atStart => exact ⟨0, by omega, rfl, rfl, rfl, rfl, Below.refl _ _⟩
              case round =>
                obtain ⟨j, hj, rfl, rfl, rfl, hfi, hb4⟩ := hrel
                obtain ⟨wr4, rfl⟩ : ∃ wr4, wr4 = wr := ⟨_, rfl⟩
                have HFI := Lib.hid hfi; have HB4 := Lib.hid hb4
                clear hfi
                by_cases hjl : j < L.length + 1
                · obtain ⟨e1, o1, x, hae, hbe, hce, hxe, _, _⟩ := (HI16.out.below hb4 (Nat.le_refl _)).at_ hjl
                  obtain ⟨rfl, rfl⟩ : g = e1 ∧ 0 = o1 := by injection hae with ee; injection ee with ea eb; exact ⟨ea, eb⟩
                  rw [Nat.zero_add] at hce
                  have hxb := FAR.out x (List.mem_of_getElem? hxe)
                  have hw1 : IntKind.i64.wrap (x + len) = x + len := IntWalk.i64_in _ (by omega)
                  have HDR := Lib.hid (drop_row hxe)
                  have HASK := Lib.hid (show askF L len f0 t0 x = (decide (f0 ≤ x) && (decide (x + len ≤ t0) && !l.any (lapR s9 x (x + len)))) by rw [← HRN.out]; exact ask_law l s9 len f0 t0 x)
                  have HNO := Lib.hid (show askF L len f0 t0 x = false → (TS.drop (j + 1)).find? (askF L len f0 t0) = TS.find? (askF L len f0 t0) from fun h => by
                    have h2 := HFI.out
                    rw [HDR.out, List.find?_cons_of_neg (by rw [h]; simp)] at h2
                    exact h2)
                  have LS4 := Lib.hid (LS16.out.then_ hb4); have HBL4 := Lib.hid (HBL16.out.then_ hb4)
                  clear hae hxe hb4
                  by_cases c1 : f0 ≤ x
                  case neg =>
                    have HGO := Lib.hid (HNO.out (by rw [HASK.out, decide_eq_false c1]; rfl))
                    have c1' : x < f0 := by omega
                    clear c1
                    go_wp2_with fail
                    go_roundw
                    case rel => exact ⟨j + 1, by omega, by go_num, rfl, rfl, HGO.out, HB4.out⟩
                    case measure => first | (simp [intOf]; done) | (simp [intOf]; omega)
                  by_cases c2 : x + len ≤ t0
                  case neg =>
                    have HGO := Lib.hid (HNO.out (by rw [HASK.out, decide_eq_false c2, decide_eq_true c1]; rfl))
                    go_wp2_with fail
                    go_roundw
                    case rel => exact ⟨j + 1, by omega, by go_num, rfl, rfl, HGO.out, HB4.out⟩
                    case measure => first | (simp [intOf]; done) | (simp [intOf]; omega)
                  cases hA : l.any (lapR s9 x (x + len)) with
                  | true =>
                    have HGO := Lib.hid (HNO.out (by rw [HASK.out, hA, decide_eq_true c1, decide_eq_true c2]; rfl))
                    go_wp2_with (go_at_call 18; refine (books_overlaps wr4 B av l.length cv l s9 x (x + len) LS4.out.lt (LS4.out.box.cell 0) HBL4.out).mono ?_; rw [hA]; rintro e w18 ⟨rfl, hb18⟩; have HB18 := Lib.hid (below_then HB4.out hb18))
                    go_roundw
                    case rel => exact ⟨j + 1, by omega, by go_num, rfl, rfl, HGO.out, HB18.out⟩
                    case measure => first | (simp [intOf]; done) | (simp [intOf]; omega)
                  | false =>
                    have hfind : TS.find? (askF L len f0 t0) = some x := by
                      rw [← HFI.out, HDR.out, List.find?_cons_of_pos (by rw [HASK.out, hA, decide_eq_true c1, decide_eq_true c2]; rfl)]
                    have hax : fwdF len f0 L = x ∧ fwdF len f0 L + len ≤ t0 := by
                      have h := HFR.out
                      rw [hfind] at h
                      by_cases hc : fwdF len f0 L + len ≤ t0
                      · rw [if_pos hc] at h; exact ⟨by injection h with h; exact h.symm, hc⟩
                      · rw [if_neg hc] at h; cases h
                    have HN2 := Lib.hid (show wantK t0 len f0 xs1 xs2 (k + 1) = if WV = none0 ∨ x < WB then (s9, x) else (WV, WB) by
                      have h := HN.out
                      rw [hax.1] at h
                      rw [h]
                      by_cases hc : WV = none0 ∨ x < WB
                      · rw [if_pos hc, if_pos ⟨by rw [← hax.1]; exact hax.2, hc⟩]
                      · rw [if_neg hc, if_neg (fun hh => hc hh.2), HWV.out, HWB.out])
                    clear hfind hax HFI HNO HDR
                    by_cases d1 : WV = none0
                    · have HN3 := Lib.hid (HN2.out.trans (if_pos (.inl d1)))
                      have e1 : (WV.toList == []) = true := by rw [d1]; decide +kernel
                      clear d1 HN2
                      go_wp2_with (go_at_call 18; refine (books_overlaps wr4 B av l.length cv l s9 x (x + len) LS4.out.lt (LS4.out.box.cell 0) HBL4.out).mono ?_; rw [hA]; rintro e w18 ⟨rfl, hb18⟩; have HB18 := Lib.hid (below_then HB4.out hb18))
                      go_roundw
                      case rel => exact ⟨k + 1, by omega, by go_num, by rw [HN3.out], by rw [HN3.out], below_then HB17.out HB18.out⟩
                      case measure => first | (simp [intOf]; done) | (simp [intOf]; omega)
                    · have e1 : (WV.toList == []) = false := by rw [beq_eq_false_iff_ne]; exact fun e => d1 (toList_backR (e.trans (by decide +kernel)))
                      by_cases d2 : x < WB
                      · have HN3 := Lib.hid (HN2.out.trans (if_pos (.inr d2)))
                        clear d1 HN2
                        go_wp2_with (go_at_call 18; refine (books_overlaps wr4 B av l.length cv l s9 x (x + len) LS4.out.lt (LS4.out.box.cell 0) HBL4.out).mono ?_; rw [hA]; rintro e w18 ⟨rfl, hb18⟩; have HB18 := Lib.hid (below_then HB4.out hb18))
                        go_roundw
                        case rel => exact ⟨k + 1, by omega, by go_num, by rw [HN3.out], by rw [HN3.out], below_then HB17.out HB18.out⟩
                        case measure => first | (simp [intOf]; done) | (simp [intOf]; omega)
                      · have HN3 := Lib.hid (HN2.out.trans (if_neg (fun hh => hh.elim d1 d2)))
                        clear d1 HN2
                        go_wp2_with (go_at_call 18; refine (books_overlaps wr4 B av l.length cv l s9 x (x + len) LS4.out.lt (LS4.out.box.cell 0) HBL4.out).mono ?_; rw [hA]; rintro e w18 ⟨rfl, hb18⟩; have HB18 := Lib.hid (below_then HB4.out hb18))
                        go_roundw
                        case rel => exact ⟨k + 1, by omega, by go_num, by rw [HN3.out], by rw [HN3.out], below_then HB17.out HB18.out⟩
                        case measure => first | (simp [intOf]; done) | (simp [intOf]; omega)
                · have hnone : TS.find? (askF L len f0 t0) = none := by rw [← HFI.out, List.drop_eq_nil_of_le (by have := HTL.out; omega)]; rfl
                  have HN2 := Lib.hid (show wantK t0 len f0 xs1 xs2 (k + 1) = (WV, WB) by
                    rw [HN.out, if_neg (fun hh => by have h := HFR.out; rw [hnone, if_pos hh.1] at h; cases h), HWV.out, HWB.out])
                  clear hnone HFI
                  go_wp2_with fail
                  go_roundw
                  case rel => exact ⟨k + 1, by omega, by go_num, by rw [HN2.out], by rw [HN2.out], below_then HB17.out HB4.out⟩
                  case measure => first | (simp [intOf]; done) | (simp [intOf]; omega)
        · as_aux_lemma =>
          obtain rfl : k = 2 := by omega
          obtain ⟨WV, hWV⟩ : ∃ x, x = (wantK t0 len f0 xs1 xs2 2).1 := ⟨_, rfl⟩
          obtain ⟨WB, hWB⟩ : ∃ x, x = (wantK t0 len f0 xs1 xs2 2).2 := ⟨_, rfl⟩
          rw [← hWV, ← hWB] at HWP ⊢
          have HBE := Lib.hid (below_then BW12.out hb2)
          clear hWV hWB hb2
          by_cases d1 : WV = none0
          · have h := HWP.out
            rw [if_pos d1] at h
            obtain ⟨rfl, rfl, rfl⟩ : R1 = none0 ∧ R2 = 0 ∧ R3 = 6 := by injection h with h1 h2; injection h2 with h2 h3; exact ⟨h1, h2, h3⟩
            have e1 : (WV.toList == []) = true := by rw [d1]; decide +kernel
            have e2 : (none0.toList == []) = true := by decide +kernel
            clear d1 h HWP
            go_wp2_with fail
            go_ret
            exact ⟨rfl, HBE.out⟩
          · have h := HWP.out
            rw [if_neg d1] at h
            obtain ⟨rfl, rfl, rfl⟩ : R1 = WV ∧ R2 = WB ∧ R3 = 0 := by injection h with h1 h2; injection h2 with h2 h3; exact ⟨h1, h2, h3⟩
            have e1 : (R1.toList == []) = false := by rw [beq_eq_false_iff_ne]; exact fun e => d1 (toList_backR (e.trans (by decide +kernel)))
            clear d1 h HWP
            go_wp2_with fail
            go_ret
            exact ⟨by simp, HBE.out⟩
end Go.Proofs.Ytddiicljoekhmaa.roomsFindsLaw
