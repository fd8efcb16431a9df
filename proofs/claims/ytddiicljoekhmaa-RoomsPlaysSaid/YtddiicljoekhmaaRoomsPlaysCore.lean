/- RoomsPlays: the Go text returns true at every input, and writes nothing that was there. -/
import Derived.Test.YtddiicljoekhmaaRows
import Derived.Test.YtddiicljoekhmaaRmF
import Derived.Test.YtddiicljoekhmaaPage4
import Derived.ChangeMaps5
namespace Go.Proofs.Ytddiicljoekhmaa.roomsPlaysLaw
set_option linter.unusedVariables false
set_option linter.unusedSimpArgs false
set_option maxRecDepth 100000
open Go.RowKit Go.ChangeShapes Go.WideShapes

theorem txts_of {w : World} {B : Nat} {a : Option Addr} {n : Nat} {ss : List ByteArray} (h : Strs w B a n ss) : Txts w B a n ss := by
  refine ⟨h.1, h.2.1, fun hn => ?_⟩
  obtain ⟨b, off, e, hb, hc⟩ := h.2.2.2 hn
  refine ⟨b, off, e, hb, fun i x hx j v hv => ?_⟩
  have hi : i < n := by
    have := (List.getElem?_eq_some_iff.1 hx).1
    rw [← h.1]; exact this
  match j, hv with
  | 0, hv =>
    simp [encT] at hv; subst hv
    have := hc i hi
    rw [List.getD_eq_getElem?_getD, hx] at this
    simpa using this
  | j + 1, hv => simp [encT] at hv
set_option maxHeartbeats 16000000 in
theorem core (w : World) (a : Option Addr) (n c : Nat) (ns : List ByteArray) (hs : Strs w w.heap.size a n ns) (hnc : n ≤ c) (hcc : c ≤ 9223372036854775807) (b : Option Addr) (m d : Nat) (ls : List Stp) (hl : Stps w w.heap.size b m ls) (hmd : m ≤ d) (hdd : d ≤ 9223372036854775807) :
    Calls Try.prog 3 #[.slice a n c, .slice b m d] w fun e w' => e = .returned (.bool true) ∧ Below w.heap.size w w' := by
  have HSZ := Lib.hid hs.2.2.1
  have HT := Lib.hid (txts_of hs)
  have L1 := Lib.hid hs.1; have m1 := hs.2.1
  have HL := Lib.hid hl; have L2 := Lib.hid hl.len; have m2 := hl.max
  clear hs hl
  go_enter Try.func3, Try.ntmps3
  go_wp2_with fail
  refine (law_roomsFact _).mono ?_
  rintro e w1 ⟨rfl, hb1⟩
  have B1 := Lib.hid hb1
  have HT1 := Lib.hid ((HT.out.below hb1 (Nat.le_refl _)).more hb1.size)
  clear hb1
  go_wp2_with fail
  refine (rooms_New w1 a n c ns HT1.out HSZ.out hnc hcc).mono ?_
  rintro e w2 ⟨v, rfl, hb2, _⟩
  have B2 := Lib.hid (below_then B1.out hb2)
  have HT2 := Lib.hid ((HT1.out.below hb2 (Nat.le_refl _)).more hb2.size)
  clear hb2 HT1 B1
  have HNE := Lib.hid (show newE ns = if ns.length < 1 ∨ 20 < ns.length then 2 else newK [] ns from rfl)
  rw [L1.out] at HNE
  generalize newE ns = E at *
  go_upto_if 36 with (go_at_call 7; refine (ref_In _ _ _ _).mono ?_; rintro e w3 ⟨rfl, rfl⟩)
  go_cut [7] from 35 (fun y wx => ∃ W0 : Int, y = .int .i64 W0 ∧ ((W0 = 0 ∧ newK [] ns = E) ∨ (W0 ≠ 0 ∧ W0 = E)) ∧ w2 = wx)
  case first =>
    cases hI : inB 1 20 (n : Int) with
    | true =>
      have hI' : (1 : Int) ≤ n ∧ (n : Int) ≤ 20 := by simpa [inB] using hI
      go_wp2_with fail
      go_meet
      case rel => exact ⟨0, rfl, .inl ⟨rfl, (HNE.out.trans (if_neg (by omega))).symm⟩, rfl⟩
    | false =>
      have hI' : ¬ ((1 : Int) ≤ n ∧ (n : Int) ≤ 20) := by simpa [inB] using hI
      go_wp2_with fail
      go_meet
      case rel => exact ⟨2, rfl, .inr ⟨by decide, (HNE.out.trans (if_pos (by omega))).symm⟩, rfl⟩
  case rest =>
    obtain ⟨W0, rfl, hW0, rfl⟩ := hcut
    have HW0 := Lib.hid hW0
    clear hW0 HNE
    go_wp2_with fail
    go_loop [7, 8, 9, 39] (fun want _ _ vi => ∃ (k : Nat) (W : Int), k ≤ n ∧ vi = .int .i64 k ∧ want = .int .i64 W ∧ ((W = 0 ∧ newK (ns.take k) (ns.drop k) = E) ∨ (W ≠ 0 ∧ W = E))) (fun _ _ _ vi => n - (intOf vi).toNat)
    case atStart => exact ⟨0, W0, by omega, rfl, rfl, HW0.out⟩
    case round =>
      obtain ⟨k, W, hk, rfl, rfl, hall⟩ := hrel
      have HA := Lib.hid hall; clear hall
      by_cases hlt : k < n
      · obtain ⟨b2, o2, s, rfl, hb2, hc2, hx⟩ := txts_at HT2.out hlt
        have HX := Lib.hid (HSZ.out s (List.mem_of_getElem? hx))
        have HTK := Lib.hid (HT2.out.take (show k ≤ n by omega))
        have HN := Lib.hid (show newK (ns.take k) (ns.drop k) = if isName s = false then 5 else if hasS s (ns.take k) = true then 7 else newK (ns.take (k + 1)) (ns.drop (k + 1)) by
          rw [drop_row hx, newK_cons]
          have hT : ns.take (k + 1) = ns.take k ++ [s] := by
            obtain ⟨hl, rfl⟩ := List.getElem?_eq_some_iff.1 hx
            exact List.take_succ_eq_append_getElem hl
          rw [hT])
        clear hx
        rcases HA.out with ⟨rfl, hA⟩ | ⟨hW, hA⟩
        · have HA2 := Lib.hid (HN.out.symm.trans hA)
          clear HA HN hA
          cases hn : isName s with
          | false =>
            have HF := Lib.hid (show (5 : Int) = E by have := HA2.out; rwa [if_pos hn] at this)
            go_wp2_with (first | (go_at_call 8; refine (ref_Name _ _ HX.out).mono ?_; rw [hn]; rintro e w4 ⟨rfl, rfl⟩))
            go_round
            case rel => exact ⟨k + 1, 5, by omega, by go_num, rfl, .inr ⟨by decide, HF.out⟩⟩
            case measure => first | (simp [intOf]; done) | (simp [intOf]; omega)
          | true =>
            have HA3 := Lib.hid (show (if hasS s (ns.take k) = true then 7 else newK (ns.take (k + 1)) (ns.drop (k + 1))) = E by have := HA2.out; rwa [if_neg (by rw [hn]; simp)] at this)
            cases hh : hasS s (ns.take k) with
            | true =>
              have HF := Lib.hid (show (7 : Int) = E by have := HA3.out; rwa [if_pos hh] at this)
              go_wp2_with (first | (go_at_call 8; refine (ref_Name _ _ HX.out).mono ?_; rw [hn]; rintro e w4 ⟨rfl, rfl⟩) | (go_at_call 9; refine (str_Contains _ _ _ _ _ s _ HTK.out (Nat.le_refl _)).mono ?_; rw [hh]; rintro e w4 ⟨rfl, rfl⟩))
              go_round
              case rel => exact ⟨k + 1, 7, by omega, by go_num, rfl, .inr ⟨by decide, HF.out⟩⟩
              case measure => first | (simp [intOf]; done) | (simp [intOf]; omega)
            | false =>
              have HF := Lib.hid (show newK (ns.take (k + 1)) (ns.drop (k + 1)) = E by have := HA3.out; rwa [if_neg (by rw [hh]; simp)] at this)
              go_wp2_with (first | (go_at_call 8; refine (ref_Name _ _ HX.out).mono ?_; rw [hn]; rintro e w4 ⟨rfl, rfl⟩) | (go_at_call 9; refine (str_Contains _ _ _ _ _ s _ HTK.out (Nat.le_refl _)).mono ?_; rw [hh]; rintro e w4 ⟨rfl, rfl⟩))
              go_round
              case rel => exact ⟨k + 1, 0, by omega, by go_num, rfl, .inl ⟨rfl, HF.out⟩⟩
              case measure => first | (simp [intOf]; done) | (simp [intOf]; omega)
        · have hW0 : (W == 0) = false := by simpa using hW
          have HAA := Lib.hid hA; clear hA
          clear HA
          go_wp2_with fail
          go_round
          case rel => exact ⟨k + 1, W, by omega, by go_num, rfl, .inr ⟨hW, HAA.out⟩⟩
          case measure => first | (simp [intOf]; done) | (simp [intOf]; omega)
      · have HE := Lib.hid (show W = E by
          rcases HA.out with ⟨h1, h2⟩ | ⟨_, h2⟩
          · rw [List.drop_eq_nil_of_le (by have := L1.out; omega)] at h2
            rw [h1, ← h2]; rfl
          · exact h2)
        clear HA HW0
        obtain rfl := HE.out
        clear HE
        go_wp2_with fail
        refine (law_pair _).mono ?_
        rintro e w4 ⟨pb, rfl, htx, hb4⟩
        go_wp2_with fail
        refine (new_pair w4 pb htx).mono ?_
        rintro e w5 ⟨P, gn, gb, cn, rfl, hb5, p1, p2, p3, st⟩
        have ST := Lib.hid st; clear st
        have hs2 := B2.out.size; have hs4 := hb4.size; have hs5 := hb5.size
        have HLS := Lib.hid (LawSt.new (w := w) ST.out)
        have hB6 := below_new (below_then (below_then B2.out hb4) hb5) (.cells #[.slice none 0 0] 35)
        have q1 : w.heap.size ≤ gb := by omega
        have q2 : w.heap.size ≤ w5.heap.size := by omega
        have B6 := Lib.hid hB6
        clear htx hb4 hb5 p1 p2 p3 ST B2 hs2 hs4 hs5 hB6
        go_wp2_with fail
        have hMn : min (m : Int) 40 = ((min m 40 : Nat) : Int) := by omega
        have hMx : max ((min m 40 : Nat) : Int) 0 = ((min m 40 : Nat) : Int) := by omega
        rw [hMn, hMx, Int.toNat_natCast]
        have hM1 : min m 40 ≤ m := by omega
        have hM2 : min m 40 ≤ 40 := by omega
        clear hMn hMx
        generalize min m 40 = M at hM1 hM2 ⊢
        have HLM := Lib.hid (HL.out.take hM1)
        obtain ⟨B, hBq⟩ : ∃ B, B = w5.heap.size := ⟨_, rfl⟩
        rw [← hBq] at HLS q2 ⊢
        clear hBq
        generalize World.alloc w5 _ = W6 at HLS B6 ⊢
        obtain ⟨i0, hi, hz0, hz1, hz2⟩ := info_parts bkg_info
        clear HSZ HT L1 L2 HL HT2 hlt hk
        go_loopw [14, 15, 16, 17, 18, 19, 20, 21, 22, 23, 24, 25, 75] (fun _ _ _ _ _ _ _ _ _ _ _ _ vi wr => ∃ (k : Nat) (v1 v2 vb : Value) (l xs1 xs2 : List Bkg), k ≤ M ∧ vi = .int .i64 k ∧ LawSt wr P gn gb cn (B + 1) v1 v2 vb B l xs1 xs2 ∧ PlainOk l xs1 xs2 ∧ l.length ≤ k ∧ Below w.heap.size w wr) (fun _ _ _ _ _ _ _ _ _ _ _ _ vi _ => M - (intOf vi).toNat)
        case atStart => exact ⟨0, _, _, _, [], [], [], by omega, rfl, HLS.out, plain_nil, by simp, B6.out⟩
        case round =>
          obtain ⟨k9, v1, v2, vb, l, xs1, xs2, hk9, rfl, hls, hpl, hll, hb⟩ := hrel
          by_cases hlt9 : k9 < M
          · obtain ⟨bb, bo, rfl, hbB, hcs⟩ := (HLM.out.below hb (Nat.le_refl _)).open_ (by omega)
            obtain ⟨dq, r, f, t, x, k0, k1, k2, k3, k4, hx, hd1, hd2, hrs, hf1, hf2, ht1, ht2, hxs⟩ := hcs k9 hlt9
            have hok : okBkg (r, f, t, x) := ⟨hrs, ⟨hf1, hf2⟩, ⟨ht1, ht2⟩, hxs⟩
            have HPL := Lib.hid hpl; have LS0 := Lib.hid hls; have BW := Lib.hid hb; have HOK := Lib.hid hok
            have hx1 : xs1.length ≤ 40 := by have := hpl.len1; omega
            have hx2 : xs2.length ≤ 40 := by have := hpl.len2; omega
            have hs9 := hb.size
            obtain ⟨g1, g2, g3⟩ := hls.ltg
            obtain ⟨j1, j2, j3⟩ := hls.lt1
            clear hcs hx hpl hls hb hok
            go_upto_region 23 with fail
            have hb8 : Below wr.heap.size wr ((wr.alloc (.cells #[.int .i64 dq, .string r, .int .i64 f, .int .i64 t, .string x] 37)).alloc (.cells #[.string r, .int .i64 f, .int .i64 t, .string x] 39)) := below_new (below_new (Below.refl _ _) _) _
            have a14 := (At.new wr (.cells #[.int .i64 dq, .string r, .int .i64 f, .int .i64 t, .string x] 37)).alloc (.cells #[.string r, .int .i64 f, .int .i64 t, .string x] 39)
            have a15 := At.new1 wr (.cells #[.int .i64 dq, .string r, .int .i64 f, .int .i64 t, .string x] 37) (.cells #[.string r, .int .i64 f, .int .i64 t, .string x] 39)
            have LS8 := Lib.hid (LS0.out.then_ hb8); have BW8 := Lib.hid (below_then BW.out hb8)
            clear hb8 k0 k1 k2 k3 k4 LS0 BW
            generalize World.alloc (World.alloc wr _) _ = W8 at a14 a15 LS8 BW8 ⊢
            generalize wr.heap.size = Z at a14 a15 g1 g2 g3 j1 j2 j3 hs9 ⊢
            have J1 := Lib.hid j1; have J2 := Lib.hid j2; have J3 := Lib.hid j3; clear j1 j2 j3
            have KK := Lib.hid (fun (W : World) (hW : Below W8.heap.size W8 W) => show W.cell? ⟨Z, 1, none⟩ = some (.string r) from (a14.then_ hW).cell 1)
            have AQ14 := Lib.hid a14; have AQ15 := Lib.hid a15; clear a14 a15
            obtain ⟨KB, hKB⟩ : ∃ KB, KB = decide (0 ≤ roomNo r) := ⟨_, rfl⟩
            have HH := Lib.hid ((has_pair r).trans hKB.symm)
            have HKB := Lib.hid hKB; clear hKB
            refine wp_region_held_drew (S := (fun w' => w'.cell? ⟨Z, 1, none⟩ = some (.string r))) (by kernel_rfl) ?_ (fun hHeld => ?_)
            · (try dsimp only); exact KK.out _ (by first | (repeat' (first | exact Below.refl _ _ | assumption | refine Below.drew ?_ | refine below_drewN ?_ _ | refine below_new ?_ _ | refine below_set ?_ ?_ _ | refine below_then ?_ (by assumption) | refine below_drawn ?_ (by assumption) | exact Nat.le_refl _ | omega | (simp; done) | (simp; omega))) | assumption)
            refine lex_take (i := 1) (v := ?_) rfl (by kernel_rfl) (by kernel_rfl) (by kernel_rfl) (fun _ _ _ h => h) (by rfl) ?_ (by assumption) ?_
            rotate_left
            · (intro w hSw; (try dsimp only at hSw); have z0 := hSw; go_simp; try with_reducible rfl)
            try simp only [Act.put, List.setIfInBounds_toArray, List.set_cons_zero, List.set_cons_succ]
            refine lex_take (i := 2) (v := ?_) rfl (by kernel_rfl) (by kernel_rfl) (by kernel_rfl) (fun _ _ _ h => h) (by rfl) ?_ (by assumption) ?_
            rotate_left
            · (intro w hSw; (try dsimp only at hSw); have z0 := hSw; go_simp; try with_reducible rfl)
            try simp only [Act.put, List.setIfInBounds_toArray, List.set_cons_zero, List.set_cons_succ]
            refine lex_step (i := 0) rfl (by kernel_rfl) (by rfl) (fun Kx hKx => ?_)
            (go_simp; go_at_call 10; refine (law_pair W8.drew).mono ?_; rintro e W9 ⟨pb, rfl, htx, hb2⟩; have hb2' : Below W8.heap.size W8 W9 := (Below.refl _ _).drew.trans hb2; try go_wp2_with fail)
            refine hKx.out _ _ ?_ (fun hHeld => ?_)
            · (try dsimp only); exact KK.out _ (by first | (repeat' (first | exact Below.refl _ _ | assumption | refine Below.drew ?_ | refine below_drewN ?_ _ | refine below_new ?_ _ | refine below_set ?_ ?_ _ | refine below_then ?_ (by assumption) | refine below_drawn ?_ (by assumption) | exact Nat.le_refl _ | omega | (simp; done) | (simp; omega))) | assumption)
            clear hKx Kx
            try simp only [Act.put, List.setIfInBounds_toArray, List.set_cons_zero, List.set_cons_succ]
            refine lex_step (i := 3) rfl (by kernel_rfl) (by rfl) (fun Kx hKx => ?_)
            (go_simp; go_at_call 9; refine (str_Contains _ _ _ _ _ r _ htx (Nat.le_refl _)).mono ?_; rw [HH.out]; rintro e w3 ⟨rfl, rfl⟩; try go_wp2_with fail)
            refine hKx.out _ _ ?_ (fun hHeld => ?_)
            · (try dsimp only); exact KK.out _ (by first | (repeat' (first | exact Below.refl _ _ | assumption | refine Below.drew ?_ | refine below_drewN ?_ _ | refine below_new ?_ _ | refine below_set ?_ ?_ _ | refine below_then ?_ (by assumption) | refine below_drawn ?_ (by assumption) | exact Nat.le_refl _ | omega | (simp; done) | (simp; omega))) | assumption)
            clear hKx Kx
            try simp only [Act.put, List.setIfInBounds_toArray, List.set_cons_zero, List.set_cons_succ]
            refine lex_take (i := 4) (v := ?_) rfl (by kernel_rfl) (by kernel_rfl) (by kernel_rfl) (fun _ _ _ h => h) (by rfl) ?_ (by assumption) ?_
            rotate_left
            · (intro w hSw; (try dsimp only at hSw); go_simp; try with_reducible rfl)
            try simp only [Act.put, List.setIfInBounds_toArray, List.set_cons_zero, List.set_cons_succ]
            refine wpAnyH_done (by kernel_rfl) ?_ _
            have LS9 := Lib.hid (LS8.out.then_ hb2'); have BW9 := Lib.hid (below_then BW8.out hb2')
            have a14 := AQ14.out.then_ hb2'; have a15 := AQ15.out.then_ hb2'
            have y0 := a14.cell 0; have y1 := a14.cell 1; have y2 := a14.cell 2; have y3 := a14.cell 3; have y4 := a14.cell 4; simp at y0 y1 y2 y3 y4
            have z0 := a15.cell 0; have z1 := a15.cell 1; have z2 := a15.cell 2; have z3 := a15.cell 3; simp at z0 z1 z2 z3
            have A14 := Lib.hid a14; have A15 := Lib.hid a15
            have hzl := a15.lt
            clear a14 a15 hb2 hb2' htx hHeld KK LS8 BW8 AQ14 AQ15
            go_wp2_with fail
            refine (ref_Mod dq 4 _ hd1 hd2 (by omega) (by omega)).mono ?_
            rintro e w3 ⟨rfl, rfl⟩
            have hD : dq % 4 = 0 ∨ dq % 4 = 1 ∨ dq % 4 = 2 ∨ dq % 4 = 3 := by omega
            generalize dq % 4 = DD at hD ⊢
            obtain ⟨av, cv, hvb, hlc, hcc2, hbl⟩ := LS9.out.list HPL.out.ok
            subst hvb
            have HBL := Lib.hid hbl; clear hbl
            rcases hD with rfl | rfl | rfl | rfl
            · as_aux_lemma =>
              (have hcase : (0 : Nat) = 0 := rfl)
              have hlen : l.length < 200 := by omega
              obtain ⟨PE, hPE⟩ : ∃ PE, PE = plainE r f t x l := ⟨_, rfl⟩
              have HBE := Lib.hid ((bookE_plain (r := r) (f := f) (t := t) (x := x) HPL.out hlen).trans hPE.symm)
              have HPE := Lib.hid hPE
              clear hPE
              go_wp2_with fail
              refine (books_bookError W9 B av l.length cv l r f t x LS9.out.lt (LS9.out.box.cell 0) HBL.out HOK.out).mono ?_
              rw [← HPE.out]
              rintro e w10 ⟨rfl, hb10⟩
              have LS10 := Lib.hid (LS9.out.then_ hb10); have BW10 := Lib.hid (below_then BW9.out hb10)
              have a15 := A15.out.then_ hb10
              clear z0 z1 z2 z3
              have z0 := a15.cell 0; have z1 := a15.cell 1; have z2 := a15.cell 2; have z3 := a15.cell 3; simp at z0 z1 z2 z3
              have A15b := Lib.hid a15
              have hz10 := hb10.size
              clear a15 hb10 y0 y1 y2 y3 y4
              go_wp2_with fail
              refine (rooms_Book w10 P gn gb cn (B + 1) v1 v2 xs1 xs2 r f t x LS10.out.st HOK.out (by omega) (by omega)).mono ?_
              rintro e w11 ⟨rfl, haf⟩
              rw [HBE.out]
              obtain ⟨v1', v2', ls11, hb11, hkeep⟩ := LS10.out.after (B0 := w.heap.size) haf q1
              have a15 : At w11 (Z + 1) _ := (hkeep (Z + 1) (by omega) (by omega) (fun g e => by have := J1.out g e; omega) (fun g e => by have := J2.out g e; omega)).trans A15b.out
              have LS11 := Lib.hid ls11; have BW11 := Lib.hid (BW10.out.trans hb11)
              clear z0 z1 z2 z3
              have z0 := a15.cell 0; have z1 := a15.cell 1; have z2 := a15.cell 2; have z3 := a15.cell 3; simp at z0 z1 z2 z3
              have hz11 := hb11.size
              have hBl := ls11.lt
              clear ls11 hb11 hkeep haf a15
              by_cases hE : PE = 0
              · subst hE
                have HNX := Lib.hid (plain_book HPL.out hlen HPE.out.symm HOK.out)
                have HOWN := Lib.hid LS11.out.own
                have hBn : some B ≠ Value.ownBlock (.slice av l.length cv) := fun e => by have := own_far5 HOWN.out e.symm; omega
                have z5 : w11.cell? ⟨B, 0, none⟩ = some (.slice av l.length cv) := LS11.out.box.cell 0
                have HBX := Lib.hid LS11.out.box
                have hbase : B + 1 ≤ w11.heap.size := by omega
                go_wp2_with (at_builtin; refine wpList_append_lies _ rfl _ _ 33 rfl (B + 1) 39 i0 (.agg #[.string ⟨#[]⟩, .int .i64 0, .int .i64 0, .string ⟨#[]⟩]) 4 48 Try.underlying33 hi hz0 hz1 hz2 rfl (by decide) _ _ _ rfl (HOWN.out.alloc _) ⟨w11.heap.size, 0, none⟩ 1 1 [.string r, .int .i64 f, .int .i64 t, .string x] rfl rfl (World.news_of_block (cs := #[.string r, .int .i64 f, .int .i64 t, .string x]) (t := 39) (fr := (0, 0)) (heap_alloc_new w11 _)) (by simp [Value.oneCell']) (by decide) (by unfold maxLen; omega) (by omega) (by first | omega | (simp; omega)) _ rfl ?_; intro g4 cap4 w4 hown' hgrow hlies hglt; have zc : w4.cell? ⟨B, 0, none⟩ = some (.slice av l.length cv) := (hgrow.cell_far ⟨B, 0, none⟩ (by simp; omega) hBn).trans ((HBX.out.alloc _).cell 0); have zf : w4.frozen? ⟨B, 0, none⟩ = false := (hgrow.frozen_far ⟨B, 0, none⟩ (by simp; omega) hBn).trans ((HBX.out.alloc _).frozen 0))
                have HPT := Lib.hid (LawSt.put (B0 := w.heap.size) (L' := l ++ [(r, f, t, x)]) (u := .slice (some ⟨g4, 0, none⟩) (l.length + 1) cap4) (LS11.out.then_ (below_new (Below.refl _ _) (.cells #[.string r, .int .i64 f, .int .i64 t, .string x] 39))) hgrow (by
                  have e1 : (l ++ [(r, f, t, x)]).length = l.length + 1 := by simp
                  have e2 : (l ++ [((r, f, t, x) : Bkg)]).flatMap encBkg = l.flatMap encBkg ++ [.string r, .int .i64 f, .int .i64 t, .string x] := by rw [List.flatMap_append]; simp [encBkg]
                  rw [e1, e2]; exact hown') (fun g e => by
                  have e' : g4 = g := by simpa [Value.ownBlock] using e
                  subst e'
                  exact hlies.imp id (fun h => by rw [h]; simp)) q2 (by simp; have := BW11.out.size; omega))
                clear hown' hgrow hlies hglt
                go_wp2_with fail
                go_roundw
                case rel => exact ⟨k9 + 1, v1', v2', _, l ++ [(r, f, t, x)], _, _, by omega, by go_num, HPT.out.1, HNX.out, by simp; omega, (below_new BW11.out _).trans HPT.out.2.1⟩
                case measure => first | (simp [intOf]; done) | (simp [intOf]; omega)
              · have hEb : (PE == 0) = false := by simpa using hE
                have HNB := Lib.hid (plain_nobook (r := r) (f := f) (t := t) (x := x) HPL.out hlen (by rw [← HPE.out]; exact hE))
                clear hE
                go_wp2_with fail
                go_roundw
                case rel => exact ⟨k9 + 1, v1', v2', _, l, xs1, xs2, by omega, by go_num, by have h := LS11.out; rw [HNB.out.1, HNB.out.2] at h; exact h, HPL.out, by omega, BW11.out⟩
                case measure => first | (simp [intOf]; done) | (simp [intOf]; omega)
            · as_aux_lemma =>
              cases KB with
              | false =>
                have hr : roomNo r < 0 := by have := HKB.out; simpa using this
                have HDE := Lib.hid (show dropE r f xs1 xs2 = 5 by rw [dropE_plain HPL.out, dropP, if_pos hr])
                have HND := Lib.hid (plain_nodrop (r := r) (f := f) HPL.out (by rw [dropP, if_pos hr]; decide))
                clear hr
                go_wp2_with fail
                refine (rooms_Drop W9 P gn gb cn (B + 1) v1 v2 xs1 xs2 r f LS9.out.st (by omega) (by omega)).mono ?_
                rintro e w11 ⟨rfl, haf⟩
                rw [HDE.out]
                obtain ⟨v1', v2', ls11, hb11, hkeep⟩ := LS9.out.after (B0 := w.heap.size) haf q1
                have LS11 := Lib.hid ls11; have BW11 := Lib.hid (BW9.out.trans hb11)
                clear ls11 hb11 hkeep haf
                go_wp2_with fail
                go_roundw
                case rel => exact ⟨k9 + 1, v1', v2', _, l, xs1, xs2, by omega, by go_num, (by have h := LS11.out; rw [HND.out.1, HND.out.2] at h; exact h), HPL.out, (by omega), BW11.out⟩
                case measure => first | (simp [intOf]; done) | (simp [intOf]; omega)
              | true =>
                have hr : 0 ≤ roomNo r := by have := HKB.out; simpa using this
                have HR := Lib.hid hr; clear hr
                have z5 : W9.cell? ⟨B, 0, none⟩ = some (.slice av l.length cv) := LS9.out.box.cell 0
                have hB9 := LS9.out.lt
                go_wp2_with fail
                clear z5 y0 y1 y2 y3 y4 z0 z1 z2 z3
                go_loopw [18, 19, 20, 145] (fun v18 _ _ vj wr2 => ∃ j : Nat, j ≤ l.length ∧ vj = .int .i64 j ∧ v18 = .int .i64 6 ∧ idxP (atR r f) (l.drop j) j = idxP (atR r f) l 0 ∧ Below W9.heap.size W9 wr2) (fun _ _ _ vj _ => l.length - (intOf vj).toNat)
                case atStart => exact ⟨0, by omega, rfl, rfl, rfl, Below.refl _ _⟩
                case round =>
                  obtain ⟨j, hj, rfl, rfl, hidx, hb2⟩ := hrel
                  obtain ⟨wr2, rfl⟩ : ∃ wr2, wr2 = wr := ⟨_, rfl⟩
                  have HI := Lib.hid hidx; have hz2 := hb2.size
                  have LS2 := Lib.hid (LS9.out.then_ hb2); have BW2 := Lib.hid (below_then BW9.out hb2)
                  have a14 := A14.out.then_ hb2
                  clear hidx
                  by_cases hlj : j < l.length
                  · obtain ⟨b1, o1, hav, hbB1, hcs⟩ := (HBL.out.below hb2 (Nat.le_refl _)).open_ (by omega)
                    obtain ⟨r', f', t', x', c0, c1, c2, c3, hx', _⟩ := hcs j hlj
                    have HJ := Lib.hid (show (if atR r f (r', f', t', x') = true then (j : Int) else idxP (atR r f) (l.drop (j + 1)) (j + 1)) = idxP (atR r f) l 0 by rw [← HI.out, drop_row hx', idxP_cons])
                    have HAT := Lib.hid (show atR r f (r', f', t', x') = (decide (r' = r) && decide (f' = f)) from rfl)
                    subst hav
                    have y0 := a14.cell 0; have y1 := a14.cell 1; have y2 := a14.cell 2; have y3 := a14.cell 3; have y4 := a14.cell 4; simp at y0 y1 y2 y3 y4
                    have hZ2 : Z < wr2.heap.size := by omega
                    have B20 := Lib.hid (below_new (Below.refl wr2.heap.size wr2) (.cells #[.string r', .int .i64 f', .int .i64 t', .string x'] 39))
                    have HB2 := Lib.hid hb2
                    clear hcs hx' hb2 a14 HI
                    by_cases h1 : r' = r
                    · have e1 : (r'.toList == r.toList) = true := by simp [h1]
                      by_cases h2 : f' = f
                      · have HF := Lib.hid (show idxP (atR r f) l 0 = (j : Int) by rw [← HJ.out, if_pos (by rw [HAT.out, decide_eq_true h1, decide_eq_true h2]; rfl)])
                        have e2 : (f' == f) = true := by simpa using h2
                        have HDE := Lib.hid (show dropE r f xs1 xs2 = 0 by rw [dropE_plain HPL.out, dropP, if_neg (by have := HR.out; omega), if_neg (by rw [HF.out]; omega)])
                        have HNX := Lib.hid (plain_drop (r := r) (f := f) (i := j) HPL.out HR.out HF.out)
                        have LS3 := Lib.hid (LS2.out.then_ B20.out); have BW3 := Lib.hid (below_then BW2.out B20.out)
                        clear HJ HAT h1 h2
                        go_upto_region 42 with fail
                        have a14 := (A14.out.then_ HB2.out).then_ B20.out
                        have hzB := B20.out.size
                        clear e1 e2 y0 y1 y2 y3 y4 c0 c1 c2 c3 B20
                        generalize World.alloc wr2 _ = W10 at LS3 BW3 a14 hzB ⊢
                        have HOWN := Lib.hid LS3.out.own
                        have HBX := Lib.hid LS3.out.box
                        have hBl := LS3.out.lt
                        have z5 : W10.cell? ⟨B, 0, none⟩ = some (.slice (some ⟨b1, o1, none⟩) l.length cv) := HBX.out.cell 0
                        have hBn : some B ≠ Value.ownBlock (.slice (some ⟨b1, o1, none⟩) l.length cv) := fun e => by have := own_far5 HOWN.out e.symm; omega
                        have hw1 : IntKind.i64.wrap ((j : Int) + 1) = (j : Int) + 1 := IntWalk.i64_in _ (by omega)
                        go_wp2_with fail
                        refine (bkg_delete (B + 1) l.length j _ _ W10 HOWN.out hlj (by omega) (fun u hu => bkg_one hu)).mono ?_
                        rintro e w4 ⟨v', rfl, own4, hg4, hv4⟩
                        rw [bkg_take, bkg_drop, ← List.flatMap_append] at own4
                        have hl' : (l.take j ++ l.drop (j + 1)).length = l.length - 1 := by rw [List.length_append, List.length_take, List.length_drop]; omega
                        have HPT := Lib.hid (LawSt.put (B0 := w.heap.size) (L' := l.take j ++ l.drop (j + 1)) (u := v') LS3.out hg4 (by rw [hl']; exact own4) (fun g e => .inl (by rw [← hv4]; exact e)) q2 (by have := BW3.out.size; omega))
                        have zc : w4.cell? ⟨B, 0, none⟩ = some (.slice (some ⟨b1, o1, none⟩) l.length cv) := (hg4.cell_far ⟨B, 0, none⟩ hBl hBn).trans z5
                        have zf : w4.frozen? ⟨B, 0, none⟩ = false := (hg4.frozen_far ⟨B, 0, none⟩ hBl hBn).trans (HBX.out.frozen 0)
                        obtain ⟨a4, c4, rfl, _, _, _⟩ := own_bkgs own4 hl' (fun x hx => HPL.out.ok x ((List.mem_append.1 hx).elim List.mem_of_mem_take List.mem_of_mem_drop))
                        have a14b : At (w4.setCell ⟨B, 0, none⟩ (.slice a4 (l.length - 1) c4)) Z _ := (HPT.out.2.2 Z (by omega) (by omega) (fun g e => by have := J3.out g e; omega)).trans a14
                        have BW12 := Lib.hid (BW3.out.trans HPT.out.2.1)
                        have LS12 := Lib.hid HPT.out.1
                        clear own4 hg4 hv4 z5 HPT a14
                        go_upto_region 45 with fail
                        generalize World.setCell w4 _ _ = W12 at LS12 BW12 a14b ⊢
                        have y0 := a14b.cell 0; have y1 := a14b.cell 1; have y2 := a14b.cell 2; have y3 := a14b.cell 3; have y4 := a14b.cell 4; simp at y0 y1 y2 y3 y4
                        clear zc zf a14b
                        go_wp2_with fail
                        refine (rooms_Drop W12 P gn gb cn (B + 1) v1 v2 xs1 xs2 r f LS12.out.st (by omega) (by omega)).mono ?_
                        rintro e w11 ⟨rfl, haf⟩
                        rw [HDE.out]
                        obtain ⟨v1', v2', ls11, hb11, hkeep⟩ := LS12.out.after (B0 := w.heap.size) haf q1
                        have LS11 := Lib.hid ls11; have BW11 := Lib.hid (BW12.out.trans hb11)
                        clear ls11 hb11 hkeep haf
                        go_wp2_with fail
                        go_roundw
                        case rel => exact ⟨k9 + 1, v1', v2', _, l.take j ++ l.drop (j + 1), _, _, by omega, by go_num, LS11.out, HNX.out, (by omega), BW11.out⟩
                        case measure => first | (simp [intOf]; done) | (simp [intOf]; omega)
                      · have HT := Lib.hid (show idxP (atR r f) (l.drop (j + 1)) (j + 1) = idxP (atR r f) l 0 by rw [← HJ.out, if_neg (by rw [HAT.out, decide_eq_false h2]; simp)])
                        have e2 : (f' == f) = false := by simpa using h2
                        clear HJ HAT h1 h2
                        go_wp2_with fail
                        go_roundw
                        case rel => exact ⟨j + 1, by omega, by go_num, rfl, HT.out, below_then HB2.out B20.out⟩
                        case measure => first | (simp [intOf]; done) | (simp [intOf]; omega)
                    · have e1 : (r'.toList == r.toList) = false := by rw [beq_eq_false_iff_ne]; exact fun e => h1 (toList_backR e)
                      have HT := Lib.hid (show idxP (atR r f) (l.drop (j + 1)) (j + 1) = idxP (atR r f) l 0 by rw [← HJ.out, if_neg (by rw [HAT.out, decide_eq_false h1]; simp)])
                      clear HJ HAT h1
                      go_wp2_with fail
                      go_roundw
                      case rel => exact ⟨j + 1, by omega, by go_num, rfl, HT.out, below_then HB2.out B20.out⟩
                      case measure => first | (simp [intOf]; done) | (simp [intOf]; omega)
                  · have HF := Lib.hid (show idxP (atR r f) l 0 = -1 by rw [← HI.out, List.drop_eq_nil_of_le (by omega)]; rfl)
                    have HDE := Lib.hid (show dropE r f xs1 xs2 = 6 by rw [dropE_plain HPL.out, dropP, if_neg (by have := HR.out; omega), if_pos (by rw [HF.out]; omega)])
                    have HND := Lib.hid (plain_nodrop (r := r) (f := f) HPL.out (by rw [dropP, if_neg (by have := HR.out; omega), if_pos (by rw [HF.out]; omega)]; decide))
                    have y0 := a14.cell 0; have y1 := a14.cell 1; have y2 := a14.cell 2; have y3 := a14.cell 3; have y4 := a14.cell 4; simp at y0 y1 y2 y3 y4
                    clear a14 HI
                    go_wp2_with fail
                    refine (rooms_Drop wr2 P gn gb cn (B + 1) v1 v2 xs1 xs2 r f LS2.out.st (by omega) (by omega)).mono ?_
                    rintro e w11 ⟨rfl, haf⟩
                    rw [HDE.out]
                    obtain ⟨v1', v2', ls11, hb11, hkeep⟩ := LS2.out.after (B0 := w.heap.size) haf q1
                    have LS11 := Lib.hid ls11; have BW11 := Lib.hid (BW2.out.trans hb11)
                    clear ls11 hb11 hkeep haf
                    go_wp2_with fail
                    go_roundw
                    case rel => exact ⟨k9 + 1, v1', v2', _, l, xs1, xs2, by omega, by go_num, (by have h := LS11.out; rw [HND.out.1, HND.out.2] at h; exact h), HPL.out, (by omega), BW11.out⟩
                    case measure => first | (simp [intOf]; done) | (simp [intOf]; omega)
            · as_aux_lemma =>
              have HFR := Lib.hid (show freeE r f t = if roomNo r < 0 then 5 else stretchE f t from rfl)
              have HST := Lib.hid (show stretchE f t = if (instB f && instB t) = false then 3 else if t ≤ f then 9 else 0 from rfl)
              have CI := Lib.hid (fun (W : World) => ref_InstantB f W hf1 hf2)
              have CT := Lib.hid (fun (W : World) => ref_InstantB t W ht1 ht2)
              cases KB with
              | false =>
                have hr : roomNo r < 0 := by have := HKB.out; simpa using this
                have HFE := Lib.hid (HFR.out.trans (if_pos hr))
                clear hr HFR HST
                go_wp2_with fail
                refine (rooms_Free W9 P gn gb cn (B + 1) v1 v2 xs1 xs2 r f t ⟨hf1, hf2⟩ ⟨ht1, ht2⟩ LS9.out.st).mono ?_
                rw [free_err (l := l) HFE.out (by decide), HFE.out]
                rintro e w10 ⟨rfl, hb10⟩
                have LS10 := Lib.hid (LS9.out.then_ hb10); have BW10 := Lib.hid (below_then BW9.out hb10)
                have a14 := A14.out.then_ hb10
                clear z0 z1 z2 z3 y0 y1 y2 y3 y4
                have y0 := a14.cell 0; have y1 := a14.cell 1; have y2 := a14.cell 2; have y3 := a14.cell 3; have y4 := a14.cell 4; simp at y0 y1 y2 y3 y4
                have hz10 := hb10.size
                clear a14 hb10
                go_wp2_with fail
                go_roundw
                case rel => exact ⟨k9 + 1, v1, v2, _, l, xs1, xs2, by omega, by go_num, LS10.out, HPL.out, by omega, BW10.out⟩
                case measure => first | (simp [intOf]; done) | (simp [intOf]; omega)
              | true =>
                have hr : 0 ≤ roomNo r := by have := HKB.out; simpa using this
                have HR := Lib.hid hr
                have HFR2 := Lib.hid (HFR.out.trans (if_neg (by omega)))
                clear hr HFR
                cases hp : instB f with
                | false =>
                  have HFE := Lib.hid (show freeE r f t = 3 by rw [HFR2.out, HST.out, hp]; rfl)
                  clear HFR2 HST
                  go_wp2_with fail
                  refine (rooms_Free W9 P gn gb cn (B + 1) v1 v2 xs1 xs2 r f t ⟨hf1, hf2⟩ ⟨ht1, ht2⟩ LS9.out.st).mono ?_
                  rw [free_err (l := l) HFE.out (by decide), HFE.out]
                  rintro e w10 ⟨rfl, hb10⟩
                  have LS10 := Lib.hid (LS9.out.then_ hb10); have BW10 := Lib.hid (below_then BW9.out hb10)
                  have a14 := A14.out.then_ hb10
                  clear z0 z1 z2 z3 y0 y1 y2 y3 y4
                  have y0 := a14.cell 0; have y1 := a14.cell 1; have y2 := a14.cell 2; have y3 := a14.cell 3; have y4 := a14.cell 4; simp at y0 y1 y2 y3 y4
                  have hz10 := hb10.size
                  clear a14 hb10
                  go_wp2_with (go_at_call 17; with_reducible refine (CI.out _).mono ?_; rw [hp]; rintro e w4 ⟨rfl, rfl⟩)
                  go_roundw
                  case rel => exact ⟨k9 + 1, v1, v2, _, l, xs1, xs2, by omega, by go_num, LS10.out, HPL.out, by omega, BW10.out⟩
                  case measure => first | (simp [intOf]; done) | (simp [intOf]; omega)
                | true =>
                  cases hq : instB t with
                  | false =>
                    have HFE := Lib.hid (show freeE r f t = 3 by rw [HFR2.out, HST.out, hp, hq]; rfl)
                    clear HFR2 HST
                    go_wp2_with fail
                    refine (rooms_Free W9 P gn gb cn (B + 1) v1 v2 xs1 xs2 r f t ⟨hf1, hf2⟩ ⟨ht1, ht2⟩ LS9.out.st).mono ?_
                    rw [free_err (l := l) HFE.out (by decide), HFE.out]
                    rintro e w10 ⟨rfl, hb10⟩
                    have LS10 := Lib.hid (LS9.out.then_ hb10); have BW10 := Lib.hid (below_then BW9.out hb10)
                    have a14 := A14.out.then_ hb10
                    clear z0 z1 z2 z3 y0 y1 y2 y3 y4
                    have y0 := a14.cell 0; have y1 := a14.cell 1; have y2 := a14.cell 2; have y3 := a14.cell 3; have y4 := a14.cell 4; simp at y0 y1 y2 y3 y4
                    have hz10 := hb10.size
                    clear a14 hb10
                    go_wp2_with (first | (go_at_call 17; with_reducible refine (CI.out _).mono ?_; rw [hp]; rintro e w4 ⟨rfl, rfl⟩) | (go_at_call 17; with_reducible refine (CT.out _).mono ?_; rw [hq]; rintro e w4 ⟨rfl, rfl⟩))
                    go_roundw
                    case rel => exact ⟨k9 + 1, v1, v2, _, l, xs1, xs2, by omega, by go_num, LS10.out, HPL.out, by omega, BW10.out⟩
                    case measure => first | (simp [intOf]; done) | (simp [intOf]; omega)
                  | true =>
                    have HST2 := Lib.hid (show stretchE f t = if t ≤ f then 9 else 0 by rw [HST.out, hp, hq]; rfl)
                    clear HST
                    rcases Int.lt_or_le f t with hc | hc
                    case inr =>
                      have HFE := Lib.hid (show freeE r f t = 9 by rw [HFR2.out, HST2.out, if_pos hc])
                      clear HFR2 HST2
                      go_wp2_with fail
                      refine (rooms_Free W9 P gn gb cn (B + 1) v1 v2 xs1 xs2 r f t ⟨hf1, hf2⟩ ⟨ht1, ht2⟩ LS9.out.st).mono ?_
                      rw [free_err (l := l) HFE.out (by decide), HFE.out]
                      rintro e w10 ⟨rfl, hb10⟩
                      have LS10 := Lib.hid (LS9.out.then_ hb10); have BW10 := Lib.hid (below_then BW9.out hb10)
                      have a14 := A14.out.then_ hb10
                      clear z0 z1 z2 z3 y0 y1 y2 y3 y4
                      have y0 := a14.cell 0; have y1 := a14.cell 1; have y2 := a14.cell 2; have y3 := a14.cell 3; have y4 := a14.cell 4; simp at y0 y1 y2 y3 y4
                      have hz10 := hb10.size
                      clear a14 hb10
                      go_wp2_with (first | (go_at_call 17; with_reducible refine (CI.out _).mono ?_; rw [hp]; rintro e w4 ⟨rfl, rfl⟩) | (go_at_call 17; with_reducible refine (CT.out _).mono ?_; rw [hq]; rintro e w4 ⟨rfl, rfl⟩))
                      go_roundw
                      case rel => exact ⟨k9 + 1, v1, v2, _, l, xs1, xs2, by omega, by go_num, LS10.out, HPL.out, by omega, BW10.out⟩
                      case measure => first | (simp [intOf]; done) | (simp [intOf]; omega)
                    have HFE := Lib.hid (show freeE r f t = 0 by rw [HFR2.out, HST2.out, if_neg (show ¬ t ≤ f by omega)])
                    clear HFR2 HST2
                    have HFO := Lib.hid (free_ok HPL.out HR.out HFE.out)
                    cases hAB : l.any (lapR r f t) with
                    | true =>
                      go_wp2_with fail
                      refine (rooms_Free W9 P gn gb cn (B + 1) v1 v2 xs1 xs2 r f t ⟨hf1, hf2⟩ ⟨ht1, ht2⟩ LS9.out.st).mono ?_
                      rw [HFO.out, hAB, HFE.out]
                      rintro e w10 ⟨rfl, hb10⟩
                      have LS10 := Lib.hid (LS9.out.then_ hb10); have BW10 := Lib.hid (below_then BW9.out hb10)
                      have a14 := A14.out.then_ hb10
                      clear z0 z1 z2 z3 y0 y1 y2 y3 y4
                      have y0 := a14.cell 0; have y1 := a14.cell 1; have y2 := a14.cell 2; have y3 := a14.cell 3; have y4 := a14.cell 4; simp at y0 y1 y2 y3 y4
                      have hz10 := hb10.size
                      have HB10 := Lib.hid (HBL.out.then_ hb10)
                      clear a14 hb10
                      go_wp2_with (first | (go_at_call 17; with_reducible refine (CI.out _).mono ?_; rw [hp]; rintro e w4 ⟨rfl, rfl⟩) | (go_at_call 17; with_reducible refine (CT.out _).mono ?_; rw [hq]; rintro e w4 ⟨rfl, rfl⟩) | (go_at_call 18; refine (books_overlaps w10 B av l.length cv l r f t LS10.out.lt (LS10.out.box.cell 0) HB10.out).mono ?_; rw [hAB]; rintro e w11 ⟨rfl, hb11⟩; have LS11 := Lib.hid (LS10.out.then_ hb11); have BW11 := Lib.hid (below_then BW10.out hb11)))
                      go_roundw
                      case rel => exact ⟨k9 + 1, v1, v2, _, l, xs1, xs2, by omega, by go_num, LS11.out, HPL.out, by omega, BW11.out⟩
                      case measure => first | (simp [intOf]; done) | (simp [intOf]; omega)
                    | false =>
                      go_wp2_with fail
                      refine (rooms_Free W9 P gn gb cn (B + 1) v1 v2 xs1 xs2 r f t ⟨hf1, hf2⟩ ⟨ht1, ht2⟩ LS9.out.st).mono ?_
                      rw [HFO.out, hAB, HFE.out]
                      rintro e w10 ⟨rfl, hb10⟩
                      have LS10 := Lib.hid (LS9.out.then_ hb10); have BW10 := Lib.hid (below_then BW9.out hb10)
                      have a14 := A14.out.then_ hb10
                      clear z0 z1 z2 z3 y0 y1 y2 y3 y4
                      have y0 := a14.cell 0; have y1 := a14.cell 1; have y2 := a14.cell 2; have y3 := a14.cell 3; have y4 := a14.cell 4; simp at y0 y1 y2 y3 y4
                      have hz10 := hb10.size
                      have HB10 := Lib.hid (HBL.out.then_ hb10)
                      clear a14 hb10
                      go_wp2_with (first | (go_at_call 17; with_reducible refine (CI.out _).mono ?_; rw [hp]; rintro e w4 ⟨rfl, rfl⟩) | (go_at_call 17; with_reducible refine (CT.out _).mono ?_; rw [hq]; rintro e w4 ⟨rfl, rfl⟩) | (go_at_call 18; refine (books_overlaps w10 B av l.length cv l r f t LS10.out.lt (LS10.out.box.cell 0) HB10.out).mono ?_; rw [hAB]; rintro e w11 ⟨rfl, hb11⟩; have LS11 := Lib.hid (LS10.out.then_ hb11); have BW11 := Lib.hid (below_then BW10.out hb11)))
                      go_roundw
                      case rel => exact ⟨k9 + 1, v1, v2, _, l, xs1, xs2, by omega, by go_num, LS11.out, HPL.out, by omega, BW11.out⟩
                      case measure => first | (simp [intOf]; done) | (simp [intOf]; omega)
            · as_aux_lemma =>
              cases KB with
              | false =>
                have hr : roomNo r < 0 := by have := HKB.out; simpa using this
                have HLE := Lib.hid (show listE r = 5 from if_pos hr)
                clear hr
                go_wp2_with fail
                refine (rooms_List W9 P gn gb cn (B + 1) v1 v2 xs1 xs2 r LS9.out.st (by omega) (by omega)).mono ?_
                rintro e w10 ⟨a2, c2, rfl, hl2, hb10⟩
                rw [plain_list HPL.out] at hl2 ⊢
                rw [HLE.out]
                have LS10 := Lib.hid (LS9.out.then_ hb10); have BW10 := Lib.hid (below_then BW9.out hb10); have HB10 := Lib.hid (HBL.out.then_ hb10)
                have a14 := A14.out.then_ hb10
                clear z0 z1 z2 z3 y0 y1 y2 y3 y4
                have y0 := a14.cell 0; have y1 := a14.cell 1; have y2 := a14.cell 2; have y3 := a14.cell 3; have y4 := a14.cell 4; simp at y0 y1 y2 y3 y4
                have HL2 := Lib.hid hl2
                clear a14 hb10 hl2
                go_wp2_with fail
                refine (books_of w10 B av l.length cv l r (by omega) LS10.out.lt (LS10.out.box.cell 0) HB10.out).mono ?_
                rintro e w11 ⟨a3, c3, rfl, hl3, hb11⟩
                have LS11 := Lib.hid (LS10.out.then_ hb11); have BW11 := Lib.hid (below_then BW10.out hb11); have HL3 := Lib.hid hl3; have HL4 := Lib.hid (HL2.out.then_ hb11)
                clear hl3 hb11
                go_wp2_with fail
                refine (law_sameBookings w11 a2 a3 _ c2 c3 _ HL4.out HL3.out).mono ?_
                rintro e w12 ⟨rfl, hb12⟩
                have LS12 := Lib.hid (LS11.out.then_ hb12); have BW12 := Lib.hid (below_then BW11.out hb12)
                clear hb12
                go_wp2_with fail
                go_roundw
                case rel => exact ⟨k9 + 1, v1, v2, _, l, xs1, xs2, by omega, by go_num, LS12.out, HPL.out, by omega, BW12.out⟩
                case measure => first | (simp [intOf]; done) | (simp [intOf]; omega)
              | true =>
                have hr : 0 ≤ roomNo r := by have := HKB.out; simpa using this
                have HLE := Lib.hid (show listE r = 0 from if_neg (by omega))
                clear hr
                go_wp2_with fail
                refine (rooms_List W9 P gn gb cn (B + 1) v1 v2 xs1 xs2 r LS9.out.st (by omega) (by omega)).mono ?_
                rintro e w10 ⟨a2, c2, rfl, hl2, hb10⟩
                rw [plain_list HPL.out] at hl2 ⊢
                rw [HLE.out]
                have LS10 := Lib.hid (LS9.out.then_ hb10); have BW10 := Lib.hid (below_then BW9.out hb10); have HB10 := Lib.hid (HBL.out.then_ hb10)
                have a14 := A14.out.then_ hb10
                clear z0 z1 z2 z3 y0 y1 y2 y3 y4
                have y0 := a14.cell 0; have y1 := a14.cell 1; have y2 := a14.cell 2; have y3 := a14.cell 3; have y4 := a14.cell 4; simp at y0 y1 y2 y3 y4
                have HL2 := Lib.hid hl2
                clear a14 hb10 hl2
                go_wp2_with fail
                refine (books_of w10 B av l.length cv l r (by omega) LS10.out.lt (LS10.out.box.cell 0) HB10.out).mono ?_
                rintro e w11 ⟨a3, c3, rfl, hl3, hb11⟩
                have LS11 := Lib.hid (LS10.out.then_ hb11); have BW11 := Lib.hid (below_then BW10.out hb11); have HL3 := Lib.hid hl3; have HL4 := Lib.hid (HL2.out.then_ hb11)
                clear hl3 hb11
                go_wp2_with fail
                refine (law_sameBookings w11 a2 a3 _ c2 c3 _ HL4.out HL3.out).mono ?_
                rintro e w12 ⟨rfl, hb12⟩
                have LS12 := Lib.hid (LS11.out.then_ hb12); have BW12 := Lib.hid (below_then BW11.out hb12)
                clear hb12
                go_wp2_with fail
                go_roundw
                case rel => exact ⟨k9 + 1, v1, v2, _, l, xs1, xs2, by omega, by go_num, LS12.out, HPL.out, by omega, BW12.out⟩
                case measure => first | (simp [intOf]; done) | (simp [intOf]; omega)
          · go_wp2_with fail
            go_ret
            exact ⟨rfl, hb⟩
end Go.Proofs.Ytddiicljoekhmaa.roomsPlaysLaw
