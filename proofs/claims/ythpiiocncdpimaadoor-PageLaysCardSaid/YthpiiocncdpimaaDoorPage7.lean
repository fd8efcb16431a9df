/- Contract of the reference's PageTableError. -/
import Derived.Test.YthpiiocncdpimaaDoorPage6
import Derived.Test.YthpiiocncdpimaaDoorRef
namespace Go.Proofs.YthpiiocncdpimaaDoor
set_option linter.unusedVariables false
set_option maxRecDepth 100000
open Go.RowKit Go.Shelf

/-- The world of a call that keeps a table's box. -/
def TB (w : World) (z : Obj) (W : World) : Prop := Below w.heap.size w W ∧ At W w.heap.size z
theorem TB.then_ {w W W' : World} {z : Obj} (h : TB w z W) (k : Below W.heap.size W W') : TB w z W' := ⟨below_then h.1 k, h.2.then_ k⟩
theorem take_any {l : List ByteArray} {p : ByteArray → Bool} {q t : Nat} (ht : t < q) (hq : q ≤ l.length) : ((l.take q).drop t).any p = (p (l.getD t ByteArray.empty) || ((l.take q).drop (t + 1)).any p) := by
  rw [any_drop (d := ByteArray.empty) (by rw [List.length_take]; omega)]
  congr 2
  simp [List.getD_eq_getElem?_getD, ht]
set_option maxHeartbeats 8000000 in
theorem ref_PageTableError (w : World) (a1 a2 : Option Addr) (n1 c1 n2 c2 : Nat) (hd : List ByteArray) (rs : List (List ByteArray)) (hT : Lib.Utf8Tabs 0 1 w) (k1 : n1 ≤ c1) (m1 : c1 ≤ 9223372036854775807) (k2 : n2 ≤ c2) (m2 : c2 ≤ 9223372036854775807)
    (h1 : Strs w w.heap.size a1 n1 hd) (h2 : RowsAt w w.heap.size a2 n2 rs) :
    Calls Tryd.prog 9 #[.agg #[.slice a1 n1 c1, .slice a2 n2 c2]] w fun e w' => e = .returned (.int .i64 (tblErr 7 hd rs)) ∧ Below w.heap.size w w' := by
  have hl1 := h1.1
  have hl2 := h2.1
  have CI := Lib.hid (fun W => ref_In (n1 : Int) 1 12 W)
  by_cases g1 : n1 < 1 ∨ 12 < n1
  · have hr : tblErr 7 hd rs = 2 := by unfold tblErr; rw [if_pos (by rw [hl1]; omega)]
    rw [hr]
    have hi : inB 1 12 (n1 : Int) = false := inB_no (by omega)
    rw [hi] at CI
    clear hr h1 h2 hT hl1 hl2 g1 hi
    go_enter Tryd.func9, Tryd.ntmps9
    go_wp2_with (go_at_call 10; refine (CI.out _).mono ?_; rintro e w1 ⟨rfl, rfl⟩)
    go_ret
    exact ⟨rfl, by (repeat' (first | exact Below.refl _ _ | assumption | refine Below.drew ?_ | refine below_drewN ?_ _ | refine below_new ?_ _ | refine below_set ?_ ?_ _ | refine below_then ?_ (by assumption) | refine below_drawn ?_ (by assumption) | exact Nat.le_refl _ | omega | (simp; done) | (simp; omega)))⟩
  have hi : inB 1 12 (n1 : Int) = true := inB_yes (by omega) (by omega)
  rw [hi] at CI
  by_cases g3 : 400 < n2
  · have hr : tblErr 7 hd rs = 2 := by unfold tblErr; rw [if_pos (.inr (.inr (by omega)))]
    rw [hr]
    have d3 : (400 : Int) < n2 := by omega
    clear hr h1 h2 hT hl1 hl2 g1 g3 hi
    go_enter Tryd.func9, Tryd.ntmps9
    go_wp2_with (go_at_call 10; refine (CI.out _).mono ?_; rintro e w1 ⟨rfl, rfl⟩)
    go_ret
    exact ⟨rfl, by (repeat' (first | exact Below.refl _ _ | assumption | refine Below.drew ?_ | refine below_drewN ?_ _ | refine below_new ?_ _ | refine below_set ?_ ?_ _ | refine below_then ?_ (by assumption) | refine below_drawn ?_ (by assumption) | exact Nat.le_refl _ | omega | (simp; done) | (simp; omega)))⟩
  have d3 : ¬ (400 : Int) < n2 := by omega
  obtain ⟨b1, off1, rfl, hb1, hc1⟩ := h1.2.2.2 (by omega)
  obtain ⟨R, hR⟩ : ∃ R, R = tblErr 7 hd rs := ⟨_, rfl⟩
  have hR2 : R = if rs.any (fun r => decide (r.length ≠ n1)) = true then 8 else if firstErr (hd ++ rs.flatten) ≠ 0 then firstErr (hd ++ rs.flatten) else headErr 7 [] hd := by
    rw [hR]; unfold tblErr; rw [if_neg (by omega), hl1]
  rw [← hR]
  obtain ⟨FE, hFE⟩ : ∃ FE, FE = firstErr (hd ++ rs.flatten) := ⟨_, rfl⟩
  rw [← hFE] at hR2
  have HFE := Lib.hid hFE
  have HR := Lib.hid hR2
  have HT := Lib.hid hT
  have H1 := Lib.hid h1
  have H2 := Lib.hid h2
  have C1 := Lib.hid hc1
  have L1 := Lib.hid hl1; have L2 := Lib.hid hl2
  have i1 : n1 ≤ 12 := by omega
  have i2 : n2 ≤ 400 := by omega
  clear hR hR2 hFE hT h1 h2 hc1 hl1 hl2 g1 g3 hi
  have HT0 := Lib.hid (show TB w (.cells #[.slice (some ⟨b1, off1, none⟩) n1 c1, .slice a2 n2 c2] 25) (w.alloc (.cells #[.slice (some ⟨b1, off1, none⟩) n1 c1, .slice a2 n2 c2] 25)) from ⟨below_new (Below.refl w.heap.size w) _, At.new w _⟩)
  go_enter Tryd.func9, Tryd.ntmps9
  go_wp2_with (go_at_call 10; refine (CI.out _).mono ?_; rintro e w1 ⟨rfl, rfl⟩)
  go_loopw [31] (fun i wr => ∃ k : Nat, k ≤ n2 ∧ i = .int .i64 k ∧ rs.any (fun r => decide (r.length ≠ n1)) = (rs.drop k).any (fun r => decide (r.length ≠ n1)) ∧ TB w (.cells #[.slice (some ⟨b1, off1, none⟩) n1 c1, .slice a2 n2 c2] 25) wr) (fun i _ => n2 - (intOf i).toNat)
  case atStart => exact ⟨0, by omega, rfl, rfl, HT0.out.then_ (by (repeat' (first | exact Below.refl _ _ | assumption | refine Below.drew ?_ | refine below_drewN ?_ _ | refine below_new ?_ _ | refine below_set ?_ ?_ _ | refine below_then ?_ (by assumption) | refine below_drawn ?_ (by assumption) | exact Nat.le_refl _ | omega | (simp; done) | (simp; omega))))⟩
  case round =>
    obtain ⟨k, hk, rfl, han, htb⟩ := hrel
    obtain ⟨hb, hat⟩ := htb
    have HTB := Lib.hid (show TB w (.cells #[.slice (some ⟨b1, off1, none⟩) n1 c1, .slice a2 n2 c2] 25) wr from ⟨hb, hat⟩); have HAN := Lib.hid han
    have x0 := hat.cell 0
    have x1 := hat.cell 1
    have hzw := hb.size
    simp at x0 x1
    clear han
    by_cases hlt : k < n2
    · obtain ⟨b2, off2, e2, hb2, hc2⟩ := (H2.out.below hb (Nat.le_refl _)).2.2 (by omega)
      subst e2
      obtain ⟨ai, ci, q1, q2, q3, q4⟩ := hc2 k hlt
      have HST := Lib.hid (any_drop (p := fun r => decide (r.length ≠ n1)) (d := []) (show k < rs.length by rw [L2.out]; exact hlt))
      obtain ⟨L, hL⟩ : ∃ L, L = (rs.getD k []).length := ⟨_, rfl⟩
      rw [← hL] at q1 q3
      have HL := Lib.hid hL
      have hbz : b2 < wr.heap.size := by omega
      clear hc2 q4 hL hb hat
      by_cases hLn : L = n1
      · have e1 : ((L : Int) == (n1 : Int)) = true := by simp [hLn]
        have e2 : ((L : Int) != (n1 : Int)) = false := by simp [hLn]
        have HNX := Lib.hid (show rs.any (fun r => decide (r.length ≠ n1)) = (rs.drop (k + 1)).any (fun r => decide (r.length ≠ n1)) by rw [HAN.out, HST.out, ← HL.out, hLn]; simp)
        clear hLn
        go_wp2_with fail
        go_roundw
        case rel => exact ⟨k + 1, by omega, rfl, HNX.out, HTB.out.then_ (by (repeat' (first | exact Below.refl _ _ | assumption | refine Below.drew ?_ | refine below_drewN ?_ _ | refine below_new ?_ _ | refine below_set ?_ ?_ _ | refine below_then ?_ (by assumption) | refine below_drawn ?_ (by assumption) | exact Nat.le_refl _ | omega | (simp; done) | (simp; omega))))⟩
        case measure => simp [intOf]; omega
      · have e1 : ((L : Int) == (n1 : Int)) = false := by simp; omega
        have e2 : ((L : Int) != (n1 : Int)) = true := by simp; omega
        have HRR := Lib.hid (show R = 8 by rw [HR.out, HAN.out, HST.out, ← HL.out, decide_eq_true hLn, Bool.true_or, if_pos rfl])
        clear hLn
        go_wp2_with fail
        go_ret
        exact ⟨by rw [HRR.out]; rfl, by have := HTB.out.1; (repeat' (first | exact Below.refl _ _ | assumption | refine Below.drew ?_ | refine below_drewN ?_ _ | refine below_new ?_ _ | refine below_set ?_ ?_ _ | refine below_then ?_ (by assumption) | refine below_drawn ?_ (by assumption) | exact Nat.le_refl _ | omega | (simp; done) | (simp; omega)))⟩
    · obtain rfl : k = n2 := by omega
      have HRR := Lib.hid (show R = if FE ≠ 0 then FE else headErr 7 [] hd by
        rw [HR.out, HAN.out, List.drop_eq_nil_of_le (by rw [L2.out]; exact Nat.le_refl _)]; rfl)
      have HFE2 := Lib.hid (show FE = firstErr (hd.drop 0 ++ rs.flatten) by rw [HFE.out]; rfl)
      clear hb hat hlt
      go_wp2_with fail
      go_loopw [45] (fun i wr => ∃ q : Nat, q ≤ n1 ∧ i = .int .i64 q ∧ FE = firstErr (hd.drop q ++ rs.flatten) ∧ TB w (.cells #[.slice (some ⟨b1, off1, none⟩) n1 c1, .slice a2 k c2] 25) wr) (fun i _ => n1 - (intOf i).toNat)
      case atStart => exact ⟨0, by omega, rfl, HFE2.out, HTB.out.then_ (by (repeat' (first | exact Below.refl _ _ | assumption | refine Below.drew ?_ | refine below_drewN ?_ _ | refine below_new ?_ _ | refine below_set ?_ ?_ _ | refine below_then ?_ (by assumption) | refine below_drawn ?_ (by assumption) | exact Nat.le_refl _ | omega | (simp; done) | (simp; omega))))⟩
      case round =>
        clear HFE2 HTB x0 x1
        obtain ⟨q, hq, rfl, hfe, htb⟩ := hrel
        obtain ⟨hb, hat⟩ := htb
        have HTB := Lib.hid (show TB w (.cells #[.slice (some ⟨b1, off1, none⟩) n1 c1, .slice a2 k c2] 25) wr from ⟨hb, hat⟩); have HF := Lib.hid hfe
        have x1 := hat.cell 1
        have hzw := hb.size
        simp at x1
        by_cases hlt : q < n1
        · have x3 := (hb.cell (p := ⟨b1, off1 + q, none⟩) hb1).trans (C1.out q hlt)
          have hbz : b1 < wr.heap.size := by omega
          have HST := Lib.hid (first_drop (l := hd) (m := rs.flatten) (q := q) (by rw [L1.out]; exact hlt))
          obtain ⟨sx, hsx⟩ : ∃ sx, sx = hd.getD q ByteArray.empty := ⟨_, rfl⟩
          rw [← hsx] at x3
          have hsz : sx.size ≤ 9223372036854775807 := H1.out.2.2.1 _ (by rw [hsx, List.getD_eq_getElem?_getD, List.getElem?_eq_getElem (by rw [L1.out]; exact hlt)]; exact List.getElem_mem _)
          obtain ⟨c, hc⟩ : ∃ c, c = cellErr sx := ⟨_, rfl⟩
          have CC := Lib.hid (ref_CellError sx wr hsz (Utf8Tabs_below HT.out hb))
          rw [← hc] at CC
          have HC := Lib.hid (show FE = if c ≠ 0 then c else firstErr (hd.drop (q + 1) ++ rs.flatten) by rw [HF.out, HST.out, ← hsx, ← hc])
          clear hsx hsz hc hfe hb hat HST HF
          by_cases hc0 : c = 0
          · have HC2 := Lib.hid (show FE = firstErr (hd.drop (q + 1) ++ rs.flatten) by rw [HC.out, if_neg (by simp [hc0])])
            subst hc0
            go_wp2_with (go_at_call 36; refine (CC.out).mono ?_; rintro e w1 ⟨rfl, hb2⟩)
            go_roundw
            case rel => exact ⟨q + 1, by omega, rfl, HC2.out, (HTB.out.then_ hb2).then_ (by (repeat' (first | exact Below.refl _ _ | assumption | refine Below.drew ?_ | refine below_drewN ?_ _ | refine below_new ?_ _ | refine below_set ?_ ?_ _ | refine below_then ?_ (by assumption) | refine below_drawn ?_ (by assumption) | exact Nat.le_refl _ | omega | (simp; done) | (simp; omega))))⟩
            case measure => simp [intOf]; omega
          · have e1 : (c == 0) = false := by simpa using hc0
            have e2 : (c != 0) = true := by simpa using hc0
            have HRC := Lib.hid (show R = c by rw [HRR.out, HC.out, if_pos hc0, if_pos hc0])
            clear hc0
            go_wp2_with (go_at_call 36; refine (CC.out).mono ?_; rintro e w1 ⟨rfl, hb2⟩)
            go_ret
            exact ⟨by rw [HRC.out]; rfl, by have := (HTB.out.then_ hb2).1; (repeat' (first | exact Below.refl _ _ | assumption | refine Below.drew ?_ | refine below_drewN ?_ _ | refine below_new ?_ _ | refine below_set ?_ ?_ _ | refine below_then ?_ (by assumption) | refine below_drawn ?_ (by assumption) | exact Nat.le_refl _ | omega | (simp; done) | (simp; omega)))⟩
        · obtain rfl : q = n1 := by omega
          have HFE2 := Lib.hid (show FE = firstErr ((rs.drop 0).flatten) by rw [HF.out, List.drop_eq_nil_of_le (by rw [L1.out]; exact Nat.le_refl _)]; rfl)
          clear hb hat hlt hfe HF
          go_wp2_with fail
          go_loopw [58] (fun i wr => ∃ p : Nat, p ≤ k ∧ i = .int .i64 p ∧ FE = firstErr ((rs.drop p).flatten) ∧ TB w (.cells #[.slice (some ⟨b1, off1, none⟩) q c1, .slice a2 k c2] 25) wr) (fun i _ => k - (intOf i).toNat)
          case atStart => exact ⟨0, by omega, rfl, HFE2.out, HTB.out.then_ (by (repeat' (first | exact Below.refl _ _ | assumption | refine Below.drew ?_ | refine below_drewN ?_ _ | refine below_new ?_ _ | refine below_set ?_ ?_ _ | refine below_then ?_ (by assumption) | refine below_drawn ?_ (by assumption) | exact Nat.le_refl _ | omega | (simp; done) | (simp; omega))))⟩
          case round =>
            clear HFE2 HTB x1
            obtain ⟨w5, hw5⟩ : ∃ w5, w5 = wr := ⟨_, rfl⟩
            subst hw5
            obtain ⟨p, hp, rfl, hfe, htb⟩ := hrel
            obtain ⟨hb, hat⟩ := htb
            have HTB := Lib.hid (show TB w (.cells #[.slice (some ⟨b1, off1, none⟩) q c1, .slice a2 k c2] 25) w5 from ⟨hb, hat⟩); have HF := Lib.hid hfe
            have hzw := hb.size
            by_cases hlt : p < k
            · obtain ⟨b2, off2, e2, hb2, hc2⟩ := (H2.out.below hb (Nat.le_refl _)).2.2 (by omega)
              subst e2
              obtain ⟨ai, ci, q1, q2, q3, q4⟩ := hc2 p hlt
              have HST := Lib.hid (flat_drop (RS := rs) (k := p) (by rw [L2.out]; exact hlt))
              obtain ⟨rw_, hrw⟩ : ∃ r, r = rs.getD p [] := ⟨_, rfl⟩
              rw [← hrw] at q1 q3 q4
              have HRW := Lib.hid hrw
              obtain ⟨L, hL⟩ : ∃ L, L = rw_.length := ⟨_, rfl⟩
              rw [← hL] at q1 q3 q4
              have HL := Lib.hid hL
              have hbz : b2 < w5.heap.size := by omega
              have HQ4 := Lib.hid q4
              have HF2 := Lib.hid (show FE = firstErr (rw_.drop 0 ++ (rs.drop (p + 1)).flatten) by rw [HF.out, HST.out, ← HRW.out]; rfl)
              have HTR := Lib.hid (Utf8Tabs_below HT.out hb)
              clear hc2 q4 hL hb hat hrw hfe HST HF HRW
              go_wp2_with fail
              go_loopw [64] (fun j wr => ∃ t : Nat, t ≤ L ∧ j = .int .i64 t ∧ FE = firstErr (rw_.drop t ++ (rs.drop (p + 1)).flatten) ∧ Below w5.heap.size w5 wr) (fun j _ => L - (intOf j).toNat)
              case atStart => exact ⟨0, by omega, rfl, HF2.out, by (repeat' (first | exact Below.refl _ _ | assumption | refine Below.drew ?_ | refine below_drewN ?_ _ | refine below_new ?_ _ | refine below_set ?_ ?_ _ | refine below_then ?_ (by assumption) | refine below_drawn ?_ (by assumption) | exact Nat.le_refl _ | omega | (simp; done) | (simp; omega)))⟩
              case round =>
                clear HF2
                obtain ⟨t, ht, rfl, hft, hbx⟩ := hrel
                have HFT := Lib.hid hft
                by_cases htl : t < L
                · have hsx := HQ4.out.below hbx HTB.out.1.size
                  have hzw5 := HTB.out.1.size
                  obtain ⟨bs, os, rfl, hbs, hcs⟩ := hsx.2.2.2 (by omega)
                  have x3 := hcs t htl
                  have HST := Lib.hid (first_drop (l := rw_) (m := (rs.drop (p + 1)).flatten) (q := t) (by rw [← HL.out]; exact htl))
                  obtain ⟨sx, hsx'⟩ : ∃ sx, sx = rw_.getD t ByteArray.empty := ⟨_, rfl⟩
                  rw [← hsx'] at x3
                  have hsz : sx.size ≤ 9223372036854775807 := hsx.2.2.1 _ (by rw [hsx', List.getD_eq_getElem?_getD, List.getElem?_eq_getElem (by rw [← HL.out]; exact htl)]; exact List.getElem_mem _)
                  obtain ⟨c, hc⟩ : ∃ c, c = cellErr sx := ⟨_, rfl⟩
                  have CC := Lib.hid (ref_CellError sx wr hsz (Utf8Tabs_below HTR.out hbx))
                  rw [← hc] at CC
                  have HC := Lib.hid (show FE = if c ≠ 0 then c else firstErr (rw_.drop (t + 1) ++ (rs.drop (p + 1)).flatten) by rw [HFT.out, HST.out, ← hsx', ← hc])
                  have HBX := Lib.hid hbx
                  have hzw := hbx.size
                  have hbz : bs < wr.heap.size := by omega
                  clear hsx hcs hsx' hsz hc hft hbx HST HFT
                  by_cases hc0 : c = 0
                  · have HC2 := Lib.hid (show FE = firstErr (rw_.drop (t + 1) ++ (rs.drop (p + 1)).flatten) by rw [HC.out, if_neg (by simp [hc0])])
                    subst hc0
                    go_wp2_with (go_at_call 36; refine (CC.out).mono ?_; rintro e w1 ⟨rfl, hb2⟩)
                    go_roundw
                    case rel => exact ⟨t + 1, by omega, rfl, HC2.out, by have := HBX.out; (repeat' (first | exact Below.refl _ _ | assumption | refine Below.drew ?_ | refine below_drewN ?_ _ | refine below_new ?_ _ | refine below_set ?_ ?_ _ | refine below_then ?_ (by assumption) | refine below_drawn ?_ (by assumption) | exact Nat.le_refl _ | omega | (simp; done) | (simp; omega)))⟩
                    case measure => simp [intOf]; omega
                  · have e1 : (c == 0) = false := by simpa using hc0
                    have e2 : (c != 0) = true := by simpa using hc0
                    have HRC := Lib.hid (show R = c by rw [HRR.out, HC.out, if_pos hc0, if_pos hc0])
                    clear hc0
                    go_wp2_with (go_at_call 36; refine (CC.out).mono ?_; rintro e w1 ⟨rfl, hb2⟩)
                    go_ret
                    exact ⟨by rw [HRC.out]; rfl, by have := below_then HTB.out.1 HBX.out; (repeat' (first | exact Below.refl _ _ | assumption | refine Below.drew ?_ | refine below_drewN ?_ _ | refine below_new ?_ _ | refine below_set ?_ ?_ _ | refine below_then ?_ (by assumption) | refine below_drawn ?_ (by assumption) | exact Nat.le_refl _ | omega | (simp; done) | (simp; omega)))⟩
                · obtain rfl : t = L := by omega
                  have HF3 := Lib.hid (show FE = firstErr ((rs.drop (p + 1)).flatten) by rw [HFT.out, List.drop_eq_nil_of_le (by rw [HL.out]; exact Nat.le_refl _)]; rfl)
                  have HBX := Lib.hid hbx
                  clear hft hbx HFT htl
                  go_wp2_with fail
                  go_roundw
                  case rel => exact ⟨p + 1, by omega, rfl, HF3.out, (HTB.out.then_ HBX.out).then_ (by (repeat' (first | exact Below.refl _ _ | assumption | refine Below.drew ?_ | refine below_drewN ?_ _ | refine below_new ?_ _ | refine below_set ?_ ?_ _ | refine below_then ?_ (by assumption) | refine below_drawn ?_ (by assumption) | exact Nat.le_refl _ | omega | (simp; done) | (simp; omega))))⟩
                  case measure => simp [intOf]; omega
            · obtain rfl : p = k := by omega
              have HR3 := Lib.hid (show R = headErr 7 (hd.take 0) (hd.drop 0) by
                rw [HRR.out, HF.out, List.drop_eq_nil_of_le (by rw [L2.out]; exact Nat.le_refl _)]; rfl)
              have x0 := hat.cell 0
              clear hfe hb hlt hat
              simp at x0
              go_wp2_with fail
              go_loopw [78] (fun i wr => ∃ z : Nat, z ≤ q ∧ i = .int .i64 z ∧ R = headErr 7 (hd.take z) (hd.drop z) ∧ TB w (.cells #[.slice (some ⟨b1, off1, none⟩) q c1, .slice a2 p c2] 25) wr) (fun i _ => q - (intOf i).toNat)
              case atStart => exact ⟨0, by omega, rfl, HR3.out, HTB.out.then_ (by (repeat' (first | exact Below.refl _ _ | assumption | refine Below.drew ?_ | refine below_drewN ?_ _ | refine below_new ?_ _ | refine below_set ?_ ?_ _ | refine below_then ?_ (by assumption) | refine below_drawn ?_ (by assumption) | exact Nat.le_refl _ | omega | (simp; done) | (simp; omega))))⟩
              case round =>
                clear HR3 x0 HTB
                obtain ⟨w6, hw6⟩ : ∃ w6, w6 = wr := ⟨_, rfl⟩
                subst hw6
                obtain ⟨z, hz, rfl, hrr, htb⟩ := hrel
                obtain ⟨hb, hat⟩ := htb
                have HTB := Lib.hid (show TB w (.cells #[.slice (some ⟨b1, off1, none⟩) q c1, .slice a2 p c2] 25) w6 from ⟨hb, hat⟩)
                have x0 := hat.cell 0
                have HQR := Lib.hid hrr
                have hzw := hb.size
                simp at x0
                by_cases hlt : z < q
                · have x3 := (hb.cell (p := ⟨b1, off1 + z, none⟩) hb1).trans (C1.out z hlt)
                  have hbz : b1 < w6.heap.size := by omega
                  have HST := Lib.hid (head_drop (t := 7) (l := hd) (k := z) (by rw [L1.out]; exact hlt))
                  obtain ⟨sx, hsx⟩ : ∃ sx, sx = hd.getD z ByteArray.empty := ⟨_, rfl⟩
                  rw [← hsx] at x3
                  have HC := Lib.hid (show R = if sx.size = 0 then 8 else if (hd.take z).any (fun u => decide (u = sx)) = true then 7 else headErr 7 (hd.take (z + 1)) (hd.drop (z + 1)) by rw [HQR.out, HST.out, ← hsx])
                  clear hsx hrr hb hat HST HQR
                  by_cases hs0 : sx.size = 0
                  · have HRC := Lib.hid (show R = 8 by rw [HC.out, if_pos hs0])
                    obtain rfl := str_empty sx hs0
                    clear hs0
                    go_wp2_with fail
                    go_ret
                    exact ⟨by rw [HRC.out]; rfl, by have := HTB.out.1; (repeat' (first | exact Below.refl _ _ | assumption | refine Below.drew ?_ | refine below_drewN ?_ _ | refine below_new ?_ _ | refine below_set ?_ ?_ _ | refine below_then ?_ (by assumption) | refine below_drawn ?_ (by assumption) | exact Nat.le_refl _ | omega | (simp; done) | (simp; omega)))⟩
                  · have hne := str_ne sx (by omega)
                    have HC2 := Lib.hid (show R = if ((hd.take z).drop 0).any (fun u => decide (u = sx)) = true then 7 else headErr 7 (hd.take (z + 1)) (hd.drop (z + 1)) by rw [HC.out, if_neg hs0]; rfl)
                    clear hs0 HC
                    go_wp2_with fail
                    go_loopw [90] (fun j wr => ∃ t : Nat, t ≤ z ∧ j = .int .i64 t ∧ (R = if ((hd.take z).drop t).any (fun u => decide (u = sx)) = true then 7 else headErr 7 (hd.take (z + 1)) (hd.drop (z + 1))) ∧ Below w6.heap.size w6 wr) (fun j _ => z - (intOf j).toNat)
                    case atStart => exact ⟨0, by omega, rfl, HC2.out, by (repeat' (first | exact Below.refl _ _ | assumption | refine Below.drew ?_ | refine below_drewN ?_ _ | refine below_new ?_ _ | refine below_set ?_ ?_ _ | refine below_then ?_ (by assumption) | refine below_drawn ?_ (by assumption) | exact Nat.le_refl _ | omega | (simp; done) | (simp; omega)))⟩
                    case round =>
                      clear HC2 x0 x3
                      obtain ⟨t, ht, rfl, hft, hbx⟩ := hrel
                      have HFT := Lib.hid hft
                      have HBX := Lib.hid hbx
                      by_cases htl : t < z
                      · have x3 := (hbx.cell (p := ⟨b1, off1 + t, none⟩) (Nat.lt_of_lt_of_le hb1 hzw)).trans ((HTB.out.1.cell (p := ⟨b1, off1 + t, none⟩) hb1).trans (C1.out t (by omega)))
                        have hzx := hbx.size
                        have hbx1 : b1 < wr.heap.size := by omega
                        have HST := Lib.hid (take_any (p := fun u => decide (u = sx)) htl (show z ≤ hd.length by rw [L1.out]; omega))
                        obtain ⟨ux, hux⟩ : ∃ ux, ux = hd.getD t ByteArray.empty := ⟨_, rfl⟩
                        rw [← hux] at x3
                        have HU := Lib.hid hux
                        clear hux hft hbx
                        by_cases hus : ux = sx
                        · have HRC := Lib.hid (show R = 7 by rw [HFT.out, HST.out, ← HU.out, decide_eq_true hus]; rfl)
                          subst hus
                          go_wp2_with fail
                          go_ret
                          exact ⟨by rw [HRC.out]; rfl, by have := below_then HTB.out.1 HBX.out; (repeat' (first | exact Below.refl _ _ | assumption | refine Below.drew ?_ | refine below_drewN ?_ _ | refine below_new ?_ _ | refine below_set ?_ ?_ _ | refine below_then ?_ (by assumption) | refine below_drawn ?_ (by assumption) | exact Nat.le_refl _ | omega | (simp; done) | (simp; omega)))⟩
                        · have HC3 := Lib.hid (show R = if ((hd.take z).drop (t + 1)).any (fun u => decide (u = sx)) = true then 7 else headErr 7 (hd.take (z + 1)) (hd.drop (z + 1)) by rw [HFT.out, HST.out, ← HU.out, decide_eq_false hus]; rfl)
                          have h9 : ux.data.toList ≠ sx.data.toList := fun e => hus (by rw [← str_eta ux, e, str_eta])
                          have e1 : (ux.toList == sx.toList) = false := by rw [str_list, str_list]; simpa using h9
                          have e2 : ux.toList ≠ sx.toList := by rw [str_list, str_list]; exact h9
                          clear h9
                          go_wp2_with fail
                          go_roundw
                          case rel => exact ⟨t + 1, by omega, rfl, HC3.out, by have := HBX.out; (repeat' (first | exact Below.refl _ _ | assumption | refine Below.drew ?_ | refine below_drewN ?_ _ | refine below_new ?_ _ | refine below_set ?_ ?_ _ | refine below_then ?_ (by assumption) | refine below_drawn ?_ (by assumption) | exact Nat.le_refl _ | omega | (simp; done) | (simp; omega)))⟩
                          case measure => simp [intOf]; omega
                      · obtain rfl : t = z := by omega
                        have HC3 := Lib.hid (show R = headErr 7 (hd.take (t + 1)) (hd.drop (t + 1)) by rw [HFT.out, List.drop_eq_nil_of_le (by rw [List.length_take]; omega)]; rfl)
                        clear hft hbx htl
                        go_wp2_with fail
                        go_roundw
                        case rel => exact ⟨t + 1, by omega, rfl, HC3.out, (HTB.out.then_ HBX.out).then_ (by (repeat' (first | exact Below.refl _ _ | assumption | refine Below.drew ?_ | refine below_drewN ?_ _ | refine below_new ?_ _ | refine below_set ?_ ?_ _ | refine below_then ?_ (by assumption) | refine below_drawn ?_ (by assumption) | exact Nat.le_refl _ | omega | (simp; done) | (simp; omega))))⟩
                        case measure => simp [intOf]; omega
                · obtain rfl : z = q := by omega
                  have HRC := Lib.hid (show R = 0 by rw [HQR.out, List.drop_eq_nil_of_le (by rw [L1.out]; exact Nat.le_refl _)]; rfl)
                  clear hrr hb hat hlt
                  go_wp2_with fail
                  go_ret
                  exact ⟨by rw [HRC.out]; rfl, by have := HTB.out.1; (repeat' (first | exact Below.refl _ _ | assumption | refine Below.drew ?_ | refine below_drewN ?_ _ | refine below_new ?_ _ | refine below_set ?_ ?_ _ | refine below_then ?_ (by assumption) | refine below_drawn ?_ (by assumption) | exact Nat.le_refl _ | omega | (simp; done) | (simp; omega)))⟩
end Go.Proofs.YthpiiocncdpimaaDoor
