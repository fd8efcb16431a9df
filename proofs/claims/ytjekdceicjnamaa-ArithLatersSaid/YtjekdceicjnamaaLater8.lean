/- Contract of the reference's Years.Later, downward. -/
import Derived.Test.YtjekdceicjnamaaLater6
namespace Go.Proofs.Ytjekdceicjnamaa
set_option linter.unusedVariables false
set_option maxRecDepth 100000
open Go.RowKit

set_option maxHeartbeats 16000000 in
theorem years_Later_down (w : World) (s : ByteArray) (f : Int) (C : Nat) (a1 a2 : Option Addr) (n1 c1 n2 c2 : Nat) (ms : List Mon) (ls : List Int) (g : Nat) (x yy mm : Int) (hg : MarksAt w g C ls) (h : CalAt w a1 a2 n1 n2 ms ls) (y : Int) (k : Nat) (d : Int) (N : Nat) (R : Option (Int × Nat)) (ok : CalOk s f C ms ls) (hk : k < n1) (y1 : -10000 ≤ y) (y2 : y ≤ 10000) (d1 : 1 ≤ d) (d2 : d ≤ 400) (yy1 : -10000 ≤ yy) (yy2 : yy ≤ 10000) (hN : N ≤ 10000) (hN1 : 1 ≤ N) (hmm : mm = -(N : Int)) (hR : Going ms ls C true false N (y + yy, k) R)
    (hfd : ∀ W, Below w.heap.size w W → Calls Try.prog 62 #[.agg #[.string s, .int .i64 f, .int .i64 (C : Int), .slice a1 n1 c1, .slice a2 n2 c2, .slice (some ⟨g, 0, none⟩) C C, .int .i64 (shortOf ms), .int .i64 (longOf ms), .int .i64 (daysTo (shortOf ms) (longOf ms) ls (C : Int))], .int .i64 x] W fun e w' => e = .returned (.tuple #[.agg #[.int .i64 y, .int .i64 ((k : Int) + 1), .int .i64 d], .int .i64 0]) ∧ Below W.heap.size W w') :
    Calls Try.prog 27 #[.agg #[.string s, .int .i64 f, .int .i64 (C : Int), .slice a1 n1 c1, .slice a2 n2 c2, .slice (some ⟨g, 0, none⟩) C C, .int .i64 (shortOf ms), .int .i64 (longOf ms), .int .i64 (daysTo (shortOf ms) (longOf ms) ls (C : Int))], .int .i64 x, .int .i64 yy, .int .i64 mm] w fun e w' =>  e = .returned (laterOut ms ls f C R d) ∧ Below w.heap.size w w' := by
  subst hmm
  have g1 := inB_yes yy1 yy2
  have g2 : inB (-10000) 10000 (-(N : Int)) = true := inB_yes (by omega) (by omega)
  obtain ⟨r1, r2, r3, r4⟩ := ok_n1 h ok
  have cy1 : 1 ≤ C := by have := ok.cy1; omega
  have cy2 : C ≤ 3000 := by have := ok.cy2; omega
  have L1 := Lib.hid h.1.len
  have OK := Lib.hid ok; have HR := Lib.hid hR
  clear ok hR
  have hneg : -(N : Int) < 0 := by omega
  have hN0 : 0 < N := hN1
  have H := Lib.hid h; have HG := Lib.hid hg; have HFD := Lib.hid hfd
  clear h hg hfd
  go_enter Try.func27, Try.ntmps27
  go_wp2_with fail
  refine (HFD.out _ (below_new (Below.refl _ _) _)).mono ?_
  rintro e w2 ⟨rfl, hb⟩
  have a0 := (At.new w (.cells #[.string s, .int .i64 f, .int .i64 (C : Int), .slice a1 n1 c1, .slice a2 n2 c2, .slice (some ⟨g, 0, none⟩) C C, .int .i64 (shortOf ms), .int .i64 (longOf ms), .int .i64 (daysTo (shortOf ms) (longOf ms) ls (C : Int))] 54)).then_ hb
  have b0 : Below w.heap.size w w2 := by (repeat' (first | exact Below.refl _ _ | assumption | refine Below.drew ?_ | refine below_drewN ?_ _ | refine below_new ?_ _ | refine below_set ?_ ?_ _ | refine below_then ?_ (by assumption) | refine below_drawn ?_ (by assumption) | exact Nat.le_refl _ | omega | (simp; done) | (simp; omega)))
  have hl2 := a0.lt
  clear hb
  go_wp2_with fail
  refine (ref_In _ _ _ _).mono ?_; rw [g1]; rintro e w3 ⟨rfl, rfl⟩
  go_wp2_with fail
  refine (ref_In _ _ _ _).mono ?_; rw [g2]; rintro e w3 ⟨rfl, rfl⟩
  have lt : Lt w w2.heap.size (.cells #[.string s, .int .i64 f, .int .i64 (C : Int), .slice a1 n1 c1, .slice a2 n2 c2, .slice (some ⟨g, 0, none⟩) C C, .int .i64 (shortOf ms), .int .i64 (longOf ms), .int .i64 (daysTo (shortOf ms) (longOf ms) ls (C : Int))] 54) y ((k : Int) + 1) d (w2.alloc (.cells #[.int .i64 y, .int .i64 ((k : Int) + 1), .int .i64 d] 39)) := ⟨a0.alloc _, At.new w2 _, by (repeat' (first | exact Below.refl _ _ | assumption | refine Below.drew ?_ | refine below_drewN ?_ _ | refine below_new ?_ _ | refine below_set ?_ ?_ _ | refine below_then ?_ (by assumption) | refine below_drawn ?_ (by assumption) | exact Nat.le_refl _ | omega | (simp; done) | (simp; omega)))⟩
  clear a0 b0
  generalize World.alloc w2 _ = W3 at lt ⊢
  generalize w2.heap.size = B at *
  obtain ⟨e0, e1, e2, f0, f1, f2⟩ := lt.2.1.cells
  go_wp2_with fail
  replace lt := lt.year hl2 (y + yy)
  generalize World.setCell _ _ _ = W4 at lt ⊢
  clear e0 e1 e2 f0 f1 f2
  have Y1 : -20000 ≤ y + yy := by omega
  have Y2 : y + yy ≤ 20000 := by omega
  generalize hyy : y + yy = Y at *
  clear hyy hneg g1 g2
  go_loopg [12, 14] N (fun gk t u wr => ∃ (wy : Bool) (y : Int) (k : Nat), t = .int .i64 (gk : Int) ∧ ((wy = true ∧ u = .int .i64 1) ∨ (wy = false ∧ u = .int .i64 (-1))) ∧ gk ≤ 10000 ∧ k < n1 ∧ -20000 ≤ y ∧ y ≤ 20000 ∧ Going ms ls C wy false gk (y, k) R ∧ Lt w B (.cells #[.string s, .int .i64 f, .int .i64 (C : Int), .slice a1 n1 c1, .slice a2 n2 c2, .slice (some ⟨g, 0, none⟩) C C, .int .i64 (shortOf ms), .int .i64 (longOf ms), .int .i64 (daysTo (shortOf ms) (longOf ms) ls (C : Int))] 54) y ((k : Int) + 1) d wr)
  case atStart => exact ⟨true, Y, k, rfl, .inl ⟨rfl, rfl⟩, hN, hk, by omega, by omega, HR.out, lt⟩
  case round =>
    clear lt HR hk
    obtain ⟨wy, y, k, rfl, hu, hgk, hk, yb1, yb2, hgo, lt⟩ := hrel
    rcases hu with ⟨rfl, rfl⟩ | ⟨rfl, rfl⟩
    · have HGO := Lib.hid hgo
      clear hgo
      go_wp2_with fail
      go_loopg [44] (farP ms.length true (y, k)) (fun gi _ wi => ∃ (y : Int) (k : Nat), gi = farP ms.length true (y, k) ∧ k < n1 ∧ -20000 ≤ y ∧ y ≤ 20000 ∧ Going ms ls C true false gk (y, k) R ∧ Lt w B (.cells #[.string s, .int .i64 f, .int .i64 (C : Int), .slice a1 n1 c1, .slice a2 n2 c2, .slice (some ⟨g, 0, none⟩) C C, .int .i64 (shortOf ms), .int .i64 (longOf ms), .int .i64 (daysTo (shortOf ms) (longOf ms) ls (C : Int))] 54) y ((k : Int) + 1) d wi)
      case atStart => exact ⟨y, k, rfl, hk, yb1, yb2, HGO.out, lt⟩
      case round =>
        clear lt HGO hk yb1 yb2
        obtain ⟨y, k, rfl, hk, yb1, yb2, hgo, lt⟩ := hrel
        obtain ⟨x0, x1, x2, x3, x4, x5, x6, x7, x8⟩ := lt.years
        obtain ⟨e0, e1, e2, f0, f1, f2⟩ := lt.2.1.cells
        rcases hgo.cases with ⟨hi, hn⟩ | ⟨hi, hl, hch⟩ | ⟨hi, hl, hgn⟩
        · have hy' : inB (-10000) 10000 y = false := inB_no hi
          have hfin := Lib.hid (show laterOut ms ls f C R d = .tuple #[.int .i64 0, .int .i64 3] by rw [hn]; rfl)
          clear hn hi hgo
          go_wp2_with fail
          refine (ref_In _ _ _ _).mono ?_; rw [hy']; rintro e w3 ⟨rfl, rfl⟩
          go_wp2_with fail
          refine (ref_In _ _ _ _).mono ?_; rw [hy']; rintro e w3 ⟨rfl, rfl⟩
          go_wp2_with fail
          go_ret2
          exact ⟨by rw [hfin.out]; rfl, lt.2.2⟩
        · obtain ⟨yi1, yi2⟩ := hi
          simp only at yi1 yi2
          have hy' : inB (-10000) 10000 y = true := inB_yes yi1 yi2
          clear hgo
          obtain ⟨x, hx⟩ : ∃ x, ms[k]? = some x := ⟨_, List.getElem?_eq_getElem (show k < ms.length by have := L1.out; omega)⟩
          obtain ⟨ML, hML⟩ : ∃ ML, ML = mlenOf x (flag ls (placeOf C y)) := ⟨_, rfl⟩
          have hlen : lenAt ms ls C (y, k) = ML := by rw [hML]; exact lenAt_of hx
          have HX := Lib.hid hx; have HML := Lib.hid hML
          clear hx hML
          rw [hlen] at hl
          have hl0 : (ML == 0) = false := by simp; omega
          go_wp2_with fail
          refine (ref_In _ _ _ _).mono ?_; rw [hy']; rintro e w3 ⟨rfl, rfl⟩
          go_wp2_with fail
          refine (years_Month _ s f C a1 a2 n1 c1 n2 c2 ms ls g y _ _ _ k x cy1 cy2 (by omega) (by omega) (HG.out.then_ lt.2.2) (H.out.then_ lt.2.2) r2 HX.out).mono ?_
          rw [← HML.out]
          rintro e w4 ⟨rfl, hb⟩
          replace lt := lt.step hb
          clear hb x0 x1 x2 x3 x4 x5 x6 x7 x8 e0 e1 e2 f0 f1 f2
          obtain ⟨x0, x1, x2, x3, x4, x5, x6, x7, x8⟩ := lt.years
          obtain ⟨e0, e1, e2, f0, f1, f2⟩ := lt.2.1.cells
          go_wp2_with fail
          refine (ref_In _ _ _ _).mono ?_; rw [hy']; rintro e w3 ⟨rfl, rfl⟩
          obtain hz | ⟨g', hg'⟩ : gk = 0 ∨ ∃ g, gk = g + 1 := by cases gk with | zero => exact .inl rfl | succ g => exact .inr ⟨g, rfl⟩
          · subst hz
            clear x0 x1 x2 x3 x4 x5 x6 x7 x8 e0 e1 e2 f0 f1 f2
            have hR : R = some (y, k) := hch
            have hMb := lenAt_nonneg OK.out (y, k)
            rw [hlen] at hMb
            obtain ⟨_, ML2⟩ := hMb
            have hfin := Lib.hid (show laterOut ms ls f C R d = dayOr (dnum ms ls f C y k (min d ML)) by rw [hR, ← hlen]; rfl)
            clear hch hR hlen
            obtain ⟨x0, x1, x2, x3, x4, x5, x6, x7, x8⟩ := lt.years
            obtain ⟨e0, e1, e2, f0, f1, f2⟩ := lt.2.1.cells
            go_wp2_with fail
            refine (years_Month _ s f C a1 a2 n1 c1 n2 c2 ms ls g y _ _ _ k x cy1 cy2 (by omega) (by omega) (HG.out.then_ lt.2.2) (H.out.then_ lt.2.2) r2 HX.out).mono ?_
            rw [← HML.out]
            rintro e w4 ⟨rfl, hb⟩
            replace lt := lt.step hb
            clear hb x0 x1 x2 x3 x4 x5 x6 x7 x8 e0 e1 e2 f0 f1 f2
            obtain ⟨x0, x1, x2, x3, x4, x5, x6, x7, x8⟩ := lt.years
            obtain ⟨e0, e1, e2, f0, f1, f2⟩ := lt.2.1.cells
            by_cases hdm : d ≤ ML
            · go_wp2_with fail
              rw [show min d ML = d by omega] at hfin
              have hd1 : inB 1 (mlenOf x (flag ls (placeOf C y))) d = true := by rw [← HML.out]; exact inB_yes (by omega) (by omega)
              have hcon := years_ToDay_ok w4 s f C a1 a2 n1 c1 n2 c2 ms ls g y k d x OK.out yi1 yi2 (HG.out.then_ lt.2.2) (H.out.then_ lt.2.2) HX.out hd1
              generalize dnum ms ls f C y k d = D at hfin hcon
              clear e0 e1 e2 f0 f1 f2 x0 x1 x2 x3 x4 x5 x6 x7 x8
              rcases inB_cases (-4000000) 4000000 D with ⟨hd, _⟩ | ⟨hd, _⟩
              · rw [show dayOr D = .tuple #[.int .i64 D, .int .i64 0] from if_pos hd] at hfin hcon
                refine hcon.mono ?_
                rintro e w8 ⟨rfl, hb⟩
                go_wp2_with fail
                go_ret2
                exact ⟨by rw [hfin.out]; rfl, below_then lt.2.2 hb⟩
              · rw [show dayOr D = .tuple #[.int .i64 0, .int .i64 3] from if_neg (by rw [hd]; simp)] at hfin hcon
                refine hcon.mono ?_
                rintro e w8 ⟨rfl, hb⟩
                go_wp2_with fail
                go_ret2
                exact ⟨by rw [hfin.out]; rfl, below_then lt.2.2 hb⟩
            · have hdm' : ML < d := by omega
              go_wp2_with fail
              replace lt := lt.day hl2 ML
              rw [show min d ML = ML by omega] at hfin
              generalize World.setCell _ _ _ = W7 at lt ⊢
              have hd1 : inB 1 (mlenOf x (flag ls (placeOf C y))) ML = true := by rw [← HML.out]; exact inB_yes (by omega) (by omega)
              have hcon := years_ToDay_ok W7 s f C a1 a2 n1 c1 n2 c2 ms ls g y k ML x OK.out yi1 yi2 (HG.out.then_ lt.2.2) (H.out.then_ lt.2.2) HX.out hd1
              generalize dnum ms ls f C y k ML = D at hfin hcon
              clear e0 e1 e2 f0 f1 f2 x0 x1 x2 x3 x4 x5 x6 x7 x8
              rcases inB_cases (-4000000) 4000000 D with ⟨hd, _⟩ | ⟨hd, _⟩
              · rw [show dayOr D = .tuple #[.int .i64 D, .int .i64 0] from if_pos hd] at hfin hcon
                refine hcon.mono ?_
                rintro e w8 ⟨rfl, hb⟩
                go_wp2_with fail
                go_ret2
                exact ⟨by rw [hfin.out]; rfl, below_then lt.2.2 hb⟩
              · rw [show dayOr D = .tuple #[.int .i64 0, .int .i64 3] from if_neg (by rw [hd]; simp)] at hfin hcon
                refine hcon.mono ?_
                rintro e w8 ⟨rfl, hb⟩
                go_wp2_with fail
                go_ret2
                exact ⟨by rw [hfin.out]; rfl, below_then lt.2.2 hb⟩
          · subst hg'
            have hz' : (((g' + 1 : Nat) : Int) == 0) = false := by simp; omega
            have HGN := Lib.hid (show Going ms ls C false false g' (stepP ms.length false (y, k)) R from hch)
            clear hch hlen
            obtain ⟨r, hr⟩ : ∃ r, stepP n1 false (y, k) = r := ⟨_, rfl⟩
            have hrin := stepP_in (n := n1) (up := false) (p := (y, k)) hk
            have hryr := stepP_year (n := n1) (up := false) (p := (y, k))
            rw [hr] at hrin hryr
            simp only at hryr
            obtain ⟨ry1, ry2⟩ := hryr
            have HR' := Lib.hid hr
            clear hr
            go_wp2_with fail
            refine (years_step_down _ s f C a1 a2 n1 c1 n2 c2 ms ls g B y k d r HR'.out hk r2 (by omega) (by omega) lt.2.1).mono ?_
            rintro e w5 ⟨rfl, hda, hkp⟩
            replace lt := lt.stepped hl2 hda hkp
            clear x0 x1 x2 x3 x4 x5 x6 x7 x8 e0 e1 e2 f0 f1 f2
            clear hda hkp
            go_wp2_with fail
            go_roundg g'
            case rel => exact ⟨false, r.1, r.2, by go_num, .inr ⟨rfl, rfl⟩, by omega, hrin, by omega, by omega, by have := HGN.out; rw [L1.out, HR'.out] at this; exact this, lt⟩
            case measure => omega
        · have hfar := farP_step (n := ms.length) (up := true) (p := (y, k)) (by have := L1.out; simp only; omega) hi
          obtain ⟨yi1, yi2⟩ := hi
          simp only at yi1 yi2
          have hy' : inB (-10000) 10000 y = true := inB_yes yi1 yi2
          have HGN := Lib.hid hgn; have HFAR := Lib.hid hfar
          clear hgo hgn hfar
          obtain ⟨x, hx⟩ : ∃ x, ms[k]? = some x := ⟨_, List.getElem?_eq_getElem (show k < ms.length by have := L1.out; omega)⟩
          obtain ⟨ML, hML⟩ : ∃ ML, ML = mlenOf x (flag ls (placeOf C y)) := ⟨_, rfl⟩
          have hlen : lenAt ms ls C (y, k) = ML := by rw [hML]; exact lenAt_of hx
          have HX := Lib.hid hx; have HML := Lib.hid hML
          clear hx hML
          rw [hlen] at hl
          have hl0 : (ML == 0) = true := by simp; omega
          clear hlen
          obtain ⟨r, hr⟩ : ∃ r, stepP n1 true (y, k) = r := ⟨_, rfl⟩
          have hrin := stepP_in (n := n1) (up := true) (p := (y, k)) hk
          have hryr := stepP_year (n := n1) (up := true) (p := (y, k))
          rw [hr] at hrin hryr
          simp only at hryr
          obtain ⟨ry1, ry2⟩ := hryr
          have HR' := Lib.hid hr
          clear hr
          go_wp2_with fail
          refine (ref_In _ _ _ _).mono ?_; rw [hy']; rintro e w3 ⟨rfl, rfl⟩
          go_wp2_with fail
          refine (years_Month _ s f C a1 a2 n1 c1 n2 c2 ms ls g y _ _ _ k x cy1 cy2 (by omega) (by omega) (HG.out.then_ lt.2.2) (H.out.then_ lt.2.2) r2 HX.out).mono ?_
          rw [← HML.out]
          rintro e w4 ⟨rfl, hb⟩
          replace lt := lt.step hb
          clear hb x0 x1 x2 x3 x4 x5 x6 x7 x8 e0 e1 e2 f0 f1 f2
          obtain ⟨x0, x1, x2, x3, x4, x5, x6, x7, x8⟩ := lt.years
          obtain ⟨e0, e1, e2, f0, f1, f2⟩ := lt.2.1.cells
          go_wp2_with fail
          refine (years_step_up _ s f C a1 a2 n1 c1 n2 c2 ms ls g B y k d r HR'.out hk r2 (by omega) (by omega) lt.2.1).mono ?_
          rintro e w5 ⟨rfl, hda, hkp⟩
          replace lt := lt.stepped hl2 hda hkp
          clear x0 x1 x2 x3 x4 x5 x6 x7 x8 e0 e1 e2 f0 f1 f2
          clear hda hkp
          go_wp2_with fail
          go_roundg (farP ms.length true r)
          case rel => exact ⟨r.1, r.2, rfl, hrin, by omega, by omega, by have := HGN.out; rw [L1.out, HR'.out] at this; exact this, lt⟩
          case measure => have := HFAR.out; rw [L1.out, HR'.out] at this; rw [L1.out]; exact this
    · have HGO := Lib.hid hgo
      clear hgo
      go_wp2_with fail
      go_loopg [44] (farP ms.length false (y, k)) (fun gi _ wi => ∃ (y : Int) (k : Nat), gi = farP ms.length false (y, k) ∧ k < n1 ∧ -20000 ≤ y ∧ y ≤ 20000 ∧ Going ms ls C false false gk (y, k) R ∧ Lt w B (.cells #[.string s, .int .i64 f, .int .i64 (C : Int), .slice a1 n1 c1, .slice a2 n2 c2, .slice (some ⟨g, 0, none⟩) C C, .int .i64 (shortOf ms), .int .i64 (longOf ms), .int .i64 (daysTo (shortOf ms) (longOf ms) ls (C : Int))] 54) y ((k : Int) + 1) d wi)
      case atStart => exact ⟨y, k, rfl, hk, yb1, yb2, HGO.out, lt⟩
      case round =>
        clear lt HGO hk yb1 yb2
        obtain ⟨y, k, rfl, hk, yb1, yb2, hgo, lt⟩ := hrel
        obtain ⟨x0, x1, x2, x3, x4, x5, x6, x7, x8⟩ := lt.years
        obtain ⟨e0, e1, e2, f0, f1, f2⟩ := lt.2.1.cells
        rcases hgo.cases with ⟨hi, hn⟩ | ⟨hi, hl, hch⟩ | ⟨hi, hl, hgn⟩
        · have hy' : inB (-10000) 10000 y = false := inB_no hi
          have hfin := Lib.hid (show laterOut ms ls f C R d = .tuple #[.int .i64 0, .int .i64 3] by rw [hn]; rfl)
          clear hn hi hgo
          go_wp2_with fail
          refine (ref_In _ _ _ _).mono ?_; rw [hy']; rintro e w3 ⟨rfl, rfl⟩
          go_wp2_with fail
          refine (ref_In _ _ _ _).mono ?_; rw [hy']; rintro e w3 ⟨rfl, rfl⟩
          go_wp2_with fail
          go_ret2
          exact ⟨by rw [hfin.out]; rfl, lt.2.2⟩
        · obtain ⟨yi1, yi2⟩ := hi
          simp only at yi1 yi2
          have hy' : inB (-10000) 10000 y = true := inB_yes yi1 yi2
          clear hgo
          obtain ⟨x, hx⟩ : ∃ x, ms[k]? = some x := ⟨_, List.getElem?_eq_getElem (show k < ms.length by have := L1.out; omega)⟩
          obtain ⟨ML, hML⟩ : ∃ ML, ML = mlenOf x (flag ls (placeOf C y)) := ⟨_, rfl⟩
          have hlen : lenAt ms ls C (y, k) = ML := by rw [hML]; exact lenAt_of hx
          have HX := Lib.hid hx; have HML := Lib.hid hML
          clear hx hML
          rw [hlen] at hl
          have hl0 : (ML == 0) = false := by simp; omega
          go_wp2_with fail
          refine (ref_In _ _ _ _).mono ?_; rw [hy']; rintro e w3 ⟨rfl, rfl⟩
          go_wp2_with fail
          refine (years_Month _ s f C a1 a2 n1 c1 n2 c2 ms ls g y _ _ _ k x cy1 cy2 (by omega) (by omega) (HG.out.then_ lt.2.2) (H.out.then_ lt.2.2) r2 HX.out).mono ?_
          rw [← HML.out]
          rintro e w4 ⟨rfl, hb⟩
          replace lt := lt.step hb
          clear hb x0 x1 x2 x3 x4 x5 x6 x7 x8 e0 e1 e2 f0 f1 f2
          obtain ⟨x0, x1, x2, x3, x4, x5, x6, x7, x8⟩ := lt.years
          obtain ⟨e0, e1, e2, f0, f1, f2⟩ := lt.2.1.cells
          go_wp2_with fail
          refine (ref_In _ _ _ _).mono ?_; rw [hy']; rintro e w3 ⟨rfl, rfl⟩
          obtain hz | ⟨g', hg'⟩ : gk = 0 ∨ ∃ g, gk = g + 1 := by cases gk with | zero => exact .inl rfl | succ g => exact .inr ⟨g, rfl⟩
          · subst hz
            clear x0 x1 x2 x3 x4 x5 x6 x7 x8 e0 e1 e2 f0 f1 f2
            have hR : R = some (y, k) := hch
            have hMb := lenAt_nonneg OK.out (y, k)
            rw [hlen] at hMb
            obtain ⟨_, ML2⟩ := hMb
            have hfin := Lib.hid (show laterOut ms ls f C R d = dayOr (dnum ms ls f C y k (min d ML)) by rw [hR, ← hlen]; rfl)
            clear hch hR hlen
            obtain ⟨x0, x1, x2, x3, x4, x5, x6, x7, x8⟩ := lt.years
            obtain ⟨e0, e1, e2, f0, f1, f2⟩ := lt.2.1.cells
            go_wp2_with fail
            refine (years_Month _ s f C a1 a2 n1 c1 n2 c2 ms ls g y _ _ _ k x cy1 cy2 (by omega) (by omega) (HG.out.then_ lt.2.2) (H.out.then_ lt.2.2) r2 HX.out).mono ?_
            rw [← HML.out]
            rintro e w4 ⟨rfl, hb⟩
            replace lt := lt.step hb
            clear hb x0 x1 x2 x3 x4 x5 x6 x7 x8 e0 e1 e2 f0 f1 f2
            obtain ⟨x0, x1, x2, x3, x4, x5, x6, x7, x8⟩ := lt.years
            obtain ⟨e0, e1, e2, f0, f1, f2⟩ := lt.2.1.cells
            by_cases hdm : d ≤ ML
            · go_wp2_with fail
              rw [show min d ML = d by omega] at hfin
              have hd1 : inB 1 (mlenOf x (flag ls (placeOf C y))) d = true := by rw [← HML.out]; exact inB_yes (by omega) (by omega)
              have hcon := years_ToDay_ok w4 s f C a1 a2 n1 c1 n2 c2 ms ls g y k d x OK.out yi1 yi2 (HG.out.then_ lt.2.2) (H.out.then_ lt.2.2) HX.out hd1
              generalize dnum ms ls f C y k d = D at hfin hcon
              clear e0 e1 e2 f0 f1 f2 x0 x1 x2 x3 x4 x5 x6 x7 x8
              rcases inB_cases (-4000000) 4000000 D with ⟨hd, _⟩ | ⟨hd, _⟩
              · rw [show dayOr D = .tuple #[.int .i64 D, .int .i64 0] from if_pos hd] at hfin hcon
                refine hcon.mono ?_
                rintro e w8 ⟨rfl, hb⟩
                go_wp2_with fail
                go_ret2
                exact ⟨by rw [hfin.out]; rfl, below_then lt.2.2 hb⟩
              · rw [show dayOr D = .tuple #[.int .i64 0, .int .i64 3] from if_neg (by rw [hd]; simp)] at hfin hcon
                refine hcon.mono ?_
                rintro e w8 ⟨rfl, hb⟩
                go_wp2_with fail
                go_ret2
                exact ⟨by rw [hfin.out]; rfl, below_then lt.2.2 hb⟩
            · have hdm' : ML < d := by omega
              go_wp2_with fail
              replace lt := lt.day hl2 ML
              rw [show min d ML = ML by omega] at hfin
              generalize World.setCell _ _ _ = W7 at lt ⊢
              have hd1 : inB 1 (mlenOf x (flag ls (placeOf C y))) ML = true := by rw [← HML.out]; exact inB_yes (by omega) (by omega)
              have hcon := years_ToDay_ok W7 s f C a1 a2 n1 c1 n2 c2 ms ls g y k ML x OK.out yi1 yi2 (HG.out.then_ lt.2.2) (H.out.then_ lt.2.2) HX.out hd1
              generalize dnum ms ls f C y k ML = D at hfin hcon
              clear e0 e1 e2 f0 f1 f2 x0 x1 x2 x3 x4 x5 x6 x7 x8
              rcases inB_cases (-4000000) 4000000 D with ⟨hd, _⟩ | ⟨hd, _⟩
              · rw [show dayOr D = .tuple #[.int .i64 D, .int .i64 0] from if_pos hd] at hfin hcon
                refine hcon.mono ?_
                rintro e w8 ⟨rfl, hb⟩
                go_wp2_with fail
                go_ret2
                exact ⟨by rw [hfin.out]; rfl, below_then lt.2.2 hb⟩
              · rw [show dayOr D = .tuple #[.int .i64 0, .int .i64 3] from if_neg (by rw [hd]; simp)] at hfin hcon
                refine hcon.mono ?_
                rintro e w8 ⟨rfl, hb⟩
                go_wp2_with fail
                go_ret2
                exact ⟨by rw [hfin.out]; rfl, below_then lt.2.2 hb⟩
          · subst hg'
            have hz' : (((g' + 1 : Nat) : Int) == 0) = false := by simp; omega
            have HGN := Lib.hid (show Going ms ls C false false g' (stepP ms.length false (y, k)) R from hch)
            clear hch hlen
            obtain ⟨r, hr⟩ : ∃ r, stepP n1 false (y, k) = r := ⟨_, rfl⟩
            have hrin := stepP_in (n := n1) (up := false) (p := (y, k)) hk
            have hryr := stepP_year (n := n1) (up := false) (p := (y, k))
            rw [hr] at hrin hryr
            simp only at hryr
            obtain ⟨ry1, ry2⟩ := hryr
            have HR' := Lib.hid hr
            clear hr
            go_wp2_with fail
            refine (years_step_down _ s f C a1 a2 n1 c1 n2 c2 ms ls g B y k d r HR'.out hk r2 (by omega) (by omega) lt.2.1).mono ?_
            rintro e w5 ⟨rfl, hda, hkp⟩
            replace lt := lt.stepped hl2 hda hkp
            clear x0 x1 x2 x3 x4 x5 x6 x7 x8 e0 e1 e2 f0 f1 f2
            clear hda hkp
            go_wp2_with fail
            go_roundg g'
            case rel => exact ⟨false, r.1, r.2, by go_num, .inr ⟨rfl, rfl⟩, by omega, hrin, by omega, by omega, by have := HGN.out; rw [L1.out, HR'.out] at this; exact this, lt⟩
            case measure => omega
        · have hfar := farP_step (n := ms.length) (up := false) (p := (y, k)) (by have := L1.out; simp only; omega) hi
          obtain ⟨yi1, yi2⟩ := hi
          simp only at yi1 yi2
          have hy' : inB (-10000) 10000 y = true := inB_yes yi1 yi2
          have HGN := Lib.hid hgn; have HFAR := Lib.hid hfar
          clear hgo hgn hfar
          obtain ⟨x, hx⟩ : ∃ x, ms[k]? = some x := ⟨_, List.getElem?_eq_getElem (show k < ms.length by have := L1.out; omega)⟩
          obtain ⟨ML, hML⟩ : ∃ ML, ML = mlenOf x (flag ls (placeOf C y)) := ⟨_, rfl⟩
          have hlen : lenAt ms ls C (y, k) = ML := by rw [hML]; exact lenAt_of hx
          have HX := Lib.hid hx; have HML := Lib.hid hML
          clear hx hML
          rw [hlen] at hl
          have hl0 : (ML == 0) = true := by simp; omega
          clear hlen
          obtain ⟨r, hr⟩ : ∃ r, stepP n1 false (y, k) = r := ⟨_, rfl⟩
          have hrin := stepP_in (n := n1) (up := false) (p := (y, k)) hk
          have hryr := stepP_year (n := n1) (up := false) (p := (y, k))
          rw [hr] at hrin hryr
          simp only at hryr
          obtain ⟨ry1, ry2⟩ := hryr
          have HR' := Lib.hid hr
          clear hr
          go_wp2_with fail
          refine (ref_In _ _ _ _).mono ?_; rw [hy']; rintro e w3 ⟨rfl, rfl⟩
          go_wp2_with fail
          refine (years_Month _ s f C a1 a2 n1 c1 n2 c2 ms ls g y _ _ _ k x cy1 cy2 (by omega) (by omega) (HG.out.then_ lt.2.2) (H.out.then_ lt.2.2) r2 HX.out).mono ?_
          rw [← HML.out]
          rintro e w4 ⟨rfl, hb⟩
          replace lt := lt.step hb
          clear hb x0 x1 x2 x3 x4 x5 x6 x7 x8 e0 e1 e2 f0 f1 f2
          obtain ⟨x0, x1, x2, x3, x4, x5, x6, x7, x8⟩ := lt.years
          obtain ⟨e0, e1, e2, f0, f1, f2⟩ := lt.2.1.cells
          go_wp2_with fail
          refine (years_step_down _ s f C a1 a2 n1 c1 n2 c2 ms ls g B y k d r HR'.out hk r2 (by omega) (by omega) lt.2.1).mono ?_
          rintro e w5 ⟨rfl, hda, hkp⟩
          replace lt := lt.stepped hl2 hda hkp
          clear x0 x1 x2 x3 x4 x5 x6 x7 x8 e0 e1 e2 f0 f1 f2
          clear hda hkp
          go_wp2_with fail
          go_roundg (farP ms.length false r)
          case rel => exact ⟨r.1, r.2, rfl, hrin, by omega, by omega, by have := HGN.out; rw [L1.out, HR'.out] at this; exact this, lt⟩
          case measure => have := HFAR.out; rw [L1.out, HR'.out] at this; rw [L1.out]; exact this
end Go.Proofs.Ytjekdceicjnamaa
