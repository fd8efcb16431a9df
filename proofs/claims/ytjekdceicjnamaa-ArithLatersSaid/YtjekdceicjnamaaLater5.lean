/- Contract of arith.Later, downward. -/
import Derived.Test.YtjekdceicjnamaaLater3
namespace Go.Proofs.Ytjekdceicjnamaa
set_option linter.unusedVariables false
set_option maxRecDepth 100000
open Go.RowKit

set_option maxHeartbeats 8000000 in
theorem arith_Later_down (w : World) (s : ByteArray) (f c : Int) (a1 a2 : Option Addr) (n1 c1 n2 c2 : Nat) (ms : List Mon) (ls : List Int) (x yy mm : Int) (hs : s.size ≤ 9223372036854775807) (k1 : n1 ≤ c1) (h : CalAt w a1 a2 n1 n2 ms ls) (q : calErr s f c ms ls = 0) (y : Int) (k : Nat) (d : Int) (N : Nat) (R : Option (Int × Nat)) (hk : k < n1) (y1 : -10000 ≤ y) (y2 : y ≤ 10000) (d1 : 1 ≤ d) (d2 : d ≤ 400) (yy1 : -10000 ≤ yy) (yy2 : yy ≤ 10000) (hN : N ≤ 10000) (hmm : mm = -(N : Int)) (hR : Going ms ls c true false N (y + yy, k) R)
    (hfd : ∀ W, Below w.heap.size w W → Calls Try.prog 55 #[.agg #[.string s, .int .i64 f, .int .i64 c, .slice a1 n1 c1, .slice a2 n2 c2], .int .i64 x] W fun e w' => e = .returned (.tuple #[.agg #[.int .i64 y, .int .i64 ((k : Int) + 1), .int .i64 d], .int .i64 0]) ∧ Below W.heap.size W w') :
    Calls Try.prog 23 #[.agg #[.string s, .int .i64 f, .int .i64 c, .slice a1 n1 c1, .slice a2 n2 c2], .int .i64 x, .int .i64 yy, .int .i64 mm] w fun e w' =>  e = .returned (laterOut ms ls f c R d) ∧ Below w.heap.size w w' := by
  subst hmm
  have g1 := inB_yes yy1 yy2
  have g2 : inB (-10000) 10000 (-(N : Int)) = true := inB_yes (by omega) (by omega)
  have ok := calOk_of q
  obtain ⟨r1, r2, r3, r4⟩ := ok_n1 h ok
  have L1 := Lib.hid h.1.len
  have OK := Lib.hid ok; have HR := Lib.hid hR
  clear ok hR
  have H := Lib.hid h; have HFD := Lib.hid hfd; have HE := Lib.hid q
  clear h hfd q
  go_enter Try.func23, Try.ntmps23
  go_wp2_with fail
  refine (compile_Check _ _ _ _ _ _ _ _ _ _ ms ls hs k1 (H.out.alloc _).1 (H.out.alloc _).2).mono ?_; rw [HE.out]; rintro e w1 ⟨rfl, hb⟩
  have a0 := (At.new w (.cells #[.string s, .int .i64 f, .int .i64 c, .slice a1 n1 c1, .slice a2 n2 c2] 47)).then_ hb
  have b0 : Below w.heap.size w w1 := by (repeat' (first | exact Below.refl _ _ | assumption | refine Below.drew ?_ | refine below_drewN ?_ _ | refine below_new ?_ _ | refine below_set ?_ ?_ _ | refine below_then ?_ (by assumption) | refine below_drawn ?_ (by assumption) | exact Nat.le_refl _ | omega | (simp; done) | (simp; omega)))
  have hl1 := a0.lt
  clear hb
  have x0 := a0.cell 0; have x1 := a0.cell 1; have x2 := a0.cell 2; have x3 := a0.cell 3; have x4 := a0.cell 4; simp at x0 x1 x2 x3 x4
  go_wp2_with fail
  refine (HFD.out _ b0).mono ?_
  rintro e w2 ⟨rfl, hb⟩
  replace a0 := a0.then_ hb
  replace b0 := below_then b0 hb
  have hl2 := a0.lt
  clear hb x0 x1 x2 x3 x4 hl1
  go_wp2_with fail
  refine (arith_isYear _ _).mono ?_; rw [g1]; rintro e w3 ⟨rfl, rfl⟩
  go_wp2_with fail
  refine (arith_isYear _ _).mono ?_; rw [g2]; rintro e w3 ⟨rfl, rfl⟩
  have lt : Lt w w2.heap.size (.cells #[.string s, .int .i64 f, .int .i64 c, .slice a1 n1 c1, .slice a2 n2 c2] 47) y ((k : Int) + 1) d (w2.alloc (.cells #[.int .i64 y, .int .i64 ((k : Int) + 1), .int .i64 d] 39)) := ⟨a0.alloc _, At.new w2 _, by (repeat' (first | exact Below.refl _ _ | assumption | refine Below.drew ?_ | refine below_drewN ?_ _ | refine below_new ?_ _ | refine below_set ?_ ?_ _ | refine below_then ?_ (by assumption) | refine below_drawn ?_ (by assumption) | exact Nat.le_refl _ | omega | (simp; done) | (simp; omega)))⟩
  clear a0 b0
  generalize World.alloc w2 _ = W3 at lt ⊢
  generalize w2.heap.size = B at *
  obtain ⟨e0, e1, e2, f0, f1, f2⟩ := lt.2.1.cells
  go_wp2_with fail
  replace lt := lt.year hl2 (y + yy)
  generalize World.setCell _ _ _ = W4 at lt ⊢
  clear e0 e1 e2 f0 f1 f2
  generalize hyy : y + yy = Y at *
  clear hyy
  rcases HR.out.cases with ⟨hi, hn⟩ | hgo
  · have hy' : inB (-10000) 10000 Y = false := inB_no hi
    have hfin := Lib.hid (show laterOut ms ls f c R d = .tuple #[.int .i64 0, .int .i64 3] by rw [hn]; rfl)
    clear hn hi
    refine (arith_isYear _ _).mono ?_; rw [hy']; rintro e w3 ⟨rfl, rfl⟩
    go_wp2_with fail
    go_ret2
    exact ⟨by rw [hfin.out]; rfl, lt.2.2⟩
  have hiy : InP (Y, k) := by rcases hgo with ⟨a, _⟩ | ⟨a, _⟩ <;> exact a
  obtain ⟨yi1, yi2⟩ := hiy
  simp only at yi1 yi2
  have hy' : inB (-10000) 10000 Y = true := inB_yes yi1 yi2
  have HGO := Lib.hid hgo
  clear hgo HR
  refine (arith_isYear _ _).mono ?_; rw [hy']; rintro e w3 ⟨rfl, rfl⟩
  obtain ⟨x, hx⟩ : ∃ x, ms[k]? = some x := ⟨_, List.getElem?_eq_getElem (show k < ms.length by have := L1.out; omega)⟩
  have hlen : lenAt ms ls c (Y, k) = mlenOf x (flag ls (placeOf c Y)) := lenAt_of hx
  obtain ⟨ML, hML⟩ : ∃ ML, ML = mlenOf x (flag ls (placeOf c Y)) := ⟨_, rfl⟩
  rw [← hML] at hlen
  have HX := Lib.hid hx; have HML := Lib.hid hML; have HLEN := Lib.hid hlen
  clear hx hML hlen
  obtain ⟨x0, x1, x2, x3, x4⟩ := lt.cal
  obtain ⟨e0, e1, e2, f0, f1, f2⟩ := lt.2.1.cells
  go_wp2_with fail
  refine (arith_length _ _ _ _ _ _ _ _ _ _ ms ls Y k x OK.out.cy1 OK.out.cy2 OK.out.sorted r3 (by omega) (by omega) (H.out.then_ lt.2.2) r2 HX.out).mono ?_
  rw [← HML.out]
  rintro e w4 ⟨rfl, hb⟩
  replace lt := lt.step hb
  clear hb x0 x1 x2 x3 x4 e0 e1 e2 f0 f1 f2
  go_upto_if 51 with (fail)
  go_cut [13] from 45 (fun t wx => ∃ (b : Bool) (y m : Int), t = .bool b ∧ St ms ls c false n1 R b N y m ∧ Lt w B (.cells #[.string s, .int .i64 f, .int .i64 c, .slice a1 n1 c1, .slice a2 n2 c2] 47) y m d wx)
  case first =>
    rcases HGO.out with ⟨_, hl, hch⟩ | ⟨_, hl, hgn⟩
    · rw [HLEN.out] at hl
      have hl0 : (ML == 0) = false := by simp; omega
      have HCH := Lib.hid hch
      clear hch
      go_wp2_with fail
      go_meet
      case rel => exact ⟨true, Y, (k : Int) + 1, rfl, .inl ⟨rfl, k, rfl, hk, ⟨yi1, yi2⟩, by rw [HLEN.out]; exact hl, HCH.out⟩, lt⟩
    · rw [HLEN.out] at hl
      have hl0 : (ML == 0) = true := by simp; omega
      obtain ⟨q, hsq, hqR⟩ := hgn.next
      have HSQ := Lib.hid hsq; have HQR := Lib.hid hqR
      clear hgn hsq hqR hl
      obtain ⟨x0, x1, x2, x3, x4⟩ := lt.cal
      obtain ⟨e0, e1, e2, f0, f1, f2⟩ := lt.2.1.cells
      go_wp2_with fail
      refine (arith_move_up _ _ _ _ _ _ _ _ _ _ ms ls Y k d q OK.out hk yi1 yi2 (H.out.then_ lt.2.2) HSQ.out).mono ?_
      rintro e w5 ⟨⟨y', m', rfl, hym⟩, hb⟩
      replace lt := lt.step hb
      have HYM := Lib.hid hym
      have HSTM := Lib.hid (show St ms ls c false n1 R q.isSome N y' m' from St.of_move (stepP_in (by have := L1.out; simp only; omega)) L1.out HSQ.out HQR.out HYM.out)
      clear hb x0 x1 x2 x3 x4 e0 e1 e2 f0 f1 f2 hym HSQ HQR HYM
      obtain ⟨e0, e1, e2, f0, f1, f2⟩ := lt.2.1.cells
      generalize q.isSome = qb at *
      go_wp2_with fail
      replace lt := lt.all hl2 y' m' d
      go_meet
      case rel => exact ⟨qb, y', m', rfl, HSTM.out, lt⟩
  case rest =>
  obtain ⟨b, y, m, rfl, hst, lt'⟩ := hcut
  clear lt HGO hy' yi1 yi2 y1 y2 hk
  have lt := lt'
  clear lt'
  have HST := Lib.hid hst
  clear hst
  cases b with
  | false =>
    have hn : R = none := by rcases HST.out with ⟨h, _⟩ | ⟨_, h⟩ <;> first | exact h | cases h
    have hfin := Lib.hid (show laterOut ms ls f c R d = .tuple #[.int .i64 0, .int .i64 3] by rw [hn]; rfl)
    clear hn
    go_wp2_with fail
    refine wp_loop_rounds 1 ?_; rw [rounds_succ]
    go_wp2_with fail
    refine wp_loop_rounds 1 ?_; rw [rounds_succ]
    go_wp2_with fail
    go_ret2
    exact ⟨by rw [hfin.out]; rfl, lt.2.2⟩
  | true =>
    have hneg : ¬ (0 < -(N : Int)) := by omega
    go_wp2_with fail
    refine wp_loop_rounds 1 ?_; rw [rounds_succ]
    go_wp2_with fail
    go_loopg [3, 13] N (fun g t u wr => ∃ (b : Bool) (y m mm : Int), t = .int .i64 mm ∧ u = .bool b ∧ (b = true → mm = -(g : Int)) ∧ -10000 ≤ mm ∧ mm ≤ 10000 ∧ St ms ls c false n1 R b g y m ∧ Lt w B (.cells #[.string s, .int .i64 f, .int .i64 c, .slice a1 n1 c1, .slice a2 n2 c2] 47) y m d wr)
    case atStart => exact ⟨true, y, m, -(N : Int), rfl, rfl, fun _ => rfl, by omega, by omega, HST.out, lt⟩
    case round =>
      clear lt HST
      obtain ⟨b, y, m, mm, rfl, rfl, hmm, m1, m2, hst, lt⟩ := hrel
      rcases hst with ⟨rfl, k, rfl, hk, hi, hl, hch⟩ | ⟨rfl, hn⟩
      case inr =>
        have hfin := Lib.hid (show laterOut ms ls f c R d = .tuple #[.int .i64 0, .int .i64 3] by rw [hn]; rfl)
        clear hn
        go_wp2_with fail
        go_ret2
        exact ⟨by rw [hfin.out]; rfl, lt.2.2⟩
      obtain rfl : mm = -(gk : Int) := hmm rfl
      clear hmm
      obtain hz | ⟨g, rfl⟩ : gk = 0 ∨ ∃ g, gk = g + 1 := by cases gk with | zero => exact .inl rfl | succ g => exact .inr ⟨g, rfl⟩
      · subst hz
        have hR : R = some (y, k) := hch
        obtain ⟨yi1, yi2⟩ := hi
        simp only at yi1 yi2
        obtain ⟨x, hx⟩ : ∃ x, ms[k]? = some x := ⟨_, List.getElem?_eq_getElem (show k < ms.length by have := L1.out; omega)⟩
        obtain ⟨ML, hML⟩ : ∃ ML, ML = mlenOf x (flag ls (placeOf c y)) := ⟨_, rfl⟩
        have hlen : lenAt ms ls c (y, k) = ML := by rw [hML]; exact lenAt_of hx
        rw [hlen] at hl
        have hMb := lenAt_nonneg OK.out (y, k)
        rw [hlen] at hMb
        obtain ⟨_, ML2⟩ := hMb
        have hfin := Lib.hid (show laterOut ms ls f c R d = dayOr (dnum ms ls f c y k (min d ML)) by rw [hR, ← hlen]; rfl)
        have HX := Lib.hid hx; have HML := Lib.hid hML
        clear hx hML hlen hch hR
        go_wp2_with fail
        have hBl := At.lt lt.2.1
        by_cases hdm : d ≤ ML
        · (refine region_class_tail 10 (Lt w B (.cells #[.string s, .int .i64 f, .int .i64 c, .slice a1 n1 c1, .slice a2 n2 c2] 47) y ((k : Int) + 1) d) (by kernel_rfl) (by kernel_rfl) (lt.drew) ?_; simp only [List.take_succ_cons, List.take_zero, List.drop_succ_cons, List.drop_zero]; repeat ((first | (refine class_take ?_ (by rfl) ?_ ?_; rotate_left; focus (intro wq hq; ((obtain ⟨x0, x1, x2, x3, x4⟩ := hq.cal; obtain ⟨e0, e1, e2, f0, f1, f2⟩ := hq.2.1.cells)); go_simp; first | done | with_reducible rfl | ((go_at_call 57; refine (arith_length _ _ _ _ _ _ _ _ _ _ ms ls y k x OK.out.cy1 OK.out.cy2 OK.out.sorted r3 (by omega) (by omega) (H.out.then_ hq.2.2) r2 HX.out).mono ?_; rw [← HML.out]; rintro e w' ⟨rfl, hb⟩; refine ⟨?_, hq.step hb⟩; with_reducible rfl)))) | refine class_skip (by rfl) ?_); try simp only [Act.put, List.setIfInBounds_toArray, List.set_cons_zero, List.set_cons_succ]))
          refine wpQuiet_nil ?_
          intro W6 lt6
          clear lt
          rw [show min d ML = d by omega] at hfin
          obtain ⟨x0, x1, x2, x3, x4⟩ := lt6.cal
          obtain ⟨e0, e1, e2, f0, f1, f2⟩ := lt6.2.1.cells
          have hBl6 := At.lt lt6.2.1
          go_wp2_with fail
          have lt7 := lt6.day hl2 d
          generalize World.setCell _ _ _ = W7 at lt7 ⊢
          clear lt6 x0 x1 x2 x3 x4 e0 e1 e2 f0 f1 f2
          have hcon := arith_toDay W7 s f c a1 a2 n1 c1 n2 c2 ms ls y k d OK.out yi1 yi2 hk (by omega) (by omega) (H.out.then_ lt7.2.2)
          generalize dnum ms ls f c y k d = D at hfin hcon
          rcases inB_cases (-4000000) 4000000 D with ⟨hd, _⟩ | ⟨hd, _⟩
          · rw [show dayOr D = .tuple #[.int .i64 D, .int .i64 0] from if_pos hd] at hfin hcon
            refine hcon.mono ?_
            rintro e w8 ⟨rfl, hb⟩
            go_wp2_with fail
            go_ret2
            exact ⟨by rw [hfin.out]; rfl, below_then lt7.2.2 hb⟩
          · rw [show dayOr D = .tuple #[.int .i64 0, .int .i64 3] from if_neg (by rw [hd]; simp)] at hfin hcon
            refine hcon.mono ?_
            rintro e w8 ⟨rfl, hb⟩
            go_wp2_with fail
            go_ret2
            exact ⟨by rw [hfin.out]; rfl, below_then lt7.2.2 hb⟩
        · (refine region_class_tail 10 (Lt w B (.cells #[.string s, .int .i64 f, .int .i64 c, .slice a1 n1 c1, .slice a2 n2 c2] 47) y ((k : Int) + 1) d) (by kernel_rfl) (by kernel_rfl) (lt.drew) ?_; simp only [List.take_succ_cons, List.take_zero, List.drop_succ_cons, List.drop_zero]; repeat ((first | (refine class_take ?_ (by rfl) ?_ ?_; rotate_left; focus (intro wq hq; ((obtain ⟨x0, x1, x2, x3, x4⟩ := hq.cal; obtain ⟨e0, e1, e2, f0, f1, f2⟩ := hq.2.1.cells)); go_simp; first | done | with_reducible rfl | ((go_at_call 57; refine (arith_length _ _ _ _ _ _ _ _ _ _ ms ls y k x OK.out.cy1 OK.out.cy2 OK.out.sorted r3 (by omega) (by omega) (H.out.then_ hq.2.2) r2 HX.out).mono ?_; rw [← HML.out]; rintro e w' ⟨rfl, hb⟩; refine ⟨?_, hq.step hb⟩; with_reducible rfl)))) | refine class_skip (by rfl) ?_); try simp only [Act.put, List.setIfInBounds_toArray, List.set_cons_zero, List.set_cons_succ]))
          refine wpQuiet_nil ?_
          intro W6 lt6
          clear lt
          rw [show min d ML = ML by omega] at hfin
          obtain ⟨x0, x1, x2, x3, x4⟩ := lt6.cal
          obtain ⟨e0, e1, e2, f0, f1, f2⟩ := lt6.2.1.cells
          have hBl6 := At.lt lt6.2.1
          go_wp2_with fail
          have lt7 := lt6.day hl2 ML
          generalize World.setCell _ _ _ = W7 at lt7 ⊢
          clear lt6 x0 x1 x2 x3 x4 e0 e1 e2 f0 f1 f2
          have hcon := arith_toDay W7 s f c a1 a2 n1 c1 n2 c2 ms ls y k ML OK.out yi1 yi2 hk (by omega) (by omega) (H.out.then_ lt7.2.2)
          generalize dnum ms ls f c y k ML = D at hfin hcon
          rcases inB_cases (-4000000) 4000000 D with ⟨hd, _⟩ | ⟨hd, _⟩
          · rw [show dayOr D = .tuple #[.int .i64 D, .int .i64 0] from if_pos hd] at hfin hcon
            refine hcon.mono ?_
            rintro e w8 ⟨rfl, hb⟩
            go_wp2_with fail
            go_ret2
            exact ⟨by rw [hfin.out]; rfl, below_then lt7.2.2 hb⟩
          · rw [show dayOr D = .tuple #[.int .i64 0, .int .i64 3] from if_neg (by rw [hd]; simp)] at hfin hcon
            refine hcon.mono ?_
            rintro e w8 ⟨rfl, hb⟩
            go_wp2_with fail
            go_ret2
            exact ⟨by rw [hfin.out]; rfl, below_then lt7.2.2 hb⟩
      · obtain ⟨q, hsq, hqR⟩ : ∃ q, Seek ms ls c false (stepP ms.length false (y, k)) q ∧ (q = none → R = none) ∧ ∀ r, q = some r → Chain ms ls c false g r R := Going.next (show Going ms ls c false false g (stepP ms.length false (y, k)) R from hch)
        obtain ⟨yi1, yi2⟩ := hi
        simp only at yi1 yi2
        have HSQ := Lib.hid hsq; have HQR := Lib.hid hqR
        clear hch hsq hqR hl
        obtain ⟨x0, x1, x2, x3, x4⟩ := lt.cal
        obtain ⟨e0, e1, e2, f0, f1, f2⟩ := lt.2.1.cells
        have hpos : -((g + 1 : Nat) : Int) < 0 := by omega
        go_wp2_with fail
        refine (arith_move_down _ _ _ _ _ _ _ _ _ _ ms ls y k d q OK.out hk yi1 yi2 (H.out.then_ lt.2.2) HSQ.out).mono ?_
        rintro e w5 ⟨⟨y', m', rfl, hym⟩, hb⟩
        replace lt := lt.step hb
        have HYM := Lib.hid hym
        have HSTM := Lib.hid (show St ms ls c false n1 R q.isSome g y' m' from St.of_move (stepP_in (by have := L1.out; simp only; omega)) L1.out HSQ.out HQR.out HYM.out)
        clear hb x0 x1 x2 x3 x4 e0 e1 e2 f0 f1 f2 hym HSQ HQR HYM
        obtain ⟨e0, e1, e2, f0, f1, f2⟩ := lt.2.1.cells
        generalize q.isSome = qb at *
        go_wp2_with fail
        replace lt := lt.all hl2 y' m' d
        go_roundg g
        case rel => exact ⟨qb, y', m', (-(g : Int)), by go_num, rfl, fun _ => rfl, by omega, by omega, HSTM.out, lt⟩
        case measure => omega
end Go.Proofs.Ytjekdceicjnamaa
