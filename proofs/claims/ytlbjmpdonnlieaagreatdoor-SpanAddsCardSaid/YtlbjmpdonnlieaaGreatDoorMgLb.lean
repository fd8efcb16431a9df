/- Several texts in one: Later4, Later5, Later6, Later7, Later8, LaterB. -/
import Derived.Test.YtlbjmpdonnlieaaGreatDoorLater3
import Derived.Test.YtlbjmpdonnlieaaGreatDoorMgV
set_option linter.unusedSimpArgs false
namespace Go.Proofs.YtlbjmpdonnlieaaGreatDoor
set_option linter.unusedVariables false
set_option maxRecDepth 100000
open Go.RowKit
set_option maxHeartbeats 8000000 in
theorem arith_Later_up (w : World) (s : ByteArray) (f c : Int) (a1 a2 : Option Addr) (n1 c1 n2 c2 : Nat) (ms : List Mon) (ls : List Int) (x yy mm : Int) (hs : s.size ≤ 9223372036854775807) (k1 : n1 ≤ c1) (h : CalAt w a1 a2 n1 n2 ms ls) (q : calErr s f c ms ls = 0) (y : Int) (k : Nat) (d : Int) (N : Nat) (R : Option (Int × Nat)) (hk : k < n1) (y1 : -10000 ≤ y) (y2 : y ≤ 10000) (d1 : 1 ≤ d) (d2 : d ≤ 400) (yy1 : -10000 ≤ yy) (yy2 : yy ≤ 10000) (hN : N ≤ 10000) (hmm : mm = (N : Int)) (hR : Going ms ls c true true N (y + yy, k) R)
    (hfd : ∀ W, Below w.heap.size w W → Calls Tryz.prog 91 #[.agg #[.string s, .int .i64 f, .int .i64 c, .slice a1 n1 c1, .slice a2 n2 c2], .int .i64 x] W fun e w' => e = .returned (.tuple #[.agg #[.int .i64 y, .int .i64 ((k : Int) + 1), .int .i64 d], .int .i64 0]) ∧ Below W.heap.size W w') :
    Calls Tryz.prog 73 #[.agg #[.string s, .int .i64 f, .int .i64 c, .slice a1 n1 c1, .slice a2 n2 c2], .int .i64 x, .int .i64 yy, .int .i64 mm] w fun e w' =>  e = .returned (laterOut ms ls f c R d) ∧ Below w.heap.size w w' := by
  subst hmm
  have g1 := inB_yes yy1 yy2
  have g2 : inB (-10000) 10000 ((N : Int)) = true := inB_yes (by omega) (by omega)
  have ok := calOk_of q
  obtain ⟨r1, r2, r3, r4⟩ := ok_n1 h ok
  have L1 := Lib.hid h.1.len
  have OK := Lib.hid ok; have HR := Lib.hid hR
  clear ok hR
  have H := Lib.hid h; have HFD := Lib.hid hfd; have HE := Lib.hid q
  clear h hfd q
  go_enter Tryz.func73, Tryz.ntmps73
  go_wp2_with fail
  refine (compile_Check _ _ _ _ _ _ _ _ _ _ ms ls hs k1 (H.out.alloc _).1 (H.out.alloc _).2).mono ?_; rw [HE.out]; rintro e w1 ⟨rfl, hb⟩
  have a0 := (At.new w (.cells #[.string s, .int .i64 f, .int .i64 c, .slice a1 n1 c1, .slice a2 n2 c2] 39)).then_ hb
  have b0 : Below w.heap.size w w1 := by exact bl
  have hl1 := a0.lt
  clear hb
  have x0 := a0.cell 0; have x1 := a0.cell 1; have x2 := a0.cell 2; have x3 := a0.cell 3; have x4 := a0.cell 4; simp at x0 x1 x2 x3 x4
  go_wp2_with fail
  refine (HFD.out _ b0).mono ?_
  rintro e w2 ⟨rfl, hb⟩
  replace a0 := a0.then_ hb
  replace b0 := below_then b0 hb
  have hl2 := a0.lt
  clear hb x0 x1 x2 x3 x4 hl1
  go_wp2_with fail
  refine (arith_isYear _ _).mono ?_; rw [g1]; rintro e w3 ⟨rfl, rfl⟩
  go_wp2_with fail
  refine (arith_isYear _ _).mono ?_; rw [g2]; rintro e w3 ⟨rfl, rfl⟩
  have lt : Lt w w2.heap.size (.cells #[.string s, .int .i64 f, .int .i64 c, .slice a1 n1 c1, .slice a2 n2 c2] 39) y ((k : Int) + 1) d (w2.alloc (.cells #[.int .i64 y, .int .i64 ((k : Int) + 1), .int .i64 d] 52)) := ⟨a0.alloc _, At.new w2 _, by exact bl⟩
  clear a0 b0
  generalize World.alloc w2 _ = W3 at lt ⊢
  generalize w2.heap.size = B at *
  obtain ⟨e0, e1, e2, f0, f1, f2⟩ := lt.2.1.cells
  go_wp2_with fail
  replace lt := lt.year hl2 (y + yy)
  generalize World.setCell _ _ _ = W4 at lt ⊢
  clear e0 e1 e2 f0 f1 f2
  generalize hyy : y + yy = Y at *
  clear hyy
  rcases HR.out.cases with ⟨hi, hn⟩ | hgo
  · exact q37
  have hiy : InP (Y, k) := by rcases hgo with ⟨a, _⟩ | ⟨a, _⟩ <;> exact a
  obtain ⟨yi1, yi2⟩ := hiy
  simp only at yi1 yi2
  have hy' : inB (-10000) 10000 Y = true := inB_yes yi1 yi2
  have HGO := Lib.hid hgo
  clear hgo HR
  refine (arith_isYear _ _).mono ?_; rw [hy']; rintro e w3 ⟨rfl, rfl⟩
  obtain ⟨x, hx⟩ : ∃ x, ms[k]? = some x := ⟨_, List.getElem?_eq_getElem (show k < ms.length by have := L1.out; omega)⟩
  have hlen : lenAt ms ls c (Y, k) = mlenOf x (flag ls (placeOf c Y)) := lenAt_of hx
  obtain ⟨ML, hML⟩ : ∃ ML, ML = mlenOf x (flag ls (placeOf c Y)) := ⟨_, rfl⟩
  rw [← hML] at hlen
  have HX := Lib.hid hx; have HML := Lib.hid hML; have HLEN := Lib.hid hlen
  clear hx hML hlen
  obtain ⟨x0, x1, x2, x3, x4⟩ := lt.cal
  obtain ⟨e0, e1, e2, f0, f1, f2⟩ := lt.2.1.cells
  go_wp2_with fail
  refine (arith_length _ _ _ _ _ _ _ _ _ _ ms ls Y k x OK.out.cy1 OK.out.cy2 OK.out.sorted r3 (by omega) (by omega) (H.out.then_ lt.2.2) r2 HX.out).mono ?_
  rw [← HML.out]
  rintro e w4 ⟨rfl, hb⟩
  replace lt := lt.step hb
  clear hb x0 x1 x2 x3 x4 e0 e1 e2 f0 f1 f2
  go_upto_if 51 with (fail)
  go_cut [13] from 45 (fun t wx => ∃ (b : Bool) (y m : Int), t = .bool b ∧ St ms ls c true n1 R b N y m ∧ Lt w B (.cells #[.string s, .int .i64 f, .int .i64 c, .slice a1 n1 c1, .slice a2 n2 c2] 39) y m d wx)
  case first =>
    rcases HGO.out with ⟨_, hl, hch⟩ | ⟨_, hl, hgn⟩
    · rw [HLEN.out] at hl
      have hl0 : (ML == 0) = false := by simp; omega
      have HCH := Lib.hid hch
      clear hch
      go_wp2_with fail
      go_meet
      case rel => exact ⟨true, Y, (k : Int) + 1, rfl, .inl ⟨rfl, k, rfl, hk, ⟨yi1, yi2⟩, by rw [HLEN.out]; exact hl, HCH.out⟩, lt⟩
    · rw [HLEN.out] at hl
      have hl0 : (ML == 0) = true := by simp; omega
      obtain ⟨q, hsq, hqR⟩ := hgn.next
      have HSQ := Lib.hid hsq; have HQR := Lib.hid hqR
      clear hgn hsq hqR hl
      obtain ⟨x0, x1, x2, x3, x4⟩ := lt.cal
      obtain ⟨e0, e1, e2, f0, f1, f2⟩ := lt.2.1.cells
      go_wp2_with fail
      refine (arith_move_up _ _ _ _ _ _ _ _ _ _ ms ls Y k d q OK.out hk yi1 yi2 (H.out.then_ lt.2.2) HSQ.out).mono ?_
      rintro e w5 ⟨⟨y', m', rfl, hym⟩, hb⟩
      replace lt := lt.step hb
      have HYM := Lib.hid hym
      have HSTM := Lib.hid (show St ms ls c true n1 R q.isSome N y' m' from St.of_move (stepP_in (by have := L1.out; simp only; omega)) L1.out HSQ.out HQR.out HYM.out)
      clear hb x0 x1 x2 x3 x4 e0 e1 e2 f0 f1 f2 hym HSQ HQR HYM
      obtain ⟨e0, e1, e2, f0, f1, f2⟩ := lt.2.1.cells
      generalize q.isSome = qb at *
      go_wp2_with fail
      replace lt := lt.all hl2 y' m' d
      go_meet
      case rel => exact ⟨qb, y', m', rfl, HSTM.out, lt⟩
  case rest =>
  obtain ⟨b, y, m, rfl, hst, lt'⟩ := hcut
  clear lt HGO hy' yi1 yi2 y1 y2 hk
  have lt := lt'
  clear lt'
  have HST := Lib.hid hst
  clear hst
  go_wp2_with fail
  go_loopg [3, 13] N (fun g t u wr => ∃ (b : Bool) (y m mm : Int), t = .int .i64 mm ∧ u = .bool b ∧ (b = true → mm = (g : Int)) ∧ -10000 ≤ mm ∧ mm ≤ 10000 ∧ St ms ls c true n1 R b g y m ∧ Lt w B (.cells #[.string s, .int .i64 f, .int .i64 c, .slice a1 n1 c1, .slice a2 n2 c2] 39) y m d wr)
  case atStart => exact ⟨b, y, m, (N : Int), rfl, rfl, fun _ => rfl, by omega, by omega, HST.out, lt⟩
  case round =>
    clear lt HST
    obtain ⟨b, y, m, mm, rfl, rfl, hmm, m1, m2, hst, lt⟩ := hrel
    rcases hst with ⟨rfl, k, rfl, hk, hi, hl, hch⟩ | ⟨rfl, hn⟩
    case inr =>
      have hfin := Lib.hid (show laterOut ms ls f c R d = .tuple #[.int .i64 0, .int .i64 3] by rw [hn]; rfl)
      clear hn
      exact q88
    obtain rfl : mm = (gk : Int) := hmm rfl
    clear hmm
    obtain hz | ⟨g, rfl⟩ : gk = 0 ∨ ∃ g, gk = g + 1 := by cases gk with | zero => exact .inl rfl | succ g => exact .inr ⟨g, rfl⟩
    · subst hz
      have hR : R = some (y, k) := hch
      obtain ⟨yi1, yi2⟩ := hi
      simp only at yi1 yi2
      obtain ⟨x, hx⟩ : ∃ x, ms[k]? = some x := ⟨_, List.getElem?_eq_getElem (show k < ms.length by have := L1.out; omega)⟩
      obtain ⟨ML, hML⟩ : ∃ ML, ML = mlenOf x (flag ls (placeOf c y)) := ⟨_, rfl⟩
      have hlen : lenAt ms ls c (y, k) = ML := by rw [hML]; exact lenAt_of hx
      rw [hlen] at hl
      have hMb := lenAt_nonneg OK.out (y, k)
      rw [hlen] at hMb
      obtain ⟨_, ML2⟩ := hMb
      have hfin := Lib.hid (show laterOut ms ls f c R d = dayOr (dnum ms ls f c y k (min d ML)) by rw [hR, ← hlen]; rfl)
      have HX := Lib.hid hx; have HML := Lib.hid hML
      clear hx hML hlen hch hR
      go_wp2_with fail
      refine wp_loop_rounds 1 ?_; rw [rounds_succ]
      go_wp2_with fail
      have hBl := At.lt lt.2.1
      by_cases hdm : d ≤ ML
      · (refine region_class_tail 10 (Lt w B (.cells #[.string s, .int .i64 f, .int .i64 c, .slice a1 n1 c1, .slice a2 n2 c2] 39) y ((k : Int) + 1) d) (by kernel_rfl) (by kernel_rfl) (lt.drew) ?_; simp only [List.take_succ_cons, List.take_zero, List.drop_succ_cons, List.drop_zero]; repeat ((first | (refine class_take ?_ (by rfl) ?_ ?_; rotate_left; focus (intro wq hq; ((obtain ⟨x0, x1, x2, x3, x4⟩ := hq.cal; obtain ⟨e0, e1, e2, f0, f1, f2⟩ := hq.2.1.cells)); go_simp; first | done | with_reducible rfl | ((go_at_call 119; refine (arith_length _ _ _ _ _ _ _ _ _ _ ms ls y k x OK.out.cy1 OK.out.cy2 OK.out.sorted r3 (by omega) (by omega) (H.out.then_ hq.2.2) r2 HX.out).mono ?_; rw [← HML.out]; rintro e w' ⟨rfl, hb⟩; refine ⟨?_, hq.step hb⟩; with_reducible rfl)))) | refine class_skip (by rfl) ?_); try simp only [Act.put, List.setIfInBounds_toArray, List.set_cons_zero, List.set_cons_succ]))
        refine wpQuiet_nil ?_
        intro W6 lt6
        clear lt
        rw [show min d ML = d by omega] at hfin
        obtain ⟨x0, x1, x2, x3, x4⟩ := lt6.cal
        obtain ⟨e0, e1, e2, f0, f1, f2⟩ := lt6.2.1.cells
        have hBl6 := At.lt lt6.2.1
        go_wp2_with fail
        have lt7 := lt6.day hl2 d
        generalize World.setCell _ _ _ = W7 at lt7 ⊢
        clear lt6 x0 x1 x2 x3 x4 e0 e1 e2 f0 f1 f2
        have hcon := arith_toDay W7 s f c a1 a2 n1 c1 n2 c2 ms ls y k d OK.out yi1 yi2 hk (by omega) (by omega) (H.out.then_ lt7.2.2)
        generalize dnum ms ls f c y k d = D at hfin hcon
        rcases inB_cases (-4000000) 4000000 D with ⟨hd, _⟩ | ⟨hd, _⟩
        · exact q58
        · exact q54
      · (refine region_class_tail 10 (Lt w B (.cells #[.string s, .int .i64 f, .int .i64 c, .slice a1 n1 c1, .slice a2 n2 c2] 39) y ((k : Int) + 1) d) (by kernel_rfl) (by kernel_rfl) (lt.drew) ?_; simp only [List.take_succ_cons, List.take_zero, List.drop_succ_cons, List.drop_zero]; repeat ((first | (refine class_take ?_ (by rfl) ?_ ?_; rotate_left; focus (intro wq hq; ((obtain ⟨x0, x1, x2, x3, x4⟩ := hq.cal; obtain ⟨e0, e1, e2, f0, f1, f2⟩ := hq.2.1.cells)); go_simp; first | done | with_reducible rfl | ((go_at_call 119; refine (arith_length _ _ _ _ _ _ _ _ _ _ ms ls y k x OK.out.cy1 OK.out.cy2 OK.out.sorted r3 (by omega) (by omega) (H.out.then_ hq.2.2) r2 HX.out).mono ?_; rw [← HML.out]; rintro e w' ⟨rfl, hb⟩; refine ⟨?_, hq.step hb⟩; with_reducible rfl)))) | refine class_skip (by rfl) ?_); try simp only [Act.put, List.setIfInBounds_toArray, List.set_cons_zero, List.set_cons_succ]))
        refine wpQuiet_nil ?_
        intro W6 lt6
        clear lt
        rw [show min d ML = ML by omega] at hfin
        obtain ⟨x0, x1, x2, x3, x4⟩ := lt6.cal
        obtain ⟨e0, e1, e2, f0, f1, f2⟩ := lt6.2.1.cells
        have hBl6 := At.lt lt6.2.1
        go_wp2_with fail
        have lt7 := lt6.day hl2 ML
        generalize World.setCell _ _ _ = W7 at lt7 ⊢
        clear lt6 x0 x1 x2 x3 x4 e0 e1 e2 f0 f1 f2
        have hcon := arith_toDay W7 s f c a1 a2 n1 c1 n2 c2 ms ls y k ML OK.out yi1 yi2 hk (by omega) (by omega) (H.out.then_ lt7.2.2)
        generalize dnum ms ls f c y k ML = D at hfin hcon
        rcases inB_cases (-4000000) 4000000 D with ⟨hd, _⟩ | ⟨hd, _⟩
        · exact q58
        · exact q54
    · obtain ⟨q, hsq, hqR⟩ : ∃ q, Seek ms ls c true (stepP ms.length true (y, k)) q ∧ (q = none → R = none) ∧ ∀ r, q = some r → Chain ms ls c true g r R := Going.next (show Going ms ls c true true g (stepP ms.length true (y, k)) R from hch)
      obtain ⟨yi1, yi2⟩ := hi
      simp only at yi1 yi2
      have HSQ := Lib.hid hsq; have HQR := Lib.hid hqR
      clear hch hsq hqR hl
      obtain ⟨x0, x1, x2, x3, x4⟩ := lt.cal
      obtain ⟨e0, e1, e2, f0, f1, f2⟩ := lt.2.1.cells
      have hpos : (0 : Int) < ((g + 1 : Nat) : Int) := by omega
      go_wp2_with fail
      refine (arith_move_up _ _ _ _ _ _ _ _ _ _ ms ls y k d q OK.out hk yi1 yi2 (H.out.then_ lt.2.2) HSQ.out).mono ?_
      rintro e w5 ⟨⟨y', m', rfl, hym⟩, hb⟩
      replace lt := lt.step hb
      have HYM := Lib.hid hym
      have HSTM := Lib.hid (show St ms ls c true n1 R q.isSome g y' m' from St.of_move (stepP_in (by have := L1.out; simp only; omega)) L1.out HSQ.out HQR.out HYM.out)
      clear hb x0 x1 x2 x3 x4 e0 e1 e2 f0 f1 f2 hym HSQ HQR HYM
      obtain ⟨e0, e1, e2, f0, f1, f2⟩ := lt.2.1.cells
      generalize q.isSome = qb at *
      go_wp2_with fail
      replace lt := lt.all hl2 y' m' d
      go_roundg g
      case rel => exact ⟨qb, y', m', (g : Int), by go_num, rfl, fun _ => rfl, by omega, by omega, HSTM.out, lt⟩
      case measure => omega
set_option maxHeartbeats 8000000 in
theorem arith_Later_down (w : World) (s : ByteArray) (f c : Int) (a1 a2 : Option Addr) (n1 c1 n2 c2 : Nat) (ms : List Mon) (ls : List Int) (x yy mm : Int) (hs : s.size ≤ 9223372036854775807) (k1 : n1 ≤ c1) (h : CalAt w a1 a2 n1 n2 ms ls) (q : calErr s f c ms ls = 0) (y : Int) (k : Nat) (d : Int) (N : Nat) (R : Option (Int × Nat)) (hk : k < n1) (y1 : -10000 ≤ y) (y2 : y ≤ 10000) (d1 : 1 ≤ d) (d2 : d ≤ 400) (yy1 : -10000 ≤ yy) (yy2 : yy ≤ 10000) (hN : N ≤ 10000) (hmm : mm = -(N : Int)) (hR : Going ms ls c true false N (y + yy, k) R)
    (hfd : ∀ W, Below w.heap.size w W → Calls Tryz.prog 91 #[.agg #[.string s, .int .i64 f, .int .i64 c, .slice a1 n1 c1, .slice a2 n2 c2], .int .i64 x] W fun e w' => e = .returned (.tuple #[.agg #[.int .i64 y, .int .i64 ((k : Int) + 1), .int .i64 d], .int .i64 0]) ∧ Below W.heap.size W w') :
    Calls Tryz.prog 73 #[.agg #[.string s, .int .i64 f, .int .i64 c, .slice a1 n1 c1, .slice a2 n2 c2], .int .i64 x, .int .i64 yy, .int .i64 mm] w fun e w' =>  e = .returned (laterOut ms ls f c R d) ∧ Below w.heap.size w w' := by
  subst hmm
  have g1 := inB_yes yy1 yy2
  have g2 : inB (-10000) 10000 (-(N : Int)) = true := inB_yes (by omega) (by omega)
  have ok := calOk_of q
  obtain ⟨r1, r2, r3, r4⟩ := ok_n1 h ok
  have L1 := Lib.hid h.1.len
  have OK := Lib.hid ok; have HR := Lib.hid hR
  clear ok hR
  have H := Lib.hid h; have HFD := Lib.hid hfd; have HE := Lib.hid q
  clear h hfd q
  go_enter Tryz.func73, Tryz.ntmps73
  go_wp2_with fail
  refine (compile_Check _ _ _ _ _ _ _ _ _ _ ms ls hs k1 (H.out.alloc _).1 (H.out.alloc _).2).mono ?_; rw [HE.out]; rintro e w1 ⟨rfl, hb⟩
  have a0 := (At.new w (.cells #[.string s, .int .i64 f, .int .i64 c, .slice a1 n1 c1, .slice a2 n2 c2] 39)).then_ hb
  have b0 : Below w.heap.size w w1 := by exact bl
  have hl1 := a0.lt
  clear hb
  have x0 := a0.cell 0; have x1 := a0.cell 1; have x2 := a0.cell 2; have x3 := a0.cell 3; have x4 := a0.cell 4; simp at x0 x1 x2 x3 x4
  go_wp2_with fail
  refine (HFD.out _ b0).mono ?_
  rintro e w2 ⟨rfl, hb⟩
  replace a0 := a0.then_ hb
  replace b0 := below_then b0 hb
  have hl2 := a0.lt
  clear hb x0 x1 x2 x3 x4 hl1
  go_wp2_with fail
  refine (arith_isYear _ _).mono ?_; rw [g1]; rintro e w3 ⟨rfl, rfl⟩
  go_wp2_with fail
  refine (arith_isYear _ _).mono ?_; rw [g2]; rintro e w3 ⟨rfl, rfl⟩
  have lt : Lt w w2.heap.size (.cells #[.string s, .int .i64 f, .int .i64 c, .slice a1 n1 c1, .slice a2 n2 c2] 39) y ((k : Int) + 1) d (w2.alloc (.cells #[.int .i64 y, .int .i64 ((k : Int) + 1), .int .i64 d] 52)) := ⟨a0.alloc _, At.new w2 _, by exact bl⟩
  clear a0 b0
  generalize World.alloc w2 _ = W3 at lt ⊢
  generalize w2.heap.size = B at *
  obtain ⟨e0, e1, e2, f0, f1, f2⟩ := lt.2.1.cells
  go_wp2_with fail
  replace lt := lt.year hl2 (y + yy)
  generalize World.setCell _ _ _ = W4 at lt ⊢
  clear e0 e1 e2 f0 f1 f2
  generalize hyy : y + yy = Y at *
  clear hyy
  rcases HR.out.cases with ⟨hi, hn⟩ | hgo
  · exact q37
  have hiy : InP (Y, k) := by rcases hgo with ⟨a, _⟩ | ⟨a, _⟩ <;> exact a
  obtain ⟨yi1, yi2⟩ := hiy
  simp only at yi1 yi2
  have hy' : inB (-10000) 10000 Y = true := inB_yes yi1 yi2
  have HGO := Lib.hid hgo
  clear hgo HR
  refine (arith_isYear _ _).mono ?_; rw [hy']; rintro e w3 ⟨rfl, rfl⟩
  obtain ⟨x, hx⟩ : ∃ x, ms[k]? = some x := ⟨_, List.getElem?_eq_getElem (show k < ms.length by have := L1.out; omega)⟩
  have hlen : lenAt ms ls c (Y, k) = mlenOf x (flag ls (placeOf c Y)) := lenAt_of hx
  obtain ⟨ML, hML⟩ : ∃ ML, ML = mlenOf x (flag ls (placeOf c Y)) := ⟨_, rfl⟩
  rw [← hML] at hlen
  have HX := Lib.hid hx; have HML := Lib.hid hML; have HLEN := Lib.hid hlen
  clear hx hML hlen
  obtain ⟨x0, x1, x2, x3, x4⟩ := lt.cal
  obtain ⟨e0, e1, e2, f0, f1, f2⟩ := lt.2.1.cells
  go_wp2_with fail
  refine (arith_length _ _ _ _ _ _ _ _ _ _ ms ls Y k x OK.out.cy1 OK.out.cy2 OK.out.sorted r3 (by omega) (by omega) (H.out.then_ lt.2.2) r2 HX.out).mono ?_
  rw [← HML.out]
  rintro e w4 ⟨rfl, hb⟩
  replace lt := lt.step hb
  clear hb x0 x1 x2 x3 x4 e0 e1 e2 f0 f1 f2
  go_upto_if 51 with (fail)
  go_cut [13] from 45 (fun t wx => ∃ (b : Bool) (y m : Int), t = .bool b ∧ St ms ls c false n1 R b N y m ∧ Lt w B (.cells #[.string s, .int .i64 f, .int .i64 c, .slice a1 n1 c1, .slice a2 n2 c2] 39) y m d wx)
  case first =>
    rcases HGO.out with ⟨_, hl, hch⟩ | ⟨_, hl, hgn⟩
    · rw [HLEN.out] at hl
      have hl0 : (ML == 0) = false := by simp; omega
      have HCH := Lib.hid hch
      clear hch
      go_wp2_with fail
      go_meet
      case rel => exact ⟨true, Y, (k : Int) + 1, rfl, .inl ⟨rfl, k, rfl, hk, ⟨yi1, yi2⟩, by rw [HLEN.out]; exact hl, HCH.out⟩, lt⟩
    · rw [HLEN.out] at hl
      have hl0 : (ML == 0) = true := by simp; omega
      obtain ⟨q, hsq, hqR⟩ := hgn.next
      have HSQ := Lib.hid hsq; have HQR := Lib.hid hqR
      clear hgn hsq hqR hl
      obtain ⟨x0, x1, x2, x3, x4⟩ := lt.cal
      obtain ⟨e0, e1, e2, f0, f1, f2⟩ := lt.2.1.cells
      go_wp2_with fail
      refine (arith_move_up _ _ _ _ _ _ _ _ _ _ ms ls Y k d q OK.out hk yi1 yi2 (H.out.then_ lt.2.2) HSQ.out).mono ?_
      rintro e w5 ⟨⟨y', m', rfl, hym⟩, hb⟩
      replace lt := lt.step hb
      have HYM := Lib.hid hym
      have HSTM := Lib.hid (show St ms ls c false n1 R q.isSome N y' m' from St.of_move (stepP_in (by have := L1.out; simp only; omega)) L1.out HSQ.out HQR.out HYM.out)
      clear hb x0 x1 x2 x3 x4 e0 e1 e2 f0 f1 f2 hym HSQ HQR HYM
      obtain ⟨e0, e1, e2, f0, f1, f2⟩ := lt.2.1.cells
      generalize q.isSome = qb at *
      go_wp2_with fail
      replace lt := lt.all hl2 y' m' d
      go_meet
      case rel => exact ⟨qb, y', m', rfl, HSTM.out, lt⟩
  case rest =>
  obtain ⟨b, y, m, rfl, hst, lt'⟩ := hcut
  clear lt HGO hy' yi1 yi2 y1 y2 hk
  have lt := lt'
  clear lt'
  have HST := Lib.hid hst
  clear hst
  cases b with
  | false =>
    have hn : R = none := by rcases HST.out with ⟨h, _⟩ | ⟨_, h⟩ <;> first | exact h | cases h
    have hfin := Lib.hid (show laterOut ms ls f c R d = .tuple #[.int .i64 0, .int .i64 3] by rw [hn]; rfl)
    clear hn
    go_wp2_with fail
    refine wp_loop_rounds 1 ?_; rw [rounds_succ]
    exact q88
  | true =>
    have hneg : ¬ (0 < -(N : Int)) := by omega
    go_wp2_with fail
    refine wp_loop_rounds 1 ?_; rw [rounds_succ]
    go_wp2_with fail
    go_loopg [3, 13] N (fun g t u wr => ∃ (b : Bool) (y m mm : Int), t = .int .i64 mm ∧ u = .bool b ∧ (b = true → mm = -(g : Int)) ∧ -10000 ≤ mm ∧ mm ≤ 10000 ∧ St ms ls c false n1 R b g y m ∧ Lt w B (.cells #[.string s, .int .i64 f, .int .i64 c, .slice a1 n1 c1, .slice a2 n2 c2] 39) y m d wr)
    case atStart => exact ⟨true, y, m, -(N : Int), rfl, rfl, fun _ => rfl, by omega, by omega, HST.out, lt⟩
    case round =>
      clear lt HST
      obtain ⟨b, y, m, mm, rfl, rfl, hmm, m1, m2, hst, lt⟩ := hrel
      rcases hst with ⟨rfl, k, rfl, hk, hi, hl, hch⟩ | ⟨rfl, hn⟩
      case inr =>
        have hfin := Lib.hid (show laterOut ms ls f c R d = .tuple #[.int .i64 0, .int .i64 3] by rw [hn]; rfl)
        clear hn
        go_wp2_with fail
        go_ret2
        exact ⟨by rw [hfin.out]; rfl, lt.2.2⟩
      obtain rfl : mm = -(gk : Int) := hmm rfl
      clear hmm
      obtain hz | ⟨g, rfl⟩ : gk = 0 ∨ ∃ g, gk = g + 1 := by cases gk with | zero => exact .inl rfl | succ g => exact .inr ⟨g, rfl⟩
      · subst hz
        have hR : R = some (y, k) := hch
        obtain ⟨yi1, yi2⟩ := hi
        simp only at yi1 yi2
        obtain ⟨x, hx⟩ : ∃ x, ms[k]? = some x := ⟨_, List.getElem?_eq_getElem (show k < ms.length by have := L1.out; omega)⟩
        obtain ⟨ML, hML⟩ : ∃ ML, ML = mlenOf x (flag ls (placeOf c y)) := ⟨_, rfl⟩
        have hlen : lenAt ms ls c (y, k) = ML := by rw [hML]; exact lenAt_of hx
        rw [hlen] at hl
        have hMb := lenAt_nonneg OK.out (y, k)
        rw [hlen] at hMb
        obtain ⟨_, ML2⟩ := hMb
        have hfin := Lib.hid (show laterOut ms ls f c R d = dayOr (dnum ms ls f c y k (min d ML)) by rw [hR, ← hlen]; rfl)
        have HX := Lib.hid hx; have HML := Lib.hid hML
        clear hx hML hlen hch hR
        go_wp2_with fail
        have hBl := At.lt lt.2.1
        by_cases hdm : d ≤ ML
        · (refine region_class_tail 10 (Lt w B (.cells #[.string s, .int .i64 f, .int .i64 c, .slice a1 n1 c1, .slice a2 n2 c2] 39) y ((k : Int) + 1) d) (by kernel_rfl) (by kernel_rfl) (lt.drew) ?_; simp only [List.take_succ_cons, List.take_zero, List.drop_succ_cons, List.drop_zero]; repeat ((first | (refine class_take ?_ (by rfl) ?_ ?_; rotate_left; focus (intro wq hq; ((obtain ⟨x0, x1, x2, x3, x4⟩ := hq.cal; obtain ⟨e0, e1, e2, f0, f1, f2⟩ := hq.2.1.cells)); go_simp; first | done | with_reducible rfl | ((go_at_call 119; refine (arith_length _ _ _ _ _ _ _ _ _ _ ms ls y k x OK.out.cy1 OK.out.cy2 OK.out.sorted r3 (by omega) (by omega) (H.out.then_ hq.2.2) r2 HX.out).mono ?_; rw [← HML.out]; rintro e w' ⟨rfl, hb⟩; refine ⟨?_, hq.step hb⟩; with_reducible rfl)))) | refine class_skip (by rfl) ?_); try simp only [Act.put, List.setIfInBounds_toArray, List.set_cons_zero, List.set_cons_succ]))
          refine wpQuiet_nil ?_
          intro W6 lt6
          clear lt
          rw [show min d ML = d by omega] at hfin
          obtain ⟨x0, x1, x2, x3, x4⟩ := lt6.cal
          obtain ⟨e0, e1, e2, f0, f1, f2⟩ := lt6.2.1.cells
          have hBl6 := At.lt lt6.2.1
          go_wp2_with fail
          have lt7 := lt6.day hl2 d
          generalize World.setCell _ _ _ = W7 at lt7 ⊢
          clear lt6 x0 x1 x2 x3 x4 e0 e1 e2 f0 f1 f2
          have hcon := arith_toDay W7 s f c a1 a2 n1 c1 n2 c2 ms ls y k d OK.out yi1 yi2 hk (by omega) (by omega) (H.out.then_ lt7.2.2)
          generalize dnum ms ls f c y k d = D at hfin hcon
          rcases inB_cases (-4000000) 4000000 D with ⟨hd, _⟩ | ⟨hd, _⟩
          · exact q58
          · exact q54
        · (refine region_class_tail 10 (Lt w B (.cells #[.string s, .int .i64 f, .int .i64 c, .slice a1 n1 c1, .slice a2 n2 c2] 39) y ((k : Int) + 1) d) (by kernel_rfl) (by kernel_rfl) (lt.drew) ?_; simp only [List.take_succ_cons, List.take_zero, List.drop_succ_cons, List.drop_zero]; repeat ((first | (refine class_take ?_ (by rfl) ?_ ?_; rotate_left; focus (intro wq hq; ((obtain ⟨x0, x1, x2, x3, x4⟩ := hq.cal; obtain ⟨e0, e1, e2, f0, f1, f2⟩ := hq.2.1.cells)); go_simp; first | done | with_reducible rfl | ((go_at_call 119; refine (arith_length _ _ _ _ _ _ _ _ _ _ ms ls y k x OK.out.cy1 OK.out.cy2 OK.out.sorted r3 (by omega) (by omega) (H.out.then_ hq.2.2) r2 HX.out).mono ?_; rw [← HML.out]; rintro e w' ⟨rfl, hb⟩; refine ⟨?_, hq.step hb⟩; with_reducible rfl)))) | refine class_skip (by rfl) ?_); try simp only [Act.put, List.setIfInBounds_toArray, List.set_cons_zero, List.set_cons_succ]))
          refine wpQuiet_nil ?_
          intro W6 lt6
          clear lt
          rw [show min d ML = ML by omega] at hfin
          obtain ⟨x0, x1, x2, x3, x4⟩ := lt6.cal
          obtain ⟨e0, e1, e2, f0, f1, f2⟩ := lt6.2.1.cells
          have hBl6 := At.lt lt6.2.1
          go_wp2_with fail
          have lt7 := lt6.day hl2 ML
          generalize World.setCell _ _ _ = W7 at lt7 ⊢
          clear lt6 x0 x1 x2 x3 x4 e0 e1 e2 f0 f1 f2
          have hcon := arith_toDay W7 s f c a1 a2 n1 c1 n2 c2 ms ls y k ML OK.out yi1 yi2 hk (by omega) (by omega) (H.out.then_ lt7.2.2)
          generalize dnum ms ls f c y k ML = D at hfin hcon
          rcases inB_cases (-4000000) 4000000 D with ⟨hd, _⟩ | ⟨hd, _⟩
          · exact q58
          · exact q54
      · obtain ⟨q, hsq, hqR⟩ : ∃ q, Seek ms ls c false (stepP ms.length false (y, k)) q ∧ (q = none → R = none) ∧ ∀ r, q = some r → Chain ms ls c false g r R := Going.next (show Going ms ls c false false g (stepP ms.length false (y, k)) R from hch)
        obtain ⟨yi1, yi2⟩ := hi
        simp only at yi1 yi2
        have HSQ := Lib.hid hsq; have HQR := Lib.hid hqR
        clear hch hsq hqR hl
        obtain ⟨x0, x1, x2, x3, x4⟩ := lt.cal
        obtain ⟨e0, e1, e2, f0, f1, f2⟩ := lt.2.1.cells
        have hpos : -((g + 1 : Nat) : Int) < 0 := by omega
        go_wp2_with fail
        refine (arith_move_down _ _ _ _ _ _ _ _ _ _ ms ls y k d q OK.out hk yi1 yi2 (H.out.then_ lt.2.2) HSQ.out).mono ?_
        rintro e w5 ⟨⟨y', m', rfl, hym⟩, hb⟩
        replace lt := lt.step hb
        have HYM := Lib.hid hym
        have HSTM := Lib.hid (show St ms ls c false n1 R q.isSome g y' m' from St.of_move (stepP_in (by have := L1.out; simp only; omega)) L1.out HSQ.out HQR.out HYM.out)
        clear hb x0 x1 x2 x3 x4 e0 e1 e2 f0 f1 f2 hym HSQ HQR HYM
        obtain ⟨e0, e1, e2, f0, f1, f2⟩ := lt.2.1.cells
        generalize q.isSome = qb at *
        go_wp2_with fail
        replace lt := lt.all hl2 y' m' d
        go_roundg g
        case rel => exact ⟨qb, y', m', (-(g : Int)), by go_num, rfl, fun _ => rfl, by omega, by omega, HSTM.out, lt⟩
        case measure => omega
section
variable {w W W' : World} {B : Nat} {oc : Obj} {y m d : Int}
theorem Lt.years {t : TypeId} {v0 v1 v2 v3 v4 v5 v6 v7 v8 : Value} (h : Lt w B (.cells #[v0, v1, v2, v3, v4, v5, v6, v7, v8] t) y m d W) :
    W.cell? ⟨w.heap.size, 0, none⟩ = some v0 ∧ W.cell? ⟨w.heap.size, 1, none⟩ = some v1 ∧ W.cell? ⟨w.heap.size, 2, none⟩ = some v2 ∧ W.cell? ⟨w.heap.size, 3, none⟩ = some v3 ∧ W.cell? ⟨w.heap.size, 4, none⟩ = some v4 ∧ W.cell? ⟨w.heap.size, 5, none⟩ = some v5 ∧ W.cell? ⟨w.heap.size, 6, none⟩ = some v6 ∧ W.cell? ⟨w.heap.size, 7, none⟩ = some v7 ∧ W.cell? ⟨w.heap.size, 8, none⟩ = some v8 :=
  ⟨h.1.cell 0, h.1.cell 1, h.1.cell 2, h.1.cell 3, h.1.cell 4, h.1.cell 5, h.1.cell 6, h.1.cell 7, h.1.cell 8⟩
theorem Lt.stepped {y' m' : Int} (h : Lt w B oc y m d W) (hB : w.heap.size < B) (hd : DateAt W' B y' m' d) (hk : OneKept B W W') : Lt w B oc y' m' d W' :=
  ⟨h.1.oneKept hk (by omega), hd, hk.below_own h.2.2 (by omega)⟩
end
theorem years_Later_no (w : World) (s : ByteArray) (f : Int) (C : Nat) (a1 a2 : Option Addr) (n1 c1 n2 c2 : Nat) (ms : List Mon) (ls : List Int) (g : Nat) (x yy mm : Int) (hg : MarksAt w g C ls) (h : CalAt w a1 a2 n1 n2 ms ls)
    (hfd : ∀ W, Below w.heap.size w W → Calls Tryz.prog 21 #[.agg #[.string s, .int .i64 f, .int .i64 (C : Int), .slice a1 n1 c1, .slice a2 n2 c2, .slice (some ⟨g, 0, none⟩) C C, .int .i64 (shortOf ms), .int .i64 (longOf ms), .int .i64 (daysTo (shortOf ms) (longOf ms) ls (C : Int))], .int .i64 x] W fun e w' => e = .returned (.tuple #[.agg #[.int .i64 0, .int .i64 0, .int .i64 0], .int .i64 3]) ∧ Below W.heap.size W w') :
    Calls Tryz.prog 42 #[.agg #[.string s, .int .i64 f, .int .i64 (C : Int), .slice a1 n1 c1, .slice a2 n2 c2, .slice (some ⟨g, 0, none⟩) C C, .int .i64 (shortOf ms), .int .i64 (longOf ms), .int .i64 (daysTo (shortOf ms) (longOf ms) ls (C : Int))], .int .i64 x, .int .i64 yy, .int .i64 mm] w fun e w' =>  e = .returned (.tuple #[.int .i64 0, .int .i64 3]) ∧ Below w.heap.size w w' := by
  have H := Lib.hid h; have HG := Lib.hid hg; have HFD := Lib.hid hfd
  clear h hg hfd
  go_enter Tryz.func42, Tryz.ntmps42
  go_wp2_with fail
  refine (HFD.out _ (below_new (Below.refl _ _) _)).mono ?_
  rintro e w2 ⟨rfl, hb⟩
  have a0 := (At.new w (.cells #[.string s, .int .i64 f, .int .i64 (C : Int), .slice a1 n1 c1, .slice a2 n2 c2, .slice (some ⟨g, 0, none⟩) C C, .int .i64 (shortOf ms), .int .i64 (longOf ms), .int .i64 (daysTo (shortOf ms) (longOf ms) ls (C : Int))] 43)).then_ hb
  have b0 : Below w.heap.size w w2 := by exact bl
  have hl2 := a0.lt
  clear hb
  go_wp2_with fail
  go_ret2
  exact ⟨rfl, by exact bl⟩
theorem years_Later_arg (w : World) (s : ByteArray) (f : Int) (C : Nat) (a1 a2 : Option Addr) (n1 c1 n2 c2 : Nat) (ms : List Mon) (ls : List Int) (g : Nat) (x yy mm : Int) (hg : MarksAt w g C ls) (h : CalAt w a1 a2 n1 n2 ms ls) (y m d : Int) (hr : (inB (-10000) 10000 yy && inB (-10000) 10000 mm) = false)
    (hfd : ∀ W, Below w.heap.size w W → Calls Tryz.prog 21 #[.agg #[.string s, .int .i64 f, .int .i64 (C : Int), .slice a1 n1 c1, .slice a2 n2 c2, .slice (some ⟨g, 0, none⟩) C C, .int .i64 (shortOf ms), .int .i64 (longOf ms), .int .i64 (daysTo (shortOf ms) (longOf ms) ls (C : Int))], .int .i64 x] W fun e w' => e = .returned (.tuple #[.agg #[.int .i64 y, .int .i64 m, .int .i64 d], .int .i64 0]) ∧ Below W.heap.size W w') :
    Calls Tryz.prog 42 #[.agg #[.string s, .int .i64 f, .int .i64 (C : Int), .slice a1 n1 c1, .slice a2 n2 c2, .slice (some ⟨g, 0, none⟩) C C, .int .i64 (shortOf ms), .int .i64 (longOf ms), .int .i64 (daysTo (shortOf ms) (longOf ms) ls (C : Int))], .int .i64 x, .int .i64 yy, .int .i64 mm] w fun e w' =>  e = .returned (.tuple #[.int .i64 0, .int .i64 1]) ∧ Below w.heap.size w w' := by
  have hr' : inB (-10000) 10000 yy = false ∨ (inB (-10000) 10000 yy = true ∧ inB (-10000) 10000 mm = false) := by
    cases h1 : inB (-10000) 10000 yy <;> simp [h1] at hr ⊢
    exact hr
  clear hr
  rcases hr' with g1 | ⟨g1, g2⟩
  all_goals
    have H := Lib.hid h; have HG := Lib.hid hg; have HFD := Lib.hid hfd
    clear h hg hfd
    go_enter Tryz.func42, Tryz.ntmps42
    go_wp2_with fail
    refine (HFD.out _ (below_new (Below.refl _ _) _)).mono ?_
    rintro e w2 ⟨rfl, hb⟩
    have a0 := (At.new w (.cells #[.string s, .int .i64 f, .int .i64 (C : Int), .slice a1 n1 c1, .slice a2 n2 c2, .slice (some ⟨g, 0, none⟩) C C, .int .i64 (shortOf ms), .int .i64 (longOf ms), .int .i64 (daysTo (shortOf ms) (longOf ms) ls (C : Int))] 43)).then_ hb
    have b0 : Below w.heap.size w w2 := by exact bl
    have hl2 := a0.lt
    clear hb
    go_wp2_with fail
    refine (ref_In _ _ _ _).mono ?_; rw [g1]; rintro e w3 ⟨rfl, rfl⟩
    go_wp2_with fail
    try (refine (ref_In _ _ _ _).mono ?_; rw [g2]; rintro e w3 ⟨rfl, rfl⟩; go_wp2_with fail)
    go_ret2
    exact ⟨rfl, by exact bl⟩
set_option maxHeartbeats 16000000 in
theorem years_Later_up (w : World) (s : ByteArray) (f : Int) (C : Nat) (a1 a2 : Option Addr) (n1 c1 n2 c2 : Nat) (ms : List Mon) (ls : List Int) (g : Nat) (x yy mm : Int) (hg : MarksAt w g C ls) (h : CalAt w a1 a2 n1 n2 ms ls) (y : Int) (k : Nat) (d : Int) (N : Nat) (R : Option (Int × Nat)) (ok : CalOk s f C ms ls) (hk : k < n1) (y1 : -10000 ≤ y) (y2 : y ≤ 10000) (d1 : 1 ≤ d) (d2 : d ≤ 400) (yy1 : -10000 ≤ yy) (yy2 : yy ≤ 10000) (hN : N ≤ 10000) (hmm : mm = (N : Int)) (hR : Going ms ls C true true N (y + yy, k) R)
    (hfd : ∀ W, Below w.heap.size w W → Calls Tryz.prog 21 #[.agg #[.string s, .int .i64 f, .int .i64 (C : Int), .slice a1 n1 c1, .slice a2 n2 c2, .slice (some ⟨g, 0, none⟩) C C, .int .i64 (shortOf ms), .int .i64 (longOf ms), .int .i64 (daysTo (shortOf ms) (longOf ms) ls (C : Int))], .int .i64 x] W fun e w' => e = .returned (.tuple #[.agg #[.int .i64 y, .int .i64 ((k : Int) + 1), .int .i64 d], .int .i64 0]) ∧ Below W.heap.size W w') :
    Calls Tryz.prog 42 #[.agg #[.string s, .int .i64 f, .int .i64 (C : Int), .slice a1 n1 c1, .slice a2 n2 c2, .slice (some ⟨g, 0, none⟩) C C, .int .i64 (shortOf ms), .int .i64 (longOf ms), .int .i64 (daysTo (shortOf ms) (longOf ms) ls (C : Int))], .int .i64 x, .int .i64 yy, .int .i64 mm] w fun e w' =>  e = .returned (laterOut ms ls f C R d) ∧ Below w.heap.size w w' := by
  subst hmm
  have g1 := inB_yes yy1 yy2
  have g2 : inB (-10000) 10000 ((N : Int)) = true := inB_yes (by omega) (by omega)
  obtain ⟨r1, r2, r3, r4⟩ := ok_n1 h ok
  have cy1 : 1 ≤ C := by have := ok.cy1; omega
  have cy2 : C ≤ 3000 := by have := ok.cy2; omega
  have L1 := Lib.hid h.1.len
  have OK := Lib.hid ok; have HR := Lib.hid hR
  clear ok hR
  have hneg : ¬ ((N : Int) < 0) := by omega
  have H := Lib.hid h; have HG := Lib.hid hg; have HFD := Lib.hid hfd
  clear h hg hfd
  go_enter Tryz.func42, Tryz.ntmps42
  go_wp2_with fail
  refine (HFD.out _ (below_new (Below.refl _ _) _)).mono ?_
  rintro e w2 ⟨rfl, hb⟩
  have a0 := (At.new w (.cells #[.string s, .int .i64 f, .int .i64 (C : Int), .slice a1 n1 c1, .slice a2 n2 c2, .slice (some ⟨g, 0, none⟩) C C, .int .i64 (shortOf ms), .int .i64 (longOf ms), .int .i64 (daysTo (shortOf ms) (longOf ms) ls (C : Int))] 43)).then_ hb
  have b0 : Below w.heap.size w w2 := by exact bl
  have hl2 := a0.lt
  clear hb
  go_wp2_with fail
  refine (ref_In _ _ _ _).mono ?_; rw [g1]; rintro e w3 ⟨rfl, rfl⟩
  go_wp2_with fail
  refine (ref_In _ _ _ _).mono ?_; rw [g2]; rintro e w3 ⟨rfl, rfl⟩
  have lt : Lt w w2.heap.size (.cells #[.string s, .int .i64 f, .int .i64 (C : Int), .slice a1 n1 c1, .slice a2 n2 c2, .slice (some ⟨g, 0, none⟩) C C, .int .i64 (shortOf ms), .int .i64 (longOf ms), .int .i64 (daysTo (shortOf ms) (longOf ms) ls (C : Int))] 43) y ((k : Int) + 1) d (w2.alloc (.cells #[.int .i64 y, .int .i64 ((k : Int) + 1), .int .i64 d] 52)) := ⟨a0.alloc _, At.new w2 _, by exact bl⟩
  clear a0 b0
  generalize World.alloc w2 _ = W3 at lt ⊢
  generalize w2.heap.size = B at *
  obtain ⟨e0, e1, e2, f0, f1, f2⟩ := lt.2.1.cells
  go_wp2_with fail
  replace lt := lt.year hl2 (y + yy)
  generalize World.setCell _ _ _ = W4 at lt ⊢
  clear e0 e1 e2 f0 f1 f2
  have Y1 : -20000 ≤ y + yy := by omega
  have Y2 : y + yy ≤ 20000 := by omega
  generalize hyy : y + yy = Y at *
  clear hyy hneg g1 g2
  go_loopg [12, 14] N (fun gk t u wr => ∃ (y : Int) (k : Nat), t = .int .i64 (gk : Int) ∧ u = .int .i64 1 ∧ gk ≤ 10000 ∧ k < n1 ∧ -20000 ≤ y ∧ y ≤ 20000 ∧ Going ms ls C true true gk (y, k) R ∧ Lt w B (.cells #[.string s, .int .i64 f, .int .i64 (C : Int), .slice a1 n1 c1, .slice a2 n2 c2, .slice (some ⟨g, 0, none⟩) C C, .int .i64 (shortOf ms), .int .i64 (longOf ms), .int .i64 (daysTo (shortOf ms) (longOf ms) ls (C : Int))] 43) y ((k : Int) + 1) d wr)
  case atStart => exact ⟨Y, k, rfl, rfl, hN, hk, by omega, by omega, HR.out, lt⟩
  case round =>
    clear lt HR hk
    obtain ⟨y, k, rfl, rfl, hgk, hk, yb1, yb2, hgo, lt⟩ := hrel
    have HGO := Lib.hid hgo
    clear hgo
    go_wp2_with fail
    go_loopg [44] (farP ms.length true (y, k)) (fun gi _ wi => ∃ (y : Int) (k : Nat), gi = farP ms.length true (y, k) ∧ k < n1 ∧ -20000 ≤ y ∧ y ≤ 20000 ∧ Going ms ls C true true gk (y, k) R ∧ Lt w B (.cells #[.string s, .int .i64 f, .int .i64 (C : Int), .slice a1 n1 c1, .slice a2 n2 c2, .slice (some ⟨g, 0, none⟩) C C, .int .i64 (shortOf ms), .int .i64 (longOf ms), .int .i64 (daysTo (shortOf ms) (longOf ms) ls (C : Int))] 43) y ((k : Int) + 1) d wi)
    case atStart => exact ⟨y, k, rfl, hk, yb1, yb2, HGO.out, lt⟩
    case round =>
      clear lt HGO hk yb1 yb2
      obtain ⟨y, k, rfl, hk, yb1, yb2, hgo, lt⟩ := hrel
      obtain ⟨x0, x1, x2, x3, x4, x5, x6, x7, x8⟩ := lt.years
      obtain ⟨e0, e1, e2, f0, f1, f2⟩ := lt.2.1.cells
      rcases hgo.cases with ⟨hi, hn⟩ | ⟨hi, hl, hch⟩ | ⟨hi, hl, hgn⟩
      · exact q24
      · obtain ⟨yi1, yi2⟩ := hi
        simp only at yi1 yi2
        have hy' : inB (-10000) 10000 y = true := inB_yes yi1 yi2
        clear hgo
        obtain ⟨x, hx⟩ : ∃ x, ms[k]? = some x := ⟨_, List.getElem?_eq_getElem (show k < ms.length by have := L1.out; omega)⟩
        obtain ⟨ML, hML⟩ : ∃ ML, ML = mlenOf x (flag ls (placeOf C y)) := ⟨_, rfl⟩
        have hlen : lenAt ms ls C (y, k) = ML := by rw [hML]; exact lenAt_of hx
        have HX := Lib.hid hx; have HML := Lib.hid hML
        clear hx hML
        rw [hlen] at hl
        have hl0 : (ML == 0) = false := by simp; omega
        go_wp2_with fail
        refine (ref_In _ _ _ _).mono ?_; rw [hy']; rintro e w3 ⟨rfl, rfl⟩
        go_wp2_with fail
        refine (years_Month _ s f C a1 a2 n1 c1 n2 c2 ms ls g y _ _ _ k x cy1 cy2 (by omega) (by omega) (HG.out.then_ lt.2.2) (H.out.then_ lt.2.2) r2 HX.out).mono ?_
        rw [← HML.out]
        rintro e w4 ⟨rfl, hb⟩
        replace lt := lt.step hb
        clear hb x0 x1 x2 x3 x4 x5 x6 x7 x8 e0 e1 e2 f0 f1 f2
        obtain ⟨x0, x1, x2, x3, x4, x5, x6, x7, x8⟩ := lt.years
        obtain ⟨e0, e1, e2, f0, f1, f2⟩ := lt.2.1.cells
        go_wp2_with fail
        refine (ref_In _ _ _ _).mono ?_; rw [hy']; rintro e w3 ⟨rfl, rfl⟩
        obtain hz | ⟨g', hg'⟩ : gk = 0 ∨ ∃ g, gk = g + 1 := by cases gk with | zero => exact .inl rfl | succ g => exact .inr ⟨g, rfl⟩
        · subst hz
          clear x0 x1 x2 x3 x4 x5 x6 x7 x8 e0 e1 e2 f0 f1 f2
          have hR : R = some (y, k) := hch
          have hMb := lenAt_nonneg OK.out (y, k)
          rw [hlen] at hMb
          obtain ⟨_, ML2⟩ := hMb
          have hfin := Lib.hid (show laterOut ms ls f C R d = dayOr (dnum ms ls f C y k (min d ML)) by rw [hR, ← hlen]; rfl)
          clear hch hR hlen
          obtain ⟨x0, x1, x2, x3, x4, x5, x6, x7, x8⟩ := lt.years
          obtain ⟨e0, e1, e2, f0, f1, f2⟩ := lt.2.1.cells
          go_wp2_with fail
          refine (years_Month _ s f C a1 a2 n1 c1 n2 c2 ms ls g y _ _ _ k x cy1 cy2 (by omega) (by omega) (HG.out.then_ lt.2.2) (H.out.then_ lt.2.2) r2 HX.out).mono ?_
          rw [← HML.out]
          rintro e w4 ⟨rfl, hb⟩
          replace lt := lt.step hb
          clear hb x0 x1 x2 x3 x4 x5 x6 x7 x8 e0 e1 e2 f0 f1 f2
          obtain ⟨x0, x1, x2, x3, x4, x5, x6, x7, x8⟩ := lt.years
          obtain ⟨e0, e1, e2, f0, f1, f2⟩ := lt.2.1.cells
          by_cases hdm : d ≤ ML
          · go_wp2_with fail
            rw [show min d ML = d by omega] at hfin
            have hd1 : inB 1 (mlenOf x (flag ls (placeOf C y))) d = true := by rw [← HML.out]; exact inB_yes (by omega) (by omega)
            have hcon := years_ToDay_ok w4 s f C a1 a2 n1 c1 n2 c2 ms ls g y k d x OK.out yi1 yi2 (HG.out.then_ lt.2.2) (H.out.then_ lt.2.2) HX.out hd1
            generalize dnum ms ls f C y k d = D at hfin hcon
            clear e0 e1 e2 f0 f1 f2 x0 x1 x2 x3 x4 x5 x6 x7 x8
            rcases inB_cases (-4000000) 4000000 D with ⟨hd, _⟩ | ⟨hd, _⟩
            · exact q60
            · exact q55
          · have hdm' : ML < d := by omega
            go_wp2_with fail
            replace lt := lt.day hl2 ML
            rw [show min d ML = ML by omega] at hfin
            generalize World.setCell _ _ _ = W7 at lt ⊢
            have hd1 : inB 1 (mlenOf x (flag ls (placeOf C y))) ML = true := by rw [← HML.out]; exact inB_yes (by omega) (by omega)
            have hcon := years_ToDay_ok W7 s f C a1 a2 n1 c1 n2 c2 ms ls g y k ML x OK.out yi1 yi2 (HG.out.then_ lt.2.2) (H.out.then_ lt.2.2) HX.out hd1
            generalize dnum ms ls f C y k ML = D at hfin hcon
            clear e0 e1 e2 f0 f1 f2 x0 x1 x2 x3 x4 x5 x6 x7 x8
            rcases inB_cases (-4000000) 4000000 D with ⟨hd, _⟩ | ⟨hd, _⟩
            · exact q60
            · exact q55
        · subst hg'
          have hz' : (((g' + 1 : Nat) : Int) == 0) = false := by simp; omega
          have HGN := Lib.hid (show Going ms ls C true true g' (stepP ms.length true (y, k)) R from hch)
          clear hch hlen
          obtain ⟨r, hr⟩ : ∃ r, stepP n1 true (y, k) = r := ⟨_, rfl⟩
          have hrin := stepP_in (n := n1) (up := true) (p := (y, k)) hk
          have hryr := stepP_year (n := n1) (up := true) (p := (y, k))
          rw [hr] at hrin hryr
          simp only at hryr
          obtain ⟨ry1, ry2⟩ := hryr
          have HR' := Lib.hid hr
          clear hr
          go_wp2_with fail
          refine (years_step_up _ s f C a1 a2 n1 c1 n2 c2 ms ls g B y k d r HR'.out hk r2 (by omega) (by omega) lt.2.1).mono ?_
          rintro e w5 ⟨rfl, hda, hkp⟩
          replace lt := lt.stepped hl2 hda hkp
          clear x0 x1 x2 x3 x4 x5 x6 x7 x8 e0 e1 e2 f0 f1 f2
          clear hda hkp
          go_wp2_with fail
          go_roundg g'
          case rel => exact ⟨r.1, r.2, by go_num, rfl, by omega, hrin, by omega, by omega, by have := HGN.out; rw [L1.out, HR'.out] at this; exact this, lt⟩
          case measure => omega
      · have hfar := farP_step (n := ms.length) (up := true) (p := (y, k)) (by have := L1.out; simp only; omega) hi
        obtain ⟨yi1, yi2⟩ := hi
        simp only at yi1 yi2
        have hy' : inB (-10000) 10000 y = true := inB_yes yi1 yi2
        have HGN := Lib.hid hgn; have HFAR := Lib.hid hfar
        clear hgo hgn hfar
        obtain ⟨x, hx⟩ : ∃ x, ms[k]? = some x := ⟨_, List.getElem?_eq_getElem (show k < ms.length by have := L1.out; omega)⟩
        obtain ⟨ML, hML⟩ : ∃ ML, ML = mlenOf x (flag ls (placeOf C y)) := ⟨_, rfl⟩
        have hlen : lenAt ms ls C (y, k) = ML := by rw [hML]; exact lenAt_of hx
        have HX := Lib.hid hx; have HML := Lib.hid hML
        clear hx hML
        rw [hlen] at hl
        have hl0 : (ML == 0) = true := by simp; omega
        clear hlen
        obtain ⟨r, hr⟩ : ∃ r, stepP n1 true (y, k) = r := ⟨_, rfl⟩
        have hrin := stepP_in (n := n1) (up := true) (p := (y, k)) hk
        have hryr := stepP_year (n := n1) (up := true) (p := (y, k))
        rw [hr] at hrin hryr
        simp only at hryr
        obtain ⟨ry1, ry2⟩ := hryr
        have HR' := Lib.hid hr
        clear hr
        go_wp2_with fail
        refine (ref_In _ _ _ _).mono ?_; rw [hy']; rintro e w3 ⟨rfl, rfl⟩
        go_wp2_with fail
        refine (years_Month _ s f C a1 a2 n1 c1 n2 c2 ms ls g y _ _ _ k x cy1 cy2 (by omega) (by omega) (HG.out.then_ lt.2.2) (H.out.then_ lt.2.2) r2 HX.out).mono ?_
        rw [← HML.out]
        rintro e w4 ⟨rfl, hb⟩
        replace lt := lt.step hb
        clear hb x0 x1 x2 x3 x4 x5 x6 x7 x8 e0 e1 e2 f0 f1 f2
        obtain ⟨x0, x1, x2, x3, x4, x5, x6, x7, x8⟩ := lt.years
        obtain ⟨e0, e1, e2, f0, f1, f2⟩ := lt.2.1.cells
        go_wp2_with fail
        refine (years_step_up _ s f C a1 a2 n1 c1 n2 c2 ms ls g B y k d r HR'.out hk r2 (by omega) (by omega) lt.2.1).mono ?_
        rintro e w5 ⟨rfl, hda, hkp⟩
        replace lt := lt.stepped hl2 hda hkp
        clear x0 x1 x2 x3 x4 x5 x6 x7 x8 e0 e1 e2 f0 f1 f2
        clear hda hkp
        go_wp2_with fail
        go_roundg (farP ms.length true r)
        case rel => exact ⟨r.1, r.2, rfl, hrin, by omega, by omega, by have := HGN.out; rw [L1.out, HR'.out] at this; exact this, lt⟩
        case measure => have := HFAR.out; rw [L1.out, HR'.out] at this; rw [L1.out]; exact this
set_option maxHeartbeats 16000000 in
theorem years_Later_down (w : World) (s : ByteArray) (f : Int) (C : Nat) (a1 a2 : Option Addr) (n1 c1 n2 c2 : Nat) (ms : List Mon) (ls : List Int) (g : Nat) (x yy mm : Int) (hg : MarksAt w g C ls) (h : CalAt w a1 a2 n1 n2 ms ls) (y : Int) (k : Nat) (d : Int) (N : Nat) (R : Option (Int × Nat)) (ok : CalOk s f C ms ls) (hk : k < n1) (y1 : -10000 ≤ y) (y2 : y ≤ 10000) (d1 : 1 ≤ d) (d2 : d ≤ 400) (yy1 : -10000 ≤ yy) (yy2 : yy ≤ 10000) (hN : N ≤ 10000) (hN1 : 1 ≤ N) (hmm : mm = -(N : Int)) (hR : Going ms ls C true false N (y + yy, k) R)
    (hfd : ∀ W, Below w.heap.size w W → Calls Tryz.prog 21 #[.agg #[.string s, .int .i64 f, .int .i64 (C : Int), .slice a1 n1 c1, .slice a2 n2 c2, .slice (some ⟨g, 0, none⟩) C C, .int .i64 (shortOf ms), .int .i64 (longOf ms), .int .i64 (daysTo (shortOf ms) (longOf ms) ls (C : Int))], .int .i64 x] W fun e w' => e = .returned (.tuple #[.agg #[.int .i64 y, .int .i64 ((k : Int) + 1), .int .i64 d], .int .i64 0]) ∧ Below W.heap.size W w') :
    Calls Tryz.prog 42 #[.agg #[.string s, .int .i64 f, .int .i64 (C : Int), .slice a1 n1 c1, .slice a2 n2 c2, .slice (some ⟨g, 0, none⟩) C C, .int .i64 (shortOf ms), .int .i64 (longOf ms), .int .i64 (daysTo (shortOf ms) (longOf ms) ls (C : Int))], .int .i64 x, .int .i64 yy, .int .i64 mm] w fun e w' =>  e = .returned (laterOut ms ls f C R d) ∧ Below w.heap.size w w' := by
  subst hmm
  have g1 := inB_yes yy1 yy2
  have g2 : inB (-10000) 10000 (-(N : Int)) = true := inB_yes (by omega) (by omega)
  obtain ⟨r1, r2, r3, r4⟩ := ok_n1 h ok
  have cy1 : 1 ≤ C := by have := ok.cy1; omega
  have cy2 : C ≤ 3000 := by have := ok.cy2; omega
  have L1 := Lib.hid h.1.len
  have OK := Lib.hid ok; have HR := Lib.hid hR
  clear ok hR
  have hneg : -(N : Int) < 0 := by omega
  have hN0 : 0 < N := hN1
  have H := Lib.hid h; have HG := Lib.hid hg; have HFD := Lib.hid hfd
  clear h hg hfd
  go_enter Tryz.func42, Tryz.ntmps42
  go_wp2_with fail
  refine (HFD.out _ (below_new (Below.refl _ _) _)).mono ?_
  rintro e w2 ⟨rfl, hb⟩
  have a0 := (At.new w (.cells #[.string s, .int .i64 f, .int .i64 (C : Int), .slice a1 n1 c1, .slice a2 n2 c2, .slice (some ⟨g, 0, none⟩) C C, .int .i64 (shortOf ms), .int .i64 (longOf ms), .int .i64 (daysTo (shortOf ms) (longOf ms) ls (C : Int))] 43)).then_ hb
  have b0 : Below w.heap.size w w2 := by exact bl
  have hl2 := a0.lt
  clear hb
  go_wp2_with fail
  refine (ref_In _ _ _ _).mono ?_; rw [g1]; rintro e w3 ⟨rfl, rfl⟩
  go_wp2_with fail
  refine (ref_In _ _ _ _).mono ?_; rw [g2]; rintro e w3 ⟨rfl, rfl⟩
  have lt : Lt w w2.heap.size (.cells #[.string s, .int .i64 f, .int .i64 (C : Int), .slice a1 n1 c1, .slice a2 n2 c2, .slice (some ⟨g, 0, none⟩) C C, .int .i64 (shortOf ms), .int .i64 (longOf ms), .int .i64 (daysTo (shortOf ms) (longOf ms) ls (C : Int))] 43) y ((k : Int) + 1) d (w2.alloc (.cells #[.int .i64 y, .int .i64 ((k : Int) + 1), .int .i64 d] 52)) := ⟨a0.alloc _, At.new w2 _, by exact bl⟩
  clear a0 b0
  generalize World.alloc w2 _ = W3 at lt ⊢
  generalize w2.heap.size = B at *
  obtain ⟨e0, e1, e2, f0, f1, f2⟩ := lt.2.1.cells
  go_wp2_with fail
  replace lt := lt.year hl2 (y + yy)
  generalize World.setCell _ _ _ = W4 at lt ⊢
  clear e0 e1 e2 f0 f1 f2
  have Y1 : -20000 ≤ y + yy := by omega
  have Y2 : y + yy ≤ 20000 := by omega
  generalize hyy : y + yy = Y at *
  clear hyy hneg g1 g2
  go_loopg [12, 14] N (fun gk t u wr => ∃ (wy : Bool) (y : Int) (k : Nat), t = .int .i64 (gk : Int) ∧ ((wy = true ∧ u = .int .i64 1) ∨ (wy = false ∧ u = .int .i64 (-1))) ∧ gk ≤ 10000 ∧ k < n1 ∧ -20000 ≤ y ∧ y ≤ 20000 ∧ Going ms ls C wy false gk (y, k) R ∧ Lt w B (.cells #[.string s, .int .i64 f, .int .i64 (C : Int), .slice a1 n1 c1, .slice a2 n2 c2, .slice (some ⟨g, 0, none⟩) C C, .int .i64 (shortOf ms), .int .i64 (longOf ms), .int .i64 (daysTo (shortOf ms) (longOf ms) ls (C : Int))] 43) y ((k : Int) + 1) d wr)
  case atStart => exact ⟨true, Y, k, rfl, .inl ⟨rfl, rfl⟩, hN, hk, by omega, by omega, HR.out, lt⟩
  case round =>
    clear lt HR hk
    obtain ⟨wy, y, k, rfl, hu, hgk, hk, yb1, yb2, hgo, lt⟩ := hrel
    rcases hu with ⟨rfl, rfl⟩ | ⟨rfl, rfl⟩
    · have HGO := Lib.hid hgo
      clear hgo
      go_wp2_with fail
      go_loopg [44] (farP ms.length true (y, k)) (fun gi _ wi => ∃ (y : Int) (k : Nat), gi = farP ms.length true (y, k) ∧ k < n1 ∧ -20000 ≤ y ∧ y ≤ 20000 ∧ Going ms ls C true false gk (y, k) R ∧ Lt w B (.cells #[.string s, .int .i64 f, .int .i64 (C : Int), .slice a1 n1 c1, .slice a2 n2 c2, .slice (some ⟨g, 0, none⟩) C C, .int .i64 (shortOf ms), .int .i64 (longOf ms), .int .i64 (daysTo (shortOf ms) (longOf ms) ls (C : Int))] 43) y ((k : Int) + 1) d wi)
      case atStart => exact ⟨y, k, rfl, hk, yb1, yb2, HGO.out, lt⟩
      case round =>
        clear lt HGO hk yb1 yb2
        obtain ⟨y, k, rfl, hk, yb1, yb2, hgo, lt⟩ := hrel
        obtain ⟨x0, x1, x2, x3, x4, x5, x6, x7, x8⟩ := lt.years
        obtain ⟨e0, e1, e2, f0, f1, f2⟩ := lt.2.1.cells
        rcases hgo.cases with ⟨hi, hn⟩ | ⟨hi, hl, hch⟩ | ⟨hi, hl, hgn⟩
        · exact q24
        · obtain ⟨yi1, yi2⟩ := hi
          simp only at yi1 yi2
          have hy' : inB (-10000) 10000 y = true := inB_yes yi1 yi2
          clear hgo
          obtain ⟨x, hx⟩ : ∃ x, ms[k]? = some x := ⟨_, List.getElem?_eq_getElem (show k < ms.length by have := L1.out; omega)⟩
          obtain ⟨ML, hML⟩ : ∃ ML, ML = mlenOf x (flag ls (placeOf C y)) := ⟨_, rfl⟩
          have hlen : lenAt ms ls C (y, k) = ML := by rw [hML]; exact lenAt_of hx
          have HX := Lib.hid hx; have HML := Lib.hid hML
          clear hx hML
          rw [hlen] at hl
          have hl0 : (ML == 0) = false := by simp; omega
          go_wp2_with fail
          refine (ref_In _ _ _ _).mono ?_; rw [hy']; rintro e w3 ⟨rfl, rfl⟩
          go_wp2_with fail
          refine (years_Month _ s f C a1 a2 n1 c1 n2 c2 ms ls g y _ _ _ k x cy1 cy2 (by omega) (by omega) (HG.out.then_ lt.2.2) (H.out.then_ lt.2.2) r2 HX.out).mono ?_
          rw [← HML.out]
          rintro e w4 ⟨rfl, hb⟩
          replace lt := lt.step hb
          clear hb x0 x1 x2 x3 x4 x5 x6 x7 x8 e0 e1 e2 f0 f1 f2
          obtain ⟨x0, x1, x2, x3, x4, x5, x6, x7, x8⟩ := lt.years
          obtain ⟨e0, e1, e2, f0, f1, f2⟩ := lt.2.1.cells
          go_wp2_with fail
          refine (ref_In _ _ _ _).mono ?_; rw [hy']; rintro e w3 ⟨rfl, rfl⟩
          obtain hz | ⟨g', hg'⟩ : gk = 0 ∨ ∃ g, gk = g + 1 := by cases gk with | zero => exact .inl rfl | succ g => exact .inr ⟨g, rfl⟩
          · subst hz
            clear x0 x1 x2 x3 x4 x5 x6 x7 x8 e0 e1 e2 f0 f1 f2
            have hR : R = some (y, k) := hch
            have hMb := lenAt_nonneg OK.out (y, k)
            rw [hlen] at hMb
            obtain ⟨_, ML2⟩ := hMb
            have hfin := Lib.hid (show laterOut ms ls f C R d = dayOr (dnum ms ls f C y k (min d ML)) by rw [hR, ← hlen]; rfl)
            clear hch hR hlen
            obtain ⟨x0, x1, x2, x3, x4, x5, x6, x7, x8⟩ := lt.years
            obtain ⟨e0, e1, e2, f0, f1, f2⟩ := lt.2.1.cells
            go_wp2_with fail
            refine (years_Month _ s f C a1 a2 n1 c1 n2 c2 ms ls g y _ _ _ k x cy1 cy2 (by omega) (by omega) (HG.out.then_ lt.2.2) (H.out.then_ lt.2.2) r2 HX.out).mono ?_
            rw [← HML.out]
            rintro e w4 ⟨rfl, hb⟩
            replace lt := lt.step hb
            clear hb x0 x1 x2 x3 x4 x5 x6 x7 x8 e0 e1 e2 f0 f1 f2
            obtain ⟨x0, x1, x2, x3, x4, x5, x6, x7, x8⟩ := lt.years
            obtain ⟨e0, e1, e2, f0, f1, f2⟩ := lt.2.1.cells
            by_cases hdm : d ≤ ML
            · go_wp2_with fail
              rw [show min d ML = d by omega] at hfin
              have hd1 : inB 1 (mlenOf x (flag ls (placeOf C y))) d = true := by rw [← HML.out]; exact inB_yes (by omega) (by omega)
              have hcon := years_ToDay_ok w4 s f C a1 a2 n1 c1 n2 c2 ms ls g y k d x OK.out yi1 yi2 (HG.out.then_ lt.2.2) (H.out.then_ lt.2.2) HX.out hd1
              generalize dnum ms ls f C y k d = D at hfin hcon
              clear e0 e1 e2 f0 f1 f2 x0 x1 x2 x3 x4 x5 x6 x7 x8
              rcases inB_cases (-4000000) 4000000 D with ⟨hd, _⟩ | ⟨hd, _⟩
              · exact q60
              · exact q55
            · have hdm' : ML < d := by omega
              go_wp2_with fail
              replace lt := lt.day hl2 ML
              rw [show min d ML = ML by omega] at hfin
              generalize World.setCell _ _ _ = W7 at lt ⊢
              have hd1 : inB 1 (mlenOf x (flag ls (placeOf C y))) ML = true := by rw [← HML.out]; exact inB_yes (by omega) (by omega)
              have hcon := years_ToDay_ok W7 s f C a1 a2 n1 c1 n2 c2 ms ls g y k ML x OK.out yi1 yi2 (HG.out.then_ lt.2.2) (H.out.then_ lt.2.2) HX.out hd1
              generalize dnum ms ls f C y k ML = D at hfin hcon
              clear e0 e1 e2 f0 f1 f2 x0 x1 x2 x3 x4 x5 x6 x7 x8
              rcases inB_cases (-4000000) 4000000 D with ⟨hd, _⟩ | ⟨hd, _⟩
              · exact q60
              · exact q55
          · subst hg'
            have hz' : (((g' + 1 : Nat) : Int) == 0) = false := by simp; omega
            have HGN := Lib.hid (show Going ms ls C false false g' (stepP ms.length false (y, k)) R from hch)
            clear hch hlen
            obtain ⟨r, hr⟩ : ∃ r, stepP n1 false (y, k) = r := ⟨_, rfl⟩
            have hrin := stepP_in (n := n1) (up := false) (p := (y, k)) hk
            have hryr := stepP_year (n := n1) (up := false) (p := (y, k))
            rw [hr] at hrin hryr
            simp only at hryr
            obtain ⟨ry1, ry2⟩ := hryr
            have HR' := Lib.hid hr
            clear hr
            go_wp2_with fail
            refine (years_step_down _ s f C a1 a2 n1 c1 n2 c2 ms ls g B y k d r HR'.out hk r2 (by omega) (by omega) lt.2.1).mono ?_
            rintro e w5 ⟨rfl, hda, hkp⟩
            replace lt := lt.stepped hl2 hda hkp
            clear x0 x1 x2 x3 x4 x5 x6 x7 x8 e0 e1 e2 f0 f1 f2
            clear hda hkp
            go_wp2_with fail
            go_roundg g'
            case rel => exact ⟨false, r.1, r.2, by go_num, .inr ⟨rfl, rfl⟩, by omega, hrin, by omega, by omega, by have := HGN.out; rw [L1.out, HR'.out] at this; exact this, lt⟩
            case measure => omega
        · have hfar := farP_step (n := ms.length) (up := true) (p := (y, k)) (by have := L1.out; simp only; omega) hi
          obtain ⟨yi1, yi2⟩ := hi
          simp only at yi1 yi2
          have hy' : inB (-10000) 10000 y = true := inB_yes yi1 yi2
          have HGN := Lib.hid hgn; have HFAR := Lib.hid hfar
          clear hgo hgn hfar
          obtain ⟨x, hx⟩ : ∃ x, ms[k]? = some x := ⟨_, List.getElem?_eq_getElem (show k < ms.length by have := L1.out; omega)⟩
          obtain ⟨ML, hML⟩ : ∃ ML, ML = mlenOf x (flag ls (placeOf C y)) := ⟨_, rfl⟩
          have hlen : lenAt ms ls C (y, k) = ML := by rw [hML]; exact lenAt_of hx
          have HX := Lib.hid hx; have HML := Lib.hid hML
          clear hx hML
          rw [hlen] at hl
          have hl0 : (ML == 0) = true := by simp; omega
          clear hlen
          obtain ⟨r, hr⟩ : ∃ r, stepP n1 true (y, k) = r := ⟨_, rfl⟩
          have hrin := stepP_in (n := n1) (up := true) (p := (y, k)) hk
          have hryr := stepP_year (n := n1) (up := true) (p := (y, k))
          rw [hr] at hrin hryr
          simp only at hryr
          obtain ⟨ry1, ry2⟩ := hryr
          have HR' := Lib.hid hr
          clear hr
          go_wp2_with fail
          refine (ref_In _ _ _ _).mono ?_; rw [hy']; rintro e w3 ⟨rfl, rfl⟩
          go_wp2_with fail
          refine (years_Month _ s f C a1 a2 n1 c1 n2 c2 ms ls g y _ _ _ k x cy1 cy2 (by omega) (by omega) (HG.out.then_ lt.2.2) (H.out.then_ lt.2.2) r2 HX.out).mono ?_
          rw [← HML.out]
          rintro e w4 ⟨rfl, hb⟩
          replace lt := lt.step hb
          clear hb x0 x1 x2 x3 x4 x5 x6 x7 x8 e0 e1 e2 f0 f1 f2
          obtain ⟨x0, x1, x2, x3, x4, x5, x6, x7, x8⟩ := lt.years
          obtain ⟨e0, e1, e2, f0, f1, f2⟩ := lt.2.1.cells
          go_wp2_with fail
          refine (years_step_up _ s f C a1 a2 n1 c1 n2 c2 ms ls g B y k d r HR'.out hk r2 (by omega) (by omega) lt.2.1).mono ?_
          rintro e w5 ⟨rfl, hda, hkp⟩
          replace lt := lt.stepped hl2 hda hkp
          clear x0 x1 x2 x3 x4 x5 x6 x7 x8 e0 e1 e2 f0 f1 f2
          clear hda hkp
          go_wp2_with fail
          go_roundg (farP ms.length true r)
          case rel => exact ⟨r.1, r.2, rfl, hrin, by omega, by omega, by have := HGN.out; rw [L1.out, HR'.out] at this; exact this, lt⟩
          case measure => have := HFAR.out; rw [L1.out, HR'.out] at this; rw [L1.out]; exact this
    · have HGO := Lib.hid hgo
      clear hgo
      go_wp2_with fail
      go_loopg [44] (farP ms.length false (y, k)) (fun gi _ wi => ∃ (y : Int) (k : Nat), gi = farP ms.length false (y, k) ∧ k < n1 ∧ -20000 ≤ y ∧ y ≤ 20000 ∧ Going ms ls C false false gk (y, k) R ∧ Lt w B (.cells #[.string s, .int .i64 f, .int .i64 (C : Int), .slice a1 n1 c1, .slice a2 n2 c2, .slice (some ⟨g, 0, none⟩) C C, .int .i64 (shortOf ms), .int .i64 (longOf ms), .int .i64 (daysTo (shortOf ms) (longOf ms) ls (C : Int))] 43) y ((k : Int) + 1) d wi)
      case atStart => exact ⟨y, k, rfl, hk, yb1, yb2, HGO.out, lt⟩
      case round =>
        clear lt HGO hk yb1 yb2
        obtain ⟨y, k, rfl, hk, yb1, yb2, hgo, lt⟩ := hrel
        obtain ⟨x0, x1, x2, x3, x4, x5, x6, x7, x8⟩ := lt.years
        obtain ⟨e0, e1, e2, f0, f1, f2⟩ := lt.2.1.cells
        rcases hgo.cases with ⟨hi, hn⟩ | ⟨hi, hl, hch⟩ | ⟨hi, hl, hgn⟩
        · exact q24
        · obtain ⟨yi1, yi2⟩ := hi
          simp only at yi1 yi2
          have hy' : inB (-10000) 10000 y = true := inB_yes yi1 yi2
          clear hgo
          obtain ⟨x, hx⟩ : ∃ x, ms[k]? = some x := ⟨_, List.getElem?_eq_getElem (show k < ms.length by have := L1.out; omega)⟩
          obtain ⟨ML, hML⟩ : ∃ ML, ML = mlenOf x (flag ls (placeOf C y)) := ⟨_, rfl⟩
          have hlen : lenAt ms ls C (y, k) = ML := by rw [hML]; exact lenAt_of hx
          have HX := Lib.hid hx; have HML := Lib.hid hML
          clear hx hML
          rw [hlen] at hl
          have hl0 : (ML == 0) = false := by simp; omega
          go_wp2_with fail
          refine (ref_In _ _ _ _).mono ?_; rw [hy']; rintro e w3 ⟨rfl, rfl⟩
          go_wp2_with fail
          refine (years_Month _ s f C a1 a2 n1 c1 n2 c2 ms ls g y _ _ _ k x cy1 cy2 (by omega) (by omega) (HG.out.then_ lt.2.2) (H.out.then_ lt.2.2) r2 HX.out).mono ?_
          rw [← HML.out]
          rintro e w4 ⟨rfl, hb⟩
          replace lt := lt.step hb
          clear hb x0 x1 x2 x3 x4 x5 x6 x7 x8 e0 e1 e2 f0 f1 f2
          obtain ⟨x0, x1, x2, x3, x4, x5, x6, x7, x8⟩ := lt.years
          obtain ⟨e0, e1, e2, f0, f1, f2⟩ := lt.2.1.cells
          go_wp2_with fail
          refine (ref_In _ _ _ _).mono ?_; rw [hy']; rintro e w3 ⟨rfl, rfl⟩
          obtain hz | ⟨g', hg'⟩ : gk = 0 ∨ ∃ g, gk = g + 1 := by cases gk with | zero => exact .inl rfl | succ g => exact .inr ⟨g, rfl⟩
          · subst hz
            clear x0 x1 x2 x3 x4 x5 x6 x7 x8 e0 e1 e2 f0 f1 f2
            have hR : R = some (y, k) := hch
            have hMb := lenAt_nonneg OK.out (y, k)
            rw [hlen] at hMb
            obtain ⟨_, ML2⟩ := hMb
            have hfin := Lib.hid (show laterOut ms ls f C R d = dayOr (dnum ms ls f C y k (min d ML)) by rw [hR, ← hlen]; rfl)
            clear hch hR hlen
            obtain ⟨x0, x1, x2, x3, x4, x5, x6, x7, x8⟩ := lt.years
            obtain ⟨e0, e1, e2, f0, f1, f2⟩ := lt.2.1.cells
            go_wp2_with fail
            refine (years_Month _ s f C a1 a2 n1 c1 n2 c2 ms ls g y _ _ _ k x cy1 cy2 (by omega) (by omega) (HG.out.then_ lt.2.2) (H.out.then_ lt.2.2) r2 HX.out).mono ?_
            rw [← HML.out]
            rintro e w4 ⟨rfl, hb⟩
            replace lt := lt.step hb
            clear hb x0 x1 x2 x3 x4 x5 x6 x7 x8 e0 e1 e2 f0 f1 f2
            obtain ⟨x0, x1, x2, x3, x4, x5, x6, x7, x8⟩ := lt.years
            obtain ⟨e0, e1, e2, f0, f1, f2⟩ := lt.2.1.cells
            by_cases hdm : d ≤ ML
            · go_wp2_with fail
              rw [show min d ML = d by omega] at hfin
              have hd1 : inB 1 (mlenOf x (flag ls (placeOf C y))) d = true := by rw [← HML.out]; exact inB_yes (by omega) (by omega)
              have hcon := years_ToDay_ok w4 s f C a1 a2 n1 c1 n2 c2 ms ls g y k d x OK.out yi1 yi2 (HG.out.then_ lt.2.2) (H.out.then_ lt.2.2) HX.out hd1
              generalize dnum ms ls f C y k d = D at hfin hcon
              clear e0 e1 e2 f0 f1 f2 x0 x1 x2 x3 x4 x5 x6 x7 x8
              rcases inB_cases (-4000000) 4000000 D with ⟨hd, _⟩ | ⟨hd, _⟩
              · exact q60
              · exact q55
            · have hdm' : ML < d := by omega
              go_wp2_with fail
              replace lt := lt.day hl2 ML
              rw [show min d ML = ML by omega] at hfin
              generalize World.setCell _ _ _ = W7 at lt ⊢
              have hd1 : inB 1 (mlenOf x (flag ls (placeOf C y))) ML = true := by rw [← HML.out]; exact inB_yes (by omega) (by omega)
              have hcon := years_ToDay_ok W7 s f C a1 a2 n1 c1 n2 c2 ms ls g y k ML x OK.out yi1 yi2 (HG.out.then_ lt.2.2) (H.out.then_ lt.2.2) HX.out hd1
              generalize dnum ms ls f C y k ML = D at hfin hcon
              clear e0 e1 e2 f0 f1 f2 x0 x1 x2 x3 x4 x5 x6 x7 x8
              rcases inB_cases (-4000000) 4000000 D with ⟨hd, _⟩ | ⟨hd, _⟩
              · exact q60
              · exact q55
          · subst hg'
            have hz' : (((g' + 1 : Nat) : Int) == 0) = false := by simp; omega
            have HGN := Lib.hid (show Going ms ls C false false g' (stepP ms.length false (y, k)) R from hch)
            clear hch hlen
            obtain ⟨r, hr⟩ : ∃ r, stepP n1 false (y, k) = r := ⟨_, rfl⟩
            have hrin := stepP_in (n := n1) (up := false) (p := (y, k)) hk
            have hryr := stepP_year (n := n1) (up := false) (p := (y, k))
            rw [hr] at hrin hryr
            simp only at hryr
            obtain ⟨ry1, ry2⟩ := hryr
            have HR' := Lib.hid hr
            clear hr
            go_wp2_with fail
            refine (years_step_down _ s f C a1 a2 n1 c1 n2 c2 ms ls g B y k d r HR'.out hk r2 (by omega) (by omega) lt.2.1).mono ?_
            rintro e w5 ⟨rfl, hda, hkp⟩
            replace lt := lt.stepped hl2 hda hkp
            clear x0 x1 x2 x3 x4 x5 x6 x7 x8 e0 e1 e2 f0 f1 f2
            clear hda hkp
            go_wp2_with fail
            go_roundg g'
            case rel => exact ⟨false, r.1, r.2, by go_num, .inr ⟨rfl, rfl⟩, by omega, hrin, by omega, by omega, by have := HGN.out; rw [L1.out, HR'.out] at this; exact this, lt⟩
            case measure => omega
        · have hfar := farP_step (n := ms.length) (up := false) (p := (y, k)) (by have := L1.out; simp only; omega) hi
          obtain ⟨yi1, yi2⟩ := hi
          simp only at yi1 yi2
          have hy' : inB (-10000) 10000 y = true := inB_yes yi1 yi2
          have HGN := Lib.hid hgn; have HFAR := Lib.hid hfar
          clear hgo hgn hfar
          obtain ⟨x, hx⟩ : ∃ x, ms[k]? = some x := ⟨_, List.getElem?_eq_getElem (show k < ms.length by have := L1.out; omega)⟩
          obtain ⟨ML, hML⟩ : ∃ ML, ML = mlenOf x (flag ls (placeOf C y)) := ⟨_, rfl⟩
          have hlen : lenAt ms ls C (y, k) = ML := by rw [hML]; exact lenAt_of hx
          have HX := Lib.hid hx; have HML := Lib.hid hML
          clear hx hML
          rw [hlen] at hl
          have hl0 : (ML == 0) = true := by simp; omega
          clear hlen
          obtain ⟨r, hr⟩ : ∃ r, stepP n1 false (y, k) = r := ⟨_, rfl⟩
          have hrin := stepP_in (n := n1) (up := false) (p := (y, k)) hk
          have hryr := stepP_year (n := n1) (up := false) (p := (y, k))
          rw [hr] at hrin hryr
          simp only at hryr
          obtain ⟨ry1, ry2⟩ := hryr
          have HR' := Lib.hid hr
          clear hr
          go_wp2_with fail
          refine (ref_In _ _ _ _).mono ?_; rw [hy']; rintro e w3 ⟨rfl, rfl⟩
          go_wp2_with fail
          refine (years_Month _ s f C a1 a2 n1 c1 n2 c2 ms ls g y _ _ _ k x cy1 cy2 (by omega) (by omega) (HG.out.then_ lt.2.2) (H.out.then_ lt.2.2) r2 HX.out).mono ?_
          rw [← HML.out]
          rintro e w4 ⟨rfl, hb⟩
          replace lt := lt.step hb
          clear hb x0 x1 x2 x3 x4 x5 x6 x7 x8 e0 e1 e2 f0 f1 f2
          obtain ⟨x0, x1, x2, x3, x4, x5, x6, x7, x8⟩ := lt.years
          obtain ⟨e0, e1, e2, f0, f1, f2⟩ := lt.2.1.cells
          go_wp2_with fail
          refine (years_step_down _ s f C a1 a2 n1 c1 n2 c2 ms ls g B y k d r HR'.out hk r2 (by omega) (by omega) lt.2.1).mono ?_
          rintro e w5 ⟨rfl, hda, hkp⟩
          replace lt := lt.stepped hl2 hda hkp
          clear x0 x1 x2 x3 x4 x5 x6 x7 x8 e0 e1 e2 f0 f1 f2
          clear hda hkp
          go_wp2_with fail
          go_roundg (farP ms.length false r)
          case rel => exact ⟨r.1, r.2, rfl, hrin, by omega, by omega, by have := HGN.out; rw [L1.out, HR'.out] at this; exact this, lt⟩
          case measure => have := HFAR.out; rw [L1.out, HR'.out] at this; rw [L1.out]; exact this
set_option linter.unusedSimpArgs false
theorem pair_later (ms : List Mon) (ls : List Int) (f c : Int) (R : Option (Int × Nat)) (d : Int) : ∃ a b : Int, laterOut ms ls f c R d = .tuple #[.int .i64 a, .int .i64 b] ∧ (b = 0 → -4000000 ≤ a ∧ a ≤ 4000000) := by
  cases R with
  | none => exact ⟨0, 3, rfl, fun h => by cases h⟩
  | some p =>
    show ∃ a b : Int, dayOr _ = _ ∧ _
    unfold dayOr
    split
    · next h => exact ⟨_, _, rfl, fun _ => inB_iff.1 h⟩
    · exact ⟨_, _, rfl, fun h => by cases h⟩
theorem found_in {ms : List Mon} (h : ∀ x ∈ ms, 0 ≤ x.2.1 ∧ x.2.1 ≤ 400 ∧ 0 ≤ x.2.2 ∧ x.2.2 ≤ 400) (b : Bool) {r0 r' : Int} {k : Nat} (h0 : 0 ≤ r0) (h1 : r0 < lenY (shortOf ms) (longOf ms) b) (hk : findM b ms r0 0 = (k, r')) : k < ms.length ∧ 0 ≤ r' ∧ r' < 400 := by
  have key : ∀ (n : Nat) (j : Nat) (r : Int), ms.length - j ≤ n → FindTo b ms r0 j r → k < ms.length ∧ 0 ≤ r' ∧ r' < 400 := by
    intro n
    induction n with
    | zero => intro j r hj hF; have := hF.in_ h1; omega
    | succ n ih =>
      intro j r hj hF
      have hjl := hF.in_ h1
      have hx := List.getElem?_eq_getElem hjl
      have hb := mlenOf_bound h hx b
      by_cases hr : r < mlenOf ms[j] b
      · have := hF.stop hx hr
        rw [hk] at this
        injection this with e1 e2
        subst e1 e2
        have := hF.2.1
        exact ⟨hjl, this, by omega⟩
      · exact ih (j + 1) _ (by omega) (hF.next hx hr)
  exact key _ 0 r0 (Nat.le_refl _) (FindTo.start b ms r0 h0)
def LaterBoth (s : ByteArray) (f : Int) (C : Nat) (ms : List Mon) (ls : List Int) (x yy mm a ee : Int) : Prop :=
    (∀ (w : World) (a1 a2 : Option Addr) (n1 c1 n2 c2 : Nat), n1 ≤ c1 → CalAt w a1 a2 n1 n2 ms ls → Calls Tryz.prog 73 #[.agg #[.string s, .int .i64 f, .int .i64 (C : Int), .slice a1 n1 c1, .slice a2 n2 c2], .int .i64 x, .int .i64 yy, .int .i64 mm] w fun e w' => e = .returned (.tuple #[.int .i64 a, .int .i64 ee]) ∧ Below w.heap.size w w') ∧
    (∀ (w : World) (g : Nat) (a1 a2 : Option Addr) (n1 c1 n2 c2 : Nat), MarksAt w g C ls → CalAt w a1 a2 n1 n2 ms ls → Calls Tryz.prog 42 #[.agg #[.string s, .int .i64 f, .int .i64 (C : Int), .slice a1 n1 c1, .slice a2 n2 c2, .slice (some ⟨g, 0, none⟩) C C, .int .i64 (shortOf ms), .int .i64 (longOf ms), .int .i64 (daysTo (shortOf ms) (longOf ms) ls (C : Int))], .int .i64 x, .int .i64 yy, .int .i64 mm] w fun e w' => e = .returned (.tuple #[.int .i64 a, .int .i64 ee]) ∧ Below w.heap.size w w')
theorem later_both {s : ByteArray} {f : Int} {C : Nat} {ms : List Mon} {ls : List Int} (hs : s.size ≤ 9223372036854775807) (q : calErr s f (C : Int) ms ls = 0) (x yy mm : Int) : ∃ a ee : Int, LaterBoth s f C ms ls x yy mm a ee ∧ (ee = 0 → -4000000 ≤ a ∧ a ≤ 4000000) := by
  have ok := calOk_of q
  have no : (∀ (W : World) (a1 a2 : Option Addr) (n1 c1 n2 c2 : Nat), CalAt W a1 a2 n1 n2 ms ls → Calls Tryz.prog 91 #[.agg #[.string s, .int .i64 f, .int .i64 (C : Int), .slice a1 n1 c1, .slice a2 n2 c2], .int .i64 x] W fun e w' => e = .returned noDate ∧ Below W.heap.size W w') →
      (∀ (W : World) (g : Nat) (a1 a2 : Option Addr) (n1 c1 n2 c2 : Nat), CalAt W a1 a2 n1 n2 ms ls → MarksAt W g C ls → Calls Tryz.prog 21 #[.agg #[.string s, .int .i64 f, .int .i64 (C : Int), .slice a1 n1 c1, .slice a2 n2 c2, .slice (some ⟨g, 0, none⟩) C C, .int .i64 (shortOf ms), .int .i64 (longOf ms), .int .i64 (daysTo (shortOf ms) (longOf ms) ls (C : Int))], .int .i64 x] W fun e w' => e = .returned noDate ∧ Below W.heap.size W w') →
      ∃ a ee : Int, LaterBoth s f C ms ls x yy mm a ee ∧ (ee = 0 → -4000000 ≤ a ∧ a ≤ 4000000) := fun hA hY =>
    ⟨0, 3, ⟨fun w a1 a2 n1 c1 n2 c2 k1 h => arith_Later_no w s f C a1 a2 n1 c1 n2 c2 ms ls x yy mm hs k1 h q (fun W' hW' => hA W' a1 a2 n1 c1 n2 c2 (h.then_ hW')),
      fun w g a1 a2 n1 c1 n2 c2 hg h => years_Later_no w s f C a1 a2 n1 c1 n2 c2 ms ls g x yy mm hg h (fun W' hW' => hY W' g a1 a2 n1 c1 n2 c2 (h.then_ hW') (hg.then_ hW'))⟩, fun h => by cases h⟩
  rcases inB_cases (-4000000) 4000000 x with ⟨hx, xx1, xx2⟩ | ⟨hx, hx'⟩
  case inr => exact no (fun W a1 a2 n1 c1 n2 c2 _ => arith_fromDay_out W s f C a1 a2 n1 c1 n2 c2 x hx) (fun W g a1 a2 n1 c1 n2 c2 _ _ => years_FromDay_out W s f C a1 a2 n1 c1 n2 c2 ms ls g x hx)
  obtain ⟨y, hiy⟩ := year_exists ok x
  rcases inB_cases (-10000) 10000 y with ⟨hy, y1, y2⟩ | ⟨hy, hy'⟩
  case inr =>
    obtain ⟨r, hr⟩ := place_exists ms ls f C x
    have hyr : inB (-10000) 10000 (-10001 + (r : Int) - 1) = false := by
      rcases inB_cases (-10000) 10000 (-10001 + (r : Int) - 1) with ⟨_, u1, u2⟩ | ⟨u, _⟩
      · have := (year_of_place hr u1 u2).unique ok hiy
        omega
      · exact u
    exact no (fun W a1 a2 n1 c1 n2 c2 hW => arith_fromDay_no W s f C a1 a2 n1 c1 n2 c2 ms ls x r hr hyr ok xx1 xx2 hW) (fun W g a1 a2 n1 c1 n2 c2 hW hg => years_FromDay_no W s f C a1 a2 n1 c1 n2 c2 ms ls g x y ok xx1 xx2 hg hW hiy hy)
  obtain ⟨⟨k, r'⟩, hk⟩ : ∃ kr, findM (flag ls (placeOf C y)) ms (x - nyOf (shortOf ms) (longOf ms) f C ls y) 0 = kr := ⟨_, rfl⟩
  have hfi := found_in ok.lens (flag ls (placeOf C y)) (by have := hiy.1; omega) (by have := hiy.2; rw [nyOf_succ ok y] at this; omega) hk
  obtain ⟨hk1, r1, r2⟩ := hfi
  have fA : ∀ (W : World) (a1 a2 : Option Addr) (n1 c1 n2 c2 : Nat), CalAt W a1 a2 n1 n2 ms ls → Calls Tryz.prog 91 #[.agg #[.string s, .int .i64 f, .int .i64 (C : Int), .slice a1 n1 c1, .slice a2 n2 c2], .int .i64 x] W fun e w' => e = .returned (.tuple #[.agg #[.int .i64 y, .int .i64 ((k : Int) + 1), .int .i64 (r' + 1)], .int .i64 0]) ∧ Below W.heap.size W w' :=
    fun W a1 a2 n1 c1 n2 c2 hW => arith_fromDay_yes W s f C a1 a2 n1 c1 n2 c2 ms ls x (y + 10002).toNat y (place_of_year ok hiy y1 y2) (by omega) y1 y2 ok xx1 xx2 hW k r' hk hiy
  have fY : ∀ (W : World) (g : Nat) (a1 a2 : Option Addr) (n1 c1 n2 c2 : Nat), CalAt W a1 a2 n1 n2 ms ls → MarksAt W g C ls → Calls Tryz.prog 21 #[.agg #[.string s, .int .i64 f, .int .i64 (C : Int), .slice a1 n1 c1, .slice a2 n2 c2, .slice (some ⟨g, 0, none⟩) C C, .int .i64 (shortOf ms), .int .i64 (longOf ms), .int .i64 (daysTo (shortOf ms) (longOf ms) ls (C : Int))], .int .i64 x] W fun e w' => e = .returned (.tuple #[.agg #[.int .i64 y, .int .i64 ((k : Int) + 1), .int .i64 (r' + 1)], .int .i64 0]) ∧ Below W.heap.size W w' :=
    fun W g a1 a2 n1 c1 n2 c2 hW hg => years_FromDay_yes W s f C a1 a2 n1 c1 n2 c2 ms ls g x y ok xx1 xx2 hg hW hiy y1 y2 k r' hk
  cases hr : (inB (-10000) 10000 yy && inB (-10000) 10000 mm) with
  | false =>
    exact ⟨0, 1, ⟨fun w a1 a2 n1 c1 n2 c2 k1 h => arith_Later_arg w s f C a1 a2 n1 c1 n2 c2 ms ls x yy mm hs k1 h q y ((k : Int) + 1) (r' + 1) hr (fun W' hW' => fA W' a1 a2 n1 c1 n2 c2 (h.then_ hW')),
      fun w g a1 a2 n1 c1 n2 c2 hg h => years_Later_arg w s f C a1 a2 n1 c1 n2 c2 ms ls g x yy mm hg h y ((k : Int) + 1) (r' + 1) hr (fun W' hW' => fY W' g a1 a2 n1 c1 n2 c2 (h.then_ hW') (hg.then_ hW'))⟩, fun h => by cases h⟩
  | true =>
    rw [Bool.and_eq_true] at hr
    obtain ⟨yy1, yy2⟩ := inB_iff.1 hr.1
    obtain ⟨m1, m2⟩ := inB_iff.1 hr.2
    by_cases h0 : 0 ≤ mm
    · obtain ⟨R, hR⟩ := going_exists ok true true mm.toNat (y + yy, k) hk1
      obtain ⟨a, b, hab, hin⟩ := pair_later ms ls f C R (r' + 1)
      refine ⟨a, b, ⟨fun w a1 a2 n1 c1 n2 c2 k1 h => ?_, fun w g a1 a2 n1 c1 n2 c2 hg h => ?_⟩, hin⟩
      · have hn := h.1.len
        rw [← hab]
        exact arith_Later_up w s f C a1 a2 n1 c1 n2 c2 ms ls x yy mm hs k1 h q y k (r' + 1) mm.toNat R (by omega) y1 y2 (by omega) (by omega) yy1 yy2 (by omega) (by omega) hR (fun W' hW' => fA W' a1 a2 n1 c1 n2 c2 (h.then_ hW'))
      · have hn := h.1.len
        rw [← hab]
        exact years_Later_up w s f C a1 a2 n1 c1 n2 c2 ms ls g x yy mm hg h y k (r' + 1) mm.toNat R ok (by omega) y1 y2 (by omega) (by omega) yy1 yy2 (by omega) (by omega) hR (fun W' hW' => fY W' g a1 a2 n1 c1 n2 c2 (h.then_ hW') (hg.then_ hW'))
    · obtain ⟨R, hR⟩ := going_exists ok true false (-mm).toNat (y + yy, k) hk1
      obtain ⟨a, b, hab, hin⟩ := pair_later ms ls f C R (r' + 1)
      refine ⟨a, b, ⟨fun w a1 a2 n1 c1 n2 c2 k1 h => ?_, fun w g a1 a2 n1 c1 n2 c2 hg h => ?_⟩, hin⟩
      · have hn := h.1.len
        rw [← hab]
        exact arith_Later_down w s f C a1 a2 n1 c1 n2 c2 ms ls x yy mm hs k1 h q y k (r' + 1) (-mm).toNat R (by omega) y1 y2 (by omega) (by omega) yy1 yy2 (by omega) (by omega) hR (fun W' hW' => fA W' a1 a2 n1 c1 n2 c2 (h.then_ hW'))
      · have hn := h.1.len
        rw [← hab]
        exact years_Later_down w s f C a1 a2 n1 c1 n2 c2 ms ls g x yy mm hg h y k (r' + 1) (-mm).toNat R ok (by omega) y1 y2 (by omega) (by omega) yy1 yy2 (by omega) (by omega) (by omega) hR (fun W' hW' => fY W' g a1 a2 n1 c1 n2 c2 (h.then_ hW') (hg.then_ hW'))
end Go.Proofs.YtlbjmpdonnlieaaGreatDoor
