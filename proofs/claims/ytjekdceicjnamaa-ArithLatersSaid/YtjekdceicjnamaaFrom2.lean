/- Contract of arith.fromDay, second part. -/
import Derived.Test.YtjekdceicjnamaaFrom1
namespace Go.Proofs.Ytjekdceicjnamaa
set_option linter.unusedVariables false
set_option maxRecDepth 100000
open Go.RowKit

/-- The four boxes of fromDay. -/
def From4 (w : World) (oc od : Obj) (W : World) : Prop := Tri w w.heap.size (w.heap.size + 1 + 1 + 1) (w.heap.size + 1) oc (.cells #[.int .i64 (-10001)] 3) od W ∧ At W (w.heap.size + 1 + 1) (.cells #[.int .i64 0, .int .i64 0, .int .i64 0] 39)
theorem From4.step {w W W' : World} {oc od : Obj} (h : From4 w oc od W) (hb : Below W.heap.size W W') : From4 w oc od W' := ⟨h.1.step hb, h.2.then_ hb⟩
theorem From4.drew {w W : World} {oc od : Obj} (h : From4 w oc od W) : From4 w oc od W.drew := ⟨h.1.drew, h.2.drew⟩
theorem From4.new (w : World) (oc od : Obj) : From4 w oc od ((((w.alloc oc).alloc od).alloc (.cells #[.int .i64 0, .int .i64 0, .int .i64 0] 39)).alloc (.cells #[.int .i64 (-10001)] 3)) :=
  ⟨⟨(((At.new w _).alloc _).alloc _).alloc _, At.new3 w _ _ _ _, ((At.new1 w _ _).alloc _).alloc _, by (repeat' (first | exact Below.refl _ _ | assumption | refine Below.drew ?_ | refine below_drewN ?_ _ | refine below_new ?_ _ | refine below_set ?_ ?_ _ | refine below_then ?_ (by assumption) | refine below_drawn ?_ (by assumption) | exact Nat.le_refl _ | omega | (simp; done) | (simp; omega)))⟩, (At.new2 w _ _ _).alloc _⟩
theorem arith_fromDay_out (w : World) (s : ByteArray) (f c : Int) (a1 a2 : Option Addr) (n1 c1 n2 c2 : Nat) (x : Int) (hx : inB (-4000000) 4000000 x = false) :
    Calls Try.prog 55 #[.agg #[.string s, .int .i64 f, .int .i64 c, .slice a1 n1 c1, .slice a2 n2 c2], .int .i64 x] w fun e w' => e = .returned noDate ∧ Below w.heap.size w w' := by
  go_enter Try.func55, Try.ntmps55
  go_wp2_with fail
  refine (line_Is _ _).mono ?_; rw [hx]; rintro e w1 ⟨rfl, rfl⟩
  go_wp2_with fail
  exact bodyPost_ret (v := noDate) (by simp [noDate, results, Try.results55, go_sem]) rfl ⟨rfl, by (repeat' (first | exact Below.refl _ _ | assumption | refine Below.drew ?_ | refine below_drewN ?_ _ | refine below_new ?_ _ | refine below_set ?_ ?_ _ | refine below_then ?_ (by assumption) | refine below_drawn ?_ (by assumption) | exact Nat.le_refl _ | omega | (simp; done) | (simp; omega)))⟩
set_option maxHeartbeats 2000000 in
theorem arith_fromDay_no (w : World) (s : ByteArray) (f c : Int) (a1 a2 : Option Addr) (n1 c1 n2 c2 : Nat) (ms : List Mon) (ls : List Int) (x : Int) (r : Nat) (hr : Place ms ls f c x r) (hy : inB (-10000) 10000 (-10001 + (r : Int) - 1) = false) (ok : CalOk s f c ms ls) (x1' : -4000000 ≤ x) (x2' : x ≤ 4000000) (h : CalAt w a1 a2 n1 n2 ms ls) :
    Calls Try.prog 55 #[.agg #[.string s, .int .i64 f, .int .i64 c, .slice a1 n1 c1, .slice a2 n2 c2], .int .i64 x] w fun e w' => e = .returned noDate ∧ Below w.heap.size w w' := by
  have H := Lib.hid h; have OK := Lib.hid ok; have HR := Lib.hid hr
  clear h ok hr
  have hx := inB_yes x1' x2'
  have hr1 : r ≤ 20004 := HR.out.1
  go_enter Try.func55, Try.ntmps55
  go_wp2_with fail
  refine (line_Is _ _).mono ?_; rw [hx]; rintro e w1 ⟨rfl, rfl⟩
  go_wp2_with fail
  have f4 := From4.new w (.cells #[.string s, .int .i64 f, .int .i64 c, .slice a1 n1 c1, .slice a2 n2 c2] 47) (.cells #[.int .i64 x] 3)
  generalize World.alloc (World.alloc (World.alloc (World.alloc w _) _) _) _ = W1 at f4 ⊢
  have t1 : IntKind.i64.wrap (-10001 + (r : Int)) = -10001 + (r : Int) := IntWalk.i64_in _ (by omega)
  have t2 : IntKind.i64.wrap (-10001 + (r : Int) - 1) = -10001 + (r : Int) - 1 := IntWalk.i64_in _ (by omega)
  (refine region_class (From4 w (.cells #[.string s, .int .i64 f, .int .i64 c, .slice a1 n1 c1, .slice a2 n2 c2] 47) (.cells #[.int .i64 x] 3)) (by kernel_rfl) (by kernel_rfl) (f4.drew) ?_; repeat ((first | (refine class_take ?_ (by rfl) ?_ ?_; rotate_left; focus (intro wq hq; ((obtain ⟨x0, x1, x2, x3, x4, x5, x6⟩ := hq.1.cells)); go_simp; first | done | with_reducible rfl | (first | (go_at_call 52; refine (search_year w _ s f c a1 a2 n1 c1 n2 c2 ms ls x _ _ _ _ _ _ r HR.out OK.out H.out hq.1).mono ?_; rintro e w' ⟨rfl, hb⟩; refine ⟨?_, hq.step hb⟩; with_reducible rfl)))) | refine class_skip (by rfl) ?_); try simp only [Act.put, List.setIfInBounds_toArray, List.set_cons_zero, List.set_cons_succ]))
  refine wpQuiet_nil ?_
  intro W2 f42
  clear t1 t2 f4
  go_wp2_with fail
  refine (arith_isYear _ _).mono ?_; rw [hy]; rintro e w3 ⟨rfl, rfl⟩
  have ar := f42.2
  have e0 := ar.cell 0; have e1 := ar.cell 1; have e2 := ar.cell 2; simp at e0 e1 e2
  have z0 := ar.frozen 0; have z1 := ar.frozen 1; have z2 := ar.frozen 2
  go_wp2_with fail
  have ar3 := ar.store3 (.int .i64 0) (.int .i64 0) (.int .i64 0)
  have b3 := below_set3 f42.1.2.2.2 (p := w.heap.size + 1 + 1) (by omega) (.int .i64 0) (.int .i64 0) (.int .i64 0)
  clear e0 e1 e2 z0 z1 z2
  generalize World.setCell (World.setCell _ _ _) _ _ = W3 at ar3 b3 ⊢
  have e0 := ar3.cell 0; have e1 := ar3.cell 1; have e2 := ar3.cell 2; simp at e0 e1 e2
  exact bodyPost_ret (v := noDate) (by simp [noDate, results, Try.results55, go_sem, e0, e1, e2]) rfl ⟨rfl, b3⟩
set_option maxHeartbeats 2000000 in
theorem arith_fromDay_yes (w : World) (s : ByteArray) (f c : Int) (a1 a2 : Option Addr) (n1 c1 n2 c2 : Nat) (ms : List Mon) (ls : List Int) (x : Int) (r : Nat) (y : Int) (hr : Place ms ls f c x r) (hyr : -10001 + (r : Int) - 1 = y) (y1 : -10000 ≤ y) (y2 : y ≤ 10000) (ok : CalOk s f c ms ls) (x1' : -4000000 ≤ x) (x2' : x ≤ 4000000) (h : CalAt w a1 a2 n1 n2 ms ls) (k : Nat) (r' : Int)
    (hk : findM (flag ls (placeOf c y)) ms (x - nyOf (shortOf ms) (longOf ms) f c ls y) 0 = (k, r')) (hin : InYear ms ls f c y x) :
    Calls Try.prog 55 #[.agg #[.string s, .int .i64 f, .int .i64 c, .slice a1 n1 c1, .slice a2 n2 c2], .int .i64 x] w fun e w' => e = .returned (dateAt y k r') ∧ Below w.heap.size w w' := by
  obtain ⟨g1, g2, g3, g4⟩ := ok_n1 h ok
  have L1 := Lib.hid h.1.len
  have hin2 := hin.2
  rw [nyOf_succ ok y] at hin2
  have hin1 := hin.1
  have hlp := lenY_pos ok (flag ls (placeOf c y))
  obtain ⟨N, hN⟩ : ∃ N, N = nyOf (shortOf ms) (longOf ms) f c ls y := ⟨_, rfl⟩
  rw [← hN] at hk hin1 hin2
  have hR0 : 0 ≤ x - N := by omega
  have hR1 := Lib.hid (show x - N < lenY (shortOf ms) (longOf ms) (flag ls (placeOf c y)) by omega)
  have hR2 : x - N < 8000 := by omega
  have hNb : -5000000 ≤ N ∧ N ≤ 5000000 := by omega
  obtain ⟨nb1, nb2⟩ := hNb
  have HN := Lib.hid hN; have HK := Lib.hid hk
  clear hin hin1 hin2 hlp hN hk
  have y1' : -20000 ≤ y := by omega
  have y2' : y ≤ 20000 := by omega
  have hy := inB_yes y1 y2
  have HYR := Lib.hid hyr; clear hyr
  have H := Lib.hid h; have OK := Lib.hid ok; have HR := Lib.hid hr
  clear h ok hr
  have hx := inB_yes x1' x2'
  have hr1 : r ≤ 20004 := HR.out.1
  go_enter Try.func55, Try.ntmps55
  go_wp2_with fail
  refine (line_Is _ _).mono ?_; rw [hx]; rintro e w1 ⟨rfl, rfl⟩
  go_wp2_with fail
  have f4 := From4.new w (.cells #[.string s, .int .i64 f, .int .i64 c, .slice a1 n1 c1, .slice a2 n2 c2] 47) (.cells #[.int .i64 x] 3)
  generalize World.alloc (World.alloc (World.alloc (World.alloc w _) _) _) _ = W1 at f4 ⊢
  have t1 : IntKind.i64.wrap (-10001 + (r : Int)) = -10001 + (r : Int) := IntWalk.i64_in _ (by omega)
  have t2 : IntKind.i64.wrap (-10001 + (r : Int) - 1) = -10001 + (r : Int) - 1 := IntWalk.i64_in _ (by omega)
  (refine region_class (From4 w (.cells #[.string s, .int .i64 f, .int .i64 c, .slice a1 n1 c1, .slice a2 n2 c2] 47) (.cells #[.int .i64 x] 3)) (by kernel_rfl) (by kernel_rfl) (f4.drew) ?_; repeat ((first | (refine class_take ?_ (by rfl) ?_ ?_; rotate_left; focus (intro wq hq; ((obtain ⟨x0, x1, x2, x3, x4, x5, x6⟩ := hq.1.cells)); go_simp; first | done | with_reducible rfl | (first | (go_at_call 52; refine (search_year w _ s f c a1 a2 n1 c1 n2 c2 ms ls x _ _ _ _ _ _ r HR.out OK.out H.out hq.1).mono ?_; rintro e w' ⟨rfl, hb⟩; refine ⟨?_, hq.step hb⟩; with_reducible rfl)))) | refine class_skip (by rfl) ?_); try simp only [Act.put, List.setIfInBounds_toArray, List.set_cons_zero, List.set_cons_succ]))
  refine wpQuiet_nil ?_
  intro W2 f42
  clear t1 t2 f4
  rw [HYR.out]
  go_wp2_with fail
  refine (arith_isYear _ _).mono ?_; rw [hy]; rintro e w3 ⟨rfl, rfl⟩
  go_wp2_with fail
  have t3 : IntKind.i64.wrap (x - N) = x - N := IntWalk.i64_in _ (by omega)
  (refine region_class (From4 w (.cells #[.string s, .int .i64 f, .int .i64 c, .slice a1 n1 c1, .slice a2 n2 c2] 47) (.cells #[.int .i64 x] 3)) (by kernel_rfl) (by kernel_rfl) (f42.drew) ?_; repeat ((first | (refine class_take ?_ (by rfl) ?_ ?_; rotate_left; focus (intro wq hq; ((obtain ⟨x0, x1, x2, x3, x4, x5, x6⟩ := hq.1.cells)); go_simp; first | done | with_reducible rfl | (first | (go_at_call 89; refine (arith_newYear _ _ _ _ _ _ _ _ _ _ ms ls _ OK.out y1' y2' (H.out.then_ hq.1.2.2.2)).mono ?_; rw [← HN.out]; rintro e w' ⟨rfl, hb⟩; refine ⟨?_, hq.step hb⟩; with_reducible rfl)))) | refine class_skip (by rfl) ?_); try simp only [Act.put, List.setIfInBounds_toArray, List.set_cons_zero, List.set_cons_succ]))
  refine wpQuiet_nil ?_
  intro W3 f43
  clear t3 f42
  go_wp2_with fail
  go_loopw [8, 9] (fun t i wr => ∃ (j : Nat) (rr : Int), i = .int .i64 ((j : Int) + 1) ∧ t = .int .i64 rr ∧ FindTo (flag ls (placeOf c y)) ms (x - N) j rr ∧ From4 w (.cells #[.string s, .int .i64 f, .int .i64 c, .slice a1 n1 c1, .slice a2 n2 c2] 47) (.cells #[.int .i64 x] 3) wr) (fun _ i _ => n1 + 1 - (intOf i).toNat)
  case atStart => exact ⟨0, x - N, rfl, rfl, FindTo.start _ _ _ hR0, f43⟩
  case round =>
    clear f43
    obtain ⟨j, rr, rfl, rfl, hF, f4⟩ := hrel
    have hjl := hF.in_ hR1.out
    have hjn : j < n1 := by have := L1.out; omega
    have rr0 : 0 ≤ rr := hF.2.1
    have rr1 : rr < 8000 := by
      have h1 := hF.2.2.1
      have h2 := sumM_bound OK.out.lens (flag ls (placeOf c y)) j (by omega)
      omega
    obtain ⟨m, hm⟩ : ∃ m, ms[j]? = some m := ⟨_, List.getElem?_eq_getElem hjl⟩
    obtain ⟨mb1, mb2⟩ := mlenOf_bound OK.out.lens hm (flag ls (placeOf c y))
    have HM := Lib.hid hm; have HF := Lib.hid hF
    clear hm hF hjl
    obtain ⟨ML, hML⟩ : ∃ ML, ML = mlenOf m (flag ls (placeOf c y)) := ⟨_, rfl⟩
    rw [← hML] at mb1 mb2
    have HML := Lib.hid hML; clear hML
    obtain ⟨x0, x1, x2, x3, x4, x5, x6⟩ := f4.1.cells
    by_cases hlt : rr < ML
    · have hst := HF.out.stop HM.out (by rw [← HML.out]; exact hlt)
      have hkj : k = j ∧ r' = rr := by have := HK.out.symm.trans hst; simpa using this
      obtain ⟨rfl, rfl⟩ := hkj
      clear hst
      go_wp2_with fail
      refine (arith_length _ _ _ _ _ _ _ _ _ _ ms ls y k m OK.out.cy1 OK.out.cy2 OK.out.sorted g3 (by omega) (by omega) (H.out.then_ f4.1.2.2.2) g2 HM.out).mono ?_
      rw [← HML.out]
      rintro e w4 ⟨rfl, hb⟩
      replace f4 := f4.step hb
      clear hb x0 x1 x2 x3 x4 x5 x6
      have ar := f4.2
      have e0 := ar.cell 0; have e1 := ar.cell 1; have e2 := ar.cell 2; simp at e0 e1 e2
      have z0 := ar.frozen 0; have z1 := ar.frozen 1; have z2 := ar.frozen 2
      go_wp2_with fail
      have ar3 := ar.store3 (.int .i64 y) (.int .i64 ((k : Int) + 1)) (.int .i64 (r' + 1))
      have b3 := below_set3 f4.1.2.2.2 (p := w.heap.size + 1 + 1) (by omega) (.int .i64 y) (.int .i64 ((k : Int) + 1)) (.int .i64 (r' + 1))
      clear e0 e1 e2 z0 z1 z2
      generalize World.setCell (World.setCell _ _ _) _ _ = W5 at ar3 b3 ⊢
      have e0 := ar3.cell 0; have e1 := ar3.cell 1; have e2 := ar3.cell 2; simp at e0 e1 e2
      exact bodyPost_ret (v := dateAt y k r') (by simp [dateAt, results, Try.results55, go_sem, e0, e1, e2]) rfl ⟨rfl, b3⟩
    · have hnx := Lib.hid (HF.out.next HM.out (by rw [← HML.out]; exact hlt))
      rw [← HML.out] at hnx
      go_wp2_with fail
      refine (arith_length _ _ _ _ _ _ _ _ _ _ ms ls y j m OK.out.cy1 OK.out.cy2 OK.out.sorted g3 (by omega) (by omega) (H.out.then_ f4.1.2.2.2) g2 HM.out).mono ?_
      rw [← HML.out]
      rintro e w4 ⟨rfl, hb⟩
      replace f4 := f4.step hb
      clear hb x0 x1 x2 x3 x4 x5 x6
      obtain ⟨x0, x1, x2, x3, x4, x5, x6⟩ := f4.1.cells
      go_wp2_with fail
      refine (arith_length _ _ _ _ _ _ _ _ _ _ ms ls y j m OK.out.cy1 OK.out.cy2 OK.out.sorted g3 (by omega) (by omega) (H.out.then_ f4.1.2.2.2) g2 HM.out).mono ?_
      rw [← HML.out]
      rintro e w5 ⟨rfl, hb⟩
      replace f4 := f4.step hb
      clear hb x0 x1 x2 x3 x4 x5 x6
      go_wp2_with fail
      go_roundw
      case rel => exact ⟨j + 1, rr - ML, by go_num, rfl, hnx.out, f4⟩
      case measure => simp [intOf]; omega
end Go.Proofs.Ytjekdceicjnamaa
