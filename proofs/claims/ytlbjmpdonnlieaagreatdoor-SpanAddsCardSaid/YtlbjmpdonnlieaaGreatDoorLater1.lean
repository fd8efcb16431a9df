import Derived.Test.YtlbjmpdonnlieaaGreatDoorMgJ
import Derived.Test.YtlbjmpdonnlieaaGreatDoorMgV
import Derived.Deep.LoopGhost
import Derived.RegionTactic
import Derived.ChangeAlike
set_option linter.unusedSimpArgs false
namespace Go.Proofs.YtlbjmpdonnlieaaGreatDoor
set_option linter.unusedVariables false
set_option maxRecDepth 100000
open Go.RowKit
def Mv (w : World) (oc : Obj) (y m d : Int) (W : World) : Prop := Two w oc (.cells #[.int .i64 y, .int .i64 m, .int .i64 d] 52) W ∧ At W (w.heap.size + 1 + 1) (.cells #[.int .i64 0, .int .i64 0, .int .i64 0] 52)
theorem Mv.new (w : World) (oc : Obj) (y m d : Int) : Mv w oc y m d (((w.alloc oc).alloc (.cells #[.int .i64 y, .int .i64 m, .int .i64 d] 52)).alloc (.cells #[.int .i64 0, .int .i64 0, .int .i64 0] 52)) :=
  ⟨⟨((At.new w _).alloc _).alloc _, (At.new1 w _ _).alloc _, by exact bl⟩, At.new2 w _ _ _⟩
theorem Mv.step {w W W' : World} {oc : Obj} {y m d : Int} (h : Mv w oc y m d W) (hb : Below W.heap.size W W') : Mv w oc y m d W' := ⟨h.1.step hb, h.2.then_ hb⟩
theorem Mv.drewN {w W : World} {oc : Obj} {y m d : Int} (h : Mv w oc y m d W) (n : Nat) : Mv w oc y m d (W.drewN n) := ⟨h.1.drewN n, h.2.drewN n⟩
theorem Mv.drew {w W : World} {oc : Obj} {y m d : Int} (h : Mv w oc y m d W) : Mv w oc y m d W.drew := ⟨h.1.drew, h.2.drew⟩
theorem Mv.month {w W : World} {oc : Obj} {y m d : Int} (h : Mv w oc y m d W) (m' : Int) : Mv w oc y m' d (W.setCell ⟨w.heap.size + 1, 1, none⟩ (.int .i64 m')) := by
  refine ⟨⟨h.1.1.apart (by simp) _, ?_, below_set h.1.2.2 (by simp) _⟩, h.2.apart (by simp) _⟩
  have := h.1.2.1.store 1 (.int .i64 m')
  simpa using this
theorem Mv.year {w W : World} {oc : Obj} {y m d : Int} (h : Mv w oc y m d W) (y' : Int) : Mv w oc y' m d (W.setCell ⟨w.heap.size + 1, 0, none⟩ (.int .i64 y')) := by
  refine ⟨⟨h.1.1.apart (by simp) _, ?_, below_set h.1.2.2 (by simp) _⟩, h.2.apart (by simp) _⟩
  have := h.1.2.1.store 0 (.int .i64 y')
  simpa using this
def MoveOut (q : Option (Int × Nat)) (d : Int) (e : Ending) : Prop := ∃ y m : Int, e = .returned (.tuple #[.agg #[.int .i64 y, .int .i64 m, .int .i64 d], .bool q.isSome]) ∧ ∀ p, q = some p → y = p.1 ∧ m = (p.2 : Int) + 1
theorem MoveOut.none_ {q : Option (Int × Nat)} {y m d : Int} (h : q = none) : MoveOut q d (.returned (.tuple #[.agg #[.int .i64 y, .int .i64 m, .int .i64 d], .bool false])) := by
  subst h; exact ⟨y, m, rfl, fun p hp => by cases hp⟩
theorem MoveOut.some_ {q : Option (Int × Nat)} {y d : Int} {k : Nat} (h : q = some (y, k)) : MoveOut q d (.returned (.tuple #[.agg #[.int .i64 y, .int .i64 ((k : Int) + 1), .int .i64 d], .bool true])) := by
  subst h; exact ⟨y, (k : Int) + 1, rfl, fun p hp => by injection hp with hp; subst hp; exact ⟨rfl, rfl⟩⟩
set_option maxHeartbeats 4000000 in
theorem arith_move_up (w : World) (s : ByteArray) (f c : Int) (a1 a2 : Option Addr) (n1 c1 n2 c2 : Nat) (ms : List Mon) (ls : List Int) (y : Int) (k : Nat) (d : Int) (q : Option (Int × Nat)) (ok : CalOk s f c ms ls) (hk : k < n1) (y1 : -10000 ≤ y) (y2 : y ≤ 10000) (h : CalAt w a1 a2 n1 n2 ms ls) (hs : Seek ms ls c true (stepP ms.length true (y, k)) q) :
    Calls Tryz.prog 120 #[.agg #[.string s, .int .i64 f, .int .i64 c, .slice a1 n1 c1, .slice a2 n2 c2], .agg #[.int .i64 y, .int .i64 ((k : Int) + 1), .int .i64 d], .int .i64 1] w fun e w' => MoveOut q d e ∧ Below w.heap.size w w' := by
  obtain ⟨r1, r2, r3, r4⟩ := ok_n1 h ok
  have L1 := Lib.hid h.1.len
  have H := Lib.hid h; have OK := Lib.hid ok; have HS := Lib.hid hs
  clear h ok hs
  go_enter Tryz.func120, Tryz.ntmps120
  go_wp2_with fail
  have m0 := Mv.new w (.cells #[.string s, .int .i64 f, .int .i64 c, .slice a1 n1 c1, .slice a2 n2 c2] 39) y ((k : Int) + 1) d
  generalize World.alloc (World.alloc (World.alloc w _) _) _ = W1 at m0 ⊢
  go_loopg [8] (farP ms.length true (y, k)) (fun gk _ wr => ∃ (y : Int) (k : Nat), gk = farP ms.length true (y, k) ∧ k < n1 ∧ -10000 ≤ y ∧ y ≤ 10000 ∧ Seek ms ls c true (stepP ms.length true (y, k)) q ∧ Mv w (.cells #[.string s, .int .i64 f, .int .i64 c, .slice a1 n1 c1, .slice a2 n2 c2] 39) y ((k : Int) + 1) d wr)
  case atStart => exact ⟨y, k, rfl, hk, y1, y2, HS.out, m0⟩
  case round =>
    clear m0 HS hk y1 y2
    obtain ⟨y, k, rfl, hk, y1, y2, hS, mv⟩ := hrel
    have hfar := farP_step (n := ms.length) (up := true) (p := (y, k)) (by have := L1.out; simp only; omega) ⟨y1, y2⟩
    obtain ⟨⟨y', k'⟩, hr⟩ : ∃ r, r = stepP ms.length true (y, k) := ⟨_, rfl⟩
    have hk' := stepP_in (n := ms.length) (up := true) (p := (y, k)) (by have := L1.out; simp only; omega)
    have hyr := stepP_year (n := ms.length) (up := true) (p := (y, k))
    have hC := hS.cases
    rw [← hr] at hfar hk' hC hyr
    simp only at hk' hyr
    obtain ⟨yr1, yr2⟩ := hyr
    have HFAR := Lib.hid hfar; have HS' := Lib.hid hC
    have HK' := Lib.hid (show k' < n1 by have := L1.out; omega)
    have HR := Lib.hid hr
    clear hS hfar hC hr hk'
    obtain ⟨e0, e1, e2⟩ := mv.1.date
    obtain ⟨x0, x1, x2, x3, x4⟩ := mv.1.cal
    have o1 := mv.1.2.1.frozen 0
    have o2 := mv.1.2.1.frozen 1
    have hlB := mv.1.2.1.lt
    by_cases hlt : k + 1 < n1
    · have HY' := Lib.hid (show y' = y ∧ k' = k + 1 by have := HR.out.trans (stepP_up (by have := L1.out; omega)); injection this with p1 p2; exact ⟨p1, p2⟩)
      have n1' : ¬ ((k : Int) + 1 + 1 < 1) := by omega
      have n2' : ¬ ((n1 : Int) < (k : Int) + 1 + 1) := by omega
      go_wp2_with fail
      have mv2 := mv.month ((k : Int) + 1 + 1)
      generalize World.setCell _ _ _ = W2 at mv2 ⊢
      clear e0 e1 e2 x0 x1 x2 x3 x4 o1 o2 n1' n2' hlB
      have E1 : (k' : Int) + 1 = (k : Int) + 1 + 1 := by have := HY'.out.2; omega
      replace mv2 : Mv w (.cells #[.string s, .int .i64 f, .int .i64 c, .slice a1 n1 c1, .slice a2 n2 c2] 39) y' ((k' : Int) + 1) d W2 := by rw [HY'.out.1, E1]; exact mv2
      have hkn' : k' < n1 := HK'.out
      obtain ⟨x, hx⟩ : ∃ x, ms[k']? = some x := ⟨_, List.getElem?_eq_getElem (show k' < ms.length by have := L1.out; omega)⟩
      have hlen : lenAt ms ls c (y', k') = mlenOf x (flag ls (placeOf c y')) := lenAt_of hx
      obtain ⟨ML, hML⟩ : ∃ ML, ML = mlenOf x (flag ls (placeOf c y')) := ⟨_, rfl⟩
      rw [← hML] at hlen
      have HX := Lib.hid hx; have HML := Lib.hid hML; have HLEN := Lib.hid hlen
      clear hx hML hlen E1
      obtain ⟨e0, e1, e2⟩ := mv2.1.date
      obtain ⟨x0, x1, x2, x3, x4⟩ := mv2.1.cal
      have z6 := mv2.2
      have g0 := z6.cell 0; have g1 := z6.cell 1; have g2 := z6.cell 2; simp at g0 g1 g2
      have fz0 := z6.frozen 0; have fz1 := z6.frozen 1; have fz2 := z6.frozen 2
      have hl6 := z6.lt
      rcases HS'.out with ⟨hq, hi⟩ | ⟨hq, hi, hl⟩ | ⟨hi, hl, hs'⟩
      · exact q8
      · obtain ⟨y1', y2'⟩ := hi
        simp only at y1' y2'
        have hy' : inB (-10000) 10000 y' = true := inB_yes y1' y2'
        have hlp : 0 < ML := by rw [HLEN.out] at hl; exact hl
        have HQ := Lib.hid hq
        exact q2
      · have HI := Lib.hid hi
        obtain ⟨y1', y2'⟩ := hi
        simp only at y1' y2'
        have hy' : inB (-10000) 10000 y' = true := inB_yes y1' y2'
        have hlp : ¬ 0 < ML := by rw [HLEN.out] at hl; omega
        have HSN := Lib.hid hs'
        clear hl hs'
        refine (arith_isYear _ _).mono ?_; rw [← HY'.out.1, hy']; rintro e w3 ⟨rfl, rfl⟩
        go_wp2_with fail
        refine (arith_length _ _ _ _ _ _ _ _ _ _ ms ls y' k' x OK.out.cy1 OK.out.cy2 OK.out.sorted r3 (by omega) (by omega) (H.out.then_ mv2.1.2.2) r2 HX.out).mono ?_
        rw [← HML.out]
        rintro e w4 ⟨rfl, hb⟩
        replace mv2 := mv2.step hb
        clear hb e0 e1 e2 x0 x1 x2 x3 x4 z6 g0 g1 g2 fz0 fz1 fz2 hl6
        go_wp2_with fail
        go_roundg (farP ms.length true (y', k'))
        case rel => exact ⟨y', k', rfl, hkn', y1', y2', HSN.out, mv2⟩
        case measure => exact HFAR.out
    · have HY' := Lib.hid (show y' = y + 1 ∧ k' = 0 by have := HR.out.trans (stepP_over (by have := L1.out; omega)); injection this with p1 p2; exact ⟨p1, p2⟩)
      have n1' : ¬ ((k : Int) + 1 + 1 < 1) := by omega
      have n2' : (n1 : Int) < (k : Int) + 1 + 1 := by omega
      go_wp2_with fail
      have mv2 := ((mv.month ((k : Int) + 1 + 1)).year (y + 1)).month 1
      generalize World.setCell _ _ _ = W2 at mv2 ⊢
      clear e0 e1 e2 x0 x1 x2 x3 x4 o1 o2 n1' n2' hlB
      have E1 : (k' : Int) + 1 = 1 := by have := HY'.out.2; omega
      replace mv2 : Mv w (.cells #[.string s, .int .i64 f, .int .i64 c, .slice a1 n1 c1, .slice a2 n2 c2] 39) y' ((k' : Int) + 1) d W2 := by rw [HY'.out.1, E1]; exact mv2
      have hkn' : k' < n1 := HK'.out
      obtain ⟨x, hx⟩ : ∃ x, ms[k']? = some x := ⟨_, List.getElem?_eq_getElem (show k' < ms.length by have := L1.out; omega)⟩
      have hlen : lenAt ms ls c (y', k') = mlenOf x (flag ls (placeOf c y')) := lenAt_of hx
      obtain ⟨ML, hML⟩ : ∃ ML, ML = mlenOf x (flag ls (placeOf c y')) := ⟨_, rfl⟩
      rw [← hML] at hlen
      have HX := Lib.hid hx; have HML := Lib.hid hML; have HLEN := Lib.hid hlen
      clear hx hML hlen E1
      obtain ⟨e0, e1, e2⟩ := mv2.1.date
      obtain ⟨x0, x1, x2, x3, x4⟩ := mv2.1.cal
      have z6 := mv2.2
      have g0 := z6.cell 0; have g1 := z6.cell 1; have g2 := z6.cell 2; simp at g0 g1 g2
      have fz0 := z6.frozen 0; have fz1 := z6.frozen 1; have fz2 := z6.frozen 2
      have hl6 := z6.lt
      rcases HS'.out with ⟨hq, hi⟩ | ⟨hq, hi, hl⟩ | ⟨hi, hl, hs'⟩
      · exact q8
      · obtain ⟨y1', y2'⟩ := hi
        simp only at y1' y2'
        have hy' : inB (-10000) 10000 y' = true := inB_yes y1' y2'
        have hlp : 0 < ML := by rw [HLEN.out] at hl; exact hl
        have HQ := Lib.hid hq
        exact q2
      · have HI := Lib.hid hi
        obtain ⟨y1', y2'⟩ := hi
        simp only at y1' y2'
        have hy' : inB (-10000) 10000 y' = true := inB_yes y1' y2'
        have hlp : ¬ 0 < ML := by rw [HLEN.out] at hl; omega
        have HSN := Lib.hid hs'
        clear hl hs'
        refine (arith_isYear _ _).mono ?_; rw [← HY'.out.1, hy']; rintro e w3 ⟨rfl, rfl⟩
        go_wp2_with fail
        refine (arith_length _ _ _ _ _ _ _ _ _ _ ms ls y' k' x OK.out.cy1 OK.out.cy2 OK.out.sorted r3 (by omega) (by omega) (H.out.then_ mv2.1.2.2) r2 HX.out).mono ?_
        rw [← HML.out]
        rintro e w4 ⟨rfl, hb⟩
        replace mv2 := mv2.step hb
        clear hb e0 e1 e2 x0 x1 x2 x3 x4 z6 g0 g1 g2 fz0 fz1 fz2 hl6
        go_wp2_with fail
        go_roundg (farP ms.length true (y', k'))
        case rel => exact ⟨y', k', rfl, hkn', y1', y2', HSN.out, mv2⟩
        case measure => exact HFAR.out
set_option maxHeartbeats 4000000 in
theorem arith_move_down (w : World) (s : ByteArray) (f c : Int) (a1 a2 : Option Addr) (n1 c1 n2 c2 : Nat) (ms : List Mon) (ls : List Int) (y : Int) (k : Nat) (d : Int) (q : Option (Int × Nat)) (ok : CalOk s f c ms ls) (hk : k < n1) (y1 : -10000 ≤ y) (y2 : y ≤ 10000) (h : CalAt w a1 a2 n1 n2 ms ls) (hs : Seek ms ls c false (stepP ms.length false (y, k)) q) :
    Calls Tryz.prog 120 #[.agg #[.string s, .int .i64 f, .int .i64 c, .slice a1 n1 c1, .slice a2 n2 c2], .agg #[.int .i64 y, .int .i64 ((k : Int) + 1), .int .i64 d], .int .i64 (-1)] w fun e w' => MoveOut q d e ∧ Below w.heap.size w w' := by
  obtain ⟨r1, r2, r3, r4⟩ := ok_n1 h ok
  have L1 := Lib.hid h.1.len
  have H := Lib.hid h; have OK := Lib.hid ok; have HS := Lib.hid hs
  clear h ok hs
  go_enter Tryz.func120, Tryz.ntmps120
  go_wp2_with fail
  have m0 := Mv.new w (.cells #[.string s, .int .i64 f, .int .i64 c, .slice a1 n1 c1, .slice a2 n2 c2] 39) y ((k : Int) + 1) d
  generalize World.alloc (World.alloc (World.alloc w _) _) _ = W1 at m0 ⊢
  go_loopg [8] (farP ms.length false (y, k)) (fun gk _ wr => ∃ (y : Int) (k : Nat), gk = farP ms.length false (y, k) ∧ k < n1 ∧ -10000 ≤ y ∧ y ≤ 10000 ∧ Seek ms ls c false (stepP ms.length false (y, k)) q ∧ Mv w (.cells #[.string s, .int .i64 f, .int .i64 c, .slice a1 n1 c1, .slice a2 n2 c2] 39) y ((k : Int) + 1) d wr)
  case atStart => exact ⟨y, k, rfl, hk, y1, y2, HS.out, m0⟩
  case round =>
    clear m0 HS hk y1 y2
    obtain ⟨y, k, rfl, hk, y1, y2, hS, mv⟩ := hrel
    have hfar := farP_step (n := ms.length) (up := false) (p := (y, k)) (by have := L1.out; simp only; omega) ⟨y1, y2⟩
    obtain ⟨⟨y', k'⟩, hr⟩ : ∃ r, r = stepP ms.length false (y, k) := ⟨_, rfl⟩
    have hk' := stepP_in (n := ms.length) (up := false) (p := (y, k)) (by have := L1.out; simp only; omega)
    have hyr := stepP_year (n := ms.length) (up := false) (p := (y, k))
    have hC := hS.cases
    rw [← hr] at hfar hk' hC hyr
    simp only at hk' hyr
    obtain ⟨yr1, yr2⟩ := hyr
    have HFAR := Lib.hid hfar; have HS' := Lib.hid hC
    have HK' := Lib.hid (show k' < n1 by have := L1.out; omega)
    have HR := Lib.hid hr
    clear hS hfar hC hr hk'
    obtain ⟨e0, e1, e2⟩ := mv.1.date
    obtain ⟨x0, x1, x2, x3, x4⟩ := mv.1.cal
    have o1 := mv.1.2.1.frozen 0
    have o2 := mv.1.2.1.frozen 1
    have hlB := mv.1.2.1.lt
    by_cases hlt : 1 ≤ k
    · have HY' := Lib.hid (show y' = y ∧ k' = k - 1 by have := HR.out.trans (stepP_down hlt); injection this with p1 p2; exact ⟨p1, p2⟩)
      have n1' : ¬ ((k : Int) + 1 + -1 < 1) := by omega
      have n2' : ¬ ((n1 : Int) < (k : Int) + 1 + -1) := by omega
      go_wp2_with fail
      have mv2 := mv.month ((k : Int) + 1 + -1)
      generalize World.setCell _ _ _ = W2 at mv2 ⊢
      clear e0 e1 e2 x0 x1 x2 x3 x4 o1 o2 n1' n2' hlB
      have E1 : (k' : Int) + 1 = (k : Int) + 1 + -1 := by have := HY'.out.2; omega
      replace mv2 : Mv w (.cells #[.string s, .int .i64 f, .int .i64 c, .slice a1 n1 c1, .slice a2 n2 c2] 39) y' ((k' : Int) + 1) d W2 := by rw [HY'.out.1, E1]; exact mv2
      have hkn' : k' < n1 := HK'.out
      obtain ⟨x, hx⟩ : ∃ x, ms[k']? = some x := ⟨_, List.getElem?_eq_getElem (show k' < ms.length by have := L1.out; omega)⟩
      have hlen : lenAt ms ls c (y', k') = mlenOf x (flag ls (placeOf c y')) := lenAt_of hx
      obtain ⟨ML, hML⟩ : ∃ ML, ML = mlenOf x (flag ls (placeOf c y')) := ⟨_, rfl⟩
      rw [← hML] at hlen
      have HX := Lib.hid hx; have HML := Lib.hid hML; have HLEN := Lib.hid hlen
      clear hx hML hlen E1
      obtain ⟨e0, e1, e2⟩ := mv2.1.date
      obtain ⟨x0, x1, x2, x3, x4⟩ := mv2.1.cal
      have z6 := mv2.2
      have g0 := z6.cell 0; have g1 := z6.cell 1; have g2 := z6.cell 2; simp at g0 g1 g2
      have fz0 := z6.frozen 0; have fz1 := z6.frozen 1; have fz2 := z6.frozen 2
      have hl6 := z6.lt
      rcases HS'.out with ⟨hq, hi⟩ | ⟨hq, hi, hl⟩ | ⟨hi, hl, hs'⟩
      · exact q8
      · obtain ⟨y1', y2'⟩ := hi
        simp only at y1' y2'
        have hy' : inB (-10000) 10000 y' = true := inB_yes y1' y2'
        have hlp : 0 < ML := by rw [HLEN.out] at hl; exact hl
        have HQ := Lib.hid hq
        exact q2
      · have HI := Lib.hid hi
        obtain ⟨y1', y2'⟩ := hi
        simp only at y1' y2'
        have hy' : inB (-10000) 10000 y' = true := inB_yes y1' y2'
        have hlp : ¬ 0 < ML := by rw [HLEN.out] at hl; omega
        have HSN := Lib.hid hs'
        clear hl hs'
        refine (arith_isYear _ _).mono ?_; rw [← HY'.out.1, hy']; rintro e w3 ⟨rfl, rfl⟩
        go_wp2_with fail
        refine (arith_length _ _ _ _ _ _ _ _ _ _ ms ls y' k' x OK.out.cy1 OK.out.cy2 OK.out.sorted r3 (by omega) (by omega) (H.out.then_ mv2.1.2.2) r2 HX.out).mono ?_
        rw [← HML.out]
        rintro e w4 ⟨rfl, hb⟩
        replace mv2 := mv2.step hb
        clear hb e0 e1 e2 x0 x1 x2 x3 x4 z6 g0 g1 g2 fz0 fz1 fz2 hl6
        go_wp2_with fail
        go_roundg (farP ms.length false (y', k'))
        case rel => exact ⟨y', k', rfl, hkn', y1', y2', HSN.out, mv2⟩
        case measure => exact HFAR.out
    · have HY' := Lib.hid (show y' = y - 1 ∧ k' = ms.length - 1 by have := HR.out.trans (by rw [show k = 0 from by omega, stepP_under]); injection this with p1 p2; exact ⟨p1, p2⟩)
      have n1' : (k : Int) + 1 + -1 < 1 := by omega
      go_wp2_with fail
      go_region
      go_wp2_with fail
      have mv2 := (((mv.month ((k : Int) + 1 + -1)).year (y - 1)).month (n1 : Int)).drew
      generalize World.drew _ = W2 at mv2 ⊢
      clear e0 e1 e2 x0 x1 x2 x3 x4 o1 o2 n1' hlB
      have E1 : (k' : Int) + 1 = (n1 : Int) := by have := HY'.out.2; have := L1.out; omega
      replace mv2 : Mv w (.cells #[.string s, .int .i64 f, .int .i64 c, .slice a1 n1 c1, .slice a2 n2 c2] 39) y' ((k' : Int) + 1) d W2 := by rw [HY'.out.1, E1]; exact mv2
      have hkn' : k' < n1 := HK'.out
      obtain ⟨x, hx⟩ : ∃ x, ms[k']? = some x := ⟨_, List.getElem?_eq_getElem (show k' < ms.length by have := L1.out; omega)⟩
      have hlen : lenAt ms ls c (y', k') = mlenOf x (flag ls (placeOf c y')) := lenAt_of hx
      obtain ⟨ML, hML⟩ : ∃ ML, ML = mlenOf x (flag ls (placeOf c y')) := ⟨_, rfl⟩
      rw [← hML] at hlen
      have HX := Lib.hid hx; have HML := Lib.hid hML; have HLEN := Lib.hid hlen
      clear hx hML hlen E1
      obtain ⟨e0, e1, e2⟩ := mv2.1.date
      obtain ⟨x0, x1, x2, x3, x4⟩ := mv2.1.cal
      have z6 := mv2.2
      have g0 := z6.cell 0; have g1 := z6.cell 1; have g2 := z6.cell 2; simp at g0 g1 g2
      have fz0 := z6.frozen 0; have fz1 := z6.frozen 1; have fz2 := z6.frozen 2
      have hl6 := z6.lt
      rcases HS'.out with ⟨hq, hi⟩ | ⟨hq, hi, hl⟩ | ⟨hi, hl, hs'⟩
      · exact q8
      · obtain ⟨y1', y2'⟩ := hi
        simp only at y1' y2'
        have hy' : inB (-10000) 10000 y' = true := inB_yes y1' y2'
        have hlp : 0 < ML := by rw [HLEN.out] at hl; exact hl
        have HQ := Lib.hid hq
        exact q2
      · have HI := Lib.hid hi
        obtain ⟨y1', y2'⟩ := hi
        simp only at y1' y2'
        have hy' : inB (-10000) 10000 y' = true := inB_yes y1' y2'
        have hlp : ¬ 0 < ML := by rw [HLEN.out] at hl; omega
        have HSN := Lib.hid hs'
        clear hl hs'
        refine (arith_isYear _ _).mono ?_; rw [← HY'.out.1, hy']; rintro e w3 ⟨rfl, rfl⟩
        go_wp2_with fail
        refine (arith_length _ _ _ _ _ _ _ _ _ _ ms ls y' k' x OK.out.cy1 OK.out.cy2 OK.out.sorted r3 (by omega) (by omega) (H.out.then_ mv2.1.2.2) r2 HX.out).mono ?_
        rw [← HML.out]
        rintro e w4 ⟨rfl, hb⟩
        replace mv2 := mv2.step hb
        clear hb e0 e1 e2 x0 x1 x2 x3 x4 z6 g0 g1 g2 fz0 fz1 fz2 hl6
        go_wp2_with fail
        go_roundg (farP ms.length false (y', k'))
        case rel => exact ⟨y', k', rfl, hkn', y1', y2', HSN.out, mv2⟩
        case measure => exact HFAR.out
end Go.Proofs.YtlbjmpdonnlieaaGreatDoor
