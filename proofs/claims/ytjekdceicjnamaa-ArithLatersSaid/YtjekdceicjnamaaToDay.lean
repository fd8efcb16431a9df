/- Contracts of arith.toDay, arith.ToDay and of the reference's Years.ToDay. -/
import Derived.Test.YtjekdceicjnamaaArith3
import Derived.Test.YtjekdceicjnamaaYears
import Derived.Test.YtjekdceicjnamaaQuiet
namespace Go.Proofs.Ytjekdceicjnamaa
set_option linter.unusedVariables false
set_option maxRecDepth 100000
open Go.RowKit

/-- Two boxes of the call's own. -/
def Two (w : World) (o1 o2 : Obj) (W : World) : Prop := At W w.heap.size o1 ∧ At W (w.heap.size + 1) o2 ∧ Below w.heap.size w W
theorem Two.new (w : World) (o1 o2 : Obj) : Two w o1 o2 ((w.alloc o1).alloc o2) := ⟨(At.new w _).alloc _, At.new1 w _ _, by (repeat' (first | exact Below.refl _ _ | assumption | refine Below.drew ?_ | refine below_drewN ?_ _ | refine below_new ?_ _ | refine below_set ?_ ?_ _ | refine below_then ?_ (by assumption) | refine below_drawn ?_ (by assumption) | exact Nat.le_refl _ | omega | (simp; done) | (simp; omega)))⟩
theorem Two.step {w W W' : World} {o1 o2 : Obj} (h : Two w o1 o2 W) (hb : Below W.heap.size W W') : Two w o1 o2 W' := ⟨h.1.then_ hb, h.2.1.then_ hb, below_then h.2.2 hb⟩
theorem Two.drew {w W : World} {o1 o2 : Obj} (h : Two w o1 o2 W) : Two w o1 o2 W.drew := ⟨h.1.drew, h.2.1.drew, h.2.2.drew⟩
theorem Two.drewN {w W : World} {o1 o2 : Obj} (h : Two w o1 o2 W) (n : Nat) : Two w o1 o2 (W.drewN n) := ⟨h.1.drewN n, h.2.1.drewN n, below_drewN h.2.2 n⟩
theorem Two.date {w W : World} {o1 : Obj} {t : TypeId} {y m d : Int} (h : Two w o1 (.cells #[.int .i64 y, .int .i64 m, .int .i64 d] t) W) :
    W.cell? ⟨w.heap.size + 1, 0, none⟩ = some (.int .i64 y) ∧ W.cell? ⟨w.heap.size + 1, 1, none⟩ = some (.int .i64 m) ∧ W.cell? ⟨w.heap.size + 1, 2, none⟩ = some (.int .i64 d) :=
  ⟨h.2.1.cell 0, h.2.1.cell 1, h.2.1.cell 2⟩
theorem Two.cal {w W : World} {o2 : Obj} {t : TypeId} {v0 v1 v2 v3 v4 : Value} (h : Two w (.cells #[v0, v1, v2, v3, v4] t) o2 W) :
    W.cell? ⟨w.heap.size, 0, none⟩ = some v0 ∧ W.cell? ⟨w.heap.size, 1, none⟩ = some v1 ∧ W.cell? ⟨w.heap.size, 2, none⟩ = some v2 ∧ W.cell? ⟨w.heap.size, 3, none⟩ = some v3 ∧ W.cell? ⟨w.heap.size, 4, none⟩ = some v4 :=
  ⟨h.1.cell 0, h.1.cell 1, h.1.cell 2, h.1.cell 3, h.1.cell 4⟩
theorem Two.years {w W : World} {o2 : Obj} {t : TypeId} {v0 v1 v2 v3 v4 v5 v6 v7 v8 : Value} (h : Two w (.cells #[v0, v1, v2, v3, v4, v5, v6, v7, v8] t) o2 W) :
    W.cell? ⟨w.heap.size, 0, none⟩ = some v0 ∧ W.cell? ⟨w.heap.size, 1, none⟩ = some v1 ∧ W.cell? ⟨w.heap.size, 2, none⟩ = some v2 ∧ W.cell? ⟨w.heap.size, 3, none⟩ = some v3 ∧ W.cell? ⟨w.heap.size, 4, none⟩ = some v4 ∧ W.cell? ⟨w.heap.size, 5, none⟩ = some v5 ∧ W.cell? ⟨w.heap.size, 6, none⟩ = some v6 ∧ W.cell? ⟨w.heap.size, 7, none⟩ = some v7 ∧ W.cell? ⟨w.heap.size, 8, none⟩ = some v8 :=
  ⟨h.1.cell 0, h.1.cell 1, h.1.cell 2, h.1.cell 3, h.1.cell 4, h.1.cell 5, h.1.cell 6, h.1.cell 7, h.1.cell 8⟩

/-- The days of the first k months. -/
def sumM (ms : List Mon) (b : Bool) (k : Nat) : Int := ((ms.take k).map fun x => mlenOf x b).sum
theorem sumM_zero (ms : List Mon) (b : Bool) : sumM ms b 0 = 0 := by simp [sumM]
theorem sumM_succ {ms : List Mon} {b : Bool} {k : Nat} {x : Mon} (h : ms[k]? = some x) : sumM ms b (k + 1) = sumM ms b k + mlenOf x b := by
  unfold sumM; rw [take_one h, List.map_append, List.sum_append]; simp
theorem mlenOf_bound {ms : List Mon} (h : ∀ x ∈ ms, 0 ≤ x.2.1 ∧ x.2.1 ≤ 400 ∧ 0 ≤ x.2.2 ∧ x.2.2 ≤ 400) {k : Nat} {x : Mon} (hx : ms[k]? = some x) (b : Bool) : 0 ≤ mlenOf x b ∧ mlenOf x b ≤ 400 := by
  have := h x (List.mem_of_getElem? hx)
  unfold mlenOf; cases b <;> simp only [cond_true, cond_false] <;> omega
theorem sumM_bound {ms : List Mon} (h : ∀ x ∈ ms, 0 ≤ x.2.1 ∧ x.2.1 ≤ 400 ∧ 0 ≤ x.2.2 ∧ x.2.2 ≤ 400) (b : Bool) : ∀ k : Nat, k ≤ ms.length → 0 ≤ sumM ms b k ∧ sumM ms b k ≤ 400 * k
  | 0, _ => by rw [sumM_zero]; omega
  | k + 1, hk => by
    have ih := sumM_bound h b k (by omega)
    have hx := List.getElem?_eq_getElem (show k < ms.length by omega)
    have hb := mlenOf_bound h hx b
    rw [sumM_succ hx]; omega
theorem nyOf_bound {s : ByteArray} {f c : Int} {ms : List Mon} {ls : List Int} (ok : CalOk s f c ms ls) (y : Int) (y1 : -20000 ≤ y) (y2 : y ≤ 20000) : -500000000000 ≤ nyOf (shortOf ms) (longOf ms) f c ls y ∧ nyOf (shortOf ms) (longOf ms) f c ls y ≤ 500000000000 := by
  have cy1 := ok.cy1; have cy2 := ok.cy2; have ep1 := ok.ep1; have ep2 := ok.ep2
  have p := placeOf_in c y cy1
  have b1 := daysTo_bound (shortOf ms) (longOf ms) ls c (by omega) (by omega) ok.sh1 ok.sh2 ok.lo1 ok.lo2 ok.sorted (fun z hz => (ok.leaps z hz).1)
  have b2 := daysTo_bound (shortOf ms) (longOf ms) ls (placeOf c y) (by omega) (by omega) ok.sh1 ok.sh2 ok.lo1 ok.lo2 ok.sorted (fun z hz => (ok.leaps z hz).1)
  have hq : -20001 ≤ (y - 1) / c ∧ (y - 1) / c ≤ 20001 := by
    constructor
    · rw [Int.le_ediv_iff_mul_le (by omega)]
      have h3 : -20001 * c ≤ -20001 * 1 := by omega
      omega
    · refine Int.ediv_le_of_le_mul (by omega) ?_
      have h3 : 20001 * 1 ≤ 20001 * c := by omega
      omega
  have m := mul_in ((y - 1) / c) (daysTo (shortOf ms) (longOf ms) ls c) 20001 24000000 (by omega) (by omega) (by omega) (by omega)
  unfold nyOf
  have : (y - 1) % c = placeOf c y := rfl
  rw [this]
  omega
/-- The number of a date. -/
def dnum (ms : List Mon) (ls : List Int) (f c y : Int) (k : Nat) (d : Int) : Int := nyOf (shortOf ms) (longOf ms) f c ls y + sumM ms (flag ls (placeOf c y)) k + d - 1

set_option maxHeartbeats 2000000 in
theorem arith_toDay (w : World) (s : ByteArray) (f c : Int) (a1 a2 : Option Addr) (n1 c1 n2 c2 : Nat) (ms : List Mon) (ls : List Int) (y : Int) (k : Nat) (d : Int) (ok : CalOk s f c ms ls) (y1 : -10000 ≤ y) (y2 : y ≤ 10000) (hk : k < n1) (d1 : 1 ≤ d) (d2 : d ≤ 400) (h : CalAt w a1 a2 n1 n2 ms ls) :
    Calls Try.prog 59 #[.agg #[.string s, .int .i64 f, .int .i64 c, .slice a1 n1 c1, .slice a2 n2 c2], .agg #[.int .i64 y, .int .i64 ((k : Int) + 1), .int .i64 d]] w fun e w' => e = .returned (dayOr (dnum ms ls f c y k d)) ∧ Below w.heap.size w w' := by
  obtain ⟨r1, r2, r3, r4⟩ := ok_n1 h ok
  have L1 := Lib.hid h.1.len
  have hnb := nyOf_bound ok y (by omega) (by omega)
  obtain ⟨nb1, nb2⟩ := hnb
  have H := Lib.hid h; have OK := Lib.hid ok; clear h ok
  have HD := Lib.hid (show dnum ms ls f c y k d = nyOf (shortOf ms) (longOf ms) f c ls y + d - 1 + sumM ms (flag ls (placeOf c y)) k by unfold dnum; omega)
  obtain ⟨N, hN⟩ : ∃ N, N = nyOf (shortOf ms) (longOf ms) f c ls y := ⟨_, rfl⟩
  rw [← hN] at HD nb1 nb2
  have HN := Lib.hid hN; clear hN
  go_enter Try.func59, Try.ntmps59
  go_wp2_with fail
  have tw := Two.new w (.cells #[.string s, .int .i64 f, .int .i64 c, .slice a1 n1 c1, .slice a2 n2 c2] 47) (.cells #[.int .i64 y, .int .i64 ((k : Int) + 1), .int .i64 d] 39)
  generalize World.alloc (World.alloc w _) _ = W1 at tw ⊢
  have t1 : IntKind.i64.wrap (N + d) = N + d := IntWalk.i64_in _ (by omega)
  have t2 : IntKind.i64.wrap (N + d - 1) = N + d - 1 := IntWalk.i64_in _ (by omega)
  (refine region_class (Two w (.cells #[.string s, .int .i64 f, .int .i64 c, .slice a1 n1 c1, .slice a2 n2 c2] 47) (.cells #[.int .i64 y, .int .i64 ((k : Int) + 1), .int .i64 d] 39)) (by kernel_rfl) (by kernel_rfl) (tw.drew) ?_; repeat ((first | (refine class_take ?_ (by rfl) ?_ ?_; rotate_left; focus (intro wq hq; ((obtain ⟨e0, e1, e2⟩ := hq.date; obtain ⟨x0, x1, x2, x3, x4⟩ := hq.cal)); go_simp; first | done | with_reducible rfl | (first | (go_at_call 89; refine (arith_newYear _ _ _ _ _ _ _ _ _ _ ms ls y OK.out (by omega) (by omega) (H.out.then_ hq.2.2)).mono ?_; rw [← HN.out]; rintro e w' ⟨rfl, hb⟩; refine ⟨?_, hq.step hb⟩; with_reducible rfl)))) | refine class_skip (by rfl) ?_); try simp only [Act.put, List.setIfInBounds_toArray, List.set_cons_zero, List.set_cons_succ]))
  refine wpQuiet_nil ?_
  intro W2 tw2
  clear t1 t2 tw
  go_wp2_with fail
  go_loopw [6, 7] (fun t i wr => ∃ j : Nat, j ≤ k ∧ i = .int .i64 ((j : Int) + 1) ∧ t = .int .i64 (N + d - 1 + sumM ms (flag ls (placeOf c y)) j) ∧ Two w (.cells #[.string s, .int .i64 f, .int .i64 c, .slice a1 n1 c1, .slice a2 n2 c2] 47) (.cells #[.int .i64 y, .int .i64 ((k : Int) + 1), .int .i64 d] 39) wr) (fun _ i _ => k + 1 - (intOf i).toNat)
  case atStart => exact ⟨0, by omega, rfl, by rw [sumM_zero]; simp, tw2⟩
  case round =>
    clear tw2
    obtain ⟨j, hj, rfl, rfl, tw⟩ := hrel
    obtain ⟨sb1, sb2⟩ := sumM_bound OK.out.lens (flag ls (placeOf c y)) j (by have := L1.out; omega)
    obtain ⟨e0, e1, e2⟩ := tw.date
    obtain ⟨x0, x1, x2, x3, x4⟩ := tw.cal
    by_cases hlt : j < k
    · obtain ⟨x, hx⟩ : ∃ x, ms[j]? = some x := ⟨_, List.getElem?_eq_getElem (show j < ms.length by have := L1.out; omega)⟩
      have hsn := Lib.hid (sumM_succ (b := flag ls (placeOf c y)) hx)
      obtain ⟨mb1, mb2⟩ := mlenOf_bound OK.out.lens hx (flag ls (placeOf c y))
      have HX := Lib.hid hx; clear hx
      go_wp2_with fail
      refine (arith_length _ _ _ _ _ _ _ _ _ _ ms ls y j x OK.out.cy1 OK.out.cy2 OK.out.sorted r3 (by omega) (by omega) (H.out.then_ tw.2.2) r2 HX.out).mono ?_
      rintro e w3 ⟨rfl, hb⟩
      generalize mlenOf x (flag ls (placeOf c y)) = ML at *
      generalize hSM : sumM ms (flag ls (placeOf c y)) j = SM at *
      clear hSM e0 e1 e2 x0 x1 x2 x3 x4
      go_wp2_with fail
      go_roundw
      case rel => exact ⟨j + 1, by omega, by go_num, by rw [hsn.out]; go_num, tw.step hb⟩
      case measure => simp [intOf]; omega
    · obtain rfl : k = j := by omega
      rw [← HD.out]
      obtain ⟨D, hDD⟩ : ∃ D, D = dnum ms ls f c y k d := ⟨_, rfl⟩
      have hDb : -1000000000000 ≤ D ∧ D ≤ 1000000000000 := by rw [hDD, HD.out]; omega
      obtain ⟨Db1, Db2⟩ := hDb
      rw [← hDD]
      have HDD := Lib.hid hDD; clear hDD
      rcases inB_cases (-4000000) 4000000 D with ⟨hd, _⟩ | ⟨hd, _⟩
      · have ho := Lib.hid (show dayOr (dnum ms ls f c y k d) = .tuple #[.int .i64 D, .int .i64 0] by rw [← HDD.out]; exact if_pos hd)
        go_wp2_with fail
        refine (line_Is _ _).mono ?_; rw [hd]; rintro e w3 ⟨rfl, rfl⟩
        go_wp2_with fail
        go_ret2
        exact ⟨by rw [ho.out]; rfl, tw.2.2⟩
      · have ho := Lib.hid (show dayOr (dnum ms ls f c y k d) = .tuple #[.int .i64 0, .int .i64 3] by rw [← HDD.out]; exact if_neg (by rw [hd]; simp))
        go_wp2_with fail
        refine (line_Is _ _).mono ?_; rw [hd]; rintro e w3 ⟨rfl, rfl⟩
        go_wp2_with fail
        go_ret2
        exact ⟨by rw [ho.out]; rfl, tw.2.2⟩

set_option maxHeartbeats 2000000 in
theorem years_ToDay_range (w : World) (s : ByteArray) (f : Int) (C : Nat) (a1 a2 : Option Addr) (n1 c1 n2 c2 : Nat) (ms : List Mon) (ls : List Int) (g : Nat) (y m d : Int) (hy : inB (-10000) 10000 y = false) :
    Calls Try.prog 65 #[.agg #[.string s, .int .i64 f, .int .i64 (C : Int), .slice a1 n1 c1, .slice a2 n2 c2, .slice (some ⟨g, 0, none⟩) C C, .int .i64 (shortOf ms), .int .i64 (longOf ms), .int .i64 (daysTo (shortOf ms) (longOf ms) ls (C : Int))], .agg #[.int .i64 y, .int .i64 m, .int .i64 d]] w fun e w' => e = .returned (.tuple #[.int .i64 0, .int .i64 3]) ∧ Below w.heap.size w w' := by
  go_enter Try.func65, Try.ntmps65
  go_wp2_with fail
  refine (ref_In _ _ _ _).mono ?_; rw [hy]; rintro e w3 ⟨rfl, rfl⟩
  go_wp2_with fail
  go_ret2
  exact ⟨rfl, by (repeat' (first | exact Below.refl _ _ | assumption | refine Below.drew ?_ | refine below_drewN ?_ _ | refine below_new ?_ _ | refine below_set ?_ ?_ _ | refine below_then ?_ (by assumption) | refine below_drawn ?_ (by assumption) | exact Nat.le_refl _ | omega | (simp; done) | (simp; omega)))⟩
set_option maxHeartbeats 2000000 in
theorem years_ToDay_month (w : World) (s : ByteArray) (f : Int) (C : Nat) (a1 a2 : Option Addr) (n1 c1 n2 c2 : Nat) (ms : List Mon) (ls : List Int) (g : Nat) (y m d : Int) (hy : inB (-10000) 10000 y = true) (hm : inB 1 (n1 : Int) m = false) :
    Calls Try.prog 65 #[.agg #[.string s, .int .i64 f, .int .i64 (C : Int), .slice a1 n1 c1, .slice a2 n2 c2, .slice (some ⟨g, 0, none⟩) C C, .int .i64 (shortOf ms), .int .i64 (longOf ms), .int .i64 (daysTo (shortOf ms) (longOf ms) ls (C : Int))], .agg #[.int .i64 y, .int .i64 m, .int .i64 d]] w fun e w' => e = .returned (.tuple #[.int .i64 0, .int .i64 1]) ∧ Below w.heap.size w w' := by
  go_enter Try.func65, Try.ntmps65
  go_wp2_with fail
  refine (ref_In _ _ _ _).mono ?_; rw [hy]; rintro e w3 ⟨rfl, rfl⟩
  go_wp2_with fail
  go_quiet ((go_at_call 15; exact quiet_left (ref_In _ _ _ _)))
  go_wp2_with fail
  go_ret2
  exact ⟨rfl, by (repeat' (first | exact Below.refl _ _ | assumption | refine Below.drew ?_ | refine below_drewN ?_ _ | refine below_new ?_ _ | refine below_set ?_ ?_ _ | refine below_then ?_ (by assumption) | refine below_drawn ?_ (by assumption) | exact Nat.le_refl _ | omega | (simp; done) | (simp; omega)))⟩
theorem ref_In_at (b : Bool) (x l h : Int) (hb : inB l h x = b) (w : World) : Calls Try.prog 15 #[.int .i64 x, .int .i64 l, .int .i64 h] w fun e w' => e = .returned (.bool b) ∧ w = w' := by
  subst hb; exact ref_In x l h w
set_option maxHeartbeats 2000000 in
theorem years_ToDay_day (w : World) (s : ByteArray) (f : Int) (C : Nat) (a1 a2 : Option Addr) (n1 c1 n2 c2 : Nat) (ms : List Mon) (ls : List Int) (g : Nat) (y : Int) (k : Nat) (d : Int) (x : Mon) (ok : CalOk s f C ms ls) (y1 : -10000 ≤ y) (y2 : y ≤ 10000) (hg : MarksAt w g C ls) (h : CalAt w a1 a2 n1 n2 ms ls) (hx : ms[k]? = some x) (hd : inB 1 (mlenOf x (flag ls (placeOf C y))) d = false) :
    Calls Try.prog 65 #[.agg #[.string s, .int .i64 f, .int .i64 (C : Int), .slice a1 n1 c1, .slice a2 n2 c2, .slice (some ⟨g, 0, none⟩) C C, .int .i64 (shortOf ms), .int .i64 (longOf ms), .int .i64 (daysTo (shortOf ms) (longOf ms) ls (C : Int))], .agg #[.int .i64 y, .int .i64 ((k : Int) + 1), .int .i64 d]] w fun e w' => e = .returned (.tuple #[.int .i64 0, .int .i64 1]) ∧ Below w.heap.size w w' := by
  obtain ⟨r1, r2, r3, r4⟩ := ok_n1 h ok
  have cy1 : 1 ≤ C := by have := ok.cy1; omega
  have cy2 : C ≤ 3000 := by have := ok.cy2; omega
  have L1 := Lib.hid h.1.len
  have H := Lib.hid h; have OK := Lib.hid ok; have HG := Lib.hid hg; have HX := Lib.hid hx
  have hk : k < n1 := by have := (List.getElem?_eq_some_iff.1 hx).1; have := L1.out; omega
  clear h ok hg hx
  have hm : inB 1 (n1 : Int) ((k : Int) + 1) = true := inB_yes (by omega) (by omega)
  obtain ⟨ML, hML⟩ : ∃ ML, ML = mlenOf x (flag ls (placeOf C y)) := ⟨_, rfl⟩
  rw [← hML] at hd
  have HML := Lib.hid hML; clear hML
  have hy := inB_yes y1 y2
  go_enter Try.func65, Try.ntmps65
  go_wp2_with fail
  refine (ref_In _ _ _ _).mono ?_; rw [hy]; rintro e w3 ⟨rfl, rfl⟩
  go_wp2_with fail
  have tw := Two.new w (.cells #[.string s, .int .i64 f, .int .i64 (C : Int), .slice a1 n1 c1, .slice a2 n2 c2, .slice (some ⟨g, 0, none⟩) C C, .int .i64 (shortOf ms), .int .i64 (longOf ms), .int .i64 (daysTo (shortOf ms) (longOf ms) ls (C : Int))] 54) (.cells #[.int .i64 y, .int .i64 ((k : Int) + 1), .int .i64 d] 39)
  generalize World.alloc (World.alloc w _) _ = W1 at tw ⊢
  (refine region_class (Two w (.cells #[.string s, .int .i64 f, .int .i64 (C : Int), .slice a1 n1 c1, .slice a2 n2 c2, .slice (some ⟨g, 0, none⟩) C C, .int .i64 (shortOf ms), .int .i64 (longOf ms), .int .i64 (daysTo (shortOf ms) (longOf ms) ls (C : Int))] 54) (.cells #[.int .i64 y, .int .i64 ((k : Int) + 1), .int .i64 d] 39)) (by kernel_rfl) (by kernel_rfl) (tw.drew) ?_; repeat ((first | (refine class_take ?_ (by rfl) ?_ ?_; rotate_left; focus (intro wq hq; ((obtain ⟨e0, e1, e2⟩ := hq.date; obtain ⟨x0, x1, x2, x3, x4, x5, x6, x7, x8⟩ := hq.years)); go_simp; first | done | with_reducible rfl | (first | (go_at_call 15; first | ((with_reducible refine (ref_In_at true ((k : Int) + 1) 1 (n1 : Int) hm _).mono ?_); rintro e w' ⟨rfl, rfl⟩; refine ⟨?_, hq⟩; with_reducible rfl) | ((with_reducible refine (ref_In_at false d 1 ML hd _).mono ?_); rintro e w' ⟨rfl, rfl⟩; refine ⟨?_, hq⟩; with_reducible rfl)) | (go_at_call 63; refine (years_Month _ s f C a1 a2 n1 c1 n2 c2 ms ls g y _ _ _ k x cy1 cy2 (by omega) (by omega) (HG.out.then_ hq.2.2) (H.out.then_ hq.2.2) r2 HX.out).mono ?_; rw [← HML.out]; rintro e w' ⟨rfl, hb⟩; refine ⟨?_, hq.step hb⟩; with_reducible rfl)))) | refine class_skip (by rfl) ?_); try simp only [Act.put, List.setIfInBounds_toArray, List.set_cons_zero, List.set_cons_succ]))
  refine wpQuiet_nil ?_
  intro W2 tw2
  go_wp2_with fail
  go_ret2
  exact ⟨rfl, tw2.2.2⟩
set_option maxHeartbeats 2000000 in
theorem years_ToDay_ok (w : World) (s : ByteArray) (f : Int) (C : Nat) (a1 a2 : Option Addr) (n1 c1 n2 c2 : Nat) (ms : List Mon) (ls : List Int) (g : Nat) (y : Int) (k : Nat) (d : Int) (x : Mon) (ok : CalOk s f C ms ls) (y1 : -10000 ≤ y) (y2 : y ≤ 10000) (hg : MarksAt w g C ls) (h : CalAt w a1 a2 n1 n2 ms ls) (hx : ms[k]? = some x) (hd : inB 1 (mlenOf x (flag ls (placeOf C y))) d = true) :
    Calls Try.prog 65 #[.agg #[.string s, .int .i64 f, .int .i64 (C : Int), .slice a1 n1 c1, .slice a2 n2 c2, .slice (some ⟨g, 0, none⟩) C C, .int .i64 (shortOf ms), .int .i64 (longOf ms), .int .i64 (daysTo (shortOf ms) (longOf ms) ls (C : Int))], .agg #[.int .i64 y, .int .i64 ((k : Int) + 1), .int .i64 d]] w fun e w' => e = .returned (dayOr (dnum ms ls f C y k d)) ∧ Below w.heap.size w w' := by
  have hdb : 1 ≤ d ∧ d ≤ 400 := by
    have h1 := inB_iff.1 hd
    have h2 := mlenOf_bound ok.lens hx (flag ls (placeOf C y))
    omega
  obtain ⟨d1, d2⟩ := hdb
  have hnb := nyOf_bound ok y (by omega) (by omega)
  obtain ⟨nb1, nb2⟩ := hnb
  obtain ⟨r1, r2, r3, r4⟩ := ok_n1 h ok
  have cy1 : 1 ≤ C := by have := ok.cy1; omega
  have cy2 : C ≤ 3000 := by have := ok.cy2; omega
  have L1 := Lib.hid h.1.len
  have H := Lib.hid h; have OK := Lib.hid ok; have HG := Lib.hid hg; have HX := Lib.hid hx
  have hk : k < n1 := by have := (List.getElem?_eq_some_iff.1 hx).1; have := L1.out; omega
  clear h ok hg hx
  have hm : inB 1 (n1 : Int) ((k : Int) + 1) = true := inB_yes (by omega) (by omega)
  obtain ⟨ML, hML⟩ : ∃ ML, ML = mlenOf x (flag ls (placeOf C y)) := ⟨_, rfl⟩
  rw [← hML] at hd
  have HML := Lib.hid hML; clear hML
  have hy := inB_yes y1 y2
  have HD := Lib.hid (show dnum ms ls f C y k d = nyOf (shortOf ms) (longOf ms) f C ls y + d - 1 + sumM ms (flag ls (placeOf C y)) k by unfold dnum; omega)
  obtain ⟨N, hN⟩ : ∃ N, N = nyOf (shortOf ms) (longOf ms) f C ls y := ⟨_, rfl⟩
  rw [← hN] at HD nb1 nb2
  have HN := Lib.hid hN; clear hN
  go_enter Try.func65, Try.ntmps65
  go_wp2_with fail
  refine (ref_In _ _ _ _).mono ?_; rw [hy]; rintro e w3 ⟨rfl, rfl⟩
  go_wp2_with fail
  have tw := Two.new w (.cells #[.string s, .int .i64 f, .int .i64 (C : Int), .slice a1 n1 c1, .slice a2 n2 c2, .slice (some ⟨g, 0, none⟩) C C, .int .i64 (shortOf ms), .int .i64 (longOf ms), .int .i64 (daysTo (shortOf ms) (longOf ms) ls (C : Int))] 54) (.cells #[.int .i64 y, .int .i64 ((k : Int) + 1), .int .i64 d] 39)
  generalize World.alloc (World.alloc w _) _ = W1 at tw ⊢
  (refine region_class (Two w (.cells #[.string s, .int .i64 f, .int .i64 (C : Int), .slice a1 n1 c1, .slice a2 n2 c2, .slice (some ⟨g, 0, none⟩) C C, .int .i64 (shortOf ms), .int .i64 (longOf ms), .int .i64 (daysTo (shortOf ms) (longOf ms) ls (C : Int))] 54) (.cells #[.int .i64 y, .int .i64 ((k : Int) + 1), .int .i64 d] 39)) (by kernel_rfl) (by kernel_rfl) (tw.drew) ?_; repeat ((first | (refine class_take ?_ (by rfl) ?_ ?_; rotate_left; focus (intro wq hq; ((obtain ⟨e0, e1, e2⟩ := hq.date; obtain ⟨x0, x1, x2, x3, x4, x5, x6, x7, x8⟩ := hq.years)); go_simp; first | done | with_reducible rfl | (first | (go_at_call 15; first | ((with_reducible refine (ref_In_at true ((k : Int) + 1) 1 (n1 : Int) hm _).mono ?_); rintro e w' ⟨rfl, rfl⟩; refine ⟨?_, hq⟩; with_reducible rfl) | ((with_reducible refine (ref_In_at true d 1 ML hd _).mono ?_); rintro e w' ⟨rfl, rfl⟩; refine ⟨?_, hq⟩; with_reducible rfl)) | (go_at_call 63; refine (years_Month _ s f C a1 a2 n1 c1 n2 c2 ms ls g y _ _ _ k x cy1 cy2 (by omega) (by omega) (HG.out.then_ hq.2.2) (H.out.then_ hq.2.2) r2 HX.out).mono ?_; rw [← HML.out]; rintro e w' ⟨rfl, hb⟩; refine ⟨?_, hq.step hb⟩; with_reducible rfl)))) | refine class_skip (by rfl) ?_); try simp only [Act.put, List.setIfInBounds_toArray, List.set_cons_zero, List.set_cons_succ]))
  refine wpQuiet_nil ?_
  intro W2 tw2
  clear tw
  go_wp2_with fail
  have t1 : IntKind.i64.wrap (N + d) = N + d := IntWalk.i64_in _ (by omega)
  have t2 : IntKind.i64.wrap (N + d - 1) = N + d - 1 := IntWalk.i64_in _ (by omega)
  (refine region_class (Two w (.cells #[.string s, .int .i64 f, .int .i64 (C : Int), .slice a1 n1 c1, .slice a2 n2 c2, .slice (some ⟨g, 0, none⟩) C C, .int .i64 (shortOf ms), .int .i64 (longOf ms), .int .i64 (daysTo (shortOf ms) (longOf ms) ls (C : Int))] 54) (.cells #[.int .i64 y, .int .i64 ((k : Int) + 1), .int .i64 d] 39)) (by kernel_rfl) (by kernel_rfl) (tw2.drew) ?_; repeat ((first | (refine class_take ?_ (by rfl) ?_ ?_; rotate_left; focus (intro wq hq; ((obtain ⟨e0, e1, e2⟩ := hq.date; obtain ⟨x0, x1, x2, x3, x4, x5, x6, x7, x8⟩ := hq.years)); go_simp; first | done | with_reducible rfl | (first | (go_at_call 92; refine (years_NewYear _ s f C a1 a2 n1 c1 n2 c2 ms ls g y OK.out (by omega) (by omega) (HG.out.then_ hq.2.2)).mono ?_; rw [← HN.out]; rintro e w' ⟨rfl, hb⟩; refine ⟨?_, hq.step hb⟩; with_reducible rfl)))) | refine class_skip (by rfl) ?_); try simp only [Act.put, List.setIfInBounds_toArray, List.set_cons_zero, List.set_cons_succ]))
  refine wpQuiet_nil ?_
  intro W3 tw3
  clear t1 t2 tw2
  go_wp2_with fail
  go_loopw [6, 7] (fun t i wr => ∃ j : Nat, j ≤ k ∧ i = .int .i64 ((j : Int) + 1) ∧ t = .int .i64 (N + d - 1 + sumM ms (flag ls (placeOf C y)) j) ∧ Two w (.cells #[.string s, .int .i64 f, .int .i64 (C : Int), .slice a1 n1 c1, .slice a2 n2 c2, .slice (some ⟨g, 0, none⟩) C C, .int .i64 (shortOf ms), .int .i64 (longOf ms), .int .i64 (daysTo (shortOf ms) (longOf ms) ls (C : Int))] 54) (.cells #[.int .i64 y, .int .i64 ((k : Int) + 1), .int .i64 d] 39) wr) (fun _ i _ => k + 1 - (intOf i).toNat)
  case atStart => exact ⟨0, by omega, rfl, by rw [sumM_zero]; simp, tw3⟩
  case round =>
    clear tw3
    obtain ⟨j, hj, rfl, rfl, tw⟩ := hrel
    obtain ⟨sb1, sb2⟩ := sumM_bound OK.out.lens (flag ls (placeOf C y)) j (by have := L1.out; omega)
    obtain ⟨e0, e1, e2⟩ := tw.date
    by_cases hlt : j < k
    · obtain ⟨x', hx⟩ : ∃ x, ms[j]? = some x := ⟨_, List.getElem?_eq_getElem (show j < ms.length by have := L1.out; omega)⟩
      have hsn := Lib.hid (sumM_succ (b := flag ls (placeOf C y)) hx)
      obtain ⟨mb1, mb2⟩ := mlenOf_bound OK.out.lens hx (flag ls (placeOf C y))
      have HX' := Lib.hid hx; clear hx
      obtain ⟨x0, x1, x2, x3, x4, x5, x6, x7, x8⟩ := tw.years
      go_wp2_with fail
      refine (years_Month _ s f C a1 a2 n1 c1 n2 c2 ms ls g y _ _ _ j x' cy1 cy2 (by omega) (by omega) (HG.out.then_ tw.2.2) (H.out.then_ tw.2.2) r2 HX'.out).mono ?_
      rintro e w3 ⟨rfl, hb⟩
      generalize mlenOf x' (flag ls (placeOf C y)) = ML' at *
      generalize hSM : sumM ms (flag ls (placeOf C y)) j = SM at *
      clear hSM e0 e1 e2 x0 x1 x2 x3 x4 x5 x6 x7 x8
      go_wp2_with fail
      go_roundw
      case rel => exact ⟨j + 1, by omega, by go_num, by rw [hsn.out]; go_num, tw.step hb⟩
      case measure => simp [intOf]; omega
    · obtain rfl : k = j := by omega
      rw [← HD.out]
      obtain ⟨D, hDD⟩ : ∃ D, D = dnum ms ls f C y k d := ⟨_, rfl⟩
      have hDb : -1000000000000 ≤ D ∧ D ≤ 1000000000000 := by rw [hDD, HD.out]; omega
      obtain ⟨Db1, Db2⟩ := hDb
      rw [← hDD]
      have HDD := Lib.hid hDD; clear hDD
      rcases inB_cases (-4000000) 4000000 D with ⟨hdd, _⟩ | ⟨hdd, _⟩
      · have ho := Lib.hid (show dayOr (dnum ms ls f C y k d) = .tuple #[.int .i64 D, .int .i64 0] by rw [← HDD.out]; exact if_pos hdd)
        go_wp2_with fail
        refine (ref_Day _ _).mono ?_; rw [hdd]; rintro e w3 ⟨rfl, rfl⟩
        go_wp2_with fail
        go_ret2
        exact ⟨by rw [ho.out]; rfl, tw.2.2⟩
      · have ho := Lib.hid (show dayOr (dnum ms ls f C y k d) = .tuple #[.int .i64 0, .int .i64 3] by rw [← HDD.out]; exact if_neg (by rw [hdd]; simp))
        go_wp2_with fail
        refine (ref_Day _ _).mono ?_; rw [hdd]; rintro e w3 ⟨rfl, rfl⟩
        go_wp2_with fail
        go_ret2
        exact ⟨by rw [ho.out]; rfl, tw.2.2⟩
end Go.Proofs.Ytjekdceicjnamaa
