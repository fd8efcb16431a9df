/- Several texts in one: ToDay, From0, From1, From2, From3, From4, From5, ToDay2. -/
import Derived.Test.YtlpbaljoanfogaaGreatDoorMgG
import Derived.Test.YtlpbaljoanfogaaGreatDoorMgY
import Derived.Test.YtlpbaljoanfogaaGreatDoorMg5
set_option linter.unusedSimpArgs false
namespace Go.Proofs.YtlpbaljoanfogaaGreatDoor
set_option linter.unusedVariables false
set_option maxRecDepth 100000
open Go.RowKit
def Two (w : World) (o1 o2 : Obj) (W : World) : Prop := At W w.heap.size o1 ∧ At W (w.heap.size + 1) o2 ∧ Below w.heap.size w W
theorem Two.new (w : World) (o1 o2 : Obj) : Two w o1 o2 ((w.alloc o1).alloc o2) := ⟨(At.new w _).alloc _, At.new1 w _ _, by (repeat' (first | exact bxR _ _ | assumption | refine bxD ?_ | refine bxN ?_ _ | refine bxA ?_ _ | refine bxS ?_ ?_ _ | refine bxT ?_ (by assumption) | refine bxW ?_ (by assumption) | exact Nat.le_refl _ | omega | (simp; done) | (simp; omega)))⟩
theorem Two.step {w W W' : World} {o1 o2 : Obj} (h : Two w o1 o2 W) (hb : Below W.heap.size W W') : Two w o1 o2 W' := ⟨h.1.then_ hb, h.2.1.then_ hb, below_then h.2.2 hb⟩
theorem Two.drew {w W : World} {o1 o2 : Obj} (h : Two w o1 o2 W) : Two w o1 o2 W.drew := ⟨h.1.drew, h.2.1.drew, h.2.2.drew⟩
theorem Two.drewN {w W : World} {o1 o2 : Obj} (h : Two w o1 o2 W) (n : Nat) : Two w o1 o2 (W.drewN n) := ⟨h.1.drewN n, h.2.1.drewN n, below_drewN h.2.2 n⟩
theorem Two.date {w W : World} {o1 : Obj} {t : TypeId} {y m d : Int} (h : Two w o1 (.cells #[.int .i64 y, .int .i64 m, .int .i64 d] t) W) :
    W.cell? ⟨w.heap.size + 1, 0, none⟩ = some (.int .i64 y) ∧ W.cell? ⟨w.heap.size + 1, 1, none⟩ = some (.int .i64 m) ∧ W.cell? ⟨w.heap.size + 1, 2, none⟩ = some (.int .i64 d) :=
  ⟨h.2.1.cell 0, h.2.1.cell 1, h.2.1.cell 2⟩
theorem Two.cal {w W : World} {o2 : Obj} {t : TypeId} {v0 v1 v2 v3 v4 : Value} (h : Two w (.cells #[v0, v1, v2, v3, v4] t) o2 W) :
    W.cell? ⟨w.heap.size, 0, none⟩ = some v0 ∧ W.cell? ⟨w.heap.size, 1, none⟩ = some v1 ∧ W.cell? ⟨w.heap.size, 2, none⟩ = some v2 ∧ W.cell? ⟨w.heap.size, 3, none⟩ = some v3 ∧ W.cell? ⟨w.heap.size, 4, none⟩ = some v4 :=
  ⟨h.1.cell 0, h.1.cell 1, h.1.cell 2, h.1.cell 3, h.1.cell 4⟩
theorem Two.years {w W : World} {o2 : Obj} {t : TypeId} {v0 v1 v2 v3 v4 v5 v6 v7 v8 : Value} (h : Two w (.cells #[v0, v1, v2, v3, v4, v5, v6, v7, v8] t) o2 W) :
    W.cell? ⟨w.heap.size, 0, none⟩ = some v0 ∧ W.cell? ⟨w.heap.size, 1, none⟩ = some v1 ∧ W.cell? ⟨w.heap.size, 2, none⟩ = some v2 ∧ W.cell? ⟨w.heap.size, 3, none⟩ = some v3 ∧ W.cell? ⟨w.heap.size, 4, none⟩ = some v4 ∧ W.cell? ⟨w.heap.size, 5, none⟩ = some v5 ∧ W.cell? ⟨w.heap.size, 6, none⟩ = some v6 ∧ W.cell? ⟨w.heap.size, 7, none⟩ = some v7 ∧ W.cell? ⟨w.heap.size, 8, none⟩ = some v8 :=
  ⟨h.1.cell 0, h.1.cell 1, h.1.cell 2, h.1.cell 3, h.1.cell 4, h.1.cell 5, h.1.cell 6, h.1.cell 7, h.1.cell 8⟩
def sumM (ms : List Mon) (b : Bool) (k : Nat) : Int := ((ms.take k).map fun x => mlenOf x b).sum
theorem sumM_zero (ms : List Mon) (b : Bool) : sumM ms b 0 = 0 := by simp [sumM]
theorem sumM_succ {ms : List Mon} {b : Bool} {k : Nat} {x : Mon} (h : ms[k]? = some x) : sumM ms b (k + 1) = sumM ms b k + mlenOf x b := by
  unfold sumM; rw [take_one h, List.map_append, List.sum_append]; simp
theorem mlenOf_bound {ms : List Mon} (h : ∀ x ∈ ms, 0 ≤ x.2.1 ∧ x.2.1 ≤ 400 ∧ 0 ≤ x.2.2 ∧ x.2.2 ≤ 400) {k : Nat} {x : Mon} (hx : ms[k]? = some x) (b : Bool) : 0 ≤ mlenOf x b ∧ mlenOf x b ≤ 400 := by
  have := h x (List.mem_of_getElem? hx)
  unfold mlenOf; cases b <;> simp only [cond_true, cond_false] <;> omega
theorem sumM_bound {ms : List Mon} (h : ∀ x ∈ ms, 0 ≤ x.2.1 ∧ x.2.1 ≤ 400 ∧ 0 ≤ x.2.2 ∧ x.2.2 ≤ 400) (b : Bool) : ∀ k : Nat, k ≤ ms.length → 0 ≤ sumM ms b k ∧ sumM ms b k ≤ 400 * k
  | 0, _ => by rw [sumM_zero]; omega
  | k + 1, hk => by
    have ih := sumM_bound h b k (by omega)
    have hx := List.getElem?_eq_getElem (show k < ms.length by omega)
    have hb := mlenOf_bound h hx b
    rw [sumM_succ hx]; omega
theorem nyOf_bound {s : ByteArray} {f c : Int} {ms : List Mon} {ls : List Int} (ok : CalOk s f c ms ls) (y : Int) (y1 : -20000 ≤ y) (y2 : y ≤ 20000) : -500000000000 ≤ nyOf (shortOf ms) (longOf ms) f c ls y ∧ nyOf (shortOf ms) (longOf ms) f c ls y ≤ 500000000000 := by
  have cy1 := ok.cy1; have cy2 := ok.cy2; have ep1 := ok.ep1; have ep2 := ok.ep2
  have p := placeOf_in c y cy1
  have b1 := daysTo_bound (shortOf ms) (longOf ms) ls c (by omega) (by omega) ok.sh1 ok.sh2 ok.lo1 ok.lo2 ok.sorted (fun z hz => (ok.leaps z hz).1)
  have b2 := daysTo_bound (shortOf ms) (longOf ms) ls (placeOf c y) (by omega) (by omega) ok.sh1 ok.sh2 ok.lo1 ok.lo2 ok.sorted (fun z hz => (ok.leaps z hz).1)
  have hq : -20001 ≤ (y - 1) / c ∧ (y - 1) / c ≤ 20001 := by
    constructor
    · rw [Int.le_ediv_iff_mul_le (by omega)]
      have h3 : -20001 * c ≤ -20001 * 1 := by omega
      omega
    · refine Int.ediv_le_of_le_mul (by omega) ?_
      have h3 : 20001 * 1 ≤ 20001 * c := by omega
      omega
  have m := mul_in ((y - 1) / c) (daysTo (shortOf ms) (longOf ms) ls c) 20001 24000000 (by omega) (by omega) (by omega) (by omega)
  unfold nyOf
  have : (y - 1) % c = placeOf c y := rfl
  rw [this]
  omega
def dnum (ms : List Mon) (ls : List Int) (f c y : Int) (k : Nat) (d : Int) : Int := nyOf (shortOf ms) (longOf ms) f c ls y + sumM ms (flag ls (placeOf c y)) k + d - 1
set_option maxHeartbeats 2000000 in
theorem arith_toDay (w : World) (s : ByteArray) (f c : Int) (a1 a2 : Option Addr) (n1 c1 n2 c2 : Nat) (ms : List Mon) (ls : List Int) (y : Int) (k : Nat) (d : Int) (ok : CalOk s f c ms ls) (y1 : -10000 ≤ y) (y2 : y ≤ 10000) (hk : k < n1) (d1 : 1 ≤ d) (d2 : d ≤ 400) (h : CalAt w a1 a2 n1 n2 ms ls) :
    Calls Tryz.prog 74 #[.agg #[.string s, .int .i64 f, .int .i64 c, .slice a1 n1 c1, .slice a2 n2 c2], .agg #[.int .i64 y, .int .i64 ((k : Int) + 1), .int .i64 d]] w fun e w' => e = .returned (dayOr (dnum ms ls f c y k d)) ∧ Below w.heap.size w w' := by
  obtain ⟨r1, r2, r3, r4⟩ := ok_n1 h ok
  have L1 := Lib.hid h.1.len
  have hnb := nyOf_bound ok y (by omega) (by omega)
  obtain ⟨nb1, nb2⟩ := hnb
  have H := Lib.hid h; have OK := Lib.hid ok; clear h ok
  have HD := Lib.hid (show dnum ms ls f c y k d = nyOf (shortOf ms) (longOf ms) f c ls y + d - 1 + sumM ms (flag ls (placeOf c y)) k by unfold dnum; omega)
  obtain ⟨N, hN⟩ : ∃ N, N = nyOf (shortOf ms) (longOf ms) f c ls y := ⟨_, rfl⟩
  rw [← hN] at HD nb1 nb2
  have HN := Lib.hid hN; clear hN
  go_enter Tryz.func74, Tryz.ntmps74
  go_wp2_with fail
  have tw := Two.new w (.cells #[.string s, .int .i64 f, .int .i64 c, .slice a1 n1 c1, .slice a2 n2 c2] 36) (.cells #[.int .i64 y, .int .i64 ((k : Int) + 1), .int .i64 d] 26)
  generalize World.alloc (World.alloc w _) _ = W1 at tw ⊢
  have t1 : IntKind.i64.wrap (N + d) = N + d := IntWalk.i64_in _ (by omega)
  have t2 : IntKind.i64.wrap (N + d - 1) = N + d - 1 := IntWalk.i64_in _ (by omega)
  (refine region_class (Two w (.cells #[.string s, .int .i64 f, .int .i64 c, .slice a1 n1 c1, .slice a2 n2 c2] 36) (.cells #[.int .i64 y, .int .i64 ((k : Int) + 1), .int .i64 d] 26)) (by kernel_rfl) (by kernel_rfl) (tw.drew) ?_; repeat ((first | (refine class_take ?_ (by rfl) ?_ ?_; rotate_left; focus (intro wq hq; ((obtain ⟨e0, e1, e2⟩ := hq.date; obtain ⟨x0, x1, x2, x3, x4⟩ := hq.cal)); go_simp; first | done | with_reducible rfl | (first | (go_at_call 55; refine (arith_newYear _ _ _ _ _ _ _ _ _ _ ms ls y OK.out (by omega) (by omega) (H.out.then_ hq.2.2)).mono ?_; rw [← HN.out]; rintro e w' ⟨rfl, hb⟩; refine ⟨?_, hq.step hb⟩; with_reducible rfl)))) | refine class_skip (by rfl) ?_); try simp only [Act.put, List.setIfInBounds_toArray, List.set_cons_zero, List.set_cons_succ]))
  refine wpQuiet_nil ?_
  intro W2 tw2
  clear t1 t2 tw
  go_wp2_with fail
  go_loopw [6, 7] (fun t i wr => ∃ j : Nat, j ≤ k ∧ i = .int .i64 ((j : Int) + 1) ∧ t = .int .i64 (N + d - 1 + sumM ms (flag ls (placeOf c y)) j) ∧ Two w (.cells #[.string s, .int .i64 f, .int .i64 c, .slice a1 n1 c1, .slice a2 n2 c2] 36) (.cells #[.int .i64 y, .int .i64 ((k : Int) + 1), .int .i64 d] 26) wr) (fun _ i _ => k + 1 - (intOf i).toNat)
  case atStart => exact ⟨0, by omega, rfl, by rw [sumM_zero]; simp, tw2⟩
  case round =>
    clear tw2
    obtain ⟨j, hj, rfl, rfl, tw⟩ := hrel
    obtain ⟨sb1, sb2⟩ := sumM_bound OK.out.lens (flag ls (placeOf c y)) j (by have := L1.out; omega)
    obtain ⟨e0, e1, e2⟩ := tw.date
    obtain ⟨x0, x1, x2, x3, x4⟩ := tw.cal
    by_cases hlt : j < k
    · obtain ⟨x, hx⟩ : ∃ x, ms[j]? = some x := ⟨_, List.getElem?_eq_getElem (show j < ms.length by have := L1.out; omega)⟩
      have hsn := Lib.hid (sumM_succ (b := flag ls (placeOf c y)) hx)
      obtain ⟨mb1, mb2⟩ := mlenOf_bound OK.out.lens hx (flag ls (placeOf c y))
      have HX := Lib.hid hx; clear hx
      go_wp2_with fail
      refine (arith_length _ _ _ _ _ _ _ _ _ _ ms ls y j x OK.out.cy1 OK.out.cy2 OK.out.sorted r3 (by omega) (by omega) (H.out.then_ tw.2.2) r2 HX.out).mono ?_
      rintro e w3 ⟨rfl, hb⟩
      generalize mlenOf x (flag ls (placeOf c y)) = ML at *
      generalize hSM : sumM ms (flag ls (placeOf c y)) j = SM at *
      clear hSM e0 e1 e2 x0 x1 x2 x3 x4
      go_wp2_with fail
      go_roundw
      case rel => exact ⟨j + 1, by omega, by go_num, by rw [hsn.out]; go_num, tw.step hb⟩
      case measure => simp [intOf]; omega
    · obtain rfl : k = j := by omega
      rw [← HD.out]
      obtain ⟨D, hDD⟩ : ∃ D, D = dnum ms ls f c y k d := ⟨_, rfl⟩
      have hDb : -1000000000000 ≤ D ∧ D ≤ 1000000000000 := by rw [hDD, HD.out]; omega
      obtain ⟨Db1, Db2⟩ := hDb
      rw [← hDD]
      have HDD := Lib.hid hDD; clear hDD
      rcases inB_cases (-4000000) 4000000 D with ⟨hd, _⟩ | ⟨hd, _⟩
      · have ho := Lib.hid (show dayOr (dnum ms ls f c y k d) = .tuple #[.int .i64 D, .int .i64 0] by rw [← HDD.out]; exact if_pos hd)
        go_wp2_with fail
        refine (line_Is _ _).mono ?_; rw [hd]; rintro e w3 ⟨rfl, rfl⟩
        go_wp2_with fail
        go_ret2
        exact ⟨by rw [ho.out]; rfl, tw.2.2⟩
      · have ho := Lib.hid (show dayOr (dnum ms ls f c y k d) = .tuple #[.int .i64 0, .int .i64 3] by rw [← HDD.out]; exact if_neg (by rw [hd]; simp))
        go_wp2_with fail
        refine (line_Is _ _).mono ?_; rw [hd]; rintro e w3 ⟨rfl, rfl⟩
        go_wp2_with fail
        go_ret2
        exact ⟨by rw [ho.out]; rfl, tw.2.2⟩
set_option maxHeartbeats 2000000 in
theorem years_ToDay_range (w : World) (s : ByteArray) (f : Int) (C : Nat) (a1 a2 : Option Addr) (n1 c1 n2 c2 : Nat) (ms : List Mon) (ls : List Int) (g : Nat) (y m d : Int) (hy : inB (-10000) 10000 y = false) :
    Calls Tryz.prog 21 #[.agg #[.string s, .int .i64 f, .int .i64 (C : Int), .slice a1 n1 c1, .slice a2 n2 c2, .slice (some ⟨g, 0, none⟩) C C, .int .i64 (shortOf ms), .int .i64 (longOf ms), .int .i64 (daysTo (shortOf ms) (longOf ms) ls (C : Int))], .agg #[.int .i64 y, .int .i64 m, .int .i64 d]] w fun e w' => e = .returned (.tuple #[.int .i64 0, .int .i64 3]) ∧ Below w.heap.size w w' := by
  go_enter Tryz.func21, Tryz.ntmps21
  go_wp2_with fail
  refine (ref_In _ _ _ _).mono ?_; rw [hy]; rintro e w3 ⟨rfl, rfl⟩
  go_wp2_with fail
  go_ret2
  exact ⟨rfl, by (repeat' (first | exact bxR _ _ | assumption | refine bxD ?_ | refine bxN ?_ _ | refine bxA ?_ _ | refine bxS ?_ ?_ _ | refine bxT ?_ (by assumption) | refine bxW ?_ (by assumption) | exact Nat.le_refl _ | omega | (simp; done) | (simp; omega)))⟩
set_option maxHeartbeats 2000000 in
theorem years_ToDay_month (w : World) (s : ByteArray) (f : Int) (C : Nat) (a1 a2 : Option Addr) (n1 c1 n2 c2 : Nat) (ms : List Mon) (ls : List Int) (g : Nat) (y m d : Int) (hy : inB (-10000) 10000 y = true) (hm : inB 1 (n1 : Int) m = false) :
    Calls Tryz.prog 21 #[.agg #[.string s, .int .i64 f, .int .i64 (C : Int), .slice a1 n1 c1, .slice a2 n2 c2, .slice (some ⟨g, 0, none⟩) C C, .int .i64 (shortOf ms), .int .i64 (longOf ms), .int .i64 (daysTo (shortOf ms) (longOf ms) ls (C : Int))], .agg #[.int .i64 y, .int .i64 m, .int .i64 d]] w fun e w' => e = .returned (.tuple #[.int .i64 0, .int .i64 1]) ∧ Below w.heap.size w w' := by
  go_enter Tryz.func21, Tryz.ntmps21
  go_wp2_with fail
  refine (ref_In _ _ _ _).mono ?_; rw [hy]; rintro e w3 ⟨rfl, rfl⟩
  go_wp2_with fail
  go_quiet ((go_at_call 20; exact quiet_left (ref_In _ _ _ _)))
  go_wp2_with fail
  go_ret2
  exact ⟨rfl, by (repeat' (first | exact bxR _ _ | assumption | refine bxD ?_ | refine bxN ?_ _ | refine bxA ?_ _ | refine bxS ?_ ?_ _ | refine bxT ?_ (by assumption) | refine bxW ?_ (by assumption) | exact Nat.le_refl _ | omega | (simp; done) | (simp; omega)))⟩
theorem ref_In_at (b : Bool) (x l h : Int) (hb : inB l h x = b) (w : World) : Calls Tryz.prog 20 #[.int .i64 x, .int .i64 l, .int .i64 h] w fun e w' => e = .returned (.bool b) ∧ w = w' := by
  subst hb; exact ref_In x l h w
set_option maxHeartbeats 2000000 in
theorem years_ToDay_day (w : World) (s : ByteArray) (f : Int) (C : Nat) (a1 a2 : Option Addr) (n1 c1 n2 c2 : Nat) (ms : List Mon) (ls : List Int) (g : Nat) (y : Int) (k : Nat) (d : Int) (x : Mon) (ok : CalOk s f C ms ls) (y1 : -10000 ≤ y) (y2 : y ≤ 10000) (hg : MarksAt w g C ls) (h : CalAt w a1 a2 n1 n2 ms ls) (hx : ms[k]? = some x) (hd : inB 1 (mlenOf x (flag ls (placeOf C y))) d = false) :
    Calls Tryz.prog 21 #[.agg #[.string s, .int .i64 f, .int .i64 (C : Int), .slice a1 n1 c1, .slice a2 n2 c2, .slice (some ⟨g, 0, none⟩) C C, .int .i64 (shortOf ms), .int .i64 (longOf ms), .int .i64 (daysTo (shortOf ms) (longOf ms) ls (C : Int))], .agg #[.int .i64 y, .int .i64 ((k : Int) + 1), .int .i64 d]] w fun e w' => e = .returned (.tuple #[.int .i64 0, .int .i64 1]) ∧ Below w.heap.size w w' := by
  obtain ⟨r1, r2, r3, r4⟩ := ok_n1 h ok
  have cy1 : 1 ≤ C := by have := ok.cy1; omega
  have cy2 : C ≤ 3000 := by have := ok.cy2; omega
  have L1 := Lib.hid h.1.len
  have H := Lib.hid h; have OK := Lib.hid ok; have HG := Lib.hid hg; have HX := Lib.hid hx
  have hk : k < n1 := by have := (List.getElem?_eq_some_iff.1 hx).1; have := L1.out; omega
  clear h ok hg hx
  have hm : inB 1 (n1 : Int) ((k : Int) + 1) = true := inB_yes (by omega) (by omega)
  obtain ⟨ML, hML⟩ : ∃ ML, ML = mlenOf x (flag ls (placeOf C y)) := ⟨_, rfl⟩
  rw [← hML] at hd
  have HML := Lib.hid hML; clear hML
  have hy := inB_yes y1 y2
  go_enter Tryz.func21, Tryz.ntmps21
  go_wp2_with fail
  refine (ref_In _ _ _ _).mono ?_; rw [hy]; rintro e w3 ⟨rfl, rfl⟩
  go_wp2_with fail
  have tw := Two.new w (.cells #[.string s, .int .i64 f, .int .i64 (C : Int), .slice a1 n1 c1, .slice a2 n2 c2, .slice (some ⟨g, 0, none⟩) C C, .int .i64 (shortOf ms), .int .i64 (longOf ms), .int .i64 (daysTo (shortOf ms) (longOf ms) ls (C : Int))] 40) (.cells #[.int .i64 y, .int .i64 ((k : Int) + 1), .int .i64 d] 26)
  generalize World.alloc (World.alloc w _) _ = W1 at tw ⊢
  (refine region_class (Two w (.cells #[.string s, .int .i64 f, .int .i64 (C : Int), .slice a1 n1 c1, .slice a2 n2 c2, .slice (some ⟨g, 0, none⟩) C C, .int .i64 (shortOf ms), .int .i64 (longOf ms), .int .i64 (daysTo (shortOf ms) (longOf ms) ls (C : Int))] 40) (.cells #[.int .i64 y, .int .i64 ((k : Int) + 1), .int .i64 d] 26)) (by kernel_rfl) (by kernel_rfl) (tw.drew) ?_; repeat ((first | (refine class_take ?_ (by rfl) ?_ ?_; rotate_left; focus (intro wq hq; ((obtain ⟨e0, e1, e2⟩ := hq.date; obtain ⟨x0, x1, x2, x3, x4, x5, x6, x7, x8⟩ := hq.years)); go_simp; first | done | with_reducible rfl | (first | (go_at_call 20; first | ((with_reducible refine (ref_In_at true ((k : Int) + 1) 1 (n1 : Int) hm _).mono ?_); rintro e w' ⟨rfl, rfl⟩; refine ⟨?_, hq⟩; with_reducible rfl) | ((with_reducible refine (ref_In_at false d 1 ML hd _).mono ?_); rintro e w' ⟨rfl, rfl⟩; refine ⟨?_, hq⟩; with_reducible rfl)) | (go_at_call 41; refine (years_Month _ s f C a1 a2 n1 c1 n2 c2 ms ls g y _ _ _ k x cy1 cy2 (by omega) (by omega) (HG.out.then_ hq.2.2) (H.out.then_ hq.2.2) r2 HX.out).mono ?_; rw [← HML.out]; rintro e w' ⟨rfl, hb⟩; refine ⟨?_, hq.step hb⟩; with_reducible rfl)))) | refine class_skip (by rfl) ?_); try simp only [Act.put, List.setIfInBounds_toArray, List.set_cons_zero, List.set_cons_succ]))
  refine wpQuiet_nil ?_
  intro W2 tw2
  go_wp2_with fail
  go_ret2
  exact ⟨rfl, tw2.2.2⟩
set_option maxHeartbeats 2000000 in
theorem years_ToDay_ok (w : World) (s : ByteArray) (f : Int) (C : Nat) (a1 a2 : Option Addr) (n1 c1 n2 c2 : Nat) (ms : List Mon) (ls : List Int) (g : Nat) (y : Int) (k : Nat) (d : Int) (x : Mon) (ok : CalOk s f C ms ls) (y1 : -10000 ≤ y) (y2 : y ≤ 10000) (hg : MarksAt w g C ls) (h : CalAt w a1 a2 n1 n2 ms ls) (hx : ms[k]? = some x) (hd : inB 1 (mlenOf x (flag ls (placeOf C y))) d = true) :
    Calls Tryz.prog 21 #[.agg #[.string s, .int .i64 f, .int .i64 (C : Int), .slice a1 n1 c1, .slice a2 n2 c2, .slice (some ⟨g, 0, none⟩) C C, .int .i64 (shortOf ms), .int .i64 (longOf ms), .int .i64 (daysTo (shortOf ms) (longOf ms) ls (C : Int))], .agg #[.int .i64 y, .int .i64 ((k : Int) + 1), .int .i64 d]] w fun e w' => e = .returned (dayOr (dnum ms ls f C y k d)) ∧ Below w.heap.size w w' := by
  have hdb : 1 ≤ d ∧ d ≤ 400 := by
    have h1 := inB_iff.1 hd
    have h2 := mlenOf_bound ok.lens hx (flag ls (placeOf C y))
    omega
  obtain ⟨d1, d2⟩ := hdb
  have hnb := nyOf_bound ok y (by omega) (by omega)
  obtain ⟨nb1, nb2⟩ := hnb
  obtain ⟨r1, r2, r3, r4⟩ := ok_n1 h ok
  have cy1 : 1 ≤ C := by have := ok.cy1; omega
  have cy2 : C ≤ 3000 := by have := ok.cy2; omega
  have L1 := Lib.hid h.1.len
  have H := Lib.hid h; have OK := Lib.hid ok; have HG := Lib.hid hg; have HX := Lib.hid hx
  have hk : k < n1 := by have := (List.getElem?_eq_some_iff.1 hx).1; have := L1.out; omega
  clear h ok hg hx
  have hm : inB 1 (n1 : Int) ((k : Int) + 1) = true := inB_yes (by omega) (by omega)
  obtain ⟨ML, hML⟩ : ∃ ML, ML = mlenOf x (flag ls (placeOf C y)) := ⟨_, rfl⟩
  rw [← hML] at hd
  have HML := Lib.hid hML; clear hML
  have hy := inB_yes y1 y2
  have HD := Lib.hid (show dnum ms ls f C y k d = nyOf (shortOf ms) (longOf ms) f C ls y + d - 1 + sumM ms (flag ls (placeOf C y)) k by unfold dnum; omega)
  obtain ⟨N, hN⟩ : ∃ N, N = nyOf (shortOf ms) (longOf ms) f C ls y := ⟨_, rfl⟩
  rw [← hN] at HD nb1 nb2
  have HN := Lib.hid hN; clear hN
  go_enter Tryz.func21, Tryz.ntmps21
  go_wp2_with fail
  refine (ref_In _ _ _ _).mono ?_; rw [hy]; rintro e w3 ⟨rfl, rfl⟩
  go_wp2_with fail
  have tw := Two.new w (.cells #[.string s, .int .i64 f, .int .i64 (C : Int), .slice a1 n1 c1, .slice a2 n2 c2, .slice (some ⟨g, 0, none⟩) C C, .int .i64 (shortOf ms), .int .i64 (longOf ms), .int .i64 (daysTo (shortOf ms) (longOf ms) ls (C : Int))] 40) (.cells #[.int .i64 y, .int .i64 ((k : Int) + 1), .int .i64 d] 26)
  generalize World.alloc (World.alloc w _) _ = W1 at tw ⊢
  (refine region_class (Two w (.cells #[.string s, .int .i64 f, .int .i64 (C : Int), .slice a1 n1 c1, .slice a2 n2 c2, .slice (some ⟨g, 0, none⟩) C C, .int .i64 (shortOf ms), .int .i64 (longOf ms), .int .i64 (daysTo (shortOf ms) (longOf ms) ls (C : Int))] 40) (.cells #[.int .i64 y, .int .i64 ((k : Int) + 1), .int .i64 d] 26)) (by kernel_rfl) (by kernel_rfl) (tw.drew) ?_; repeat ((first | (refine class_take ?_ (by rfl) ?_ ?_; rotate_left; focus (intro wq hq; ((obtain ⟨e0, e1, e2⟩ := hq.date; obtain ⟨x0, x1, x2, x3, x4, x5, x6, x7, x8⟩ := hq.years)); go_simp; first | done | with_reducible rfl | (first | (go_at_call 20; first | ((with_reducible refine (ref_In_at true ((k : Int) + 1) 1 (n1 : Int) hm _).mono ?_); rintro e w' ⟨rfl, rfl⟩; refine ⟨?_, hq⟩; with_reducible rfl) | ((with_reducible refine (ref_In_at true d 1 ML hd _).mono ?_); rintro e w' ⟨rfl, rfl⟩; refine ⟨?_, hq⟩; with_reducible rfl)) | (go_at_call 41; refine (years_Month _ s f C a1 a2 n1 c1 n2 c2 ms ls g y _ _ _ k x cy1 cy2 (by omega) (by omega) (HG.out.then_ hq.2.2) (H.out.then_ hq.2.2) r2 HX.out).mono ?_; rw [← HML.out]; rintro e w' ⟨rfl, hb⟩; refine ⟨?_, hq.step hb⟩; with_reducible rfl)))) | refine class_skip (by rfl) ?_); try simp only [Act.put, List.setIfInBounds_toArray, List.set_cons_zero, List.set_cons_succ]))
  refine wpQuiet_nil ?_
  intro W2 tw2
  clear tw
  go_wp2_with fail
  have t1 : IntKind.i64.wrap (N + d) = N + d := IntWalk.i64_in _ (by omega)
  have t2 : IntKind.i64.wrap (N + d - 1) = N + d - 1 := IntWalk.i64_in _ (by omega)
  (refine region_class (Two w (.cells #[.string s, .int .i64 f, .int .i64 (C : Int), .slice a1 n1 c1, .slice a2 n2 c2, .slice (some ⟨g, 0, none⟩) C C, .int .i64 (shortOf ms), .int .i64 (longOf ms), .int .i64 (daysTo (shortOf ms) (longOf ms) ls (C : Int))] 40) (.cells #[.int .i64 y, .int .i64 ((k : Int) + 1), .int .i64 d] 26)) (by kernel_rfl) (by kernel_rfl) (tw2.drew) ?_; repeat ((first | (refine class_take ?_ (by rfl) ?_ ?_; rotate_left; focus (intro wq hq; ((obtain ⟨e0, e1, e2⟩ := hq.date; obtain ⟨x0, x1, x2, x3, x4, x5, x6, x7, x8⟩ := hq.years)); go_simp; first | done | with_reducible rfl | (first | (go_at_call 43; refine (years_NewYear _ s f C a1 a2 n1 c1 n2 c2 ms ls g y OK.out (by omega) (by omega) (HG.out.then_ hq.2.2)).mono ?_; rw [← HN.out]; rintro e w' ⟨rfl, hb⟩; refine ⟨?_, hq.step hb⟩; with_reducible rfl)))) | refine class_skip (by rfl) ?_); try simp only [Act.put, List.setIfInBounds_toArray, List.set_cons_zero, List.set_cons_succ]))
  refine wpQuiet_nil ?_
  intro W3 tw3
  clear t1 t2 tw2
  go_wp2_with fail
  go_loopw [6, 7] (fun t i wr => ∃ j : Nat, j ≤ k ∧ i = .int .i64 ((j : Int) + 1) ∧ t = .int .i64 (N + d - 1 + sumM ms (flag ls (placeOf C y)) j) ∧ Two w (.cells #[.string s, .int .i64 f, .int .i64 (C : Int), .slice a1 n1 c1, .slice a2 n2 c2, .slice (some ⟨g, 0, none⟩) C C, .int .i64 (shortOf ms), .int .i64 (longOf ms), .int .i64 (daysTo (shortOf ms) (longOf ms) ls (C : Int))] 40) (.cells #[.int .i64 y, .int .i64 ((k : Int) + 1), .int .i64 d] 26) wr) (fun _ i _ => k + 1 - (intOf i).toNat)
  case atStart => exact ⟨0, by omega, rfl, by rw [sumM_zero]; simp, tw3⟩
  case round =>
    clear tw3
    obtain ⟨j, hj, rfl, rfl, tw⟩ := hrel
    obtain ⟨sb1, sb2⟩ := sumM_bound OK.out.lens (flag ls (placeOf C y)) j (by have := L1.out; omega)
    obtain ⟨e0, e1, e2⟩ := tw.date
    by_cases hlt : j < k
    · obtain ⟨x', hx⟩ : ∃ x, ms[j]? = some x := ⟨_, List.getElem?_eq_getElem (show j < ms.length by have := L1.out; omega)⟩
      have hsn := Lib.hid (sumM_succ (b := flag ls (placeOf C y)) hx)
      obtain ⟨mb1, mb2⟩ := mlenOf_bound OK.out.lens hx (flag ls (placeOf C y))
      have HX' := Lib.hid hx; clear hx
      obtain ⟨x0, x1, x2, x3, x4, x5, x6, x7, x8⟩ := tw.years
      go_wp2_with fail
      refine (years_Month _ s f C a1 a2 n1 c1 n2 c2 ms ls g y _ _ _ j x' cy1 cy2 (by omega) (by omega) (HG.out.then_ tw.2.2) (H.out.then_ tw.2.2) r2 HX'.out).mono ?_
      rintro e w3 ⟨rfl, hb⟩
      generalize mlenOf x' (flag ls (placeOf C y)) = ML' at *
      generalize hSM : sumM ms (flag ls (placeOf C y)) j = SM at *
      clear hSM e0 e1 e2 x0 x1 x2 x3 x4 x5 x6 x7 x8
      go_wp2_with fail
      go_roundw
      case rel => exact ⟨j + 1, by omega, by go_num, by rw [hsn.out]; go_num, tw.step hb⟩
      case measure => simp [intOf]; omega
    · obtain rfl : k = j := by omega
      rw [← HD.out]
      obtain ⟨D, hDD⟩ : ∃ D, D = dnum ms ls f C y k d := ⟨_, rfl⟩
      have hDb : -1000000000000 ≤ D ∧ D ≤ 1000000000000 := by rw [hDD, HD.out]; omega
      obtain ⟨Db1, Db2⟩ := hDb
      rw [← hDD]
      have HDD := Lib.hid hDD; clear hDD
      rcases inB_cases (-4000000) 4000000 D with ⟨hdd, _⟩ | ⟨hdd, _⟩
      · have ho := Lib.hid (show dayOr (dnum ms ls f C y k d) = .tuple #[.int .i64 D, .int .i64 0] by rw [← HDD.out]; exact if_pos hdd)
        go_wp2_with fail
        refine (ref_Day _ _).mono ?_; rw [hdd]; rintro e w3 ⟨rfl, rfl⟩
        go_wp2_with fail
        go_ret2
        exact ⟨by rw [ho.out]; rfl, tw.2.2⟩
      · have ho := Lib.hid (show dayOr (dnum ms ls f C y k d) = .tuple #[.int .i64 0, .int .i64 3] by rw [← HDD.out]; exact if_neg (by rw [hdd]; simp))
        go_wp2_with fail
        refine (ref_Day _ _).mono ?_; rw [hdd]; rintro e w3 ⟨rfl, rfl⟩
        go_wp2_with fail
        go_ret2
        exact ⟨by rw [ho.out]; rfl, tw.2.2⟩
end Go.Proofs.YtlpbaljoanfogaaGreatDoor

set_option linter.unusedSimpArgs false
namespace Go.Proofs.YtlpbaljoanfogaaGreatDoor
set_option linter.unusedVariables false
set_option maxRecDepth 100000
theorem nyOf_succ {s : ByteArray} {f c : Int} {ms : List Mon} {ls : List Int} (ok : CalOk s f c ms ls) (y : Int) :
    nyOf (shortOf ms) (longOf ms) f c ls (y + 1) = nyOf (shortOf ms) (longOf ms) f c ls y + lenY (shortOf ms) (longOf ms) (flag ls (placeOf c y)) := by
  have hc := ok.cy1
  have p := placeOf_in c y hc
  have h1 : c * ((y - 1) / c) + (y - 1) % c = y - 1 := Int.mul_ediv_add_emod _ _
  have hp : (y - 1) % c = placeOf c y := rfl
  have hs := daysTo_succ (shortOf ms) (longOf ms) ls (placeOf c y) ok.sorted
  have h0 := daysTo_zero (shortOf ms) (longOf ms) ls (fun z hz => (ok.leaps z hz).1)
  unfold nyOf
  rw [show y + 1 - 1 = y by omega, hp]
  by_cases hl : placeOf c y + 1 = c
  · have e : y = 0 + c * ((y - 1) / c + 1) := by rw [Int.mul_add]; rw [hp] at h1; omega
    have e1 : y / c = (y - 1) / c + 1 := by
      conv => lhs; rw [e]
      rw [Int.add_mul_ediv_left _ _ (by omega)]; simp
    have e2 : y % c = 0 := by
      conv => lhs; rw [e]
      rw [Int.add_mul_emod_self_left]; simp
    rw [e1, e2, h0, Int.add_mul]
    rw [hl] at hs
    omega
  · have e : y = (placeOf c y + 1) + c * ((y - 1) / c) := by rw [hp] at h1; omega
    have e1 : y / c = (y - 1) / c := by
      conv => lhs; rw [e]
      rw [Int.add_mul_ediv_left _ _ (by omega), Int.ediv_eq_zero_of_lt (by omega) (by omega)]; simp
    have e2 : y % c = placeOf c y + 1 := by
      conv => lhs; rw [e]
      rw [Int.add_mul_emod_self_left, Int.emod_eq_of_lt (by omega) (by omega)]
    rw [e1, e2, hs]
    omega
theorem lenY_pos {s : ByteArray} {f c : Int} {ms : List Mon} {ls : List Int} (ok : CalOk s f c ms ls) (b : Bool) : 1 ≤ lenY (shortOf ms) (longOf ms) b ∧ lenY (shortOf ms) (longOf ms) b ≤ 8000 := by
  have h1 := ok.sh1; have h2 := ok.sh2; have h3 := ok.lo1; have h4 := ok.lo2
  unfold lenY; cases b <;> simp only [cond_true, cond_false] <;> omega
theorem nyOf_mono {s : ByteArray} {f c : Int} {ms : List Mon} {ls : List Int} (ok : CalOk s f c ms ls) (a : Int) (n : Nat) : nyOf (shortOf ms) (longOf ms) f c ls a + n ≤ nyOf (shortOf ms) (longOf ms) f c ls (a + n) := by
  induction n with
  | zero => simp
  | succ n ih =>
    have h := nyOf_succ ok (a + n)
    have p := lenY_pos ok (flag ls (placeOf c (a + n)))
    rw [show a + ((n + 1 : Nat) : Int) = a + n + 1 by omega, h]
    omega
theorem nyOf_lt {s : ByteArray} {f c : Int} {ms : List Mon} {ls : List Int} (ok : CalOk s f c ms ls) {a b : Int} (h : a ≤ b) : nyOf (shortOf ms) (longOf ms) f c ls a + (b - a) ≤ nyOf (shortOf ms) (longOf ms) f c ls b := by
  have := nyOf_mono ok a (b - a).toNat
  rw [show a + (((b - a).toNat : Nat) : Int) = b by omega] at this
  omega
def InYear (ms : List Mon) (ls : List Int) (f c y x : Int) : Prop := nyOf (shortOf ms) (longOf ms) f c ls y ≤ x ∧ x < nyOf (shortOf ms) (longOf ms) f c ls (y + 1)
theorem InYear.unique {s : ByteArray} {f c : Int} {ms : List Mon} {ls : List Int} (ok : CalOk s f c ms ls) {y y' x : Int} (h : InYear ms ls f c y x) (h' : InYear ms ls f c y' x) : y = y' := by
  rcases Int.lt_trichotomy y y' with q | q | q
  · have := nyOf_lt ok (show y + 1 ≤ y' by omega); have := h.2; have := h'.1; omega
  · exact q
  · have := nyOf_lt ok (show y' + 1 ≤ y by omega); have := h'.2; have := h.1; omega
def findM (b : Bool) : List Mon → Int → Nat → Nat × Int
  | [], r, k => (k, r)
  | x :: l, r, k => if r < mlenOf x b then (k, r) else findM b l (r - mlenOf x b) (k + 1)
theorem findM_cons (b : Bool) (x : Mon) (l : List Mon) (r : Int) (k : Nat) : findM b (x :: l) r k = if r < mlenOf x b then (k, r) else findM b l (r - mlenOf x b) (k + 1) := by rw [findM.eq_def]
def FindTo (b : Bool) (ms : List Mon) (r0 : Int) (k : Nat) (r : Int) : Prop := k ≤ ms.length ∧ 0 ≤ r ∧ r = r0 - sumM ms b k ∧ findM b (ms.drop k) r k = findM b ms r0 0
theorem FindTo.start (b : Bool) (ms : List Mon) (r0 : Int) (h : 0 ≤ r0) : FindTo b ms r0 0 r0 := ⟨by omega, h, by rw [sumM_zero]; omega, rfl⟩
theorem FindTo.stop {b : Bool} {ms : List Mon} {r0 r : Int} {k : Nat} {x : Mon} (h : FindTo b ms r0 k r) (hx : ms[k]? = some x) (hr : r < mlenOf x b) : findM b ms r0 0 = (k, r) := by
  rw [← h.2.2.2, drop_one hx, findM_cons, if_pos hr]
theorem FindTo.next {b : Bool} {ms : List Mon} {r0 r : Int} {k : Nat} {x : Mon} (h : FindTo b ms r0 k r) (hx : ms[k]? = some x) (hr : ¬ r < mlenOf x b) : FindTo b ms r0 (k + 1) (r - mlenOf x b) := by
  refine ⟨by have := (List.getElem?_eq_some_iff.1 hx).1; omega, by omega, ?_, ?_⟩
  · rw [sumM_succ hx]; have := h.2.2.1; omega
  · rw [← h.2.2.2, drop_one hx, findM_cons, if_neg hr]
theorem sumM_all (ms : List Mon) (b : Bool) : sumM ms b ms.length = lenY (shortOf ms) (longOf ms) b := by
  unfold sumM lenY shortOf longOf
  rw [List.take_length]
  cases b <;> rfl
theorem FindTo.in_ {b : Bool} {ms : List Mon} {r0 r : Int} {k : Nat} (h : FindTo b ms r0 k r) (hr : r0 < lenY (shortOf ms) (longOf ms) b) : k < ms.length := by
  rcases Nat.lt_or_ge k ms.length with q | q
  · exact q
  · have : k = ms.length := by have := h.1; omega
    have h3 := h.2.2.1
    rw [this, sumM_all] at h3
    have := h.2.1; omega
def dateAt (y : Int) (k : Nat) (r : Int) : Value := .tuple #[.agg #[.int .i64 y, .int .i64 ((k : Int) + 1), .int .i64 (r + 1)], .int .i64 0]
def noDate : Value := .tuple #[.agg #[.int .i64 0, .int .i64 0, .int .i64 0], .int .i64 3]
end Go.Proofs.YtlpbaljoanfogaaGreatDoor

set_option linter.unusedSimpArgs false
namespace Go.Proofs.YtlpbaljoanfogaaGreatDoor
set_option linter.unusedVariables false
set_option maxRecDepth 100000
open Go.RowKit
def Tri (w0 : World) (b1 b2 b3 : Nat) (o1 o2 o3 : Obj) (W : World) : Prop := At W b1 o1 ∧ At W b2 o2 ∧ At W b3 o3 ∧ Below w0.heap.size w0 W
theorem Tri.step {w0 W W' : World} {b1 b2 b3 : Nat} {o1 o2 o3 : Obj} (h : Tri w0 b1 b2 b3 o1 o2 o3 W) (hb : Below W.heap.size W W') : Tri w0 b1 b2 b3 o1 o2 o3 W' := ⟨h.1.then_ hb, h.2.1.then_ hb, h.2.2.1.then_ hb, below_then h.2.2.2 hb⟩
theorem Tri.drew {w0 W : World} {b1 b2 b3 : Nat} {o1 o2 o3 : Obj} (h : Tri w0 b1 b2 b3 o1 o2 o3 W) : Tri w0 b1 b2 b3 o1 o2 o3 W.drew := ⟨h.1.drew, h.2.1.drew, h.2.2.1.drew, h.2.2.2.drew⟩
theorem Tri.cells {w0 W : World} {b1 b2 b3 : Nat} {t1 t2 t3 : TypeId} {v0 v1 v2 v3 v4 x y : Value} (h : Tri w0 b1 b2 b3 (.cells #[v0, v1, v2, v3, v4] t1) (.cells #[x] t2) (.cells #[y] t3) W) :
    W.cell? ⟨b1, 0, none⟩ = some v0 ∧ W.cell? ⟨b1, 1, none⟩ = some v1 ∧ W.cell? ⟨b1, 2, none⟩ = some v2 ∧ W.cell? ⟨b1, 3, none⟩ = some v3 ∧ W.cell? ⟨b1, 4, none⟩ = some v4 ∧ W.cell? ⟨b2, 0, none⟩ = some x ∧ W.cell? ⟨b3, 0, none⟩ = some y :=
  ⟨h.1.cell 0, h.1.cell 1, h.1.cell 2, h.1.cell 3, h.1.cell 4, h.2.1.cell 0, h.2.2.1.cell 0⟩
theorem fromDay_closure (w0 w : World) (s : ByteArray) (f c : Int) (a1 a2 : Option Addr) (n1 c1 n2 c2 : Nat) (ms : List Mon) (ls : List Int) (x : Int) (b1 b2 b3 : Nat) (t1 t2 t3 : TypeId) (i : Nat) (hi : i < 20004) (ok : CalOk s f c ms ls) (h : CalAt w0 a1 a2 n1 n2 ms ls) (ht : Tri w0 b1 b2 b3 (.cells #[.string s, .int .i64 f, .int .i64 c, .slice a1 n1 c1, .slice a2 n2 c2] t1) (.cells #[.int .i64 (-10001)] t2) (.cells #[.int .i64 x] t3) w) :
    Calls Tryz.prog 85 #[.int .i64 (i : Int), .pointer (some ⟨b1, 0, none⟩), .pointer (some ⟨b2, 0, none⟩), .pointer (some ⟨b3, 0, none⟩)] w fun e w' => e = .returned (.bool (decide (x < nyOf (shortOf ms) (longOf ms) f c ls (-10001 + (i : Int))))) ∧ Tri w0 b1 b2 b3 (.cells #[.string s, .int .i64 f, .int .i64 c, .slice a1 n1 c1, .slice a2 n2 c2] t1) (.cells #[.int .i64 (-10001)] t2) (.cells #[.int .i64 x] t3) w' := by
  have H := Lib.hid h; have OK := Lib.hid ok; clear h ok
  obtain ⟨N, hN⟩ : ∃ N, N = nyOf (shortOf ms) (longOf ms) f c ls (-10001 + (i : Int)) := ⟨_, rfl⟩
  rw [← hN]
  have HN := Lib.hid hN; clear hN
  have t0 : IntKind.i64.wrap (-10001 + (i : Int)) = -10001 + (i : Int) := IntWalk.i64_in _ (by omega)
  have y1 : -20000 ≤ -10001 + (i : Int) := by omega
  have y2 : -10001 + (i : Int) ≤ 20000 := by omega
  go_enter Tryz.func85, Tryz.ntmps85
  go_wp2_with fail
  (refine region_class (Tri w0 b1 b2 b3 (.cells #[.string s, .int .i64 f, .int .i64 c, .slice a1 n1 c1, .slice a2 n2 c2] t1) (.cells #[.int .i64 (-10001)] t2) (.cells #[.int .i64 x] t3)) (by kernel_rfl) (by kernel_rfl) (ht.drew) ?_; repeat ((first | (refine class_take ?_ (by rfl) ?_ ?_; rotate_left; focus (intro wq hq; ((obtain ⟨x0, x1, x2, x3, x4, x5, x6⟩ := hq.cells)); go_simp; first | done | with_reducible rfl | (first | (go_at_call 55; refine (arith_newYear _ _ _ _ _ _ _ _ _ _ ms ls _ OK.out y1 y2 (H.out.then_ hq.2.2.2)).mono ?_; rw [← HN.out]; rintro e w' ⟨rfl, hb⟩; refine ⟨?_, hq.step hb⟩; with_reducible rfl)))) | refine class_skip (by rfl) ?_); try simp only [Act.put, List.setIfInBounds_toArray, List.set_cons_zero, List.set_cons_succ]))
  refine wpQuiet_nil ?_
  intro W2 tw2
  clear t0
  go_wp2_with fail
  go_ret
  exact ⟨rfl, tw2⟩
def Place (ms : List Mon) (ls : List Int) (f c x : Int) (r : Nat) : Prop := r ≤ 20004 ∧ (∀ i : Nat, i < r → nyOf (shortOf ms) (longOf ms) f c ls (-10001 + (i : Int)) ≤ x) ∧ (r < 20004 → x < nyOf (shortOf ms) (longOf ms) f c ls (-10001 + (r : Int)))
theorem place_unique {s : ByteArray} {f c : Int} {ms : List Mon} {ls : List Int} (ok : CalOk s f c ms ls) {x : Int} {r r' : Nat} (h : Place ms ls f c x r) (h1 : r' ≤ 20004) (h2 : ∀ i, r' = i + 1 → ¬ x < nyOf (shortOf ms) (longOf ms) f c ls (-10001 + (i : Int))) (h3 : r' < 20004 → x < nyOf (shortOf ms) (longOf ms) f c ls (-10001 + (r' : Int))) : r' = r := by
  rcases Nat.lt_trichotomy r' r with q | q | q
  · have := h.2.1 r' q; have := h3 (by have := h.1; omega); omega
  · exact q
  · have a := h.2.2 (by omega)
    have b := h2 (r' - 1) (by omega)
    have m := nyOf_lt ok (show -10001 + (r : Int) ≤ -10001 + ((r' - 1 : Nat) : Int) by omega)
    omega
theorem place_exists (ms : List Mon) (ls : List Int) (f c x : Int) : ∃ r, Place ms ls f c x r := by
  have key : ∀ n : Nat, n ≤ 20004 → (∃ r, r < n ∧ (∀ i : Nat, i < r → nyOf (shortOf ms) (longOf ms) f c ls (-10001 + (i : Int)) ≤ x) ∧ x < nyOf (shortOf ms) (longOf ms) f c ls (-10001 + (r : Int))) ∨ (∀ i : Nat, i < n → nyOf (shortOf ms) (longOf ms) f c ls (-10001 + (i : Int)) ≤ x) := by
    intro n
    induction n with
    | zero => intro _; exact .inr fun i hi => by omega
    | succ n ih =>
      intro hn
      rcases ih (by omega) with ⟨r, h1, h2, h3⟩ | h
      · exact .inl ⟨r, by omega, h2, h3⟩
      · by_cases q : x < nyOf (shortOf ms) (longOf ms) f c ls (-10001 + (n : Int))
        · exact .inl ⟨n, by omega, h, q⟩
        · refine .inr fun i hi => ?_
          rcases Nat.lt_or_ge i n with q' | q'
          · exact h i q'
          · have : i = n := by omega
            subst this; omega
  rcases key 20004 (by omega) with ⟨r, h1, h2, h3⟩ | h
  · exact ⟨r, by omega, h2, fun _ => h3⟩
  · exact ⟨20004, by omega, h, fun h => by omega⟩
theorem search_year (w0 w : World) (s : ByteArray) (f c : Int) (a1 a2 : Option Addr) (n1 c1 n2 c2 : Nat) (ms : List Mon) (ls : List Int) (x : Int) (b1 b2 b3 : Nat) (t1 t2 t3 : TypeId) (r : Nat) (hr : Place ms ls f c x r) (ok : CalOk s f c ms ls) (h : CalAt w0 a1 a2 n1 n2 ms ls) (ht : Tri w0 b1 b2 b3 (.cells #[.string s, .int .i64 f, .int .i64 c, .slice a1 n1 c1, .slice a2 n2 c2] t1) (.cells #[.int .i64 (-10001)] t2) (.cells #[.int .i64 x] t3) w) :
    Calls Tryz.prog 84 #[.int .i64 20004, .func (.func 85) #[] #[.pointer (some ⟨b1, 0, none⟩), .pointer (some ⟨b2, 0, none⟩), .pointer (some ⟨b3, 0, none⟩)]] w fun e w' => e = .returned (.int .i64 (r : Int)) ∧ Below w.heap.size w w' := by
  refine (sort_Search 85 #[.pointer (some ⟨b1, 0, none⟩), .pointer (some ⟨b2, 0, none⟩), .pointer (some ⟨b3, 0, none⟩)] (enters_of Tryz.func85 (by kernel_rfl) rfl) 20004 (by omega) (fun i => decide (x < nyOf (shortOf ms) (longOf ms) f c ls (-10001 + (i : Int)))) w ?_).mono ?_
  · intro W i hi hbW
    have hT := ht.step hbW
    have hc := fromDay_closure w W s f c a1 a2 n1 c1 n2 c2 ms ls x b1 b2 b3 t1 t2 t3 i hi ok (h.then_ ht.2.2.2) ⟨hT.1, hT.2.1, hT.2.2.1, hbW⟩
    exact hc.mono fun e w' ⟨he, ht'⟩ => ⟨he, ht'.2.2.2⟩
  · rintro e w2 ⟨r', rfl, h1, h2, h3, hb⟩
    have := place_unique ok hr h1 (fun i hi => by have := h2 i hi; simpa using this) (fun hl => by have := h3 hl; simpa using this)
    subst this
    exact ⟨rfl, hb⟩
end Go.Proofs.YtlpbaljoanfogaaGreatDoor

set_option linter.unusedSimpArgs false
namespace Go.Proofs.YtlpbaljoanfogaaGreatDoor
set_option linter.unusedVariables false
set_option maxRecDepth 100000
open Go.RowKit
def From4 (w : World) (oc od : Obj) (W : World) : Prop := Tri w w.heap.size (w.heap.size + 1 + 1 + 1) (w.heap.size + 1) oc (.cells #[.int .i64 (-10001)] 3) od W ∧ At W (w.heap.size + 1 + 1) (.cells #[.int .i64 0, .int .i64 0, .int .i64 0] 26)
theorem From4.step {w W W' : World} {oc od : Obj} (h : From4 w oc od W) (hb : Below W.heap.size W W') : From4 w oc od W' := ⟨h.1.step hb, h.2.then_ hb⟩
theorem From4.drew {w W : World} {oc od : Obj} (h : From4 w oc od W) : From4 w oc od W.drew := ⟨h.1.drew, h.2.drew⟩
theorem From4.new (w : World) (oc od : Obj) : From4 w oc od ((((w.alloc oc).alloc od).alloc (.cells #[.int .i64 0, .int .i64 0, .int .i64 0] 26)).alloc (.cells #[.int .i64 (-10001)] 3)) :=
  ⟨⟨(((At.new w _).alloc _).alloc _).alloc _, At.new3 w _ _ _ _, ((At.new1 w _ _).alloc _).alloc _, by (repeat' (first | exact bxR _ _ | assumption | refine bxD ?_ | refine bxN ?_ _ | refine bxA ?_ _ | refine bxS ?_ ?_ _ | refine bxT ?_ (by assumption) | refine bxW ?_ (by assumption) | exact Nat.le_refl _ | omega | (simp; done) | (simp; omega)))⟩, (At.new2 w _ _ _).alloc _⟩
theorem arith_fromDay_out (w : World) (s : ByteArray) (f c : Int) (a1 a2 : Option Addr) (n1 c1 n2 c2 : Nat) (x : Int) (hx : inB (-4000000) 4000000 x = false) :
    Calls Tryz.prog 53 #[.agg #[.string s, .int .i64 f, .int .i64 c, .slice a1 n1 c1, .slice a2 n2 c2], .int .i64 x] w fun e w' => e = .returned noDate ∧ Below w.heap.size w w' := by
  go_enter Tryz.func53, Tryz.ntmps53
  go_wp2_with fail
  refine (line_Is _ _).mono ?_; rw [hx]; rintro e w1 ⟨rfl, rfl⟩
  go_wp2_with fail
  exact bodyPost_ret (v := noDate) (by simp [noDate, results, Tryz.results53, go_sem]) rfl ⟨rfl, by (repeat' (first | exact bxR _ _ | assumption | refine bxD ?_ | refine bxN ?_ _ | refine bxA ?_ _ | refine bxS ?_ ?_ _ | refine bxT ?_ (by assumption) | refine bxW ?_ (by assumption) | exact Nat.le_refl _ | omega | (simp; done) | (simp; omega)))⟩
set_option maxHeartbeats 2000000 in
theorem arith_fromDay_no (w : World) (s : ByteArray) (f c : Int) (a1 a2 : Option Addr) (n1 c1 n2 c2 : Nat) (ms : List Mon) (ls : List Int) (x : Int) (r : Nat) (hr : Place ms ls f c x r) (hy : inB (-10000) 10000 (-10001 + (r : Int) - 1) = false) (ok : CalOk s f c ms ls) (x1' : -4000000 ≤ x) (x2' : x ≤ 4000000) (h : CalAt w a1 a2 n1 n2 ms ls) :
    Calls Tryz.prog 53 #[.agg #[.string s, .int .i64 f, .int .i64 c, .slice a1 n1 c1, .slice a2 n2 c2], .int .i64 x] w fun e w' => e = .returned noDate ∧ Below w.heap.size w w' := by
  have H := Lib.hid h; have OK := Lib.hid ok; have HR := Lib.hid hr
  clear h ok hr
  have hx := inB_yes x1' x2'
  have hr1 : r ≤ 20004 := HR.out.1
  go_enter Tryz.func53, Tryz.ntmps53
  go_wp2_with fail
  refine (line_Is _ _).mono ?_; rw [hx]; rintro e w1 ⟨rfl, rfl⟩
  go_wp2_with fail
  have f4 := From4.new w (.cells #[.string s, .int .i64 f, .int .i64 c, .slice a1 n1 c1, .slice a2 n2 c2] 36) (.cells #[.int .i64 x] 3)
  generalize World.alloc (World.alloc (World.alloc (World.alloc w _) _) _) _ = W1 at f4 ⊢
  have t1 : IntKind.i64.wrap (-10001 + (r : Int)) = -10001 + (r : Int) := IntWalk.i64_in _ (by omega)
  have t2 : IntKind.i64.wrap (-10001 + (r : Int) - 1) = -10001 + (r : Int) - 1 := IntWalk.i64_in _ (by omega)
  (refine region_class (From4 w (.cells #[.string s, .int .i64 f, .int .i64 c, .slice a1 n1 c1, .slice a2 n2 c2] 36) (.cells #[.int .i64 x] 3)) (by kernel_rfl) (by kernel_rfl) (f4.drew) ?_; repeat ((first | (refine class_take ?_ (by rfl) ?_ ?_; rotate_left; focus (intro wq hq; ((obtain ⟨x0, x1, x2, x3, x4, x5, x6⟩ := hq.1.cells)); go_simp; first | done | with_reducible rfl | (first | (go_at_call 84; refine (search_year w _ s f c a1 a2 n1 c1 n2 c2 ms ls x _ _ _ _ _ _ r HR.out OK.out H.out hq.1).mono ?_; rintro e w' ⟨rfl, hb⟩; refine ⟨?_, hq.step hb⟩; with_reducible rfl)))) | refine class_skip (by rfl) ?_); try simp only [Act.put, List.setIfInBounds_toArray, List.set_cons_zero, List.set_cons_succ]))
  refine wpQuiet_nil ?_
  intro W2 f42
  clear t1 t2 f4
  go_wp2_with fail
  refine (arith_isYear _ _).mono ?_; rw [hy]; rintro e w3 ⟨rfl, rfl⟩
  have ar := f42.2
  have e0 := ar.cell 0; have e1 := ar.cell 1; have e2 := ar.cell 2; simp at e0 e1 e2
  have z0 := ar.frozen 0; have z1 := ar.frozen 1; have z2 := ar.frozen 2
  go_wp2_with fail
  have ar3 := ar.store3 (.int .i64 0) (.int .i64 0) (.int .i64 0)
  have b3 := below_set3 f42.1.2.2.2 (p := w.heap.size + 1 + 1) (by omega) (.int .i64 0) (.int .i64 0) (.int .i64 0)
  clear e0 e1 e2 z0 z1 z2
  generalize World.setCell (World.setCell _ _ _) _ _ = W3 at ar3 b3 ⊢
  have e0 := ar3.cell 0; have e1 := ar3.cell 1; have e2 := ar3.cell 2; simp at e0 e1 e2
  exact bodyPost_ret (v := noDate) (by simp [noDate, results, Tryz.results53, go_sem, e0, e1, e2]) rfl ⟨rfl, b3⟩
set_option maxHeartbeats 2000000 in
theorem arith_fromDay_yes (w : World) (s : ByteArray) (f c : Int) (a1 a2 : Option Addr) (n1 c1 n2 c2 : Nat) (ms : List Mon) (ls : List Int) (x : Int) (r : Nat) (y : Int) (hr : Place ms ls f c x r) (hyr : -10001 + (r : Int) - 1 = y) (y1 : -10000 ≤ y) (y2 : y ≤ 10000) (ok : CalOk s f c ms ls) (x1' : -4000000 ≤ x) (x2' : x ≤ 4000000) (h : CalAt w a1 a2 n1 n2 ms ls) (k : Nat) (r' : Int)
    (hk : findM (flag ls (placeOf c y)) ms (x - nyOf (shortOf ms) (longOf ms) f c ls y) 0 = (k, r')) (hin : InYear ms ls f c y x) :
    Calls Tryz.prog 53 #[.agg #[.string s, .int .i64 f, .int .i64 c, .slice a1 n1 c1, .slice a2 n2 c2], .int .i64 x] w fun e w' => e = .returned (dateAt y k r') ∧ Below w.heap.size w w' := by
  obtain ⟨g1, g2, g3, g4⟩ := ok_n1 h ok
  have L1 := Lib.hid h.1.len
  have hin2 := hin.2
  rw [nyOf_succ ok y] at hin2
  have hin1 := hin.1
  have hlp := lenY_pos ok (flag ls (placeOf c y))
  obtain ⟨N, hN⟩ : ∃ N, N = nyOf (shortOf ms) (longOf ms) f c ls y := ⟨_, rfl⟩
  rw [← hN] at hk hin1 hin2
  have hR0 : 0 ≤ x - N := by omega
  have hR1 := Lib.hid (show x - N < lenY (shortOf ms) (longOf ms) (flag ls (placeOf c y)) by omega)
  have hR2 : x - N < 8000 := by omega
  have hNb : -5000000 ≤ N ∧ N ≤ 5000000 := by omega
  obtain ⟨nb1, nb2⟩ := hNb
  have HN := Lib.hid hN; have HK := Lib.hid hk
  clear hin hin1 hin2 hlp hN hk
  have y1' : -20000 ≤ y := by omega
  have y2' : y ≤ 20000 := by omega
  have hy := inB_yes y1 y2
  have HYR := Lib.hid hyr; clear hyr
  have H := Lib.hid h; have OK := Lib.hid ok; have HR := Lib.hid hr
  clear h ok hr
  have hx := inB_yes x1' x2'
  have hr1 : r ≤ 20004 := HR.out.1
  go_enter Tryz.func53, Tryz.ntmps53
  go_wp2_with fail
  refine (line_Is _ _).mono ?_; rw [hx]; rintro e w1 ⟨rfl, rfl⟩
  go_wp2_with fail
  have f4 := From4.new w (.cells #[.string s, .int .i64 f, .int .i64 c, .slice a1 n1 c1, .slice a2 n2 c2] 36) (.cells #[.int .i64 x] 3)
  generalize World.alloc (World.alloc (World.alloc (World.alloc w _) _) _) _ = W1 at f4 ⊢
  have t1 : IntKind.i64.wrap (-10001 + (r : Int)) = -10001 + (r : Int) := IntWalk.i64_in _ (by omega)
  have t2 : IntKind.i64.wrap (-10001 + (r : Int) - 1) = -10001 + (r : Int) - 1 := IntWalk.i64_in _ (by omega)
  (refine region_class (From4 w (.cells #[.string s, .int .i64 f, .int .i64 c, .slice a1 n1 c1, .slice a2 n2 c2] 36) (.cells #[.int .i64 x] 3)) (by kernel_rfl) (by kernel_rfl) (f4.drew) ?_; repeat ((first | (refine class_take ?_ (by rfl) ?_ ?_; rotate_left; focus (intro wq hq; ((obtain ⟨x0, x1, x2, x3, x4, x5, x6⟩ := hq.1.cells)); go_simp; first | done | with_reducible rfl | (first | (go_at_call 84; refine (search_year w _ s f c a1 a2 n1 c1 n2 c2 ms ls x _ _ _ _ _ _ r HR.out OK.out H.out hq.1).mono ?_; rintro e w' ⟨rfl, hb⟩; refine ⟨?_, hq.step hb⟩; with_reducible rfl)))) | refine class_skip (by rfl) ?_); try simp only [Act.put, List.setIfInBounds_toArray, List.set_cons_zero, List.set_cons_succ]))
  refine wpQuiet_nil ?_
  intro W2 f42
  clear t1 t2 f4
  rw [HYR.out]
  go_wp2_with fail
  refine (arith_isYear _ _).mono ?_; rw [hy]; rintro e w3 ⟨rfl, rfl⟩
  go_wp2_with fail
  have t3 : IntKind.i64.wrap (x - N) = x - N := IntWalk.i64_in _ (by omega)
  (refine region_class (From4 w (.cells #[.string s, .int .i64 f, .int .i64 c, .slice a1 n1 c1, .slice a2 n2 c2] 36) (.cells #[.int .i64 x] 3)) (by kernel_rfl) (by kernel_rfl) (f42.drew) ?_; repeat ((first | (refine class_take ?_ (by rfl) ?_ ?_; rotate_left; focus (intro wq hq; ((obtain ⟨x0, x1, x2, x3, x4, x5, x6⟩ := hq.1.cells)); go_simp; first | done | with_reducible rfl | (first | (go_at_call 55; refine (arith_newYear _ _ _ _ _ _ _ _ _ _ ms ls _ OK.out y1' y2' (H.out.then_ hq.1.2.2.2)).mono ?_; rw [← HN.out]; rintro e w' ⟨rfl, hb⟩; refine ⟨?_, hq.step hb⟩; with_reducible rfl)))) | refine class_skip (by rfl) ?_); try simp only [Act.put, List.setIfInBounds_toArray, List.set_cons_zero, List.set_cons_succ]))
  refine wpQuiet_nil ?_
  intro W3 f43
  clear t3 f42
  go_wp2_with fail
  go_loopw [8, 9] (fun t i wr => ∃ (j : Nat) (rr : Int), i = .int .i64 ((j : Int) + 1) ∧ t = .int .i64 rr ∧ FindTo (flag ls (placeOf c y)) ms (x - N) j rr ∧ From4 w (.cells #[.string s, .int .i64 f, .int .i64 c, .slice a1 n1 c1, .slice a2 n2 c2] 36) (.cells #[.int .i64 x] 3) wr) (fun _ i _ => n1 + 1 - (intOf i).toNat)
  case atStart => exact ⟨0, x - N, rfl, rfl, FindTo.start _ _ _ hR0, f43⟩
  case round =>
    clear f43
    obtain ⟨j, rr, rfl, rfl, hF, f4⟩ := hrel
    have hjl := hF.in_ hR1.out
    have hjn : j < n1 := by have := L1.out; omega
    have rr0 : 0 ≤ rr := hF.2.1
    have rr1 : rr < 8000 := by
      have h1 := hF.2.2.1
      have h2 := sumM_bound OK.out.lens (flag ls (placeOf c y)) j (by omega)
      omega
    obtain ⟨m, hm⟩ : ∃ m, ms[j]? = some m := ⟨_, List.getElem?_eq_getElem hjl⟩
    obtain ⟨mb1, mb2⟩ := mlenOf_bound OK.out.lens hm (flag ls (placeOf c y))
    have HM := Lib.hid hm; have HF := Lib.hid hF
    clear hm hF hjl
    obtain ⟨ML, hML⟩ : ∃ ML, ML = mlenOf m (flag ls (placeOf c y)) := ⟨_, rfl⟩
    rw [← hML] at mb1 mb2
    have HML := Lib.hid hML; clear hML
    obtain ⟨x0, x1, x2, x3, x4, x5, x6⟩ := f4.1.cells
    by_cases hlt : rr < ML
    · have hst := HF.out.stop HM.out (by rw [← HML.out]; exact hlt)
      have hkj : k = j ∧ r' = rr := by have := HK.out.symm.trans hst; simpa using this
      obtain ⟨rfl, rfl⟩ := hkj
      clear hst
      go_wp2_with fail
      refine (arith_length _ _ _ _ _ _ _ _ _ _ ms ls y k m OK.out.cy1 OK.out.cy2 OK.out.sorted g3 (by omega) (by omega) (H.out.then_ f4.1.2.2.2) g2 HM.out).mono ?_
      rw [← HML.out]
      rintro e w4 ⟨rfl, hb⟩
      replace f4 := f4.step hb
      clear hb x0 x1 x2 x3 x4 x5 x6
      have ar := f4.2
      have e0 := ar.cell 0; have e1 := ar.cell 1; have e2 := ar.cell 2; simp at e0 e1 e2
      have z0 := ar.frozen 0; have z1 := ar.frozen 1; have z2 := ar.frozen 2
      go_wp2_with fail
      have ar3 := ar.store3 (.int .i64 y) (.int .i64 ((k : Int) + 1)) (.int .i64 (r' + 1))
      have b3 := below_set3 f4.1.2.2.2 (p := w.heap.size + 1 + 1) (by omega) (.int .i64 y) (.int .i64 ((k : Int) + 1)) (.int .i64 (r' + 1))
      clear e0 e1 e2 z0 z1 z2
      generalize World.setCell (World.setCell _ _ _) _ _ = W5 at ar3 b3 ⊢
      have e0 := ar3.cell 0; have e1 := ar3.cell 1; have e2 := ar3.cell 2; simp at e0 e1 e2
      exact bodyPost_ret (v := dateAt y k r') (by simp [dateAt, results, Tryz.results53, go_sem, e0, e1, e2]) rfl ⟨rfl, b3⟩
    · have hnx := Lib.hid (HF.out.next HM.out (by rw [← HML.out]; exact hlt))
      rw [← HML.out] at hnx
      go_wp2_with fail
      refine (arith_length _ _ _ _ _ _ _ _ _ _ ms ls y j m OK.out.cy1 OK.out.cy2 OK.out.sorted g3 (by omega) (by omega) (H.out.then_ f4.1.2.2.2) g2 HM.out).mono ?_
      rw [← HML.out]
      rintro e w4 ⟨rfl, hb⟩
      replace f4 := f4.step hb
      clear hb x0 x1 x2 x3 x4 x5 x6
      obtain ⟨x0, x1, x2, x3, x4, x5, x6⟩ := f4.1.cells
      go_wp2_with fail
      refine (arith_length _ _ _ _ _ _ _ _ _ _ ms ls y j m OK.out.cy1 OK.out.cy2 OK.out.sorted g3 (by omega) (by omega) (H.out.then_ f4.1.2.2.2) g2 HM.out).mono ?_
      rw [← HML.out]
      rintro e w5 ⟨rfl, hb⟩
      replace f4 := f4.step hb
      clear hb x0 x1 x2 x3 x4 x5 x6
      go_wp2_with fail
      go_roundw
      case rel => exact ⟨j + 1, rr - ML, by go_num, rfl, hnx.out, f4⟩
      case measure => simp [intOf]; omega
end Go.Proofs.YtlpbaljoanfogaaGreatDoor

set_option linter.unusedSimpArgs false
namespace Go.Proofs.YtlpbaljoanfogaaGreatDoor
set_option linter.unusedVariables false
set_option maxRecDepth 100000
open Go.RowKit
theorem year_parts (C : Nat) (y : Int) (h : 1 ≤ C) : ∃ (q : Int) (p : Nat), p < C ∧ y = 1 + q * (C : Int) + (p : Int) ∧ ∀ S L f ls, nyOf S L f C ls y = f + q * daysTo S L ls C + daysTo S L ls p := by
  have h1 : (C : Int) * ((y - 1) / (C : Int)) + (y - 1) % (C : Int) = y - 1 := Int.mul_ediv_add_emod _ _
  have h2 := placeOf_in C y (by omega)
  have h3 : (y - 1) % (C : Int) = placeOf C y := rfl
  refine ⟨(y - 1) / (C : Int), (placeOf C y).toNat, by omega, ?_, fun S L f ls => ?_⟩
  · rw [h3, Int.mul_comm] at h1; omega
  · unfold nyOf; rw [h3, show ((placeOf C y).toNat : Int) = placeOf C y by omega]
theorem daysTo_le {s : ByteArray} {f c : Int} {ms : List Mon} {ls : List Int} (ok : CalOk s f c ms ls) {a b : Int} (h : a ≤ b) (h0 : 0 ≤ a) : daysTo (shortOf ms) (longOf ms) ls a ≤ daysTo (shortOf ms) (longOf ms) ls b := by
  have key : ∀ n : Nat, daysTo (shortOf ms) (longOf ms) ls a ≤ daysTo (shortOf ms) (longOf ms) ls (a + n) := by
    intro n
    induction n with
    | zero => simp
    | succ n ih =>
      have h1 := daysTo_succ (shortOf ms) (longOf ms) ls (a + n) ok.sorted
      have h2 := lenY_pos ok (flag ls (a + n))
      rw [show a + ((n + 1 : Nat) : Int) = a + n + 1 by omega, h1]; omega
  have := key (b - a).toNat
  rwa [show a + (((b - a).toNat : Nat) : Int) = b by omega] at this
theorem div_is (a T q : Int) (hT : 1 ≤ T) (h1 : q * T ≤ a) (h2 : a < q * T + T) : a / T = q := by
  have : a = (a - q * T) + T * q := by rw [Int.mul_comm T q]; omega
  rw [this, Int.add_mul_ediv_left _ _ (by omega), Int.ediv_eq_zero_of_lt (by omega) (by omega)]; simp
theorem mul_abs_le' (q T : Int) (hT : 1 ≤ T) : (0 ≤ q → q ≤ q * T) ∧ (q ≤ 0 → q * T ≤ q) := by
  constructor
  · intro h
    have := Int.mul_le_mul_of_nonneg_left hT h; omega
  · intro h
    have := Int.mul_le_mul_of_nonpos_left h hT; omega
theorem year_exists {s : ByteArray} {f : Int} {C : Nat} {ms : List Mon} {ls : List Int} (ok : CalOk s f C ms ls) (x : Int) : ∃ y, InYear ms ls f C y x := by
  have cy1 : 1 ≤ C := by have := ok.cy1; omega
  have h0 := daysTo_zero (shortOf ms) (longOf ms) ls (fun z hz => (ok.leaps z hz).1)
  have hTb := daysTo_bound (shortOf ms) (longOf ms) ls (C : Int) (by omega) ok.cy2 ok.sh1 ok.sh2 ok.lo1 ok.lo2 ok.sorted (fun z hz => (ok.leaps z hz).1)
  obtain ⟨T, hT⟩ : ∃ T, T = daysTo (shortOf ms) (longOf ms) ls C := ⟨_, rfl⟩
  rw [← hT] at hTb
  have hr1 := Int.emod_nonneg (x - f) (show T ≠ 0 by omega)
  have hr2 := Int.emod_lt_of_pos (x - f) (show 0 < T by omega)
  have hdm : T * ((x - f) / T) + (x - f) % T = x - f := Int.mul_ediv_add_emod _ _
  have key : ∀ n : Nat, n ≤ C → (∃ i, i < n ∧ daysTo (shortOf ms) (longOf ms) ls (i : Int) ≤ (x - f) % T ∧ (x - f) % T < daysTo (shortOf ms) (longOf ms) ls ((i : Int) + 1)) ∨ daysTo (shortOf ms) (longOf ms) ls (n : Int) ≤ (x - f) % T := by
    intro n
    induction n with
    | zero => intro _; exact .inr (by rw [show ((0 : Nat) : Int) = 0 from rfl, h0]; exact hr1)
    | succ n ih =>
      intro hn
      rcases ih (by omega) with ⟨i, h1, h2⟩ | h
      · exact .inl ⟨i, by omega, h2⟩
      · by_cases q : (x - f) % T < daysTo (shortOf ms) (longOf ms) ls ((n : Int) + 1)
        · exact .inl ⟨n, by omega, h, q⟩
        · exact .inr (by rw [show ((n + 1 : Nat) : Int) = (n : Int) + 1 by omega]; omega)
  rcases key C (by omega) with ⟨i, hi, h1, h2⟩ | h
  · have hp := place_at C ((x - f) / T) i hi
    have hq : (1 + (x - f) / T * (C : Int) + (i : Int) - 1) / (C : Int) = (x - f) / T := div_is _ _ _ (by omega) (by omega) (by omega)
    have hny : nyOf (shortOf ms) (longOf ms) f C ls (1 + (x - f) / T * (C : Int) + (i : Int)) = f + (x - f) / T * T + daysTo (shortOf ms) (longOf ms) ls (i : Int) := by
      have hp' : (1 + (x - f) / T * (C : Int) + (i : Int) - 1) % (C : Int) = (i : Int) := hp
      unfold nyOf; rw [hq, hp', ← hT]
    have hs := daysTo_succ (shortOf ms) (longOf ms) ls (i : Int) ok.sorted
    refine ⟨1 + (x - f) / T * (C : Int) + (i : Int), ?_, ?_⟩
    · rw [hny]; rw [Int.mul_comm T] at hdm; omega
    · rw [nyOf_succ ok, hny, hp]; rw [Int.mul_comm T] at hdm; omega
  · rw [← hT] at h; omega
theorem years_FromDay_out (w : World) (s : ByteArray) (f : Int) (C : Nat) (a1 a2 : Option Addr) (n1 c1 n2 c2 : Nat) (ms : List Mon) (ls : List Int) (g : Nat) (x : Int) (hx : inB (-4000000) 4000000 x = false) :
    Calls Tryz.prog 15 #[.agg #[.string s, .int .i64 f, .int .i64 (C : Int), .slice a1 n1 c1, .slice a2 n2 c2, .slice (some ⟨g, 0, none⟩) C C, .int .i64 (shortOf ms), .int .i64 (longOf ms), .int .i64 (daysTo (shortOf ms) (longOf ms) ls (C : Int))], .int .i64 x] w fun e w' => e = .returned noDate ∧ Below w.heap.size w w' := by
  go_enter Tryz.func15, Tryz.ntmps15
  go_wp2_with fail
  refine (ref_Day _ _).mono ?_; rw [hx]; rintro e w1 ⟨rfl, rfl⟩
  go_wp2_with fail
  exact bodyPost_ret (v := noDate) (by simp [noDate, results, Tryz.results15, go_sem]) rfl ⟨rfl, by (repeat' (first | exact bxR _ _ | assumption | refine bxD ?_ | refine bxN ?_ _ | refine bxA ?_ _ | refine bxS ?_ ?_ _ | refine bxT ?_ (by assumption) | refine bxW ?_ (by assumption) | exact Nat.le_refl _ | omega | (simp; done) | (simp; omega)))⟩
end Go.Proofs.YtlpbaljoanfogaaGreatDoor

set_option linter.unusedSimpArgs false
namespace Go.Proofs.YtlpbaljoanfogaaGreatDoor
set_option linter.unusedVariables false
set_option maxRecDepth 100000
open Go.RowKit
set_option maxHeartbeats 2000000 in
theorem years_FromDay_no (w : World) (s : ByteArray) (f : Int) (C : Nat) (a1 a2 : Option Addr) (n1 c1 n2 c2 : Nat) (ms : List Mon) (ls : List Int) (g : Nat) (x y : Int) (ok : CalOk s f C ms ls) (x1' : -4000000 ≤ x) (x2' : x ≤ 4000000) (hg : MarksAt w g C ls) (h : CalAt w a1 a2 n1 n2 ms ls) (hin : InYear ms ls f C y x) (hy : inB (-10000) 10000 y = false) :
    Calls Tryz.prog 15 #[.agg #[.string s, .int .i64 f, .int .i64 (C : Int), .slice a1 n1 c1, .slice a2 n2 c2, .slice (some ⟨g, 0, none⟩) C C, .int .i64 (shortOf ms), .int .i64 (longOf ms), .int .i64 (daysTo (shortOf ms) (longOf ms) ls (C : Int))], .int .i64 x] w fun e w' => e = .returned noDate ∧ Below w.heap.size w w' := by
  obtain ⟨g1, g2, g3, g4⟩ := ok_n1 h ok
  have L1 := Lib.hid h.1.len
  have cy1 : 1 ≤ C := by have := ok.cy1; omega
  have cy2 : C ≤ 3000 := by have := ok.cy2; omega
  have ep1 := ok.ep1; have ep2 := ok.ep2
  obtain ⟨q, p, hpC, hYq, hny⟩ := year_parts C y cy1
  have hnyY := hny (shortOf ms) (longOf ms) f ls
  have hin2 := hin.2
  rw [nyOf_succ ok y] at hin2
  have hin1 := hin.1
  have hpl : placeOf C y = (p : Int) := by rw [hYq]; exact place_at C q p hpC
  rw [hpl] at hin2
  have hlp := lenY_pos ok (flag ls (p : Int))
  have hsucc := daysTo_succ (shortOf ms) (longOf ms) ls (p : Int) ok.sorted
  have hTle := daysTo_le ok (show (p : Int) + 1 ≤ C by omega) (by omega)
  have hTb := daysTo_bound (shortOf ms) (longOf ms) ls (C : Int) (by omega) (by omega) ok.sh1 ok.sh2 ok.lo1 ok.lo2 ok.sorted (fun z hz => (ok.leaps z hz).1)
  have hpb := daysTo_bound (shortOf ms) (longOf ms) ls (p : Int) (by omega) (by omega) ok.sh1 ok.sh2 ok.lo1 ok.lo2 ok.sorted (fun z hz => (ok.leaps z hz).1)
  obtain ⟨T, hT⟩ : ∃ T, T = daysTo (shortOf ms) (longOf ms) ls C := ⟨_, rfl⟩
  rw [← hT] at hnyY hTle hTb ⊢
  rw [hnyY] at hin1 hin2
  have hq : (x - f) / T = q := div_is (x - f) T q (by omega) (by omega) (by omega)
  have hqb : -33000000 ≤ q * T ∧ q * T ≤ 8100000 := by omega
  have hqs : -33000000 ≤ q ∧ q ≤ 9000000 := by
    have := mul_abs_le' q T (by omega)
    omega
  have hqC : -33000000 ≤ q * (C : Int) ∧ q * (C : Int) ≤ 9000000 := by
    have e1 := hTb.1
    rcases Int.lt_or_le q 0 with hq0 | hq0
    · have a := Int.mul_le_mul_of_nonpos_left (show q ≤ 0 by omega) e1
      have b := Int.mul_nonneg_of_nonpos_of_nonpos (show q ≤ 0 by omega) (show -(C : Int) ≤ 0 by omega)
      rw [Int.mul_neg] at b
      omega
    · have a := Int.mul_le_mul_of_nonneg_left e1 hq0
      have b := Int.mul_nonneg hq0 (show 0 ≤ (C : Int) by omega)
      omega
  obtain ⟨qb1, qb2⟩ := hqb
  obtain ⟨qs1, qs2⟩ := hqs
  obtain ⟨qC1, qC2⟩ := hqC
  obtain ⟨T1, T2⟩ := hTb
  have T3 : T ≤ 24000000 := by omega
  have hx := inB_yes x1' x2'
  have HQ := Lib.hid hq; have HY := Lib.hid hYq; have HPL := Lib.hid hpl
  have H := Lib.hid h; have OK := Lib.hid ok; have HG := Lib.hid hg
  have HI1 := Lib.hid hin1; have HI2 := Lib.hid hin2
  have HD0 := Lib.hid (daysTo_zero (shortOf ms) (longOf ms) ls (fun z hz => (ok.leaps z hz).1))
  clear h ok hg hin hin1 hin2 hlp hsucc hTle hpb hq hYq hpl hnyY hny hT
  go_enter Tryz.func15, Tryz.ntmps15
  go_wp2_with fail
  refine (ref_Day _ _).mono ?_; rw [hx]; rintro e w1 ⟨rfl, rfl⟩
  go_wp2_with fail
  refine (ref_Floor _ _ _ (by omega) (by omega) (by omega) (by omega)).mono ?_; rw [HQ.out]; rintro e w1 ⟨rfl, rfl⟩
  have tw := Two.new w (.cells #[.string s, .int .i64 f, .int .i64 (C : Int), .slice a1 n1 c1, .slice a2 n2 c2, .slice (some ⟨g, 0, none⟩) C C, .int .i64 (shortOf ms), .int .i64 (longOf ms), .int .i64 T] 40) (.cells #[.int .i64 0, .int .i64 0, .int .i64 0] 26)
  generalize World.alloc (World.alloc w _) _ = W1 at tw ⊢
  obtain ⟨z0, z1, z2, z3, z4, z5, z6, z7, z8⟩ := tw.years
  have t1 : IntKind.i64.wrap (q * (C : Int)) = q * (C : Int) := IntWalk.i64_in _ (by omega)
  have t2 : IntKind.i64.wrap (1 + q * (C : Int)) = 1 + q * (C : Int) := IntWalk.i64_in _ (by omega)
  have t3 : IntKind.i64.wrap (x - f) = x - f := IntWalk.i64_in _ (by omega)
  have t4 : IntKind.i64.wrap (q * T) = q * T := IntWalk.i64_in _ (by omega)
  have t5 : IntKind.i64.wrap (x - f - q * T) = x - f - q * T := IntWalk.i64_in _ (by omega)
  go_wp2_with fail
  go_quiet (fail)
  have tw1 := tw.drewN nq
  clear t1 t2 t3 t4 t5 z0 z1 z2 z3 z4 z5 z6 z7 z8 tw
  go_wp2_with fail
  go_loopw [7, 8] (fun u v wr => ∃ i : Nat, i ≤ p ∧ u = .int .i64 (1 + q * (C : Int) + (i : Int)) ∧ v = .int .i64 (x - f - q * T - daysTo (shortOf ms) (longOf ms) ls (i : Int)) ∧ Two w (.cells #[.string s, .int .i64 f, .int .i64 (C : Int), .slice a1 n1 c1, .slice a2 n2 c2, .slice (some ⟨g, 0, none⟩) C C, .int .i64 (shortOf ms), .int .i64 (longOf ms), .int .i64 T] 40) (.cells #[.int .i64 0, .int .i64 0, .int .i64 0] 26) wr) (fun u _ _ => (1 + q * (C : Int) + p - intOf u).toNat)
  case atStart => exact ⟨0, by omega, by simp, by rw [show ((0 : Nat) : Int) = 0 from rfl, HD0.out]; simp, tw1⟩
  case round =>
    clear tw1
    obtain ⟨i, hi, rfl, rfl, tw⟩ := hrel
    have hdb := daysTo_bound (shortOf ms) (longOf ms) ls (i : Int) (by omega) (by omega) OK.out.sh1 OK.out.sh2 OK.out.lo1 OK.out.lo2 OK.out.sorted (fun z hz => (OK.out.leaps z hz).1)
    obtain ⟨db1, db2⟩ := hdb
    have hds := daysTo_succ (shortOf ms) (longOf ms) ls (i : Int) OK.out.sorted
    have hpi := Lib.hid (place_at C q i (by omega))
    have hlb := lenY_pos OK.out (flag ls (i : Int))
    obtain ⟨lb1, lb2⟩ := hlb
    obtain ⟨z0, z1, z2, z3, z4, z5, z6, z7, z8⟩ := tw.years
    by_cases hlt : i < p
    · have hle := daysTo_le OK.out (show (i : Int) + 1 ≤ (p : Int) by omega) (by omega)
      have hi1 := HI1.out
      rw [hds] at hle
      have hge : lenY (shortOf ms) (longOf ms) (flag ls (i : Int)) ≤ x - f - q * T - daysTo (shortOf ms) (longOf ms) ls (i : Int) := by omega
      have HDS := Lib.hid hds
      clear hds hle hi1
      obtain ⟨Z, hZ⟩ : ∃ Z, Z = lenY (shortOf ms) (longOf ms) (flag ls (i : Int)) := ⟨_, rfl⟩
      rw [← hZ] at hge lb1 lb2 HDS
      have HZ := Lib.hid hZ; clear hZ
      generalize hDD : daysTo (shortOf ms) (longOf ms) ls (i : Int) = D at hge db1 db2 HDS ⊢
      clear hDD
      go_wp2_with fail
      refine (years_Length _ s f C a1 a2 n1 c1 n2 c2 ms ls g _ _ _ _ cy1 cy2 (by omega) (by omega) (HG.out.then_ tw.2.2)).mono ?_
      rw [hpi.out, ← HZ.out]
      rintro e w2 ⟨rfl, hb⟩
      replace tw := tw.step hb
      clear hb z0 z1 z2 z3 z4 z5 z6 z7 z8
      obtain ⟨z0, z1, z2, z3, z4, z5, z6, z7, z8⟩ := tw.years
      go_wp2_with fail
      refine (years_Length _ s f C a1 a2 n1 c1 n2 c2 ms ls g _ _ _ _ cy1 cy2 (by omega) (by omega) (HG.out.then_ tw.2.2)).mono ?_
      rw [hpi.out, ← HZ.out]
      rintro e w3 ⟨rfl, hb⟩
      replace tw := tw.step hb
      clear hb z0 z1 z2 z3 z4 z5 z6 z7 z8
      go_wp2_with fail
      go_roundw
      case rel => exact ⟨i + 1, by omega, by go_num, by rw [show ((i + 1 : Nat) : Int) = (i : Int) + 1 by omega, HDS.out]; go_num, tw⟩
      case measure => simp [intOf]; omega
    · obtain rfl : p = i := by omega
      have hi2 := HI2.out
      have hi1 := HI1.out
      have hge : x - f - q * T - daysTo (shortOf ms) (longOf ms) ls (p : Int) < lenY (shortOf ms) (longOf ms) (flag ls (p : Int)) := by omega
      have hR0 : 0 ≤ x - f - q * T - daysTo (shortOf ms) (longOf ms) ls (p : Int) := by omega
      clear hds hi1 hi2
      obtain ⟨R, hR⟩ : ∃ R, R = x - f - q * T - daysTo (shortOf ms) (longOf ms) ls (p : Int) := ⟨_, rfl⟩
      rw [← hR] at hge hR0 ⊢
      have HR := Lib.hid hR; clear hR
      obtain ⟨Z, hZ⟩ : ∃ Z, Z = lenY (shortOf ms) (longOf ms) (flag ls (p : Int)) := ⟨_, rfl⟩
      rw [← hZ] at hge lb1 lb2
      have HZ := Lib.hid hZ; clear hZ
      go_wp2_with fail
      refine (years_Length _ s f C a1 a2 n1 c1 n2 c2 ms ls g _ _ _ _ cy1 cy2 (by omega) (by omega) (HG.out.then_ tw.2.2)).mono ?_
      rw [hpi.out, ← HZ.out]
      rintro e w2 ⟨rfl, hb⟩
      replace tw := tw.step hb
      clear hb z0 z1 z2 z3 z4 z5 z6 z7 z8
      rw [← HY.out]
      go_wp2_with fail
      refine (ref_In _ _ _ _).mono ?_; rw [hy]; rintro e w3 ⟨rfl, rfl⟩
      have ar := tw.2.1
      have e0 := ar.cell 0; have e1 := ar.cell 1; have e2 := ar.cell 2; simp at e0 e1 e2
      have z0 := ar.frozen 0; have z1 := ar.frozen 1; have z2 := ar.frozen 2
      go_wp2_with fail
      have ar3 := ar.store3 (.int .i64 0) (.int .i64 0) (.int .i64 0)
      have b3 := below_set3 tw.2.2 (p := w.heap.size + 1) (by omega) (.int .i64 0) (.int .i64 0) (.int .i64 0)
      clear e0 e1 e2 z0 z1 z2
      generalize World.setCell (World.setCell _ _ _) _ _ = W3 at ar3 b3 ⊢
      have e0 := ar3.cell 0; have e1 := ar3.cell 1; have e2 := ar3.cell 2; simp at e0 e1 e2
      exact bodyPost_ret (v := noDate) (by simp [noDate, results, Tryz.results15, go_sem, e0, e1, e2]) rfl ⟨rfl, b3⟩
set_option maxHeartbeats 4000000 in
theorem years_FromDay_yes (w : World) (s : ByteArray) (f : Int) (C : Nat) (a1 a2 : Option Addr) (n1 c1 n2 c2 : Nat) (ms : List Mon) (ls : List Int) (g : Nat) (x y : Int) (ok : CalOk s f C ms ls) (x1' : -4000000 ≤ x) (x2' : x ≤ 4000000) (hg : MarksAt w g C ls) (h : CalAt w a1 a2 n1 n2 ms ls) (hin : InYear ms ls f C y x) (y1 : -10000 ≤ y) (y2 : y ≤ 10000) (k : Nat) (r' : Int) (hk : findM (flag ls (placeOf C y)) ms (x - nyOf (shortOf ms) (longOf ms) f C ls y) 0 = (k, r')) :
    Calls Tryz.prog 15 #[.agg #[.string s, .int .i64 f, .int .i64 (C : Int), .slice a1 n1 c1, .slice a2 n2 c2, .slice (some ⟨g, 0, none⟩) C C, .int .i64 (shortOf ms), .int .i64 (longOf ms), .int .i64 (daysTo (shortOf ms) (longOf ms) ls (C : Int))], .int .i64 x] w fun e w' => e = .returned (dateAt y k r') ∧ Below w.heap.size w w' := by
  have hy := inB_yes y1 y2
  have HK := Lib.hid hk; clear hk
  obtain ⟨g1, g2, g3, g4⟩ := ok_n1 h ok
  have L1 := Lib.hid h.1.len
  have cy1 : 1 ≤ C := by have := ok.cy1; omega
  have cy2 : C ≤ 3000 := by have := ok.cy2; omega
  have ep1 := ok.ep1; have ep2 := ok.ep2
  obtain ⟨q, p, hpC, hYq, hny⟩ := year_parts C y cy1
  have hnyY := hny (shortOf ms) (longOf ms) f ls
  have hin2 := hin.2
  rw [nyOf_succ ok y] at hin2
  have hin1 := hin.1
  have hpl : placeOf C y = (p : Int) := by rw [hYq]; exact place_at C q p hpC
  rw [hpl] at hin2
  have hlp := lenY_pos ok (flag ls (p : Int))
  have hsucc := daysTo_succ (shortOf ms) (longOf ms) ls (p : Int) ok.sorted
  have hTle := daysTo_le ok (show (p : Int) + 1 ≤ C by omega) (by omega)
  have hTb := daysTo_bound (shortOf ms) (longOf ms) ls (C : Int) (by omega) (by omega) ok.sh1 ok.sh2 ok.lo1 ok.lo2 ok.sorted (fun z hz => (ok.leaps z hz).1)
  have hpb := daysTo_bound (shortOf ms) (longOf ms) ls (p : Int) (by omega) (by omega) ok.sh1 ok.sh2 ok.lo1 ok.lo2 ok.sorted (fun z hz => (ok.leaps z hz).1)
  obtain ⟨T, hT⟩ : ∃ T, T = daysTo (shortOf ms) (longOf ms) ls C := ⟨_, rfl⟩
  rw [← hT] at hnyY hTle hTb ⊢
  rw [hnyY] at hin1 hin2
  have hq : (x - f) / T = q := div_is (x - f) T q (by omega) (by omega) (by omega)
  have hqb : -33000000 ≤ q * T ∧ q * T ≤ 8100000 := by omega
  have hqs : -33000000 ≤ q ∧ q ≤ 9000000 := by
    have := mul_abs_le' q T (by omega)
    omega
  have hqC : -33000000 ≤ q * (C : Int) ∧ q * (C : Int) ≤ 9000000 := by
    have e1 := hTb.1
    rcases Int.lt_or_le q 0 with hq0 | hq0
    · have a := Int.mul_le_mul_of_nonpos_left (show q ≤ 0 by omega) e1
      have b := Int.mul_nonneg_of_nonpos_of_nonpos (show q ≤ 0 by omega) (show -(C : Int) ≤ 0 by omega)
      rw [Int.mul_neg] at b
      omega
    · have a := Int.mul_le_mul_of_nonneg_left e1 hq0
      have b := Int.mul_nonneg hq0 (show 0 ≤ (C : Int) by omega)
      omega
  obtain ⟨qb1, qb2⟩ := hqb
  obtain ⟨qs1, qs2⟩ := hqs
  obtain ⟨qC1, qC2⟩ := hqC
  obtain ⟨T1, T2⟩ := hTb
  have T3 : T ≤ 24000000 := by omega
  have hx := inB_yes x1' x2'
  have HQ := Lib.hid hq; have HY := Lib.hid hYq; have HPL := Lib.hid hpl
  have H := Lib.hid h; have OK := Lib.hid ok; have HG := Lib.hid hg
  have HI1 := Lib.hid hin1; have HI2 := Lib.hid hin2
  have HD0 := Lib.hid (daysTo_zero (shortOf ms) (longOf ms) ls (fun z hz => (ok.leaps z hz).1))
  have HNY := Lib.hid hnyY
  clear h ok hg hin hin1 hin2 hlp hsucc hTle hpb hq hYq hpl hnyY hny hT
  go_enter Tryz.func15, Tryz.ntmps15
  go_wp2_with fail
  refine (ref_Day _ _).mono ?_; rw [hx]; rintro e w1 ⟨rfl, rfl⟩
  go_wp2_with fail
  refine (ref_Floor _ _ _ (by omega) (by omega) (by omega) (by omega)).mono ?_; rw [HQ.out]; rintro e w1 ⟨rfl, rfl⟩
  have tw := Two.new w (.cells #[.string s, .int .i64 f, .int .i64 (C : Int), .slice a1 n1 c1, .slice a2 n2 c2, .slice (some ⟨g, 0, none⟩) C C, .int .i64 (shortOf ms), .int .i64 (longOf ms), .int .i64 T] 40) (.cells #[.int .i64 0, .int .i64 0, .int .i64 0] 26)
  generalize World.alloc (World.alloc w _) _ = W1 at tw ⊢
  obtain ⟨z0, z1, z2, z3, z4, z5, z6, z7, z8⟩ := tw.years
  have t1 : IntKind.i64.wrap (q * (C : Int)) = q * (C : Int) := IntWalk.i64_in _ (by omega)
  have t2 : IntKind.i64.wrap (1 + q * (C : Int)) = 1 + q * (C : Int) := IntWalk.i64_in _ (by omega)
  have t3 : IntKind.i64.wrap (x - f) = x - f := IntWalk.i64_in _ (by omega)
  have t4 : IntKind.i64.wrap (q * T) = q * T := IntWalk.i64_in _ (by omega)
  have t5 : IntKind.i64.wrap (x - f - q * T) = x - f - q * T := IntWalk.i64_in _ (by omega)
  go_wp2_with fail
  go_quiet (fail)
  have tw1 := tw.drewN nq
  clear t1 t2 t3 t4 t5 z0 z1 z2 z3 z4 z5 z6 z7 z8 tw
  go_wp2_with fail
  go_loopw [7, 8] (fun u v wr => ∃ i : Nat, i ≤ p ∧ u = .int .i64 (1 + q * (C : Int) + (i : Int)) ∧ v = .int .i64 (x - f - q * T - daysTo (shortOf ms) (longOf ms) ls (i : Int)) ∧ Two w (.cells #[.string s, .int .i64 f, .int .i64 (C : Int), .slice a1 n1 c1, .slice a2 n2 c2, .slice (some ⟨g, 0, none⟩) C C, .int .i64 (shortOf ms), .int .i64 (longOf ms), .int .i64 T] 40) (.cells #[.int .i64 0, .int .i64 0, .int .i64 0] 26) wr) (fun u _ _ => (1 + q * (C : Int) + p - intOf u).toNat)
  case atStart => exact ⟨0, by omega, by simp, by rw [show ((0 : Nat) : Int) = 0 from rfl, HD0.out]; simp, tw1⟩
  case round =>
    clear tw1
    obtain ⟨i, hi, rfl, rfl, tw⟩ := hrel
    have hdb := daysTo_bound (shortOf ms) (longOf ms) ls (i : Int) (by omega) (by omega) OK.out.sh1 OK.out.sh2 OK.out.lo1 OK.out.lo2 OK.out.sorted (fun z hz => (OK.out.leaps z hz).1)
    obtain ⟨db1, db2⟩ := hdb
    have hds := daysTo_succ (shortOf ms) (longOf ms) ls (i : Int) OK.out.sorted
    have hpi := Lib.hid (place_at C q i (by omega))
    have hlb := lenY_pos OK.out (flag ls (i : Int))
    obtain ⟨lb1, lb2⟩ := hlb
    obtain ⟨z0, z1, z2, z3, z4, z5, z6, z7, z8⟩ := tw.years
    by_cases hlt : i < p
    · have hle := daysTo_le OK.out (show (i : Int) + 1 ≤ (p : Int) by omega) (by omega)
      have hi1 := HI1.out
      rw [hds] at hle
      have hge : lenY (shortOf ms) (longOf ms) (flag ls (i : Int)) ≤ x - f - q * T - daysTo (shortOf ms) (longOf ms) ls (i : Int) := by omega
      have HDS := Lib.hid hds
      clear hds hle hi1
      obtain ⟨Z, hZ⟩ : ∃ Z, Z = lenY (shortOf ms) (longOf ms) (flag ls (i : Int)) := ⟨_, rfl⟩
      rw [← hZ] at hge lb1 lb2 HDS
      have HZ := Lib.hid hZ; clear hZ
      generalize hDD : daysTo (shortOf ms) (longOf ms) ls (i : Int) = D at hge db1 db2 HDS ⊢
      clear hDD
      go_wp2_with fail
      refine (years_Length _ s f C a1 a2 n1 c1 n2 c2 ms ls g _ _ _ _ cy1 cy2 (by omega) (by omega) (HG.out.then_ tw.2.2)).mono ?_
      rw [hpi.out, ← HZ.out]
      rintro e w2 ⟨rfl, hb⟩
      replace tw := tw.step hb
      clear hb z0 z1 z2 z3 z4 z5 z6 z7 z8
      obtain ⟨z0, z1, z2, z3, z4, z5, z6, z7, z8⟩ := tw.years
      go_wp2_with fail
      refine (years_Length _ s f C a1 a2 n1 c1 n2 c2 ms ls g _ _ _ _ cy1 cy2 (by omega) (by omega) (HG.out.then_ tw.2.2)).mono ?_
      rw [hpi.out, ← HZ.out]
      rintro e w3 ⟨rfl, hb⟩
      replace tw := tw.step hb
      clear hb z0 z1 z2 z3 z4 z5 z6 z7 z8
      go_wp2_with fail
      go_roundw
      case rel => exact ⟨i + 1, by omega, by go_num, by rw [show ((i + 1 : Nat) : Int) = (i : Int) + 1 by omega, HDS.out]; go_num, tw⟩
      case measure => simp [intOf]; omega
    · obtain rfl : p = i := by omega
      have hi2 := HI2.out
      have hi1 := HI1.out
      have hge : x - f - q * T - daysTo (shortOf ms) (longOf ms) ls (p : Int) < lenY (shortOf ms) (longOf ms) (flag ls (p : Int)) := by omega
      have hR0 : 0 ≤ x - f - q * T - daysTo (shortOf ms) (longOf ms) ls (p : Int) := by omega
      clear hds hi1 hi2
      obtain ⟨R, hR⟩ : ∃ R, R = x - f - q * T - daysTo (shortOf ms) (longOf ms) ls (p : Int) := ⟨_, rfl⟩
      rw [← hR] at hge hR0 ⊢
      have HR := Lib.hid hR; clear hR
      obtain ⟨Z, hZ⟩ : ∃ Z, Z = lenY (shortOf ms) (longOf ms) (flag ls (p : Int)) := ⟨_, rfl⟩
      rw [← hZ] at hge lb1 lb2
      have HZ := Lib.hid hZ; clear hZ
      go_wp2_with fail
      refine (years_Length _ s f C a1 a2 n1 c1 n2 c2 ms ls g _ _ _ _ cy1 cy2 (by omega) (by omega) (HG.out.then_ tw.2.2)).mono ?_
      rw [hpi.out, ← HZ.out]
      rintro e w2 ⟨rfl, hb⟩
      replace tw := tw.step hb
      clear hb z0 z1 z2 z3 z4 z5 z6 z7 z8
      rw [← HY.out]
      go_wp2_with fail
      refine (ref_In _ _ _ _).mono ?_; rw [hy]; rintro e w3 ⟨rfl, rfl⟩
      go_wp2_with fail
      have HRL := Lib.hid (show R < lenY (shortOf ms) (longOf ms) (flag ls (placeOf C y)) by rw [HPL.out, ← HZ.out]; exact hge)
      have hKR := HK.out
      rw [show x - nyOf (shortOf ms) (longOf ms) f C ls y = R by rw [HNY.out, HR.out]; omega] at hKR
      have HKR := Lib.hid hKR; clear hKR
      have R8 : R < 8000 := by omega
      clear hge
      go_loopw [8, 9] (fun t i wr => ∃ (j : Nat) (rr : Int), i = .int .i64 ((j : Int) + 1) ∧ t = .int .i64 rr ∧ FindTo (flag ls (placeOf C y)) ms R j rr ∧ Two w (.cells #[.string s, .int .i64 f, .int .i64 (C : Int), .slice a1 n1 c1, .slice a2 n2 c2, .slice (some ⟨g, 0, none⟩) C C, .int .i64 (shortOf ms), .int .i64 (longOf ms), .int .i64 T] 40) (.cells #[.int .i64 0, .int .i64 0, .int .i64 0] 26) wr) (fun _ i _ => n1 + 1 - (intOf i).toNat)
      case atStart => exact ⟨0, R, rfl, rfl, FindTo.start _ _ _ hR0, tw⟩
      case round =>
        clear tw
        obtain ⟨j, rr, rfl, rfl, hF, tw⟩ := hrel
        have hjl := hF.in_ HRL.out
        have hjn : j < n1 := by have := L1.out; omega
        have rr0 : 0 ≤ rr := hF.2.1
        have rr1 : rr < 8000 := by
          have h1 := hF.2.2.1
          have h2 := sumM_bound OK.out.lens (flag ls (placeOf C y)) j (by omega)
          omega
        obtain ⟨m, hm⟩ : ∃ m, ms[j]? = some m := ⟨_, List.getElem?_eq_getElem hjl⟩
        obtain ⟨mb1, mb2⟩ := mlenOf_bound OK.out.lens hm (flag ls (placeOf C y))
        have HM := Lib.hid hm; have HF := Lib.hid hF
        clear hm hF hjl
        obtain ⟨ML, hML⟩ : ∃ ML, ML = mlenOf m (flag ls (placeOf C y)) := ⟨_, rfl⟩
        rw [← hML] at mb1 mb2
        have HML := Lib.hid hML; clear hML
        obtain ⟨z0, z1, z2, z3, z4, z5, z6, z7, z8⟩ := tw.years
        by_cases hlt2 : rr < ML
        · have hst := HF.out.stop HM.out (by rw [← HML.out]; exact hlt2)
          have hkj : k = j ∧ r' = rr := by have := HKR.out.symm.trans hst; simpa using this
          obtain ⟨rfl, rfl⟩ := hkj
          clear hst
          go_wp2_with fail
          refine (years_Month _ s f C a1 a2 n1 c1 n2 c2 ms ls g y _ _ _ k m cy1 cy2 (by omega) (by omega) (HG.out.then_ tw.2.2) (H.out.then_ tw.2.2) g2 HM.out).mono ?_
          rw [← HML.out]
          rintro e w4 ⟨rfl, hb⟩
          replace tw := tw.step hb
          clear hb z0 z1 z2 z3 z4 z5 z6 z7 z8
          have ar := tw.2.1
          have e0 := ar.cell 0; have e1 := ar.cell 1; have e2 := ar.cell 2; simp at e0 e1 e2
          have z0 := ar.frozen 0; have z1 := ar.frozen 1; have z2 := ar.frozen 2
          go_wp2_with fail
          have ar3 := ar.store3 (.int .i64 y) (.int .i64 ((k : Int) + 1)) (.int .i64 (r' + 1))
          have b3 := below_set3 tw.2.2 (p := w.heap.size + 1) (by omega) (.int .i64 y) (.int .i64 ((k : Int) + 1)) (.int .i64 (r' + 1))
          clear e0 e1 e2 z0 z1 z2
          generalize World.setCell (World.setCell _ _ _) _ _ = W5 at ar3 b3 ⊢
          have e0 := ar3.cell 0; have e1 := ar3.cell 1; have e2 := ar3.cell 2; simp at e0 e1 e2
          exact bodyPost_ret (v := dateAt y k r') (by simp [dateAt, results, Tryz.results15, go_sem, e0, e1, e2]) rfl ⟨rfl, b3⟩
        · have hnx := Lib.hid (HF.out.next HM.out (by rw [← HML.out]; exact hlt2))
          rw [← HML.out] at hnx
          go_wp2_with fail
          refine (years_Month _ s f C a1 a2 n1 c1 n2 c2 ms ls g y _ _ _ j m cy1 cy2 (by omega) (by omega) (HG.out.then_ tw.2.2) (H.out.then_ tw.2.2) g2 HM.out).mono ?_
          rw [← HML.out]
          rintro e w4 ⟨rfl, hb⟩
          replace tw := tw.step hb
          clear hb z0 z1 z2 z3 z4 z5 z6 z7 z8
          obtain ⟨z0, z1, z2, z3, z4, z5, z6, z7, z8⟩ := tw.years
          go_wp2_with fail
          refine (years_Month _ s f C a1 a2 n1 c1 n2 c2 ms ls g y _ _ _ j m cy1 cy2 (by omega) (by omega) (HG.out.then_ tw.2.2) (H.out.then_ tw.2.2) g2 HM.out).mono ?_
          rw [← HML.out]
          rintro e w5 ⟨rfl, hb⟩
          replace tw := tw.step hb
          clear hb z0 z1 z2 z3 z4 z5 z6 z7 z8
          go_wp2_with fail
          go_roundw
          case rel => exact ⟨j + 1, rr - ML, by go_num, rfl, hnx.out, tw⟩
          case measure => simp [intOf]; omega
end Go.Proofs.YtlpbaljoanfogaaGreatDoor

set_option linter.unusedSimpArgs false
namespace Go.Proofs.YtlpbaljoanfogaaGreatDoor
set_option linter.unusedVariables false
set_option maxRecDepth 100000
open Go.RowKit
theorem arith_FromDay_ok (w : World) (s : ByteArray) (f c : Int) (a1 a2 : Option Addr) (n1 c1 n2 c2 : Nat) (ms : List Mon) (ls : List Int) (x a b d ee : Int) (hs : s.size ≤ 9223372036854775807) (k1 : n1 ≤ c1) (h : CalAt w a1 a2 n1 n2 ms ls) (q : calErr s f c ms ls = 0)
    (hfd : ∀ W, Below w.heap.size w W → Calls Tryz.prog 53 #[.agg #[.string s, .int .i64 f, .int .i64 c, .slice a1 n1 c1, .slice a2 n2 c2], .int .i64 x] W fun e w' => e = .returned (.tuple #[.agg #[.int .i64 a, .int .i64 b, .int .i64 d], .int .i64 ee]) ∧ Below W.heap.size W w') :
    Calls Tryz.prog 29 #[.agg #[.string s, .int .i64 f, .int .i64 c, .slice a1 n1 c1, .slice a2 n2 c2], .int .i64 x] w fun e w' => e = .returned (.tuple #[.agg #[.int .i64 a, .int .i64 b, .int .i64 d], .int .i64 ee]) ∧ Below w.heap.size w w' := by
  have H := Lib.hid h; have HFD := Lib.hid hfd; clear h hfd
  have HE := Lib.hid q; clear q
  go_enter Tryz.func29, Tryz.ntmps29
  go_wp2_with fail
  refine (compile_Check _ _ _ _ _ _ _ _ _ _ ms ls hs k1 ((H.out.alloc _).alloc _).1 ((H.out.alloc _).alloc _).2).mono ?_; rw [HE.out]; rintro e w1 ⟨rfl, hb⟩
  have tw := (Two.new w (.cells #[.string s, .int .i64 f, .int .i64 c, .slice a1 n1 c1, .slice a2 n2 c2] 36) (.cells #[.int .i64 0, .int .i64 0, .int .i64 0] 26)).step hb
  obtain ⟨x0, x1, x2, x3, x4⟩ := tw.cal
  clear hb
  go_wp2_with fail
  refine (HFD.out _ tw.2.2).mono ?_
  rintro e w2 ⟨rfl, hb⟩
  replace tw := tw.step hb
  clear hb x0 x1 x2 x3 x4
  have ar := tw.2.1
  have e0 := ar.cell 0; have e1 := ar.cell 1; have e2 := ar.cell 2; simp at e0 e1 e2
  have z0 := ar.frozen 0; have z1 := ar.frozen 1; have z2 := ar.frozen 2
  go_wp2_with fail
  have ar3 := ar.store3 (.int .i64 a) (.int .i64 b) (.int .i64 d)
  have b3 := below_set3 tw.2.2 (p := w.heap.size + 1) (by omega) (.int .i64 a) (.int .i64 b) (.int .i64 d)
  clear e0 e1 e2 z0 z1 z2
  generalize World.setCell (World.setCell _ _ _) _ _ = W3 at ar3 b3 ⊢
  have e0 := ar3.cell 0; have e1 := ar3.cell 1; have e2 := ar3.cell 2; simp at e0 e1 e2
  exact bodyPost_ret (v := .tuple #[.agg #[.int .i64 a, .int .i64 b, .int .i64 d], .int .i64 ee]) (by simp [results, Tryz.results29, go_sem, e0, e1, e2]) rfl ⟨rfl, b3⟩
theorem place_of_year {s : ByteArray} {f c : Int} {ms : List Mon} {ls : List Int} (ok : CalOk s f c ms ls) {x y : Int} (h : InYear ms ls f c y x) (y1 : -10000 ≤ y) (y2 : y ≤ 10000) : Place ms ls f c x (y + 10002).toNat := by
  refine ⟨by omega, fun i hi => ?_, fun _ => ?_⟩
  · have := nyOf_lt ok (show -10001 + (i : Int) ≤ y by omega)
    have := h.1; omega
  · rw [show -10001 + ((y + 10002).toNat : Int) = y + 1 by omega]; exact h.2
theorem year_of_place {f c : Int} {ms : List Mon} {ls : List Int} {x : Int} {r : Nat} (h : Place ms ls f c x r) (y1 : -10000 ≤ -10001 + (r : Int) - 1) (y2 : -10001 + (r : Int) - 1 ≤ 10000) : InYear ms ls f c (-10001 + (r : Int) - 1) x := by
  refine ⟨?_, ?_⟩
  · have := h.2.1 (r - 1) (by omega)
    rwa [show -10001 + ((r - 1 : Nat) : Int) = -10001 + (r : Int) - 1 by omega] at this
  · have := h.2.2 (by omega)
    rwa [show -10001 + (r : Int) - 1 + 1 = -10001 + (r : Int) by omega]
end Go.Proofs.YtlpbaljoanfogaaGreatDoor

set_option linter.unusedSimpArgs false
namespace Go.Proofs.YtlpbaljoanfogaaGreatDoor
set_option linter.unusedVariables false
set_option maxRecDepth 100000
open Go.RowKit
theorem arith_ToDay_err (w : World) (s : ByteArray) (f c : Int) (a1 a2 : Option Addr) (n1 c1 n2 c2 : Nat) (ms : List Mon) (ls : List Int) (y m d : Int) (hs : s.size ≤ 9223372036854775807) (k1 : n1 ≤ c1) (h : CalAt w a1 a2 n1 n2 ms ls) (q : ayErr (calErr s f c ms ls) y ≠ 0) :
    Calls Tryz.prog 47 #[.agg #[.string s, .int .i64 f, .int .i64 c, .slice a1 n1 c1, .slice a2 n2 c2], .agg #[.int .i64 y, .int .i64 m, .int .i64 d]] w fun e w' => e = .returned (.tuple #[.int .i64 0, .int .i64 (ayErr (calErr s f c ms ls) y)]) ∧ Below w.heap.size w w' := by
  have H := Lib.hid h; clear h
  obtain ⟨E, hE⟩ : ∃ E, E = ayErr (calErr s f c ms ls) y := ⟨_, rfl⟩
  rw [← hE] at q ⊢
  have HE := Lib.hid hE; clear hE
  have q' : (E != 0) = true := by simpa using q
  clear q
  go_enter Tryz.func47, Tryz.ntmps47
  go_wp2_with fail
  refine (arith_check _ _ _ _ _ _ _ _ _ _ ms ls y hs k1 ((H.out.alloc _).alloc _)).mono ?_; rw [← HE.out]; rintro e w1 ⟨rfl, hb⟩
  go_wp2_with fail
  go_ret2
  exact ⟨rfl, by (repeat' (first | exact bxR _ _ | assumption | refine bxD ?_ | refine bxN ?_ _ | refine bxA ?_ _ | refine bxS ?_ ?_ _ | refine bxT ?_ (by assumption) | refine bxW ?_ (by assumption) | exact Nat.le_refl _ | omega | (simp; done) | (simp; omega)))⟩
set_option maxHeartbeats 1000000 in
theorem arith_ToDay_month (w : World) (s : ByteArray) (f c : Int) (a1 a2 : Option Addr) (n1 c1 n2 c2 : Nat) (ms : List Mon) (ls : List Int) (y m d : Int) (hs : s.size ≤ 9223372036854775807) (k1 : n1 ≤ c1) (h : CalAt w a1 a2 n1 n2 ms ls) (q : calErr s f c ms ls = 0) (y1 : -10000 ≤ y) (y2 : y ≤ 10000) (hm : inB 1 (n1 : Int) m = false) :
    Calls Tryz.prog 47 #[.agg #[.string s, .int .i64 f, .int .i64 c, .slice a1 n1 c1, .slice a2 n2 c2], .agg #[.int .i64 y, .int .i64 m, .int .i64 d]] w fun e w' => e = .returned (.tuple #[.int .i64 0, .int .i64 1]) ∧ Below w.heap.size w w' := by
  have H := Lib.hid h; clear h
  have HE := Lib.hid (show ayErr (calErr s f c ms ls) y = 0 by rw [q, ayErr_ok y1 y2])
  clear q
  have hq : m < 1 ∨ (1 ≤ m ∧ (n1 : Int) < m) := by
    rcases inB_cases 1 (n1 : Int) m with ⟨h1, _⟩ | ⟨_, h2⟩
    · rw [hm] at h1; cases h1
    · omega
  clear hm
  rcases hq with q | ⟨q, q'⟩
  · have g1 : decide (m < 1) = true := by simpa using q
    go_enter Tryz.func47, Tryz.ntmps47
    go_wp2_with fail
    refine (arith_check _ _ _ _ _ _ _ _ _ _ ms ls y hs k1 ((H.out.alloc _).alloc _)).mono ?_; rw [HE.out]; rintro e w1 ⟨rfl, hb⟩
    have tw := (Two.new w (.cells #[.string s, .int .i64 f, .int .i64 c, .slice a1 n1 c1, .slice a2 n2 c2] 36) (.cells #[.int .i64 y, .int .i64 m, .int .i64 d] 26)).step hb
    clear hb
    obtain ⟨e0, e1, e2⟩ := tw.date
    obtain ⟨x0, x1, x2, x3, x4⟩ := tw.cal
    go_wp2_with fail
    go_quiet (fail)
    go_wp2_with fail
    go_ret2
    exact ⟨rfl, below_drewN tw.2.2 _⟩
  · have g1 : decide (m < 1) = false := by simp; omega
    have g2 : decide ((n1 : Int) < m) = true := by simpa using q'
    go_enter Tryz.func47, Tryz.ntmps47
    go_wp2_with fail
    refine (arith_check _ _ _ _ _ _ _ _ _ _ ms ls y hs k1 ((H.out.alloc _).alloc _)).mono ?_; rw [HE.out]; rintro e w1 ⟨rfl, hb⟩
    have tw := (Two.new w (.cells #[.string s, .int .i64 f, .int .i64 c, .slice a1 n1 c1, .slice a2 n2 c2] 36) (.cells #[.int .i64 y, .int .i64 m, .int .i64 d] 26)).step hb
    clear hb
    obtain ⟨e0, e1, e2⟩ := tw.date
    obtain ⟨x0, x1, x2, x3, x4⟩ := tw.cal
    go_wp2_with fail
    go_quiet (fail)
    go_wp2_with fail
    go_ret2
    exact ⟨rfl, below_drewN tw.2.2 _⟩
set_option maxHeartbeats 1000000 in
theorem arith_ToDay_day (w : World) (s : ByteArray) (f c : Int) (a1 a2 : Option Addr) (n1 c1 n2 c2 : Nat) (ms : List Mon) (ls : List Int) (y : Int) (k : Nat) (d : Int) (x : Mon) (hs : s.size ≤ 9223372036854775807) (k1 : n1 ≤ c1) (h : CalAt w a1 a2 n1 n2 ms ls) (q : calErr s f c ms ls = 0) (y1 : -10000 ≤ y) (y2 : y ≤ 10000) (hx : ms[k]? = some x) (hd : inB 1 (mlenOf x (flag ls (placeOf c y))) d = false) :
    Calls Tryz.prog 47 #[.agg #[.string s, .int .i64 f, .int .i64 c, .slice a1 n1 c1, .slice a2 n2 c2], .agg #[.int .i64 y, .int .i64 ((k : Int) + 1), .int .i64 d]] w fun e w' => e = .returned (.tuple #[.int .i64 0, .int .i64 1]) ∧ Below w.heap.size w w' := by
  have ok := calOk_of q
  obtain ⟨r1, r2, r3, r4⟩ := ok_n1 h ok
  have L1 := Lib.hid h.1.len
  have H := Lib.hid h; have OK := Lib.hid ok; have HX := Lib.hid hx
  have hk : k < n1 := by have := (List.getElem?_eq_some_iff.1 hx).1; have := L1.out; omega
  have HE := Lib.hid (show ayErr (calErr s f c ms ls) y = 0 by rw [q, ayErr_ok y1 y2])
  clear h ok hx q
  obtain ⟨ML, hML⟩ : ∃ ML, ML = mlenOf x (flag ls (placeOf c y)) := ⟨_, rfl⟩
  rw [← hML] at hd
  have HML := Lib.hid hML; clear hML
  have hq : d < 1 ∨ (1 ≤ d ∧ ML < d) := by
    rcases inB_cases 1 ML d with ⟨h1, _⟩ | ⟨_, h2⟩
    · rw [hd] at h1; cases h1
    · omega
  clear hd
  have g1 : decide ((k : Int) + 1 < 1) = false := by simp; omega
  have g2 : decide ((n1 : Int) < (k : Int) + 1) = false := by simp; omega
  rcases hq with q | ⟨q, q'⟩
  · have g3 : decide (d < 1) = true := by simpa using q
    go_enter Tryz.func47, Tryz.ntmps47
    go_wp2_with fail
    refine (arith_check _ _ _ _ _ _ _ _ _ _ ms ls y hs k1 ((H.out.alloc _).alloc _)).mono ?_; rw [HE.out]; rintro e w1 ⟨rfl, hb⟩
    have tw := (Two.new w (.cells #[.string s, .int .i64 f, .int .i64 c, .slice a1 n1 c1, .slice a2 n2 c2] 36) (.cells #[.int .i64 y, .int .i64 ((k : Int) + 1), .int .i64 d] 26)).step hb
    clear hb
    go_wp2_with fail
    obtain ⟨e0, e1, e2⟩ := tw.date
    obtain ⟨x0, x1, x2, x3, x4⟩ := tw.cal
    go_quiet (fail)
    go_wp2_with fail
    go_ret2
    exact ⟨rfl, below_drewN tw.2.2 _⟩
  · have g3 : decide (d < 1) = false := by simp; omega
    have g4 : decide (ML < d) = true := by simpa using q'
    go_enter Tryz.func47, Tryz.ntmps47
    go_wp2_with fail
    refine (arith_check _ _ _ _ _ _ _ _ _ _ ms ls y hs k1 ((H.out.alloc _).alloc _)).mono ?_; rw [HE.out]; rintro e w1 ⟨rfl, hb⟩
    have tw := (Two.new w (.cells #[.string s, .int .i64 f, .int .i64 c, .slice a1 n1 c1, .slice a2 n2 c2] 36) (.cells #[.int .i64 y, .int .i64 ((k : Int) + 1), .int .i64 d] 26)).step hb
    clear hb
    go_wp2_with fail
    (refine region_class (Two w (.cells #[.string s, .int .i64 f, .int .i64 c, .slice a1 n1 c1, .slice a2 n2 c2] 36) (.cells #[.int .i64 y, .int .i64 ((k : Int) + 1), .int .i64 d] 26)) (by kernel_rfl) (by kernel_rfl) (tw.drew) ?_; repeat ((first | (refine class_take ?_ (by rfl) ?_ ?_; rotate_left; focus (intro wq hq; ((obtain ⟨e0, e1, e2⟩ := hq.date; obtain ⟨x0, x1, x2, x3, x4⟩ := hq.cal)); go_simp; first | done | with_reducible rfl | (first | (go_at_call 73; refine (arith_length _ _ _ _ _ _ _ _ _ _ ms ls y k x OK.out.cy1 OK.out.cy2 OK.out.sorted r3 (by omega) (by omega) (H.out.then_ hq.2.2) r2 HX.out).mono ?_; rw [← HML.out]; rintro e w' ⟨rfl, hb⟩; refine ⟨?_, hq.step hb⟩; with_reducible rfl)))) | refine class_skip (by rfl) ?_); try simp only [Act.put, List.setIfInBounds_toArray, List.set_cons_zero, List.set_cons_succ]))
    refine wpQuiet_nil ?_
    intro W2 tw2
    go_wp2_with fail
    go_ret2
    exact ⟨rfl, tw2.2.2⟩
set_option maxHeartbeats 1000000 in
theorem arith_ToDay_ok (w : World) (s : ByteArray) (f c : Int) (a1 a2 : Option Addr) (n1 c1 n2 c2 : Nat) (ms : List Mon) (ls : List Int) (y : Int) (k : Nat) (d : Int) (x : Mon) (hs : s.size ≤ 9223372036854775807) (k1 : n1 ≤ c1) (h : CalAt w a1 a2 n1 n2 ms ls) (q : calErr s f c ms ls = 0) (y1 : -10000 ≤ y) (y2 : y ≤ 10000) (hx : ms[k]? = some x) (hd : inB 1 (mlenOf x (flag ls (placeOf c y))) d = true) :
    Calls Tryz.prog 47 #[.agg #[.string s, .int .i64 f, .int .i64 c, .slice a1 n1 c1, .slice a2 n2 c2], .agg #[.int .i64 y, .int .i64 ((k : Int) + 1), .int .i64 d]] w fun e w' => e = .returned (dayOr (dnum ms ls f c y k d)) ∧ Below w.heap.size w w' := by
  have hdb : 1 ≤ d ∧ d ≤ 400 := by
    have h1 := inB_iff.1 hd
    have h2 := mlenOf_bound (calOk_of q).lens hx (flag ls (placeOf c y))
    omega
  obtain ⟨d1, d2⟩ := hdb
  have ok := calOk_of q
  obtain ⟨r1, r2, r3, r4⟩ := ok_n1 h ok
  have L1 := Lib.hid h.1.len
  have H := Lib.hid h; have OK := Lib.hid ok; have HX := Lib.hid hx
  have hk : k < n1 := by have := (List.getElem?_eq_some_iff.1 hx).1; have := L1.out; omega
  have HE := Lib.hid (show ayErr (calErr s f c ms ls) y = 0 by rw [q, ayErr_ok y1 y2])
  clear h ok hx q
  obtain ⟨ML, hML⟩ : ∃ ML, ML = mlenOf x (flag ls (placeOf c y)) := ⟨_, rfl⟩
  rw [← hML] at hd
  have HML := Lib.hid hML; clear hML
  have hd' := inB_iff.1 hd
  clear hd
  have g1 : decide ((k : Int) + 1 < 1) = false := by simp; omega
  have g2 : decide ((n1 : Int) < (k : Int) + 1) = false := by simp; omega
  have g3 : decide (d < 1) = false := by simp; omega
  have g4 : decide (ML < d) = false := by simp; omega
  clear hd'
  go_enter Tryz.func47, Tryz.ntmps47
  go_wp2_with fail
  refine (arith_check _ _ _ _ _ _ _ _ _ _ ms ls y hs k1 ((H.out.alloc _).alloc _)).mono ?_; rw [HE.out]; rintro e w1 ⟨rfl, hb⟩
  have tw := (Two.new w (.cells #[.string s, .int .i64 f, .int .i64 c, .slice a1 n1 c1, .slice a2 n2 c2] 36) (.cells #[.int .i64 y, .int .i64 ((k : Int) + 1), .int .i64 d] 26)).step hb
  clear hb
  go_wp2_with fail
  (refine region_class (Two w (.cells #[.string s, .int .i64 f, .int .i64 c, .slice a1 n1 c1, .slice a2 n2 c2] 36) (.cells #[.int .i64 y, .int .i64 ((k : Int) + 1), .int .i64 d] 26)) (by kernel_rfl) (by kernel_rfl) (tw.drew) ?_; repeat ((first | (refine class_take ?_ (by rfl) ?_ ?_; rotate_left; focus (intro wq hq; ((obtain ⟨e0, e1, e2⟩ := hq.date; obtain ⟨x0, x1, x2, x3, x4⟩ := hq.cal)); go_simp; first | done | with_reducible rfl | (first | (go_at_call 73; refine (arith_length _ _ _ _ _ _ _ _ _ _ ms ls y k x OK.out.cy1 OK.out.cy2 OK.out.sorted r3 (by omega) (by omega) (H.out.then_ hq.2.2) r2 HX.out).mono ?_; rw [← HML.out]; rintro e w' ⟨rfl, hb⟩; refine ⟨?_, hq.step hb⟩; with_reducible rfl)))) | refine class_skip (by rfl) ?_); try simp only [Act.put, List.setIfInBounds_toArray, List.set_cons_zero, List.set_cons_succ]))
  refine wpQuiet_nil ?_
  intro W2 tw2
  clear tw g1 g2 g3 g4
  obtain ⟨e0, e1, e2⟩ := tw2.date
  obtain ⟨x0, x1, x2, x3, x4⟩ := tw2.cal
  go_wp2_with fail
  refine (arith_toDay _ _ _ _ _ _ _ _ _ _ ms ls y k d OK.out y1 y2 hk d1 d2 (H.out.then_ tw2.2.2)).mono ?_
  obtain ⟨u, v, huv⟩ : ∃ u v, dayOr (dnum ms ls f c y k d) = .tuple #[.int .i64 u, .int .i64 v] := by
    unfold dayOr; split
    · exact ⟨_, _, rfl⟩
    · exact ⟨_, _, rfl⟩
  rw [huv]
  have HUV := Lib.hid huv; clear huv
  rintro e w3 ⟨rfl, hb⟩
  have b3 := below_then tw2.2.2 hb
  go_wp2_with fail
  go_ret2
  exact ⟨by rw [HUV.out]; rfl, b3⟩
end Go.Proofs.YtlpbaljoanfogaaGreatDoor
