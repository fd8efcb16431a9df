/- Several texts in one: ToDay, From0, Later0. -/
import Derived.Test.YtlbjmpdonnlieaaGreatDoorMgG
import Derived.Test.YtlbjmpdonnlieaaGreatDoorMgY
import Derived.Test.YtlbjmpdonnlieaaGreatDoorMg5
set_option linter.unusedSimpArgs false
namespace Go.Proofs.YtlbjmpdonnlieaaGreatDoor
set_option linter.unusedVariables false
set_option maxRecDepth 100000
open Go.RowKit
def Two (w : World) (o1 o2 : Obj) (W : World) : Prop := At W w.heap.size o1 ∧ At W (w.heap.size + 1) o2 ∧ Below w.heap.size w W
theorem Two.new (w : World) (o1 o2 : Obj) : Two w o1 o2 ((w.alloc o1).alloc o2) := ⟨(At.new w _).alloc _, At.new1 w _ _, by exact bl⟩
theorem Two.step {w W W' : World} {o1 o2 : Obj} (h : Two w o1 o2 W) (hb : Below W.heap.size W W') : Two w o1 o2 W' := ⟨h.1.then_ hb, h.2.1.then_ hb, below_then h.2.2 hb⟩
theorem Two.drew {w W : World} {o1 o2 : Obj} (h : Two w o1 o2 W) : Two w o1 o2 W.drew := ⟨h.1.drew, h.2.1.drew, h.2.2.drew⟩
theorem Two.drewN {w W : World} {o1 o2 : Obj} (h : Two w o1 o2 W) (n : Nat) : Two w o1 o2 (W.drewN n) := ⟨h.1.drewN n, h.2.1.drewN n, below_drewN h.2.2 n⟩
theorem Two.date {w W : World} {o1 : Obj} {t : TypeId} {y m d : Int} (h : Two w o1 (.cells #[.int .i64 y, .int .i64 m, .int .i64 d] t) W) :
    W.cell? ⟨w.heap.size + 1, 0, none⟩ = some (.int .i64 y) ∧ W.cell? ⟨w.heap.size + 1, 1, none⟩ = some (.int .i64 m) ∧ W.cell? ⟨w.heap.size + 1, 2, none⟩ = some (.int .i64 d) :=
  ⟨h.2.1.cell 0, h.2.1.cell 1, h.2.1.cell 2⟩
theorem Two.cal {w W : World} {o2 : Obj} {t : TypeId} {v0 v1 v2 v3 v4 : Value} (h : Two w (.cells #[v0, v1, v2, v3, v4] t) o2 W) :
    W.cell? ⟨w.heap.size, 0, none⟩ = some v0 ∧ W.cell? ⟨w.heap.size, 1, none⟩ = some v1 ∧ W.cell? ⟨w.heap.size, 2, none⟩ = some v2 ∧ W.cell? ⟨w.heap.size, 3, none⟩ = some v3 ∧ W.cell? ⟨w.heap.size, 4, none⟩ = some v4 :=
  ⟨h.1.cell 0, h.1.cell 1, h.1.cell 2, h.1.cell 3, h.1.cell 4⟩
theorem Two.years {w W : World} {o2 : Obj} {t : TypeId} {v0 v1 v2 v3 v4 v5 v6 v7 v8 : Value} (h : Two w (.cells #[v0, v1, v2, v3, v4, v5, v6, v7, v8] t) o2 W) :
    W.cell? ⟨w.heap.size, 0, none⟩ = some v0 ∧ W.cell? ⟨w.heap.size, 1, none⟩ = some v1 ∧ W.cell? ⟨w.heap.size, 2, none⟩ = some v2 ∧ W.cell? ⟨w.heap.size, 3, none⟩ = some v3 ∧ W.cell? ⟨w.heap.size, 4, none⟩ = some v4 ∧ W.cell? ⟨w.heap.size, 5, none⟩ = some v5 ∧ W.cell? ⟨w.heap.size, 6, none⟩ = some v6 ∧ W.cell? ⟨w.heap.size, 7, none⟩ = some v7 ∧ W.cell? ⟨w.heap.size, 8, none⟩ = some v8 :=
  ⟨h.1.cell 0, h.1.cell 1, h.1.cell 2, h.1.cell 3, h.1.cell 4, h.1.cell 5, h.1.cell 6, h.1.cell 7, h.1.cell 8⟩
def sumM (ms : List Mon) (b : Bool) (k : Nat) : Int := ((ms.take k).map fun x => mlenOf x b).sum
theorem sumM_zero (ms : List Mon) (b : Bool) : sumM ms b 0 = 0 := by simp [sumM]
theorem sumM_succ {ms : List Mon} {b : Bool} {k : Nat} {x : Mon} (h : ms[k]? = some x) : sumM ms b (k + 1) = sumM ms b k + mlenOf x b := by
  unfold sumM; rw [take_one h, List.map_append, List.sum_append]; simp
theorem mlenOf_bound {ms : List Mon} (h : ∀ x ∈ ms, 0 ≤ x.2.1 ∧ x.2.1 ≤ 400 ∧ 0 ≤ x.2.2 ∧ x.2.2 ≤ 400) {k : Nat} {x : Mon} (hx : ms[k]? = some x) (b : Bool) : 0 ≤ mlenOf x b ∧ mlenOf x b ≤ 400 := by
  have := h x (List.mem_of_getElem? hx)
  unfold mlenOf; cases b <;> simp only [cond_true, cond_false] <;> omega
theorem sumM_bound {ms : List Mon} (h : ∀ x ∈ ms, 0 ≤ x.2.1 ∧ x.2.1 ≤ 400 ∧ 0 ≤ x.2.2 ∧ x.2.2 ≤ 400) (b : Bool) : ∀ k : Nat, k ≤ ms.length → 0 ≤ sumM ms b k ∧ sumM ms b k ≤ 400 * k
  | 0, _ => by rw [sumM_zero]; omega
  | k + 1, hk => by
    have ih := sumM_bound h b k (by omega)
    have hx := List.getElem?_eq_getElem (show k < ms.length by omega)
    have hb := mlenOf_bound h hx b
    rw [sumM_succ hx]; omega
theorem nyOf_bound {s : ByteArray} {f c : Int} {ms : List Mon} {ls : List Int} (ok : CalOk s f c ms ls) (y : Int) (y1 : -20000 ≤ y) (y2 : y ≤ 20000) : -500000000000 ≤ nyOf (shortOf ms) (longOf ms) f c ls y ∧ nyOf (shortOf ms) (longOf ms) f c ls y ≤ 500000000000 := by
  have cy1 := ok.cy1; have cy2 := ok.cy2; have ep1 := ok.ep1; have ep2 := ok.ep2
  have p := placeOf_in c y cy1
  have b1 := daysTo_bound (shortOf ms) (longOf ms) ls c (by omega) (by omega) ok.sh1 ok.sh2 ok.lo1 ok.lo2 ok.sorted (fun z hz => (ok.leaps z hz).1)
  have b2 := daysTo_bound (shortOf ms) (longOf ms) ls (placeOf c y) (by omega) (by omega) ok.sh1 ok.sh2 ok.lo1 ok.lo2 ok.sorted (fun z hz => (ok.leaps z hz).1)
  have hq : -20001 ≤ (y - 1) / c ∧ (y - 1) / c ≤ 20001 := by
    constructor
    · rw [Int.le_ediv_iff_mul_le (by omega)]
      have h3 : -20001 * c ≤ -20001 * 1 := by omega
      omega
    · refine Int.ediv_le_of_le_mul (by omega) ?_
      have h3 : 20001 * 1 ≤ 20001 * c := by omega
      omega
  have m := mul_in ((y - 1) / c) (daysTo (shortOf ms) (longOf ms) ls c) 20001 24000000 (by omega) (by omega) (by omega) (by omega)
  unfold nyOf
  have : (y - 1) % c = placeOf c y := rfl
  rw [this]
  omega
def dnum (ms : List Mon) (ls : List Int) (f c y : Int) (k : Nat) (d : Int) : Int := nyOf (shortOf ms) (longOf ms) f c ls y + sumM ms (flag ls (placeOf c y)) k + d - 1
set_option maxHeartbeats 2000000 in
theorem arith_toDay (w : World) (s : ByteArray) (f c : Int) (a1 a2 : Option Addr) (n1 c1 n2 c2 : Nat) (ms : List Mon) (ls : List Int) (y : Int) (k : Nat) (d : Int) (ok : CalOk s f c ms ls) (y1 : -10000 ≤ y) (y2 : y ≤ 10000) (hk : k < n1) (d1 : 1 ≤ d) (d2 : d ≤ 400) (h : CalAt w a1 a2 n1 n2 ms ls) :
    Calls Tryz.prog 121 #[.agg #[.string s, .int .i64 f, .int .i64 c, .slice a1 n1 c1, .slice a2 n2 c2], .agg #[.int .i64 y, .int .i64 ((k : Int) + 1), .int .i64 d]] w fun e w' => e = .returned (dayOr (dnum ms ls f c y k d)) ∧ Below w.heap.size w w' := by
  obtain ⟨r1, r2, r3, r4⟩ := ok_n1 h ok
  have L1 := Lib.hid h.1.len
  have hnb := nyOf_bound ok y (by omega) (by omega)
  obtain ⟨nb1, nb2⟩ := hnb
  have H := Lib.hid h; have OK := Lib.hid ok; clear h ok
  have HD := Lib.hid (show dnum ms ls f c y k d = nyOf (shortOf ms) (longOf ms) f c ls y + d - 1 + sumM ms (flag ls (placeOf c y)) k by unfold dnum; omega)
  obtain ⟨N, hN⟩ : ∃ N, N = nyOf (shortOf ms) (longOf ms) f c ls y := ⟨_, rfl⟩
  rw [← hN] at HD nb1 nb2
  have HN := Lib.hid hN; clear hN
  go_enter Tryz.func121, Tryz.ntmps121
  go_wp2_with fail
  have tw := Two.new w (.cells #[.string s, .int .i64 f, .int .i64 c, .slice a1 n1 c1, .slice a2 n2 c2] 39) (.cells #[.int .i64 y, .int .i64 ((k : Int) + 1), .int .i64 d] 52)
  generalize World.alloc (World.alloc w _) _ = W1 at tw ⊢
  have t1 : IntKind.i64.wrap (N + d) = N + d := IntWalk.i64_in _ (by omega)
  have t2 : IntKind.i64.wrap (N + d - 1) = N + d - 1 := IntWalk.i64_in _ (by omega)
  (refine region_class (Two w (.cells #[.string s, .int .i64 f, .int .i64 c, .slice a1 n1 c1, .slice a2 n2 c2] 39) (.cells #[.int .i64 y, .int .i64 ((k : Int) + 1), .int .i64 d] 52)) (by kernel_rfl) (by kernel_rfl) (tw.drew) ?_; repeat ((first | (refine class_take ?_ (by rfl) ?_ ?_; rotate_left; focus (intro wq hq; ((obtain ⟨e0, e1, e2⟩ := hq.date; obtain ⟨x0, x1, x2, x3, x4⟩ := hq.cal)); go_simp; first | done | with_reducible rfl | (first | (go_at_call 138; refine (arith_newYear _ _ _ _ _ _ _ _ _ _ ms ls y OK.out (by omega) (by omega) (H.out.then_ hq.2.2)).mono ?_; rw [← HN.out]; rintro e w' ⟨rfl, hb⟩; refine ⟨?_, hq.step hb⟩; with_reducible rfl)))) | refine class_skip (by rfl) ?_); try simp only [Act.put, List.setIfInBounds_toArray, List.set_cons_zero, List.set_cons_succ]))
  refine wpQuiet_nil ?_
  intro W2 tw2
  clear t1 t2 tw
  go_wp2_with fail
  go_loopw [6, 7] (fun t i wr => ∃ j : Nat, j ≤ k ∧ i = .int .i64 ((j : Int) + 1) ∧ t = .int .i64 (N + d - 1 + sumM ms (flag ls (placeOf c y)) j) ∧ Two w (.cells #[.string s, .int .i64 f, .int .i64 c, .slice a1 n1 c1, .slice a2 n2 c2] 39) (.cells #[.int .i64 y, .int .i64 ((k : Int) + 1), .int .i64 d] 52) wr) (fun _ i _ => k + 1 - (intOf i).toNat)
  case atStart => exact ⟨0, by omega, rfl, by rw [sumM_zero]; simp, tw2⟩
  case round =>
    clear tw2
    obtain ⟨j, hj, rfl, rfl, tw⟩ := hrel
    obtain ⟨sb1, sb2⟩ := sumM_bound OK.out.lens (flag ls (placeOf c y)) j (by have := L1.out; omega)
    obtain ⟨e0, e1, e2⟩ := tw.date
    obtain ⟨x0, x1, x2, x3, x4⟩ := tw.cal
    by_cases hlt : j < k
    · obtain ⟨x, hx⟩ : ∃ x, ms[j]? = some x := ⟨_, List.getElem?_eq_getElem (show j < ms.length by have := L1.out; omega)⟩
      have hsn := Lib.hid (sumM_succ (b := flag ls (placeOf c y)) hx)
      obtain ⟨mb1, mb2⟩ := mlenOf_bound OK.out.lens hx (flag ls (placeOf c y))
      have HX := Lib.hid hx; clear hx
      go_wp2_with fail
      refine (arith_length _ _ _ _ _ _ _ _ _ _ ms ls y j x OK.out.cy1 OK.out.cy2 OK.out.sorted r3 (by omega) (by omega) (H.out.then_ tw.2.2) r2 HX.out).mono ?_
      rintro e w3 ⟨rfl, hb⟩
      generalize mlenOf x (flag ls (placeOf c y)) = ML at *
      generalize hSM : sumM ms (flag ls (placeOf c y)) j = SM at *
      clear hSM e0 e1 e2 x0 x1 x2 x3 x4
      go_wp2_with fail
      go_roundw
      case rel => exact ⟨j + 1, by omega, by go_num, by rw [hsn.out]; go_num, tw.step hb⟩
      case measure => simp [intOf]; omega
    · obtain rfl : k = j := by omega
      rw [← HD.out]
      obtain ⟨D, hDD⟩ : ∃ D, D = dnum ms ls f c y k d := ⟨_, rfl⟩
      have hDb : -1000000000000 ≤ D ∧ D ≤ 1000000000000 := by rw [hDD, HD.out]; omega
      obtain ⟨Db1, Db2⟩ := hDb
      rw [← hDD]
      have HDD := Lib.hid hDD; clear hDD
      rcases inB_cases (-4000000) 4000000 D with ⟨hd, _⟩ | ⟨hd, _⟩
      · have ho := Lib.hid (show dayOr (dnum ms ls f c y k d) = .tuple #[.int .i64 D, .int .i64 0] by rw [← HDD.out]; exact if_pos hd)
        exact q78
      · have ho := Lib.hid (show dayOr (dnum ms ls f c y k d) = .tuple #[.int .i64 0, .int .i64 3] by rw [← HDD.out]; exact if_neg (by rw [hd]; simp))
        exact q78
theorem ref_In_at (b : Bool) (x l h : Int) (hb : inB l h x = b) (w : World) : Calls Tryz.prog 15 #[.int .i64 x, .int .i64 l, .int .i64 h] w fun e w' => e = .returned (.bool b) ∧ w = w' := by
  subst hb; exact ref_In x l h w
set_option maxHeartbeats 2000000 in
theorem years_ToDay_ok (w : World) (s : ByteArray) (f : Int) (C : Nat) (a1 a2 : Option Addr) (n1 c1 n2 c2 : Nat) (ms : List Mon) (ls : List Int) (g : Nat) (y : Int) (k : Nat) (d : Int) (x : Mon) (ok : CalOk s f C ms ls) (y1 : -10000 ≤ y) (y2 : y ≤ 10000) (hg : MarksAt w g C ls) (h : CalAt w a1 a2 n1 n2 ms ls) (hx : ms[k]? = some x) (hd : inB 1 (mlenOf x (flag ls (placeOf C y))) d = true) :
    Calls Tryz.prog 87 #[.agg #[.string s, .int .i64 f, .int .i64 (C : Int), .slice a1 n1 c1, .slice a2 n2 c2, .slice (some ⟨g, 0, none⟩) C C, .int .i64 (shortOf ms), .int .i64 (longOf ms), .int .i64 (daysTo (shortOf ms) (longOf ms) ls (C : Int))], .agg #[.int .i64 y, .int .i64 ((k : Int) + 1), .int .i64 d]] w fun e w' => e = .returned (dayOr (dnum ms ls f C y k d)) ∧ Below w.heap.size w w' := by
  have hdb : 1 ≤ d ∧ d ≤ 400 := by
    have h1 := inB_iff.1 hd
    have h2 := mlenOf_bound ok.lens hx (flag ls (placeOf C y))
    omega
  obtain ⟨d1, d2⟩ := hdb
  have hnb := nyOf_bound ok y (by omega) (by omega)
  obtain ⟨nb1, nb2⟩ := hnb
  obtain ⟨r1, r2, r3, r4⟩ := ok_n1 h ok
  have cy1 : 1 ≤ C := by have := ok.cy1; omega
  have cy2 : C ≤ 3000 := by have := ok.cy2; omega
  have L1 := Lib.hid h.1.len
  have H := Lib.hid h; have OK := Lib.hid ok; have HG := Lib.hid hg; have HX := Lib.hid hx
  have hk : k < n1 := by have := (List.getElem?_eq_some_iff.1 hx).1; have := L1.out; omega
  clear h ok hg hx
  have hm : inB 1 (n1 : Int) ((k : Int) + 1) = true := inB_yes (by omega) (by omega)
  obtain ⟨ML, hML⟩ : ∃ ML, ML = mlenOf x (flag ls (placeOf C y)) := ⟨_, rfl⟩
  rw [← hML] at hd
  have HML := Lib.hid hML; clear hML
  have hy := inB_yes y1 y2
  have HD := Lib.hid (show dnum ms ls f C y k d = nyOf (shortOf ms) (longOf ms) f C ls y + d - 1 + sumM ms (flag ls (placeOf C y)) k by unfold dnum; omega)
  obtain ⟨N, hN⟩ : ∃ N, N = nyOf (shortOf ms) (longOf ms) f C ls y := ⟨_, rfl⟩
  rw [← hN] at HD nb1 nb2
  have HN := Lib.hid hN; clear hN
  go_enter Tryz.func87, Tryz.ntmps87
  go_wp2_with fail
  refine (ref_In _ _ _ _).mono ?_; rw [hy]; rintro e w3 ⟨rfl, rfl⟩
  go_wp2_with fail
  have tw := Two.new w (.cells #[.string s, .int .i64 f, .int .i64 (C : Int), .slice a1 n1 c1, .slice a2 n2 c2, .slice (some ⟨g, 0, none⟩) C C, .int .i64 (shortOf ms), .int .i64 (longOf ms), .int .i64 (daysTo (shortOf ms) (longOf ms) ls (C : Int))] 43) (.cells #[.int .i64 y, .int .i64 ((k : Int) + 1), .int .i64 d] 52)
  generalize World.alloc (World.alloc w _) _ = W1 at tw ⊢
  (refine region_class (Two w (.cells #[.string s, .int .i64 f, .int .i64 (C : Int), .slice a1 n1 c1, .slice a2 n2 c2, .slice (some ⟨g, 0, none⟩) C C, .int .i64 (shortOf ms), .int .i64 (longOf ms), .int .i64 (daysTo (shortOf ms) (longOf ms) ls (C : Int))] 43) (.cells #[.int .i64 y, .int .i64 ((k : Int) + 1), .int .i64 d] 52)) (by kernel_rfl) (by kernel_rfl) (tw.drew) ?_; repeat ((first | (refine class_take ?_ (by rfl) ?_ ?_; rotate_left; focus (intro wq hq; ((obtain ⟨e0, e1, e2⟩ := hq.date; obtain ⟨x0, x1, x2, x3, x4, x5, x6, x7, x8⟩ := hq.years)); go_simp; first | done | with_reducible rfl | (first | (go_at_call 15; first | ((with_reducible refine (ref_In_at true ((k : Int) + 1) 1 (n1 : Int) hm _).mono ?_); rintro e w' ⟨rfl, rfl⟩; refine ⟨?_, hq⟩; with_reducible rfl) | ((with_reducible refine (ref_In_at true d 1 ML hd _).mono ?_); rintro e w' ⟨rfl, rfl⟩; refine ⟨?_, hq⟩; with_reducible rfl)) | (go_at_call 50; refine (years_Month _ s f C a1 a2 n1 c1 n2 c2 ms ls g y _ _ _ k x cy1 cy2 (by omega) (by omega) (HG.out.then_ hq.2.2) (H.out.then_ hq.2.2) r2 HX.out).mono ?_; rw [← HML.out]; rintro e w' ⟨rfl, hb⟩; refine ⟨?_, hq.step hb⟩; with_reducible rfl)))) | refine class_skip (by rfl) ?_); try simp only [Act.put, List.setIfInBounds_toArray, List.set_cons_zero, List.set_cons_succ]))
  refine wpQuiet_nil ?_
  intro W2 tw2
  clear tw
  go_wp2_with fail
  have t1 : IntKind.i64.wrap (N + d) = N + d := IntWalk.i64_in _ (by omega)
  have t2 : IntKind.i64.wrap (N + d - 1) = N + d - 1 := IntWalk.i64_in _ (by omega)
  (refine region_class (Two w (.cells #[.string s, .int .i64 f, .int .i64 (C : Int), .slice a1 n1 c1, .slice a2 n2 c2, .slice (some ⟨g, 0, none⟩) C C, .int .i64 (shortOf ms), .int .i64 (longOf ms), .int .i64 (daysTo (shortOf ms) (longOf ms) ls (C : Int))] 43) (.cells #[.int .i64 y, .int .i64 ((k : Int) + 1), .int .i64 d] 52)) (by kernel_rfl) (by kernel_rfl) (tw2.drew) ?_; repeat ((first | (refine class_take ?_ (by rfl) ?_ ?_; rotate_left; focus (intro wq hq; ((obtain ⟨e0, e1, e2⟩ := hq.date; obtain ⟨x0, x1, x2, x3, x4, x5, x6, x7, x8⟩ := hq.years)); go_simp; first | done | with_reducible rfl | (first | (go_at_call 134; refine (years_NewYear _ s f C a1 a2 n1 c1 n2 c2 ms ls g y OK.out (by omega) (by omega) (HG.out.then_ hq.2.2)).mono ?_; rw [← HN.out]; rintro e w' ⟨rfl, hb⟩; refine ⟨?_, hq.step hb⟩; with_reducible rfl)))) | refine class_skip (by rfl) ?_); try simp only [Act.put, List.setIfInBounds_toArray, List.set_cons_zero, List.set_cons_succ]))
  refine wpQuiet_nil ?_
  intro W3 tw3
  clear t1 t2 tw2
  go_wp2_with fail
  go_loopw [6, 7] (fun t i wr => ∃ j : Nat, j ≤ k ∧ i = .int .i64 ((j : Int) + 1) ∧ t = .int .i64 (N + d - 1 + sumM ms (flag ls (placeOf C y)) j) ∧ Two w (.cells #[.string s, .int .i64 f, .int .i64 (C : Int), .slice a1 n1 c1, .slice a2 n2 c2, .slice (some ⟨g, 0, none⟩) C C, .int .i64 (shortOf ms), .int .i64 (longOf ms), .int .i64 (daysTo (shortOf ms) (longOf ms) ls (C : Int))] 43) (.cells #[.int .i64 y, .int .i64 ((k : Int) + 1), .int .i64 d] 52) wr) (fun _ i _ => k + 1 - (intOf i).toNat)
  case atStart => exact ⟨0, by omega, rfl, by rw [sumM_zero]; simp, tw3⟩
  case round =>
    clear tw3
    obtain ⟨j, hj, rfl, rfl, tw⟩ := hrel
    obtain ⟨sb1, sb2⟩ := sumM_bound OK.out.lens (flag ls (placeOf C y)) j (by have := L1.out; omega)
    obtain ⟨e0, e1, e2⟩ := tw.date
    by_cases hlt : j < k
    · obtain ⟨x', hx⟩ : ∃ x, ms[j]? = some x := ⟨_, List.getElem?_eq_getElem (show j < ms.length by have := L1.out; omega)⟩
      have hsn := Lib.hid (sumM_succ (b := flag ls (placeOf C y)) hx)
      obtain ⟨mb1, mb2⟩ := mlenOf_bound OK.out.lens hx (flag ls (placeOf C y))
      have HX' := Lib.hid hx; clear hx
      obtain ⟨x0, x1, x2, x3, x4, x5, x6, x7, x8⟩ := tw.years
      go_wp2_with fail
      refine (years_Month _ s f C a1 a2 n1 c1 n2 c2 ms ls g y _ _ _ j x' cy1 cy2 (by omega) (by omega) (HG.out.then_ tw.2.2) (H.out.then_ tw.2.2) r2 HX'.out).mono ?_
      rintro e w3 ⟨rfl, hb⟩
      generalize mlenOf x' (flag ls (placeOf C y)) = ML' at *
      generalize hSM : sumM ms (flag ls (placeOf C y)) j = SM at *
      clear hSM e0 e1 e2 x0 x1 x2 x3 x4 x5 x6 x7 x8
      go_wp2_with fail
      go_roundw
      case rel => exact ⟨j + 1, by omega, by go_num, by rw [hsn.out]; go_num, tw.step hb⟩
      case measure => simp [intOf]; omega
    · obtain rfl : k = j := by omega
      rw [← HD.out]
      obtain ⟨D, hDD⟩ : ∃ D, D = dnum ms ls f C y k d := ⟨_, rfl⟩
      have hDb : -1000000000000 ≤ D ∧ D ≤ 1000000000000 := by rw [hDD, HD.out]; omega
      obtain ⟨Db1, Db2⟩ := hDb
      rw [← hDD]
      have HDD := Lib.hid hDD; clear hDD
      rcases inB_cases (-4000000) 4000000 D with ⟨hdd, _⟩ | ⟨hdd, _⟩
      · have ho := Lib.hid (show dayOr (dnum ms ls f C y k d) = .tuple #[.int .i64 D, .int .i64 0] by rw [← HDD.out]; exact if_pos hdd)
        exact q77
      · have ho := Lib.hid (show dayOr (dnum ms ls f C y k d) = .tuple #[.int .i64 0, .int .i64 3] by rw [← HDD.out]; exact if_neg (by rw [hdd]; simp))
        exact q77
theorem nyOf_succ {s : ByteArray} {f c : Int} {ms : List Mon} {ls : List Int} (ok : CalOk s f c ms ls) (y : Int) :
    nyOf (shortOf ms) (longOf ms) f c ls (y + 1) = nyOf (shortOf ms) (longOf ms) f c ls y + lenY (shortOf ms) (longOf ms) (flag ls (placeOf c y)) := by
  have hc := ok.cy1
  have p := placeOf_in c y hc
  have h1 : c * ((y - 1) / c) + (y - 1) % c = y - 1 := Int.mul_ediv_add_emod _ _
  have hp : (y - 1) % c = placeOf c y := rfl
  have hs := daysTo_succ (shortOf ms) (longOf ms) ls (placeOf c y) ok.sorted
  have h0 := daysTo_zero (shortOf ms) (longOf ms) ls (fun z hz => (ok.leaps z hz).1)
  unfold nyOf
  rw [show y + 1 - 1 = y by omega, hp]
  by_cases hl : placeOf c y + 1 = c
  · have e : y = 0 + c * ((y - 1) / c + 1) := by rw [Int.mul_add]; rw [hp] at h1; omega
    have e1 : y / c = (y - 1) / c + 1 := by
      conv => lhs; rw [e]
      rw [Int.add_mul_ediv_left _ _ (by omega)]; simp
    have e2 : y % c = 0 := by
      conv => lhs; rw [e]
      rw [Int.add_mul_emod_self_left]; simp
    rw [e1, e2, h0, Int.add_mul]
    rw [hl] at hs
    omega
  · have e : y = (placeOf c y + 1) + c * ((y - 1) / c) := by rw [hp] at h1; omega
    have e1 : y / c = (y - 1) / c := by
      conv => lhs; rw [e]
      rw [Int.add_mul_ediv_left _ _ (by omega), Int.ediv_eq_zero_of_lt (by omega) (by omega)]; simp
    have e2 : y % c = placeOf c y + 1 := by
      conv => lhs; rw [e]
      rw [Int.add_mul_emod_self_left, Int.emod_eq_of_lt (by omega) (by omega)]
    rw [e1, e2, hs]
    omega
theorem lenY_pos {s : ByteArray} {f c : Int} {ms : List Mon} {ls : List Int} (ok : CalOk s f c ms ls) (b : Bool) : 1 ≤ lenY (shortOf ms) (longOf ms) b ∧ lenY (shortOf ms) (longOf ms) b ≤ 8000 := by
  have h1 := ok.sh1; have h2 := ok.sh2; have h3 := ok.lo1; have h4 := ok.lo2
  unfold lenY; cases b <;> simp only [cond_true, cond_false] <;> omega
theorem nyOf_mono {s : ByteArray} {f c : Int} {ms : List Mon} {ls : List Int} (ok : CalOk s f c ms ls) (a : Int) (n : Nat) : nyOf (shortOf ms) (longOf ms) f c ls a + n ≤ nyOf (shortOf ms) (longOf ms) f c ls (a + n) := by
  induction n with
  | zero => simp
  | succ n ih =>
    have h := nyOf_succ ok (a + n)
    have p := lenY_pos ok (flag ls (placeOf c (a + n)))
    rw [show a + ((n + 1 : Nat) : Int) = a + n + 1 by omega, h]
    omega
theorem nyOf_lt {s : ByteArray} {f c : Int} {ms : List Mon} {ls : List Int} (ok : CalOk s f c ms ls) {a b : Int} (h : a ≤ b) : nyOf (shortOf ms) (longOf ms) f c ls a + (b - a) ≤ nyOf (shortOf ms) (longOf ms) f c ls b := by
  have := nyOf_mono ok a (b - a).toNat
  rw [show a + (((b - a).toNat : Nat) : Int) = b by omega] at this
  omega
def InYear (ms : List Mon) (ls : List Int) (f c y x : Int) : Prop := nyOf (shortOf ms) (longOf ms) f c ls y ≤ x ∧ x < nyOf (shortOf ms) (longOf ms) f c ls (y + 1)
theorem InYear.unique {s : ByteArray} {f c : Int} {ms : List Mon} {ls : List Int} (ok : CalOk s f c ms ls) {y y' x : Int} (h : InYear ms ls f c y x) (h' : InYear ms ls f c y' x) : y = y' := by
  rcases Int.lt_trichotomy y y' with q | q | q
  · have := nyOf_lt ok (show y + 1 ≤ y' by omega); have := h.2; have := h'.1; omega
  · exact q
  · have := nyOf_lt ok (show y' + 1 ≤ y by omega); have := h'.2; have := h.1; omega
def findM (b : Bool) : List Mon → Int → Nat → Nat × Int
  | [], r, k => (k, r)
  | x :: l, r, k => if r < mlenOf x b then (k, r) else findM b l (r - mlenOf x b) (k + 1)
theorem findM_cons (b : Bool) (x : Mon) (l : List Mon) (r : Int) (k : Nat) : findM b (x :: l) r k = if r < mlenOf x b then (k, r) else findM b l (r - mlenOf x b) (k + 1) := by rw [findM.eq_def]
def FindTo (b : Bool) (ms : List Mon) (r0 : Int) (k : Nat) (r : Int) : Prop := k ≤ ms.length ∧ 0 ≤ r ∧ r = r0 - sumM ms b k ∧ findM b (ms.drop k) r k = findM b ms r0 0
theorem FindTo.start (b : Bool) (ms : List Mon) (r0 : Int) (h : 0 ≤ r0) : FindTo b ms r0 0 r0 := ⟨by omega, h, by rw [sumM_zero]; omega, rfl⟩
theorem FindTo.stop {b : Bool} {ms : List Mon} {r0 r : Int} {k : Nat} {x : Mon} (h : FindTo b ms r0 k r) (hx : ms[k]? = some x) (hr : r < mlenOf x b) : findM b ms r0 0 = (k, r) := by
  rw [← h.2.2.2, drop_one hx, findM_cons, if_pos hr]
theorem FindTo.next {b : Bool} {ms : List Mon} {r0 r : Int} {k : Nat} {x : Mon} (h : FindTo b ms r0 k r) (hx : ms[k]? = some x) (hr : ¬ r < mlenOf x b) : FindTo b ms r0 (k + 1) (r - mlenOf x b) := by
  refine ⟨by have := (List.getElem?_eq_some_iff.1 hx).1; omega, by omega, ?_, ?_⟩
  · rw [sumM_succ hx]; have := h.2.2.1; omega
  · rw [← h.2.2.2, drop_one hx, findM_cons, if_neg hr]
theorem sumM_all (ms : List Mon) (b : Bool) : sumM ms b ms.length = lenY (shortOf ms) (longOf ms) b := by
  unfold sumM lenY shortOf longOf
  rw [List.take_length]
  cases b <;> rfl
theorem FindTo.in_ {b : Bool} {ms : List Mon} {r0 r : Int} {k : Nat} (h : FindTo b ms r0 k r) (hr : r0 < lenY (shortOf ms) (longOf ms) b) : k < ms.length := by
  rcases Nat.lt_or_ge k ms.length with q | q
  · exact q
  · have : k = ms.length := by have := h.1; omega
    have h3 := h.2.2.1
    rw [this, sumM_all] at h3
    have := h.2.1; omega
def dateAt (y : Int) (k : Nat) (r : Int) : Value := .tuple #[.agg #[.int .i64 y, .int .i64 ((k : Int) + 1), .int .i64 (r + 1)], .int .i64 0]
def noDate : Value := .tuple #[.agg #[.int .i64 0, .int .i64 0, .int .i64 0], .int .i64 3]
def stepP (n : Nat) (up : Bool) (p : Int × Nat) : Int × Nat :=
  if up then (if p.2 + 1 < n then (p.1, p.2 + 1) else (p.1 + 1, 0)) else (if 1 ≤ p.2 then (p.1, p.2 - 1) else (p.1 - 1, n - 1))
theorem stepP_in {n : Nat} {up : Bool} {p : Int × Nat} (h : p.2 < n) : (stepP n up p).2 < n := by
  unfold stepP
  split
  · split <;> simp <;> omega
  · split <;> simp <;> omega
theorem stepP_year {n : Nat} {up : Bool} {p : Int × Nat} : p.1 - 1 ≤ (stepP n up p).1 ∧ (stepP n up p).1 ≤ p.1 + 1 := by
  unfold stepP
  split
  · split <;> simp <;> omega
  · split <;> simp <;> omega
theorem stepP_up {n : Nat} {y : Int} {k : Nat} (h : k + 1 < n) : stepP n true (y, k) = (y, k + 1) := by simp [stepP, h]
theorem stepP_over {n : Nat} {y : Int} {k : Nat} (h : ¬ k + 1 < n) : stepP n true (y, k) = (y + 1, 0) := by simp [stepP, h]
theorem stepP_down {n : Nat} {y : Int} {k : Nat} (h : 1 ≤ k) : stepP n false (y, k) = (y, k - 1) := by simp [stepP, h]
theorem stepP_under {n : Nat} {y : Int} : stepP n false (y, 0) = (y - 1, n - 1) := by simp [stepP]
def itP (n : Nat) (up : Bool) : Nat → Int × Nat → Int × Nat
  | 0, p => p
  | j + 1, p => stepP n up (itP n up j p)
theorem itP_succ (n : Nat) (up : Bool) (j : Nat) (p : Int × Nat) : itP n up (j + 1) p = stepP n up (itP n up j p) := rfl
theorem itP_next (n : Nat) (up : Bool) (p : Int × Nat) : ∀ j, itP n up (j + 1) p = itP n up j (stepP n up p)
  | 0 => rfl
  | j + 1 => by rw [itP_succ, itP_next n up p j, itP_succ]
theorem itP_in {n : Nat} {up : Bool} {p : Int × Nat} (h : p.2 < n) : ∀ j, (itP n up j p).2 < n
  | 0 => h
  | j + 1 => by rw [itP_succ]; exact stepP_in (itP_in h j)
def lenAt (ms : List Mon) (ls : List Int) (c : Int) (p : Int × Nat) : Int := match ms[p.2]? with | some x => mlenOf x (flag ls (placeOf c p.1)) | none => 0
theorem lenAt_of {ms : List Mon} {ls : List Int} {c : Int} {p : Int × Nat} {x : Mon} (h : ms[p.2]? = some x) : lenAt ms ls c p = mlenOf x (flag ls (placeOf c p.1)) := by unfold lenAt; rw [h]
def InP (p : Int × Nat) : Prop := -10000 ≤ p.1 ∧ p.1 ≤ 10000
instance (p : Int × Nat) : Decidable (InP p) := by unfold InP; exact inferInstance
def Seek (ms : List Mon) (ls : List Int) (c : Int) (up : Bool) (p : Int × Nat) (r : Option (Int × Nat)) : Prop :=
  ∃ k : Nat, (∀ j, j < k → InP (itP ms.length up j p) ∧ lenAt ms ls c (itP ms.length up j p) = 0) ∧
    ((r = none ∧ ¬ InP (itP ms.length up k p)) ∨ (r = some (itP ms.length up k p) ∧ InP (itP ms.length up k p) ∧ 0 < lenAt ms ls c (itP ms.length up k p)))
theorem Seek.out {ms : List Mon} {ls : List Int} {c : Int} {up : Bool} {p : Int × Nat} (h : ¬ InP p) : Seek ms ls c up p none :=
  ⟨0, fun j hj => absurd hj (by omega), .inl ⟨rfl, h⟩⟩
theorem Seek.here {ms : List Mon} {ls : List Int} {c : Int} {up : Bool} {p : Int × Nat} (h : InP p) (h' : 0 < lenAt ms ls c p) : Seek ms ls c up p (some p) :=
  ⟨0, fun j hj => absurd hj (by omega), .inr ⟨rfl, h, h'⟩⟩
theorem Seek.next {ms : List Mon} {ls : List Int} {c : Int} {up : Bool} {p : Int × Nat} {r : Option (Int × Nat)} (h : InP p) (h' : lenAt ms ls c p = 0) (hs : Seek ms ls c up (stepP ms.length up p) r) : Seek ms ls c up p r := by
  obtain ⟨k, h1, h2⟩ := hs
  refine ⟨k + 1, fun j hj => ?_, ?_⟩
  · cases j with
    | zero => exact ⟨h, h'⟩
    | succ j => rw [itP_next]; exact h1 j (by omega)
  · rw [itP_next]; exact h2
theorem Seek.cases {ms : List Mon} {ls : List Int} {c : Int} {up : Bool} {p : Int × Nat} {r : Option (Int × Nat)} (hs : Seek ms ls c up p r) :
    (r = none ∧ ¬ InP p) ∨ (r = some p ∧ InP p ∧ 0 < lenAt ms ls c p) ∨ (InP p ∧ lenAt ms ls c p = 0 ∧ Seek ms ls c up (stepP ms.length up p) r) := by
  obtain ⟨k, h1, h2⟩ := hs
  cases k with
  | zero =>
    rcases h2 with ⟨a, b⟩ | ⟨a, b, d⟩
    · exact .inl ⟨a, b⟩
    · exact .inr (.inl ⟨a, b, d⟩)
  | succ k =>
    have h0 := h1 0 (by omega)
    refine .inr (.inr ⟨h0.1, h0.2, k, fun j hj => ?_, ?_⟩)
    · have := h1 (j + 1) (by omega); rw [itP_next] at this; exact this
    · rw [itP_next] at h2; exact h2
def farP (n : Nat) (up : Bool) (p : Int × Nat) : Nat := if up then ((10001 - p.1) * n - p.2).toNat else ((p.1 + 10000) * n + p.2 + 1).toNat
theorem farP_step {n : Nat} {up : Bool} {p : Int × Nat} (h : p.2 < n) (hi : InP p) : farP n up (stepP n up p) < farP n up p := by
  obtain ⟨y, k⟩ := p
  obtain ⟨h1, h2⟩ := hi
  simp only at h h1 h2
  unfold farP
  cases up with
  | true =>
    simp only [if_true]
    have m1 : 0 ≤ (10000 - y) * (n : Int) := Int.mul_nonneg (by omega) (by omega)
    have e : (10001 - y) * (n : Int) = (10000 - y) * (n : Int) + n := by rw [show 10001 - y = (10000 - y) + 1 by omega, Int.add_mul]; omega
    by_cases q : k + 1 < n
    · rw [stepP_up q]; simp only; rw [e]; omega
    · rw [stepP_over q]; simp only; rw [e, show 10001 - (y + 1) = 10000 - y by omega]; omega
  | false =>
    have m1 : 0 ≤ (y + 10000) * (n : Int) := Int.mul_nonneg (by omega) (by omega)
    by_cases q : 1 ≤ k
    · rw [stepP_down q]; simp only [Bool.false_eq_true, if_false]; omega
    · obtain rfl : k = 0 := by omega
      rw [stepP_under]; simp only [Bool.false_eq_true, if_false]
      have e : (y - 1 + 10000) * (n : Int) = (y + 10000) * (n : Int) - n := by rw [show y - 1 + 10000 = (y + 10000) - 1 by omega, Int.sub_mul]; omega
      rw [e]; omega
theorem lenAt_nonneg {s : ByteArray} {f c : Int} {ms : List Mon} {ls : List Int} (ok : CalOk s f c ms ls) (p : Int × Nat) : 0 ≤ lenAt ms ls c p ∧ lenAt ms ls c p ≤ 400 := by
  unfold lenAt
  split
  · rename_i x hx; exact mlenOf_bound ok.lens hx _
  · omega
theorem seek_exists {s : ByteArray} {f c : Int} {ms : List Mon} {ls : List Int} (ok : CalOk s f c ms ls) (up : Bool) : ∀ (N : Nat) (p : Int × Nat), p.2 < ms.length → farP ms.length up p ≤ N → ∃ r, Seek ms ls c up p r
  | 0, p, hp, hf => by
    by_cases hi : InP p
    · have := farP_step (up := up) hp hi; omega
    · exact ⟨_, Seek.out hi⟩
  | N + 1, p, hp, hf => by
    by_cases hi : InP p
    · by_cases hl : 0 < lenAt ms ls c p
      · exact ⟨_, Seek.here hi hl⟩
      · have := farP_step (up := up) hp hi
        obtain ⟨r, hr⟩ := seek_exists ok up N (stepP ms.length up p) (stepP_in hp) (by omega)
        exact ⟨r, Seek.next hi (by have := lenAt_nonneg ok p; omega) hr⟩
    · exact ⟨_, Seek.out hi⟩
theorem seek_in {ms : List Mon} {ls : List Int} {c : Int} {up : Bool} {p q : Int × Nat} (h : Seek ms ls c up p (some q)) (hp : p.2 < ms.length) : q.2 < ms.length ∧ InP q ∧ 0 < lenAt ms ls c q := by
  obtain ⟨k, h1, h2⟩ := h
  rcases h2 with ⟨a, _⟩ | ⟨a, b, d⟩
  · cases a
  · injection a with a; subst a; exact ⟨itP_in hp k, b, d⟩
def Chain (ms : List Mon) (ls : List Int) (c : Int) (up : Bool) : Nat → Int × Nat → Option (Int × Nat) → Prop
  | 0, p, r => r = some p
  | n + 1, p, r => (Seek ms ls c up (stepP ms.length up p) none ∧ r = none) ∨ ∃ q, Seek ms ls c up (stepP ms.length up p) (some q) ∧ Chain ms ls c up n q r
theorem chain_exists {s : ByteArray} {f c : Int} {ms : List Mon} {ls : List Int} (ok : CalOk s f c ms ls) (up : Bool) : ∀ (n : Nat) (p : Int × Nat), p.2 < ms.length → ∃ r, Chain ms ls c up n p r
  | 0, p, _ => ⟨_, rfl⟩
  | n + 1, p, hp => by
    obtain ⟨r, hr⟩ := seek_exists ok up _ (stepP ms.length up p) (stepP_in hp) (Nat.le_refl _)
    cases r with
    | none => exact ⟨none, .inl ⟨hr, rfl⟩⟩
    | some q =>
      obtain ⟨r', hr'⟩ := chain_exists ok up n q (seek_in hr (stepP_in hp)).1
      exact ⟨r', .inr ⟨q, hr, hr'⟩⟩
theorem Chain.in_ {ms : List Mon} {ls : List Int} {c : Int} {up : Bool} : ∀ {n : Nat} {p q : Int × Nat}, Chain ms ls c up n p (some q) → p.2 < ms.length → InP p → 0 < lenAt ms ls c p → q.2 < ms.length ∧ InP q ∧ 0 < lenAt ms ls c q
  | 0, p, q, h, hp, hi, hl => by
    have : some q = some p := h
    injection this with e; subst e; exact ⟨hp, hi, hl⟩
  | n + 1, p, q, h, hp, hi, hl => by
    rcases h with ⟨_, h⟩ | ⟨q', hs, h⟩
    · cases h
    · obtain ⟨a, b, d⟩ := seek_in hs (stepP_in hp)
      exact h.in_ a b d
end Go.Proofs.YtlbjmpdonnlieaaGreatDoor
