/- Contracts of the lunisolar calendar's small functions. -/
import Derived.Test.YtjjmbnflhldoeaaLuni0
import Derived.Test.YtjjmbnflhldoeaaMoon3
import Derived.Test.YtjjmbnflhldoeaaQuiet
import Derived.Test.YtjjmbnflhldoeaaSearch
import Derived.Test.YtjjmbnflhldoeaaArith2
namespace Go.Proofs.Ytjjmbnflhldoeaa
set_option linter.unusedVariables false
set_option maxRecDepth 100000
open Go.RowKit

/-- The box of the argument, and all that was there. -/
def OneM (w0 : World) (b : Nat) (o : Obj) (W : World) : Prop := At W b o ∧ Below w0.heap.size w0 W
theorem OneM.step {w0 W W' : World} {b : Nat} {o : Obj} (h : OneM w0 b o W) (hb : Below W.heap.size W W') : OneM w0 b o W' := ⟨h.1.then_ hb, below_then h.2 hb⟩
theorem OneM.below {w0 W : World} {b : Nat} {o : Obj} (h : OneM w0 b o W) : Below w0.heap.size w0 W := h.2
theorem OneM.drew {w0 W : World} {b : Nat} {o : Obj} (h : OneM w0 b o W) : OneM w0 b o W.drew := ⟨h.1.drew, h.2.drew⟩
theorem OneM.drewN {w0 W : World} {b : Nat} {o : Obj} (h : OneM w0 b o W) (n : Nat) : OneM w0 b o (W.drewN n) := ⟨h.1.drewN n, below_drewN h.2 n⟩
theorem OneM.drawn {w0 W W' : World} {b : Nat} {o : Obj} (h : OneM w0 b o W) (d : Drawn W W') : OneM w0 b o W' := ⟨h.1.drawn d, below_drawn h.2 d⟩
theorem OneM.new (w : World) (o : Obj) : OneM w w.heap.size o (w.alloc o) := ⟨At.new w o, below_new (Below.refl _ _) o⟩
theorem OneM.cells {w0 W : World} {b : Nat} {t : TypeId} {v0 v1 v2 v3 v4 v5 v6 v7 v8 v9 v10 : Value} (h : OneM w0 b (.cells #[v0, v1, v2, v3, v4, v5, v6, v7, v8, v9, v10] t) W) :
    W.cell? ⟨b, 0, none⟩ = some v0 ∧ W.cell? ⟨b, 1, none⟩ = some v1 ∧ W.cell? ⟨b, 2, none⟩ = some v2 ∧ W.cell? ⟨b, 3, none⟩ = some v3 ∧ W.cell? ⟨b, 4, none⟩ = some v4 ∧ W.cell? ⟨b, 5, none⟩ = some v5 ∧ W.cell? ⟨b, 6, none⟩ = some v6 ∧ W.cell? ⟨b, 7, none⟩ = some v7 ∧ W.cell? ⟨b, 8, none⟩ = some v8 ∧ W.cell? ⟨b, 9, none⟩ = some v9 ∧ W.cell? ⟨b, 10, none⟩ = some v10 :=
  ⟨h.1.cell 0, h.1.cell 1, h.1.cell 2, h.1.cell 3, h.1.cell 4, h.1.cell 5, h.1.cell 6, h.1.cell 7, h.1.cell 8, h.1.cell 9, h.1.cell 10⟩
theorem div_in {a c A : Int} (hc : 1 ≤ c) (h1 : -A ≤ a) (h2 : a ≤ A) (hA : 0 ≤ A) : -A ≤ a / c ∧ a / c ≤ A := by
  constructor
  · rw [Int.le_ediv_iff_mul_le (by omega)]
    have : -A * c ≤ -A * 1 := Int.mul_le_mul_of_nonpos_left (by omega) (by omega)
    omega
  · refine Int.ediv_le_of_le_mul (by omega) ?_
    have : A * 1 ≤ A * c := Int.mul_le_mul_of_nonneg_left (by omega) hA
    omega
set_option maxHeartbeats 1000000 in
theorem lunisolar_before (w : World) (s : ByteArray) (f sn sd mn md ln ld c : Int) (a1 a2 : Option Addr) (n1 c1 n2 c2 : Nat) (ls vs : List Int) (N y : Int) (ok : MoonOk s f sn sd mn md ln ld c ls vs N) (y1 : -20000 ≤ y) (y2 : y ≤ 20000) (h : MoonAt w a1 a2 n1 n2 ls vs) :
    Calls Try.prog 87 #[.agg #[.string s, .int .i64 f, .int .i64 sn, .int .i64 sd, .int .i64 mn, .int .i64 md, .int .i64 ln, .int .i64 ld, .int .i64 c, .slice a1 n1 c1, .slice a2 n2 c2], .int .i64 y] w fun e w' => e = .returned (.int .i64 (bef c ls y)) ∧ Below w.heap.size w w' := by
  have cy1 := ok.c1; have cy2 := ok.c2
  have l1 := h.1.1
  have r1 := Int.emod_nonneg (y - 1) (show c ≠ 0 by omega)
  have r2 := Int.emod_lt_of_pos (y - 1) (show 0 < c by omega)
  obtain ⟨q1, q2⟩ := div_in (a := y - 1) (A := 20001) cy1 (by omega) (by omega) (by omega)
  have hn1 : n1 ≤ 100 := by
    have h1 := cnt_le ls ok.sorted (fun z hz => (ok.leaps z hz).1) c.toNat
    rw [show ((c.toNat : Nat) : Int) = c by omega, cnt_all (fun z hz => (ok.leaps z hz).2)] at h1
    omega
  have hcn := cnt_le ls ok.sorted (fun z hz => (ok.leaps z hz).1) ((y - 1) % c).toNat
  rw [show ((((y - 1) % c).toNat : Nat) : Int) = (y - 1) % c by omega] at hcn
  have hb : bef c ls y = 12 * (y - 1) + (y - 1) / c * (n1 : Int) + (cnt ls ((y - 1) % c) : Int) := by unfold bef; rw [l1]
  obtain ⟨B, hB⟩ : ∃ B, B = bef c ls y := ⟨_, rfl⟩
  rw [← hB] at hb ⊢
  have HB := Lib.hid hb; have H := Lib.hid h; have SO := Lib.hid ok.sorted
  clear hb hB h ok l1
  have t0 : IntKind.i64.wrap (y - 1) = y - 1 := IntWalk.i64_in _ (by omega)
  have t1 : -9223372036854775808 ≤ y - 1 := by omega
  have t2 : y - 1 ≤ 9223372036854775807 := by omega
  have t3 : c ≤ 9223372036854775807 := by omega
  go_enter Try.func87, Try.ntmps87
  go_wp2_with fail
  have on := OneM.new w (.cells #[.string s, .int .i64 f, .int .i64 sn, .int .i64 sd, .int .i64 mn, .int .i64 md, .int .i64 ln, .int .i64 ld, .int .i64 c, .slice a1 n1 c1, .slice a2 n2 c2] 42)
  generalize World.alloc w _ = w1 at on ⊢
  obtain ⟨x0, x1, x2, x3, x4, x5, x6, x7, x8, x9, x10⟩ := on.cells
  go_quiet (first | (go_at_call 73; exact quiet_drawn (whole_Down _ _ _ t1 t2 cy1 t3)) | (go_at_call 46; exact quiet_drawn (whole_Mod _ _ _ t1 t2 cy1 t3)))
  clear x0 x1 x2 x3 x4 x5 x6 x7 x8 x9 x10
  generalize (y - 1) / c = Q at *
  generalize (y - 1) % c = R at *
  have m1 := mul_in Q (n1 : Int) 20001 100 (by omega) (by omega) (by omega) (by omega)
  obtain ⟨m1, m1'⟩ := m1
  have t4 : IntKind.i64.wrap (12 * (y - 1)) = 12 * (y - 1) := IntWalk.i64_in _ (by omega)
  have t5 : IntKind.i64.wrap (Q * (n1 : Int)) = Q * (n1 : Int) := IntWalk.i64_in _ (by omega)
  have t6 : IntKind.i64.wrap (12 * (y - 1) + Q * (n1 : Int)) = 12 * (y - 1) + Q * (n1 : Int) := IntWalk.i64_in _ (by omega)
  have t7 : IntKind.i64.wrap (R + 1) = R + 1 := IntWalk.i64_in _ (by omega)
  have HR := Lib.hid (show R + 1 - 1 = R by omega)
  have HC := Lib.hid hcn; clear hcn
  obtain ⟨C, hC⟩ : ∃ C, C = cnt ls R := ⟨_, rfl⟩
  have hC2 : (C : Int) ≤ 100 := by have := HC.out; omega
  have t8 : IntKind.i64.wrap (12 * (y - 1) + Q * (n1 : Int) + (C : Int)) = 12 * (y - 1) + Q * (n1 : Int) + (C : Int) := IntWalk.i64_in _ (by omega)
  have HCC := Lib.hid hC; clear hC
  go_wp2_with fail
  (refine region_class (OneM w w.heap.size (.cells #[.string s, .int .i64 f, .int .i64 sn, .int .i64 sd, .int .i64 mn, .int .i64 md, .int .i64 ln, .int .i64 ld, .int .i64 c, .slice a1 n1 c1, .slice a2 n2 c2] 42)) (by kernel_rfl) (by kernel_rfl) ((on.drewN nq).drew) ?_; repeat ((first | (refine class_take ?_ (by rfl) ?_ ?_; rotate_left; focus (intro wq hq; ((obtain ⟨x0, x1, x2, x3, x4, x5, x6, x7, x8, x9, x10⟩ := hq.cells)); go_simp; first | done | with_reducible rfl | (first | (go_at_call 91; refine (sort_SearchInts _ _ _ _ ls _ (H.out.then_ hq.2).1 SO.out (by omega)).mono ?_; rw [HR.out, ← HCC.out]; rintro e w' ⟨rfl, hb⟩; refine ⟨?_, hq.step hb⟩; with_reducible rfl)))) | refine class_skip (by rfl) ?_); try simp only [Act.put, List.setIfInBounds_toArray, List.set_cons_zero, List.set_cons_succ]))
  refine wpQuiet_nil ?_
  intro W2 hW2
  have HW := Lib.hid hW2; clear hW2
  go_wp2_with fail
  go_ret
  exact ⟨ret_int (by rw [HB.out, HCC.out]), HW.out.2⟩
set_option maxHeartbeats 1000000 in
theorem lunisolar_months (w : World) (s : ByteArray) (f sn sd mn md ln ld c : Int) (a1 a2 : Option Addr) (n1 c1 n2 c2 : Nat) (ls vs : List Int) (N y : Int) (ok : MoonOk s f sn sd mn md ln ld c ls vs N) (y1 : -19000 ≤ y) (y2 : y ≤ 19000) (h : MoonAt w a1 a2 n1 n2 ls vs) :
    Calls Try.prog 67 #[.agg #[.string s, .int .i64 f, .int .i64 sn, .int .i64 sd, .int .i64 mn, .int .i64 md, .int .i64 ln, .int .i64 ld, .int .i64 c, .slice a1 n1 c1, .slice a2 n2 c2], .int .i64 y] w fun e w' => e = .returned (.int .i64 (mths c ls y)) ∧ Below w.heap.size w w' := by
  have hsu := bef_succ ok.c1 ok.leaps ok.sorted y
  have hm := mths_in c ls y
  have b1 := bef_in ok.c1 ok.leaps ok.sorted y (by omega) (by omega)
  obtain ⟨A, hA⟩ : ∃ A, A = bef c ls (y + 1) := ⟨_, rfl⟩
  obtain ⟨B, hB⟩ : ∃ B, B = bef c ls y := ⟨_, rfl⟩
  obtain ⟨M, hM⟩ : ∃ M, M = mths c ls y := ⟨_, rfl⟩
  rw [← hA, ← hB, ← hM] at hsu
  rw [← hM] at hm ⊢
  rw [← hB] at b1
  have HA := Lib.hid hA; have HB := Lib.hid hB; have H := Lib.hid h; have OK := Lib.hid ok; have HS := Lib.hid hsu
  have t0 : IntKind.i64.wrap (y + 1) = y + 1 := IntWalk.i64_in _ (by omega)
  have t1 : IntKind.i64.wrap (A - B) = A - B := IntWalk.i64_in _ (by omega)
  have f1 : ∀ W, Below w.heap.size w W → Calls Try.prog 87 #[.agg #[.string s, .int .i64 f, .int .i64 sn, .int .i64 sd, .int .i64 mn, .int .i64 md, .int .i64 ln, .int .i64 ld, .int .i64 c, .slice a1 n1 c1, .slice a2 n2 c2], .int .i64 (y + 1)] W fun e w' => e = .returned (.int .i64 A) ∧ Below W.heap.size W w' := fun W hW => by
    rw [hA]; exact lunisolar_before W s f sn sd mn md ln ld c a1 a2 n1 c1 n2 c2 ls vs N (y + 1) ok (by omega) (by omega) (h.then_ hW)
  have f2 : ∀ W, Below w.heap.size w W → Calls Try.prog 87 #[.agg #[.string s, .int .i64 f, .int .i64 sn, .int .i64 sd, .int .i64 mn, .int .i64 md, .int .i64 ln, .int .i64 ld, .int .i64 c, .slice a1 n1 c1, .slice a2 n2 c2], .int .i64 y] W fun e w' => e = .returned (.int .i64 B) ∧ Below W.heap.size W w' := fun W hW => by
    rw [hB]; exact lunisolar_before W s f sn sd mn md ln ld c a1 a2 n1 c1 n2 c2 ls vs N y ok (by omega) (by omega) (h.then_ hW)
  have F1 := Lib.hid f1; have F2 := Lib.hid f2
  clear hA hB hM h ok hsu f1 f2
  go_enter Try.func67, Try.ntmps67
  go_wp2_with fail
  have on := OneM.new w (.cells #[.string s, .int .i64 f, .int .i64 sn, .int .i64 sd, .int .i64 mn, .int .i64 md, .int .i64 ln, .int .i64 ld, .int .i64 c, .slice a1 n1 c1, .slice a2 n2 c2] 42)
  generalize World.alloc w _ = w1 at on ⊢
  (refine region_class (OneM w w.heap.size (.cells #[.string s, .int .i64 f, .int .i64 sn, .int .i64 sd, .int .i64 mn, .int .i64 md, .int .i64 ln, .int .i64 ld, .int .i64 c, .slice a1 n1 c1, .slice a2 n2 c2] 42)) (by kernel_rfl) (by kernel_rfl) (on.drew) ?_; repeat ((first | (refine class_take ?_ (by rfl) ?_ ?_; rotate_left; focus (intro wq hq; ((obtain ⟨x0, x1, x2, x3, x4, x5, x6, x7, x8, x9, x10⟩ := hq.cells)); go_simp; first | done | with_reducible rfl | ((go_at_call 87; (first | (with_reducible refine (F1.out _ hq.below).mono ?_) | (with_reducible refine (F2.out _ hq.below).mono ?_)); rintro e w' ⟨rfl, hb⟩; refine ⟨?_, hq.step hb⟩; with_reducible rfl)))) | refine class_skip (by rfl) ?_); try simp only [Act.put, List.setIfInBounds_toArray, List.set_cons_zero, List.set_cons_succ]))
  refine wpQuiet_nil ?_
  intro W2 hW2
  have HW := Lib.hid hW2; clear hW2
  go_wp2_with fail
  go_ret
  exact ⟨ret_int (by rw [HS.out]; omega), HW.out.2⟩
theorem badD_nil (d : Int) : badD [] d = false := by simp [badD]
theorem badD_cons (v : Int) (l : List Int) (d : Int) : badD (v :: l) d = (decide ((d + 6) % 7 = v) || badD l d) := by
  unfold badD; simp [List.mem_cons]
theorem badD_drop {vs : List Int} {k : Nat} {v : Int} (h : vs[k]? = some v) (d : Int) : badD (vs.drop k) d = (decide ((d + 6) % 7 = v) || badD (vs.drop (k + 1)) d) := by
  obtain ⟨hl, rfl⟩ := List.getElem?_eq_some_iff.1 h
  rw [List.drop_eq_getElem_cons hl, badD_cons]
set_option maxHeartbeats 1000000 in
theorem lunisolar_avoided (w : World) (s : ByteArray) (f sn sd mn md ln ld c : Int) (a1 a2 : Option Addr) (n1 c1 n2 c2 : Nat) (ls vs : List Int) (d : Int) (d1 : -100000000000 ≤ d) (d2 : d ≤ 100000000000) (h : MoonAt w a1 a2 n1 n2 ls vs) :
    Calls Try.prog 88 #[.agg #[.string s, .int .i64 f, .int .i64 sn, .int .i64 sd, .int .i64 mn, .int .i64 md, .int .i64 ln, .int .i64 ld, .int .i64 c, .slice a1 n1 c1, .slice a2 n2 c2], .int .i64 d] w fun e w' => e = .returned (.bool (badD vs d)) ∧ Below w.heap.size w w' := by
  have H := Lib.hid h; have LV := Lib.hid h.2.1
  have hn2 := h.2.2.1
  obtain ⟨E, hE⟩ : ∃ E, E = badD vs d := ⟨_, rfl⟩
  rw [← hE]
  have HE := Lib.hid hE; clear hE h
  have t0 : IntKind.i64.wrap (d - 1) = d - 1 := IntWalk.i64_in _ (by omega)
  have HM := Lib.hid (show (d - 1) % 7 = (d + 6) % 7 by omega)
  go_enter Try.func88, Try.ntmps88
  go_wp2_with fail
  have on := OneM.new w (.cells #[.string s, .int .i64 f, .int .i64 sn, .int .i64 sd, .int .i64 mn, .int .i64 md, .int .i64 ln, .int .i64 ld, .int .i64 c, .slice a1 n1 c1, .slice a2 n2 c2] 42)
  generalize World.alloc w _ = w1 at on ⊢
  obtain ⟨x0, x1, x2, x3, x4, x5, x6, x7, x8, x9, x10⟩ := on.cells
  go_wp2_with fail
  clear x0 x1 x2 x3 x4 x5 x6 x7 x8 x9 x10
  go_loopw [6, 10] (fun _ i wr => ∃ k : Nat, k ≤ n2 ∧ i = .int .i64 k ∧ badD (vs.drop k) d = E ∧ OneM w w.heap.size (.cells #[.string s, .int .i64 f, .int .i64 sn, .int .i64 sd, .int .i64 mn, .int .i64 md, .int .i64 ln, .int .i64 ld, .int .i64 c, .slice a1 n1 c1, .slice a2 n2 c2] 42) wr) (fun _ i _ => n2 - (intOf i).toNat)
  case atStart => exact ⟨0, by omega, rfl, by rw [HE.out]; rfl, on⟩
  case round =>
    clear on
    obtain ⟨k, hk, rfl, hgo, on⟩ := hrel
    by_cases hlt : k < n2
    · obtain ⟨b1, o1, v, rfl, hb1, hc1, hv, v1, v2⟩ := (H.out.2.below on.2 (Nat.le_refl _)).at_ hlt
      rw [badD_drop hv] at hgo
      have HGO := Lib.hid hgo; clear hgo hv
      have t1 : IntKind.i64.wrap ((k : Int) + 1) = (k : Int) + 1 := IntWalk.i64_in _ (by omega)
      by_cases hq : (d + 6) % 7 = v
      · have hqb : ((d + 6) % 7 == v) = true := by simpa using hq
        have hE : E = true := by have := HGO.out; rw [decide_eq_true hq] at this; simpa using this.symm
        subst hE
        clear hq
        go_wp2_with fail
        refine (whole_Mod _ _ _ (by omega) (by omega) (by omega) (by omega)).mono ?_
        rw [HM.out]
        rintro e w2 ⟨rfl, hdr⟩
        replace on := on.drawn hdr
        clear hdr hc1
        go_wp2_with fail
        go_ret
        exact ⟨rfl, on.2⟩
      · have hqb : ((d + 6) % 7 == v) = false := by simpa using hq
        have hE : badD (vs.drop (k + 1)) d = E := by have := HGO.out; rw [decide_eq_false hq] at this; simpa using this
        have HN := Lib.hid hE; clear hq hE
        go_wp2_with fail
        refine (whole_Mod _ _ _ (by omega) (by omega) (by omega) (by omega)).mono ?_
        rw [HM.out]
        rintro e w2 ⟨rfl, hdr⟩
        replace on := on.drawn hdr
        clear hdr hc1
        go_wp2_with fail
        go_roundw
        case rel => exact ⟨k + 1, by omega, by go_num, HN.out, on⟩
        case measure => simp [intOf]; omega
    · rw [List.drop_eq_nil_of_le (by have := LV.out; omega), badD_nil] at hgo
      subst hgo
      go_wp2_with fail
      go_ret
      exact ⟨rfl, on.2⟩
/-- Whether a year of the list is the year, in its cycle. -/
def anyL (c y : Int) : List Int → Bool
  | [] => false
  | z :: l => decide (Int.tmod (y - z) c = 0) || anyL c y l
theorem anyL_iff (c y : Int) : ∀ (l : List Int), anyL c y l = true ↔ ∃ z ∈ l, c ∣ y - z
  | [] => by simp [anyL]
  | z :: l => by
    rw [anyL, Bool.or_eq_true, decide_eq_true_eq, anyL_iff c y l, ← Int.dvd_iff_tmod_eq_zero]
    simp
theorem anyL_drop {c y : Int} {ls : List Int} {k : Nat} {z : Int} (h : ls[k]? = some z) : anyL c y (ls.drop k) = (decide (Int.tmod (y - z) c = 0) || anyL c y (ls.drop (k + 1))) := by
  obtain ⟨hl, rfl⟩ := List.getElem?_eq_some_iff.1 h
  rw [List.drop_eq_getElem_cons hl, anyL]
theorem anyL_leap {c : Int} {ls : List Int} (hc : 1 ≤ c) (hl : ∀ y ∈ ls, 1 ≤ y ∧ y ≤ c) (y : Int) : anyL c y ls = leapY c ls y := by
  have h1 := anyL_iff c y ls
  have h2 := flag_iff hc hl y
  cases ha : anyL c y ls <;> cases hb : leapY c ls y
  · rfl
  · rw [ha] at h1; rw [hb] at h2; exact absurd (h1.2 (h2.1 rfl)) (by simp)
  · rw [ha] at h1; rw [hb] at h2; exact absurd (h2.2 (h1.1 rfl)) (by simp)
  · rfl
set_option maxHeartbeats 1000000 in
theorem ref_MoonMonths (w : World) (s : ByteArray) (f sn sd mn md ln ld c : Int) (a1 a2 : Option Addr) (n1 c1 n2 c2 : Nat) (ls vs : List Int) (N y : Int) (ok : MoonOk s f sn sd mn md ln ld c ls vs N) (y1 : -20000 ≤ y) (y2 : y ≤ 20000) (h : MoonAt w a1 a2 n1 n2 ls vs) :
    Calls Try.prog 19 #[.agg #[.string s, .int .i64 f, .int .i64 sn, .int .i64 sd, .int .i64 mn, .int .i64 md, .int .i64 ln, .int .i64 ld, .int .i64 c, .slice a1 n1 c1, .slice a2 n2 c2], .int .i64 y] w fun e w' => e = .returned (.int .i64 (mths c ls y)) ∧ Below w.heap.size w w' := by
  have H := Lib.hid h; have LV := Lib.hid h.1.1; have HL := Lib.hid ok.leaps
  have hn1 := h.1.2.1
  have cy1 := ok.c1; have cy2 := ok.c2
  have hc0 : (c == 0) = false := by simp; omega
  rw [show mths c ls y = bif anyL c y ls then 13 else 12 by rw [mths, anyL_leap ok.c1 ok.leaps]]
  obtain ⟨E, hE⟩ : ∃ E, E = anyL c y ls := ⟨_, rfl⟩
  rw [← hE]
  have HE := Lib.hid hE; clear hE h ok
  go_enter Try.func19, Try.ntmps19
  go_wp2_with fail
  have on := OneM.new w (.cells #[.string s, .int .i64 f, .int .i64 sn, .int .i64 sd, .int .i64 mn, .int .i64 md, .int .i64 ln, .int .i64 ld, .int .i64 c, .slice a1 n1 c1, .slice a2 n2 c2] 42)
  generalize World.alloc w _ = w1 at on ⊢
  obtain ⟨x0, x1, x2, x3, x4, x5, x6, x7, x8, x9, x10⟩ := on.cells
  go_wp2_with fail
  go_loop [6, 10] (fun _ i => ∃ k : Nat, k ≤ n1 ∧ i = .int .i64 k ∧ anyL c y (ls.drop k) = E) (fun _ i => n1 - (intOf i).toNat)
  case atStart => exact ⟨0, by omega, rfl, by rw [HE.out]; rfl⟩
  case round =>
    obtain ⟨k, hk, rfl, hgo⟩ := hrel
    by_cases hlt : k < n1
    · obtain ⟨b1, o1, z, rfl, hb1, hc1, hz, _, _⟩ := (H.out.1.below on.2 (Nat.le_refl _)).at_ hlt
      obtain ⟨z1, z2⟩ := HL.out z (List.mem_of_getElem? hz)
      rw [anyL_drop hz] at hgo
      have HGO := Lib.hid hgo; clear hgo hz
      have t1 : IntKind.i64.wrap ((k : Int) + 1) = (k : Int) + 1 := IntWalk.i64_in _ (by omega)
      have t2 : IntKind.i64.wrap (y - z) = y - z := IntWalk.i64_in _ (by omega)
      by_cases hq : Int.tmod (y - z) c = 0
      · have hqb : (Int.tmod (y - z) c == 0) = true := by simpa using hq
        have hE : E = true := by have := HGO.out; rw [decide_eq_true hq] at this; simpa using this.symm
        subst hE
        go_wp2_with fail
        go_ret
        exact ⟨rfl, on.2⟩
      · have hqb : (Int.tmod (y - z) c == 0) = false := by simpa using hq
        have hE : anyL c y (ls.drop (k + 1)) = E := by have := HGO.out; rw [decide_eq_false hq] at this; simpa using this
        have HN := Lib.hid hE; clear hE
        go_wp2_with fail
        go_round
        case rel => exact ⟨k + 1, by omega, by go_num, HN.out⟩
        case measure => simp [intOf]; omega
    · rw [List.drop_eq_nil_of_le (by have := LV.out; omega)] at hgo
      simp only [anyL] at hgo
      subst hgo
      go_wp2_with fail
      go_ret
      exact ⟨rfl, on.2⟩
theorem lunisolar_isYear (y : Int) (w : World) : Calls Try.prog 86 #[.int .i64 y] w fun e w' => e = .returned (.bool (inB (-10000) 10000 y)) ∧ w = w' := by
  by_cases h1 : -10000 ≤ y
  · by_cases h2 : y ≤ 10000
    · rw [inB_yes h1 h2]
      go_enter Try.func86, Try.ntmps86
      go_wp2_with fail
      go_ret
      exact ⟨by simp, rfl⟩
    · rw [inB_no (fun h => h2 h.2)]
      go_enter Try.func86, Try.ntmps86
      go_wp2_with fail
      go_ret
      exact ⟨by simp, rfl⟩
  · rw [inB_no (fun h => h1 h.1)]
    go_enter Try.func86, Try.ntmps86
    go_wp2_with fail
    go_ret
    exact ⟨by simp, rfl⟩
/-- The error of a rule and a year. -/
def moonErrY (e y : Int) : Int := if e ≠ 0 then e else if inB (-10000) 10000 y = false then 3 else 0
theorem lunisolar_check (w : World) (s : ByteArray) (f sn sd mn md ln ld c : Int) (a1 a2 : Option Addr) (n1 c1 n2 c2 : Nat) (ls vs : List Int) (y : Int) (hs : s.size ≤ 9223372036854775807) (hi : MoonI sn sd mn md ln ld) (h : MoonAt w a1 a2 n1 n2 ls vs) :
    Calls Try.prog 66 #[.agg #[.string s, .int .i64 f, .int .i64 sn, .int .i64 sd, .int .i64 mn, .int .i64 md, .int .i64 ln, .int .i64 ld, .int .i64 c, .slice a1 n1 c1, .slice a2 n2 c2], .int .i64 y] w fun e w' => e = .returned (.int .i64 (moonErrY (moonErr s f sn sd mn md ln ld c ls vs) y)) ∧ Below w.heap.size w w' := by
  have H := Lib.hid h; clear h
  obtain ⟨E, hE⟩ : ∃ E, E = moonErr s f sn sd mn md ln ld c ls vs := ⟨_, rfl⟩
  rw [← hE]
  have HE := Lib.hid hE; clear hE
  by_cases q : E = 0
  · subst q
    cases hy : inB (-10000) 10000 y
    all_goals
      first | rw [show moonErrY 0 y = 3 by rw [moonErrY, if_neg (by simp), if_pos hy]] | rw [show moonErrY 0 y = 0 by rw [moonErrY, if_neg (by simp), if_neg (by simp [hy])]]
      go_enter Try.func66, Try.ntmps66
      go_wp2_with fail
      refine (lunisolar_Check _ s f sn sd mn md ln ld c a1 a2 n1 c1 n2 c2 ls vs hs hi (H.out.then_ (below_new (Below.refl _ _) _))).mono ?_
      rw [← HE.out]
      rintro e w1 ⟨rfl, hb⟩
      go_wp2_with fail
      refine (lunisolar_isYear _ _).mono ?_; rw [hy]; rintro e w2 ⟨rfl, rfl⟩
      go_wp2_with fail
      go_ret
      exact ⟨rfl, by (repeat' (first | exact Below.refl _ _ | assumption | refine Below.drew ?_ | refine below_drewN ?_ _ | refine below_new ?_ _ | refine below_set ?_ ?_ _ | refine below_then ?_ (by assumption) | refine below_drawn ?_ (by assumption) | exact Nat.le_refl _ | omega | (simp; done) | (simp; omega)))⟩
  · rw [show moonErrY E y = E by rw [moonErrY, if_pos q]]
    have q' : (E != 0) = true := by simpa using q
    clear q
    go_enter Try.func66, Try.ntmps66
    go_wp2_with fail
    refine (lunisolar_Check _ s f sn sd mn md ln ld c a1 a2 n1 c1 n2 c2 ls vs hs hi (H.out.then_ (below_new (Below.refl _ _) _))).mono ?_
    rw [← HE.out]
    rintro e w1 ⟨rfl, hb⟩
    go_wp2_with fail
    go_ret
    exact ⟨rfl, by (repeat' (first | exact Below.refl _ _ | assumption | refine Below.drew ?_ | refine below_drewN ?_ _ | refine below_new ?_ _ | refine below_set ?_ ?_ _ | refine below_then ?_ (by assumption) | refine below_drawn ?_ (by assumption) | exact Nat.le_refl _ | omega | (simp; done) | (simp; omega)))⟩
end Go.Proofs.Ytjjmbnflhldoeaa
