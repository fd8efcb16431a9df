/- Contracts of observed.ToDay and observed.FromDay. -/
import Derived.Test.YtkeicdimkmmnfaaTab0
import Derived.Test.YtkeicdimkmmnfaaStore
import Derived.StillTailTactics
namespace Go.Proofs.Ytkeicdimkmmnfaa
set_option linter.unusedVariables false
set_option maxRecDepth 100000
open Go.RowKit

theorem Ints.getD_at {w : World} {B : Nat} {a : Option Addr} {n : Nat} {xs : List Int} (h : Ints w B a n xs) {k : Nat} (hk : k < n) :
    ∃ b off, a = some ⟨b, off, none⟩ ∧ b < B ∧ w.cell? ⟨b, off + k, none⟩ = some (.int .i64 (xs.getD k 0)) ∧ xs[k]? = some (xs.getD k 0) := by
  obtain ⟨b, off, x, e, hb, hc, hx, _⟩ := h.at_ hk
  have : xs.getD k 0 = x := by rw [List.getD_eq_getElem?_getD, hx]; rfl
  rw [this]
  exact ⟨b, off, e, hb, hc, hx⟩

theorem observed_ToDay_err (w : World) (s : ByteArray) (f : Int) (a1 a2 : Option Addr) (n1 c1 n2 c2 : Nat) (ms ss : List Int) (Y M D : Int) (hs : s.size ≤ 9223372036854775807) (f1 : -9223372036854775808 ≤ f) (f2 : f ≤ 9223372036854775807) (k1 : n1 ≤ c1) (h1 : Ints w w.heap.size a1 n1 ms) (h2 : Ints w w.heap.size a2 n2 ss) (q : tableErr s f ms ss ≠ 0) :
    Calls Try.prog 20 #[.agg #[.string s, .int .i64 f, .slice a1 n1 c1, .slice a2 n2 c2], .agg #[.int .i64 Y, .int .i64 M, .int .i64 D]] w fun e w' => e = .returned (.tuple #[.int .i64 0, .int .i64 (tableErr s f ms ss)]) ∧ Below w.heap.size w w' := by
  have H1 := Lib.hid h1; have H2 := Lib.hid h2; clear h1 h2
  obtain ⟨E, hE⟩ : ∃ E, E = tableErr s f ms ss := ⟨_, rfl⟩
  rw [← hE] at q ⊢
  have HE := Lib.hid hE; clear hE
  have q' : (E != 0) = true := by simpa using q
  clear q
  go_enter Try.func20, Try.ntmps20
  go_wp2_with fail
  refine (observed_Check _ _ _ _ _ _ _ _ _ ms ss hs f1 f2 ((H1.out.below (below_new (below_new (Below.refl _ _) _) _) (Nat.le_refl _)).more (by simp; omega)) ((H2.out.below (below_new (below_new (Below.refl _ _) _) _) (Nat.le_refl _)).more (by simp; omega))).mono ?_; rw [← HE.out]; rintro e w1 ⟨rfl, hb⟩
  go_wp2_with fail
  go_ret2
  exact ⟨rfl, by (repeat' (first | exact Below.refl _ _ | assumption | refine Below.drew ?_ | refine below_drewN ?_ _ | refine below_new ?_ _ | refine below_set ?_ ?_ _ | refine below_then ?_ (by assumption) | refine below_drawn ?_ (by assumption) | exact Nat.le_refl _ | omega | (simp; done) | (simp; omega)))⟩
set_option maxHeartbeats 2000000 in
theorem observed_ToDay_ok (w : World) (s : ByteArray) (f : Int) (a1 a2 : Option Addr) (n1 c1 n2 c2 : Nat) (ms ss : List Int) (Y M D : Int) (hs : s.size ≤ 9223372036854775807) (f1 : -9223372036854775808 ≤ f) (f2 : f ≤ 9223372036854775807) (k1 : n1 ≤ c1) (h1 : Ints w w.heap.size a1 n1 ms) (h2 : Ints w w.heap.size a2 n2 ss) (y1 : -9223372036854775808 ≤ Y) (y2 : Y ≤ 9223372036854775807) (m1 : -9223372036854775808 ≤ M) (m2 : M ≤ 9223372036854775807) (q : tableErr s f ms ss = 0) :
    Calls Try.prog 20 #[.agg #[.string s, .int .i64 f, .slice a1 n1 c1, .slice a2 n2 c2], .agg #[.int .i64 Y, .int .i64 M, .int .i64 D]] w fun e w' => e = .returned (.tuple #[.int .i64 (toDayOut f ms ss Y M D).1, .int .i64 (toDayOut f ms ss Y M D).2]) ∧ Below w.heap.size w w' := by
  have ok := tableOk_of q
  have l1 := h1.1; have l2 := h2.1
  have p1 := ok.l1; have p2 := ok.l2; have p3 := ok.f1; have p4 := ok.f2
  rw [l1] at p1 p2 p4
  have t0 : IntKind.i64.wrap (f + (n1 : Int)) = f + n1 := IntWalk.i64_in _ (by omega)
  by_cases hy : ¬ (f ≤ Y ∧ Y < f + ms.length)
  case pos =>
    have ho : toDayOut f ms ss Y M D = (0, 3) := by rw [toDayOut, if_pos hy]
    rw [ho]
    rw [l1] at hy
    have hcs : Y < f ∨ (f ≤ Y ∧ f + n1 ≤ Y) := by omega
    clear hy ho

    have H1 := Lib.hid h1; have H2 := Lib.hid h2; have OK := Lib.hid ok; have HQ := Lib.hid q; have L1 := Lib.hid l1; have L2 := Lib.hid l2
    clear h1 h2 ok q l1 l2
    rcases hcs with hy | ⟨hy, hy'⟩
    all_goals
      go_enter Try.func20, Try.ntmps20
      go_wp2_with fail
      refine (observed_Check _ _ _ _ _ _ _ _ _ ms ss hs f1 f2 ((H1.out.below (below_new (below_new (Below.refl _ _) _) _) (Nat.le_refl _)).more (by simp; omega)) ((H2.out.below (below_new (below_new (Below.refl _ _) _) _) (Nat.le_refl _)).more (by simp; omega))).mono ?_; rw [HQ.out]; rintro e w1 ⟨rfl, hb⟩
      have a0 := ((At.new w (.cells #[.string s, .int .i64 f, .slice a1 n1 c1, .slice a2 n2 c2] 36)).alloc (.cells #[.int .i64 Y, .int .i64 M, .int .i64 D] 38)).then_ hb
      have ad := (At.new1 w (.cells #[.string s, .int .i64 f, .slice a1 n1 c1, .slice a2 n2 c2] 36) (.cells #[.int .i64 Y, .int .i64 M, .int .i64 D] 38)).then_ hb
      have b0 : Below w.heap.size w w1 := by (repeat' (first | exact Below.refl _ _ | assumption | refine Below.drew ?_ | refine below_drewN ?_ _ | refine below_new ?_ _ | refine below_set ?_ ?_ _ | refine below_then ?_ (by assumption) | refine below_drawn ?_ (by assumption) | exact Nat.le_refl _ | omega | (simp; done) | (simp; omega)))
      clear hb
      have d0 := a0.cell 0; have d1 := a0.cell 1; have d2 := a0.cell 2; have d3 := a0.cell 3; simp at d0 d1 d2 d3
      have e0 := ad.cell 0; have e1 := ad.cell 1; have e2 := ad.cell 2; simp at e0 e1 e2
      go_wp2_with fail
      go_ret2
      exact ⟨rfl, b0⟩
  rw [l1] at hy
  have hy1 : f ≤ Y := by omega
  have hy2 : Y < f + n1 := by omega
  obtain ⟨i, rfl⟩ : ∃ i : Nat, Y = f + i := ⟨(Y - f).toNat, by omega⟩
  have hi : i < n1 := by omega
  have hor : toDayOut f ms ss (f + i) M D = if ¬ (1 ≤ M ∧ M ≤ ms.getD i 0) then (0, 1) else dayOut ss ((ms.take i).sum.toNat + (M - 1).toNat) D := by
    rw [toDayOut, if_neg (by rw [l1]; omega), show (f + (i : Int) - f).toNat = i by omega]
  have hx : ms[i]? = some (ms.getD i 0) := by rw [List.getD_eq_getElem?_getD, List.getElem?_eq_getElem (by omega)]; rfl
  have hx1 : ms.getD i 0 = 12 ∨ ms.getD i 0 = 13 := ok.each _ (List.mem_of_getElem? hx)
  have t1 : IntKind.i64.wrap (f + (i : Int) - f) = i := by rw [IntWalk.i64_in _ (by omega)]; omega
  have t2 : IntKind.i64.wrap (i : Int) = i := IntWalk.i64_in _ (by omega)
  have ti : (i : Int) < (n1 : Int) := by omega
  by_cases hm : ¬ (1 ≤ M ∧ M ≤ ms.getD i 0)
  case pos =>
    rw [if_pos hm] at hor
    rw [hor]
    have hcs : M < 1 ∨ (1 ≤ M ∧ ms.getD i 0 < M) := by omega
    clear hm hor hy hx

    have H1 := Lib.hid h1; have H2 := Lib.hid h2; have OK := Lib.hid ok; have HQ := Lib.hid q; have L1 := Lib.hid l1; have L2 := Lib.hid l2
    clear h1 h2 ok q l1 l2
    rcases hcs with hm | ⟨hm, hm'⟩
    all_goals
      go_enter Try.func20, Try.ntmps20
      go_wp2_with fail
      refine (observed_Check _ _ _ _ _ _ _ _ _ ms ss hs f1 f2 ((H1.out.below (below_new (below_new (Below.refl _ _) _) _) (Nat.le_refl _)).more (by simp; omega)) ((H2.out.below (below_new (below_new (Below.refl _ _) _) _) (Nat.le_refl _)).more (by simp; omega))).mono ?_; rw [HQ.out]; rintro e w1 ⟨rfl, hb⟩
      have a0 := ((At.new w (.cells #[.string s, .int .i64 f, .slice a1 n1 c1, .slice a2 n2 c2] 36)).alloc (.cells #[.int .i64 (f + i), .int .i64 M, .int .i64 D] 38)).then_ hb
      have ad := (At.new1 w (.cells #[.string s, .int .i64 f, .slice a1 n1 c1, .slice a2 n2 c2] 36) (.cells #[.int .i64 (f + i), .int .i64 M, .int .i64 D] 38)).then_ hb
      have b0 : Below w.heap.size w w1 := by (repeat' (first | exact Below.refl _ _ | assumption | refine Below.drew ?_ | refine below_drewN ?_ _ | refine below_new ?_ _ | refine below_set ?_ ?_ _ | refine below_then ?_ (by assumption) | refine below_drawn ?_ (by assumption) | exact Nat.le_refl _ | omega | (simp; done) | (simp; omega)))
      clear hb
      have d0 := a0.cell 0; have d1 := a0.cell 1; have d2 := a0.cell 2; have d3 := a0.cell 3; simp at d0 d1 d2 d3
      have e0 := ad.cell 0; have e1 := ad.cell 1; have e2 := ad.cell 2; simp at e0 e1 e2
      obtain ⟨b1, o1, rfl, hb1, hc1, -⟩ := (H1.out.below b0 (Nat.le_refl _)).getD_at hi
      generalize ms.getD i 0 = X at *
      go_wp2_with fail
      go_quiet (fail)
      go_wp2_with fail
      go_ret2
      exact ⟨rfl, by (repeat' (first | exact Below.refl _ _ | assumption | refine Below.drew ?_ | refine below_drewN ?_ _ | refine below_new ?_ _ | refine below_set ?_ ?_ _ | refine below_then ?_ (by assumption) | refine below_drawn ?_ (by assumption) | exact Nat.le_refl _ | omega | (simp; done) | (simp; omega)))⟩
  rw [if_neg hm] at hor
  rw [hor]
  have hm1 : 1 ≤ M := by omega
  have hm2 : M ≤ ms.getD i 0 := by omega
  have hts := sum_nonneg (ms.take i) (fun x hx => ok.each x (List.mem_of_mem_take hx))
  have hsum : (ms.take i).sum + ms.getD i 0 ≤ ms.sum := by
    have e1 : ms.sum = (ms.take i).sum + (ms.drop i).sum := by rw [← List.sum_append, List.take_append_drop]
    rw [drop_is hx, List.sum_cons] at e1
    have := sum_nonneg (ms.drop (i + 1)) (fun x hx => ok.each x (List.mem_of_mem_drop hx))
    omega
  have hall := ok.len
  have hbig : ms.sum ≤ 13 * 40 := (sum_bound 40 ms (fun x hx => by have := ok.each x hx; simpa [mOk] using this) ok.l2).2
  obtain ⟨j, hj⟩ : ∃ j : Nat, j = (ms.take i).sum.toNat + (M - 1).toNat := ⟨_, rfl⟩
  rw [← hj]
  have hjn : j + 1 < n2 := by omega
  have hjs : (j : Int) = M - 1 + (ms.take i).sum := by omega
  have hj1 : (j : Int) + 1 < (n2 : Int) := by omega
  have hj2 : (j : Int) < (n2 : Int) := by omega
  have hd1 : ss[j]? = some (ss.getD j 0) := by rw [List.getD_eq_getElem?_getD, List.getElem?_eq_getElem (by omega)]; rfl
  have hd2 : ss[j + 1]? = some (ss.getD (j + 1) 0) := by rw [List.getD_eq_getElem?_getD, List.getElem?_eq_getElem (by omega)]; rfl
  obtain ⟨g1, g2⟩ := ok.days _ _ hd1
  obtain ⟨g3, g4⟩ := ok.days _ _ hd2
  have t3 : IntKind.i64.wrap (M - 1) = M - 1 := IntWalk.i64_in _ (by omega)
  have t4 : IntKind.i64.wrap ((j : Int) + 1) = (j : Int) + 1 := IntWalk.i64_in _ (by omega)
  have t5 : IntKind.i64.wrap (ss.getD (j + 1) 0 - ss.getD j 0) = ss.getD (j + 1) 0 - ss.getD j 0 := IntWalk.i64_in _ (by omega)
  rw [dayOut]
  obtain ⟨A, hA⟩ : ∃ A, A = ss.getD j 0 := ⟨_, rfl⟩
  obtain ⟨B, hB⟩ : ∃ B, B = ss.getD (j + 1) 0 := ⟨_, rfl⟩
  rw [← hA, ← hB] at t5 ⊢
  rw [← hA] at g1 g2
  rw [← hB] at g3 g4
  have HA := Lib.hid hA; have HB := Lib.hid hB; clear hA hB
  have HJ := Lib.hid hjs; have HM := Lib.hid hm2; have HX := Lib.hid hx1
  have T4 := Lib.hid t4; have T5 := Lib.hid t5; have HJ1 := Lib.hid hj1; clear t4 t5 hj1
  clear hor hm hy hx hj hsum hall hts hd1 hd2 hjs hm2 hx1
  have hkc : (i : Int) ≤ (c1 : Int) := by omega

  have H1 := Lib.hid h1; have H2 := Lib.hid h2; have OK := Lib.hid ok; have HQ := Lib.hid q; have L1 := Lib.hid l1; have L2 := Lib.hid l2
  clear h1 h2 ok q l1 l2
  by_cases hg : 1 ≤ D ∧ D ≤ B - A
  case neg =>
    rw [if_neg hg]
    have hcs : D < 1 ∨ (1 ≤ D ∧ B - A < D) := by omega
    clear hg
    rcases hcs with hg | ⟨hg, hg'⟩
    all_goals
      go_enter Try.func20, Try.ntmps20
      go_wp2_with fail
      refine (observed_Check _ _ _ _ _ _ _ _ _ ms ss hs f1 f2 ((H1.out.below (below_new (below_new (Below.refl _ _) _) _) (Nat.le_refl _)).more (by simp; omega)) ((H2.out.below (below_new (below_new (Below.refl _ _) _) _) (Nat.le_refl _)).more (by simp; omega))).mono ?_; rw [HQ.out]; rintro e w1 ⟨rfl, hb⟩
      have a0 := ((At.new w (.cells #[.string s, .int .i64 f, .slice a1 n1 c1, .slice a2 n2 c2] 36)).alloc (.cells #[.int .i64 (f + i), .int .i64 M, .int .i64 D] 38)).then_ hb
      have ad := (At.new1 w (.cells #[.string s, .int .i64 f, .slice a1 n1 c1, .slice a2 n2 c2] 36) (.cells #[.int .i64 (f + i), .int .i64 M, .int .i64 D] 38)).then_ hb
      have b0 : Below w.heap.size w w1 := by (repeat' (first | exact Below.refl _ _ | assumption | refine Below.drew ?_ | refine below_drewN ?_ _ | refine below_new ?_ _ | refine below_set ?_ ?_ _ | refine below_then ?_ (by assumption) | refine below_drawn ?_ (by assumption) | exact Nat.le_refl _ | omega | (simp; done) | (simp; omega)))
      clear hb
      have d0 := a0.cell 0; have d1 := a0.cell 1; have d2 := a0.cell 2; have d3 := a0.cell 3; simp at d0 d1 d2 d3
      have e0 := ad.cell 0; have e1 := ad.cell 1; have e2 := ad.cell 2; simp at e0 e1 e2
      obtain ⟨b1, o1, rfl, hb1, hc1, -⟩ := (H1.out.below b0 (Nat.le_refl _)).getD_at hi
      obtain ⟨b2, o2, rfl, hb2, hc2, -⟩ := (H2.out.below b0 (Nat.le_refl _)).getD_at (show j < n2 by omega)
      obtain ⟨b3, o3, e3, hb3, hc3, -⟩ := (H2.out.below b0 (Nat.le_refl _)).getD_at hjn
      injection e3 with e3; injection e3 with e3 e4 e5; subst e3 e4
      clear e5
      have hm2 := HM.out; have hx1 := HX.out
      have HC2 := Lib.hid hc2; have HC3 := Lib.hid hc3; clear hc2 hc3
      generalize ms.getD i 0 = X at *
      go_wp2_with fail
      go_quiet (fail)
      go_wp2_with fail
      clear hc1 hm2 hx1
      go_loop [8, 10, 58] (fun t _ v => ∃ (k : Nat) (J : Int), k ≤ i ∧ v = .int .i64 k ∧ t = .int .i64 J ∧ J = M - 1 + (ms.take k).sum) (fun _ _ v => i - (intOf v).toNat)
      case atStart => exact ⟨0, M - 1, by omega, rfl, rfl, by simp⟩
      case round =>
        obtain ⟨k, J, hk, rfl, rfl, hJ⟩ := hrel
        by_cases hlt : k < i
        · obtain ⟨b4, o4, x, e4, hb4, hc4, hx4, x1, x2⟩ := (H1.out.below b0 (Nat.le_refl _)).at_ (show k < n1 by omega)
          injection e4 with e4; injection e4 with e4 e5 e6; subst e4 e5
          clear e6
          have hx5 := OK.out.each x (List.mem_of_getElem? hx4)
          have HT := Lib.hid (take_is hx4)
          have hJb : -10 ≤ J ∧ J ≤ 10000 := by
            have e1 : ms.sum = (ms.take k).sum + (ms.drop k).sum := by rw [← List.sum_append, List.take_append_drop]
            have := sum_nonneg (ms.drop k) (fun x hx => OK.out.each x (List.mem_of_mem_drop hx))
            have := sum_nonneg (ms.take k) (fun x hx => OK.out.each x (List.mem_of_mem_take hx))
            have := HM.out; have := HX.out
            omega
          have t6 : IntKind.i64.wrap (J + x) = J + x := IntWalk.i64_in _ (by omega)
          have t7 : IntKind.i64.wrap ((k : Int) + 1) = (k : Int) + 1 := IntWalk.i64_in _ (by omega)
          have HJJ := Lib.hid hJ; clear hJ hx4
          go_wp2_with fail
          go_round
          case rel => exact ⟨k + 1, J + x, by omega, by go_num, rfl, by rw [HT.out, List.sum_append, List.sum_singleton]; have := HJJ.out; omega⟩
          case measure => simp [intOf]; omega
        · obtain rfl : k = i := by omega
          obtain rfl : J = (j : Int) := by have := HJ.out; omega
          clear hJ
          have hc2 := HC2.out; have hc3 := HC3.out; rw [← HA.out] at hc2; rw [← HB.out] at hc3; have t4 := T4.out; have t5 := T5.out; have hj1 := HJ1.out; have hj0 : (0 : Int) ≤ (j : Int) + 1 := (by omega); have hjt : ((j : Int) + 1).toNat = j + 1 := (by omega)
          go_wp2_with fail
          go_quiet (fail)
          go_wp2_with fail
          go_ret2
          exact ⟨rfl, by (repeat' (first | exact Below.refl _ _ | assumption | refine Below.drew ?_ | refine below_drewN ?_ _ | refine below_new ?_ _ | refine below_set ?_ ?_ _ | refine below_then ?_ (by assumption) | refine below_drawn ?_ (by assumption) | exact Nat.le_refl _ | omega | (simp; done) | (simp; omega)))⟩
  case pos =>
    rw [if_pos hg]
    obtain ⟨hg, hg'⟩ := hg
    have t8 : IntKind.i64.wrap (A + D) = A + D := IntWalk.i64_in _ (by omega)
    have t9 : IntKind.i64.wrap (A + D - 1) = A + D - 1 := IntWalk.i64_in _ (by omega)
    go_enter Try.func20, Try.ntmps20
    go_wp2_with fail
    refine (observed_Check _ _ _ _ _ _ _ _ _ ms ss hs f1 f2 ((H1.out.below (below_new (below_new (Below.refl _ _) _) _) (Nat.le_refl _)).more (by simp; omega)) ((H2.out.below (below_new (below_new (Below.refl _ _) _) _) (Nat.le_refl _)).more (by simp; omega))).mono ?_; rw [HQ.out]; rintro e w1 ⟨rfl, hb⟩
    have a0 := ((At.new w (.cells #[.string s, .int .i64 f, .slice a1 n1 c1, .slice a2 n2 c2] 36)).alloc (.cells #[.int .i64 (f + i), .int .i64 M, .int .i64 D] 38)).then_ hb
    have ad := (At.new1 w (.cells #[.string s, .int .i64 f, .slice a1 n1 c1, .slice a2 n2 c2] 36) (.cells #[.int .i64 (f + i), .int .i64 M, .int .i64 D] 38)).then_ hb
    have b0 : Below w.heap.size w w1 := by (repeat' (first | exact Below.refl _ _ | assumption | refine Below.drew ?_ | refine below_drewN ?_ _ | refine below_new ?_ _ | refine below_set ?_ ?_ _ | refine below_then ?_ (by assumption) | refine below_drawn ?_ (by assumption) | exact Nat.le_refl _ | omega | (simp; done) | (simp; omega)))
    clear hb
    have d0 := a0.cell 0; have d1 := a0.cell 1; have d2 := a0.cell 2; have d3 := a0.cell 3; simp at d0 d1 d2 d3
    have e0 := ad.cell 0; have e1 := ad.cell 1; have e2 := ad.cell 2; simp at e0 e1 e2
    obtain ⟨b1, o1, rfl, hb1, hc1, -⟩ := (H1.out.below b0 (Nat.le_refl _)).getD_at hi
    obtain ⟨b2, o2, rfl, hb2, hc2, -⟩ := (H2.out.below b0 (Nat.le_refl _)).getD_at (show j < n2 by omega)
    obtain ⟨b3, o3, e3, hb3, hc3, -⟩ := (H2.out.below b0 (Nat.le_refl _)).getD_at hjn
    injection e3 with e3; injection e3 with e3 e4 e5; subst e3 e4
    clear e5
    have hm2 := HM.out; have hx1 := HX.out
    have HC2 := Lib.hid hc2; have HC3 := Lib.hid hc3; clear hc2 hc3
    generalize ms.getD i 0 = X at *
    go_wp2_with fail
    go_quiet (fail)
    go_wp2_with fail
    clear hc1 hm2 hx1
    go_loop [8, 10, 58] (fun t _ v => ∃ (k : Nat) (J : Int), k ≤ i ∧ v = .int .i64 k ∧ t = .int .i64 J ∧ J = M - 1 + (ms.take k).sum) (fun _ _ v => i - (intOf v).toNat)
    case atStart => exact ⟨0, M - 1, by omega, rfl, rfl, by simp⟩
    case round =>
      obtain ⟨k, J, hk, rfl, rfl, hJ⟩ := hrel
      by_cases hlt : k < i
      · obtain ⟨b4, o4, x, e4, hb4, hc4, hx4, x1, x2⟩ := (H1.out.below b0 (Nat.le_refl _)).at_ (show k < n1 by omega)
        injection e4 with e4; injection e4 with e4 e5 e6; subst e4 e5
        clear e6
        have hx5 := OK.out.each x (List.mem_of_getElem? hx4)
        have HT := Lib.hid (take_is hx4)
        have hJb : -10 ≤ J ∧ J ≤ 10000 := by
          have e1 : ms.sum = (ms.take k).sum + (ms.drop k).sum := by rw [← List.sum_append, List.take_append_drop]
          have := sum_nonneg (ms.drop k) (fun x hx => OK.out.each x (List.mem_of_mem_drop hx))
          have := sum_nonneg (ms.take k) (fun x hx => OK.out.each x (List.mem_of_mem_take hx))
          have := HM.out; have := HX.out
          omega
        have t6 : IntKind.i64.wrap (J + x) = J + x := IntWalk.i64_in _ (by omega)
        have t7 : IntKind.i64.wrap ((k : Int) + 1) = (k : Int) + 1 := IntWalk.i64_in _ (by omega)
        have HJJ := Lib.hid hJ; clear hJ hx4
        go_wp2_with fail
        go_round
        case rel => exact ⟨k + 1, J + x, by omega, by go_num, rfl, by rw [HT.out, List.sum_append, List.sum_singleton]; have := HJJ.out; omega⟩
        case measure => simp [intOf]; omega
      · obtain rfl : k = i := by omega
        obtain rfl : J = (j : Int) := by have := HJ.out; omega
        clear hJ
        have hc2 := HC2.out; have hc3 := HC3.out; rw [← HA.out] at hc2; rw [← HB.out] at hc3; have t4 := T4.out; have t5 := T5.out; have hj1 := HJ1.out; have hj0 : (0 : Int) ≤ (j : Int) + 1 := (by omega); have hjt : ((j : Int) + 1).toNat = j + 1 := (by omega)
        go_wp2_with fail
        go_quiet (fail)
        go_wp2_with fail
        go_quiet (fail)
        go_wp2_with fail
        go_ret2
        exact ⟨rfl, by (repeat' (first | exact Below.refl _ _ | assumption | refine Below.drew ?_ | refine below_drewN ?_ _ | refine below_new ?_ _ | refine below_set ?_ ?_ _ | refine below_then ?_ (by assumption) | refine below_drawn ?_ (by assumption) | exact Nat.le_refl _ | omega | (simp; done) | (simp; omega)))⟩
end Go.Proofs.Ytkeicdimkmmnfaa
