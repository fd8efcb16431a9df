/- Contract of observed.FromDay. -/
import Derived.Test.YtkeicdimkmmnfaaTab1
namespace Go.Proofs.Ytkeicdimkmmnfaa
set_option linter.unusedVariables false
set_option maxRecDepth 100000
open Go.RowKit

/-- A date and an error as a pair of results. -/
def datV (r : Dat) : Value := .tuple #[.agg #[.int .i64 r.y, .int .i64 r.m, .int .i64 r.d], .int .i64 r.e]
theorem observed_FromDay_err (w : World) (s : ByteArray) (f : Int) (a1 a2 : Option Addr) (n1 c1 n2 c2 : Nat) (ms ss : List Int) (x : Int) (hs : s.size ≤ 9223372036854775807) (f1 : -9223372036854775808 ≤ f) (f2 : f ≤ 9223372036854775807) (h1 : Ints w w.heap.size a1 n1 ms) (h2 : Ints w w.heap.size a2 n2 ss) (q : tableErr s f ms ss ≠ 0) :
    Calls Try.prog 18 #[.agg #[.string s, .int .i64 f, .slice a1 n1 c1, .slice a2 n2 c2], .int .i64 x] w fun e w' => e = .returned (datV ⟨0, 0, 0, tableErr s f ms ss⟩) ∧ Below w.heap.size w w' := by
  have H1 := Lib.hid h1; have H2 := Lib.hid h2; clear h1 h2
  obtain ⟨E, hE⟩ : ∃ E, E = tableErr s f ms ss := ⟨_, rfl⟩
  rw [← hE] at q ⊢
  have HE := Lib.hid hE; clear hE
  have q' : (E != 0) = true := by simpa using q
  clear q
  go_enter Try.func18, Try.ntmps18
  go_wp2_with fail
  refine (observed_Check _ _ _ _ _ _ _ _ _ ms ss hs f1 f2 ((H1.out.below (below_new (below_new (Below.refl _ _) _) _) (Nat.le_refl _)).more (by simp; omega)) ((H2.out.below (below_new (below_new (Below.refl _ _) _) _) (Nat.le_refl _)).more (by simp; omega))).mono ?_; rw [← HE.out]; rintro e w1 ⟨rfl, hb⟩
  have ar := (At.new1 w (.cells #[.string s, .int .i64 f, .slice a1 n1 c1, .slice a2 n2 c2] 36) (.cells #[.int .i64 0, .int .i64 0, .int .i64 0] 38)).then_ hb
  have b0 : Below w.heap.size w w1 := by (repeat' (first | exact Below.refl _ _ | assumption | refine Below.drew ?_ | refine below_drewN ?_ _ | refine below_new ?_ _ | refine below_set ?_ ?_ _ | refine below_then ?_ (by assumption) | refine below_drawn ?_ (by assumption) | exact Nat.le_refl _ | omega | (simp; done) | (simp; omega)))
  clear hb
  have e0 := ar.cell 0; have e1 := ar.cell 1; have e2 := ar.cell 2; simp at e0 e1 e2
  have z0 := ar.frozen 0; have z1 := ar.frozen 1; have z2 := ar.frozen 2
  go_wp2_with fail
  have ar3 := ar.store3 (.int .i64 0) (.int .i64 0) (.int .i64 0)
  have b3 := below_set3 b0 (p := w.heap.size + 1) (by omega) (.int .i64 0) (.int .i64 0) (.int .i64 0)
  clear e0 e1 e2 z0 z1 z2
  generalize World.setCell (World.setCell _ _ _) _ _ = W3 at ar3 b3 ⊢
  have e0 := ar3.cell 0; have e1 := ar3.cell 1; have e2 := ar3.cell 2; simp at e0 e1 e2
  exact bodyPost_ret (v := .tuple #[.agg #[.int .i64 0, .int .i64 0, .int .i64 0], .int .i64 E]) (by simp [results, Try.results18, go_sem, e0, e1, e2]) rfl ⟨rfl, b3⟩
set_option maxHeartbeats 2000000 in
theorem observed_FromDay_ok (w : World) (s : ByteArray) (f : Int) (a1 a2 : Option Addr) (n1 c1 n2 c2 : Nat) (ms ss : List Int) (x : Int) (hs : s.size ≤ 9223372036854775807) (f1 : -9223372036854775808 ≤ f) (f2 : f ≤ 9223372036854775807) (h1 : Ints w w.heap.size a1 n1 ms) (h2 : Ints w w.heap.size a2 n2 ss) (q : tableErr s f ms ss = 0) :
    Calls Try.prog 18 #[.agg #[.string s, .int .i64 f, .slice a1 n1 c1, .slice a2 n2 c2], .int .i64 x] w fun e w' => e = .returned (datV (fromGo x (rowsAt ss 0 (yrs f ms)))) ∧ Below w.heap.size w w' := by
  have ok := tableOk_of q
  have l1 := h1.1; have l2 := h2.1
  have p1 := ok.l1; have p2 := ok.l2; have p3 := ok.f1; have p4 := ok.f2
  rw [l1] at p1 p2 p4
  have hlen0 : (yrs f ms).length + 1 = n2 := by have := ok.len; have := yrs_length ms f ok.each; omega
  have hbig : ms.sum ≤ 13 * 40 := (sum_bound 40 ms (fun x hx => by have := ok.each x hx; simpa [mOk] using this) ok.l2).2
  have hn2 : n2 ≤ 521 := by have := ok.len; omega
  obtain ⟨R, hR⟩ : ∃ R, R = fromGo x (rowsAt ss 0 (yrs f ms)) := ⟨_, rfl⟩
  rw [← hR]
  have HR := Lib.hid hR; have H1 := Lib.hid h1; have H2 := Lib.hid h2; have OK := Lib.hid ok; have HQ := Lib.hid q; have L1 := Lib.hid l1; have HL0 := Lib.hid hlen0
  clear h1 h2 ok q l1 l2 hR hlen0 hbig
  go_enter Try.func18, Try.ntmps18
  go_wp2_with fail
  refine (observed_Check _ _ _ _ _ _ _ _ _ ms ss hs f1 f2 ((H1.out.below (below_new (below_new (Below.refl _ _) _) _) (Nat.le_refl _)).more (by simp; omega)) ((H2.out.below (below_new (below_new (Below.refl _ _) _) _) (Nat.le_refl _)).more (by simp; omega))).mono ?_; rw [HQ.out]; rintro e w1 ⟨rfl, hb⟩
  have a0 := ((At.new w (.cells #[.string s, .int .i64 f, .slice a1 n1 c1, .slice a2 n2 c2] 36)).alloc (.cells #[.int .i64 0, .int .i64 0, .int .i64 0] 38)).then_ hb
  have ar := (At.new1 w (.cells #[.string s, .int .i64 f, .slice a1 n1 c1, .slice a2 n2 c2] 36) (.cells #[.int .i64 0, .int .i64 0, .int .i64 0] 38)).then_ hb
  have b0 : Below w.heap.size w w1 := by (repeat' (first | exact Below.refl _ _ | assumption | refine Below.drew ?_ | refine below_drewN ?_ _ | refine below_new ?_ _ | refine below_set ?_ ?_ _ | refine below_then ?_ (by assumption) | refine below_drawn ?_ (by assumption) | exact Nat.le_refl _ | omega | (simp; done) | (simp; omega)))
  clear hb
  have d0 := a0.cell 0; have d1 := a0.cell 1; have d2 := a0.cell 2; have d3 := a0.cell 3; simp at d0 d1 d2 d3
  go_wp2_with fail
  go_loop [7, 8, 9, 10, 20] (fun t _ _ _ v => ∃ (i k : Nat), i ≤ n1 ∧ v = .int .i64 i ∧ t = .int .i64 k ∧ k + (yrs (f + i) (ms.drop i)).length + 1 = n2 ∧ fromGo x (rowsAt ss k (yrs (f + i) (ms.drop i))) = R) (fun _ _ _ _ v => n1 - (intOf v).toNat)
  case atStart => exact ⟨0, 0, by omega, rfl, rfl, by have := HL0.out; simpa using this, by rw [HR.out]; simp⟩
  case round =>
    obtain ⟨i, k, hi, rfl, rfl, hk, hgo⟩ := hrel
    by_cases hlt : i < n1
    · obtain ⟨b1, o1, n, rfl, hb1, hc1, hx, x1, x2⟩ := (H1.out.below b0 (Nat.le_refl _)).at_ hlt
      have hn := OK.out.each n (List.mem_of_getElem? hx)
      have hro := rest_open (f := f) hx (by omega)
      rw [hro] at hk hgo
      have HK := Lib.hid hk; have HGO := Lib.hid hgo
      have hk2 : k ≤ 521 := by omega
      clear hk hgo hro hx
      have t7 : IntKind.i64.wrap ((i : Int) + 1) = (i : Int) + 1 := IntWalk.i64_in _ (by omega)
      have t8 : IntKind.i64.wrap (f + (i : Int)) = f + (i : Int) := IntWalk.i64_in _ (by omega)
      go_wp2_with fail
      go_loop [7, 10] (fun t v => ∃ (k : Nat) (m : Int), 1 ≤ m ∧ m ≤ n + 1 ∧ v = .int .i64 m ∧ t = .int .i64 k ∧ k + (restOf f ms i n m).length + 1 = n2 ∧ fromGo x (rowsAt ss k (restOf f ms i n m)) = R) (fun _ v => (n + 1 - intOf v).toNat)
      case atStart => exact ⟨k, 1, by omega, by omega, rfl, rfl, HK.out, HGO.out⟩
      case round =>
        clear HK HGO hk2
        obtain ⟨k, m, m1, m2, rfl, rfl, hk, hgo⟩ := hrel
        by_cases hmn : m ≤ n
        · rw [rest_step hmn] at hk hgo
          simp only [List.length_cons] at hk
          simp only [rowsAt, fromGo] at hgo
          have hkn : k + 1 < n2 := by omega
          obtain ⟨b2, o2, rfl, hb2, hc2, hs2⟩ := (H2.out.below b0 (Nat.le_refl _)).getD_at (show k < n2 by omega)
          obtain ⟨b3, o3, e3, hb3, hc3, hs3⟩ := (H2.out.below b0 (Nat.le_refl _)).getD_at hkn
          injection e3 with e3; injection e3 with e3 e4 e5; subst e3 e4
          obtain ⟨g1, g2⟩ := OK.out.days _ _ hs2
          obtain ⟨g3, g4⟩ := OK.out.days _ _ hs3
          clear e5 hs2 hs3
          have hk2 : (k : Int) + 1 < (n2 : Int) := by omega
          have hk3 : (0 : Int) ≤ (k : Int) + 1 := by omega
          have hk4 : ((k : Int) + 1).toNat = k + 1 := by omega
          have hk5 : (k : Int) < (n2 : Int) := by omega
          have t1 : IntKind.i64.wrap ((k : Int) + 1) = (k : Int) + 1 := IntWalk.i64_in _ (by omega)
          have t2 : IntKind.i64.wrap (m + 1) = m + 1 := IntWalk.i64_in _ (by omega)
          have HK := Lib.hid hk; have HGO := Lib.hid hgo; clear hk hgo
          obtain ⟨A, hA⟩ : ∃ A, A = ss.getD k 0 := ⟨_, rfl⟩
          obtain ⟨B, hB⟩ : ∃ B, B = ss.getD (k + 1) 0 := ⟨_, rfl⟩
          rw [← hA] at hc2 g1 g2
          rw [← hB] at hc3 g3 g4
          have HA := Lib.hid hA; have HB := Lib.hid hB; clear hA hB
          by_cases hin : A ≤ x ∧ x < B
          · obtain ⟨i1, i2⟩ := hin
            have hres : (⟨f + i, m, x - A + 1, 0⟩ : Dat) = R := by
              have := HGO.out
              rw [← HA.out, ← HB.out, if_pos ⟨i1, i2⟩] at this
              exact this
            have HRES := Lib.hid hres; clear hres
            have t3 : IntKind.i64.wrap (x - A) = x - A := IntWalk.i64_in _ (by omega)
            have t4 : IntKind.i64.wrap (x - A + 1) = x - A + 1 := IntWalk.i64_in _ (by omega)
            have e0 := ar.cell 0; have e1 := ar.cell 1; have e2 := ar.cell 2; simp at e0 e1 e2
            have z0 := ar.frozen 0; have z1 := ar.frozen 1; have z2 := ar.frozen 2
            go_wp2_with fail
            (refine wp_region_still_tail 14 (by kernel_rfl) (by kernel_rfl) ?_; simp only [List.take_succ_cons, List.take_zero, List.drop_succ_cons, List.drop_zero]; change wpStill _ _ (World.drew w1) _ _ _; (repeat still_step); refine wpStill_nil ?_; change wpList _ _ _ _ _ (World.drew w1))
            go_wp2_with fail
            have ar3 := (ar.store3 (.int .i64 (f + i)) (.int .i64 m) (.int .i64 (x - A + 1))).drew
            have b3 := (below_set3 b0 (p := w.heap.size + 1) (by omega) (.int .i64 (f + i)) (.int .i64 m) (.int .i64 (x - A + 1))).drew
            clear e0 e1 e2 z0 z1 z2
            generalize World.drew (World.setCell (World.setCell _ _ _) _ _) = W3 at ar3 b3 ⊢
            have e0 := ar3.cell 0; have e1 := ar3.cell 1; have e2 := ar3.cell 2; simp at e0 e1 e2
            exact bodyPost_ret (v := .tuple #[.agg #[.int .i64 (f + i), .int .i64 m, .int .i64 (x - A + 1)], .int .i64 0]) (by simp [results, Try.results18, go_sem, e0, e1, e2]) rfl ⟨by rw [← HRES.out]; rfl, b3⟩
          · have hcs : x < A ∨ (A ≤ x ∧ B ≤ x) := by omega
            have hres : fromGo x (rowsAt ss (k + 1) (restOf f ms i n (m + 1))) = R := by
              have := HGO.out
              rw [← HA.out, ← HB.out, if_neg hin] at this
              exact this
            have HRES := Lib.hid hres; clear hres hin
            rcases hcs with i1 | ⟨i1, i2⟩
            all_goals
              go_wp2_with fail
              go_round
              case rel => exact ⟨k + 1, m + 1, by omega, by omega, by go_num, by go_num, by have := HK.out; omega, HRES.out⟩
              case measure => simp [intOf]; omega
        · rw [rest_close (show n < m by omega)] at hk hgo
          have HK := Lib.hid hk; have HGO := Lib.hid hgo; clear hk hgo
          go_wp2_with fail
          go_round
          case rel => exact ⟨i + 1, k, by omega, by go_num, rfl, HK.out, HGO.out⟩
          case measure => simp [intOf]; omega
    · rw [List.drop_eq_nil_of_le (by have := L1.out; omega)] at hgo
      have hres : (⟨0, 0, 0, 3⟩ : Dat) = R := by simpa [yrs, rowsAt, fromGo] using hgo
      have HRES := Lib.hid hres; clear hres hgo hk
      have e0 := ar.cell 0; have e1 := ar.cell 1; have e2 := ar.cell 2; simp at e0 e1 e2
      have z0 := ar.frozen 0; have z1 := ar.frozen 1; have z2 := ar.frozen 2
      go_wp2_with fail
      have ar3 := ar.store3 (.int .i64 0) (.int .i64 0) (.int .i64 0)
      have b3 := below_set3 b0 (p := w.heap.size + 1) (by omega) (.int .i64 0) (.int .i64 0) (.int .i64 0)
      clear e0 e1 e2 z0 z1 z2
      generalize World.setCell (World.setCell _ _ _) _ _ = W3 at ar3 b3 ⊢
      have e0 := ar3.cell 0; have e1 := ar3.cell 1; have e2 := ar3.cell 2; simp at e0 e1 e2
      exact bodyPost_ret (v := .tuple #[.agg #[.int .i64 0, .int .i64 0, .int .i64 0], .int .i64 3]) (by simp [results, Try.results18, go_sem, e0, e1, e2]) rfl ⟨by rw [← HRES.out]; rfl, b3⟩
end Go.Proofs.Ytkeicdimkmmnfaa
