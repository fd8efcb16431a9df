/- Contracts of the reference's TableToDay and TableFromDay. -/
import Derived.Test.YtkeicdimkmmnfaaTab3
namespace Go.Proofs.Ytkeicdimkmmnfaa
set_option linter.unusedVariables false
set_option maxRecDepth 100000
open Go.RowKit

theorem rows_days (ss : List Int) (hd : ∀ (k : Nat) (x : Int), ss[k]? = some x → -4000000 ≤ x ∧ x ≤ 4000000) : ∀ (l : List (Int × Int)) (k : Nat), k + l.length + 1 ≤ ss.length → ∀ r ∈ rowsAt ss k l, (-4000000 ≤ r.a ∧ r.a ≤ 4000000) ∧ (-4000000 ≤ r.b ∧ r.b ≤ 4000000)
  | [], k, _, r, hr => by simp [rowsAt] at hr
  | p :: l, k, hk, r, hr => by
    simp only [List.length_cons] at hk
    simp only [rowsAt, List.mem_cons] at hr
    rcases hr with rfl | hr
    · refine ⟨?_, ?_⟩
      · have := hd k _ (List.getElem?_eq_getElem (by omega))
        simp only [List.getD_eq_getElem?_getD, List.getElem?_eq_getElem (show k < ss.length by omega)]; exact this
      · have := hd (k + 1) _ (List.getElem?_eq_getElem (by omega))
        simp only [List.getD_eq_getElem?_getD, List.getElem?_eq_getElem (show k + 1 < ss.length by omega)]; exact this
    · exact rows_days ss hd l (k + 1) (by omega) r hr
theorem table_days {f : Int} {ms ss : List Int} (ok : TableOk f ms ss) : ∀ r ∈ rowsAt ss 0 (yrs f ms), (-4000000 ≤ r.a ∧ r.a ≤ 4000000) ∧ (-4000000 ≤ r.b ∧ r.b ≤ 4000000) :=
  rows_days ss ok.days (yrs f ms) 0 (by have := ok.len; have := yrs_length ms f ok.each; omega)
theorem RowsOf.open4 {w : World} {B : Nat} {a : Option Addr} {n : Nat} {R : List Row4} (h : RowsOf 4 encR w B a n R) {k : Nat} (hk : k < n) :
    ∃ b off r, a = some ⟨b, off, none⟩ ∧ b < B ∧ R[k]? = some r ∧ w.cell? ⟨b, off + k * 4, none⟩ = some (.int .i64 r.y) ∧ w.cell? ⟨b, off + k * 4 + 1, none⟩ = some (.int .i64 r.m) ∧ w.cell? ⟨b, off + k * 4 + 2, none⟩ = some (.int .i64 r.a) ∧ w.cell? ⟨b, off + k * 4 + 3, none⟩ = some (.int .i64 r.b) := by
  obtain ⟨b, off, e, hlt, hc⟩ := h.2.2 (by omega)
  have hx := List.getElem?_eq_getElem (show k < R.length by have := h.1; omega)
  exact ⟨b, off, _, e, hlt, hx, hc k _ hx 0 _ rfl, hc k _ hx 1 _ rfl, hc k _ hx 2 _ rfl, hc k _ hx 3 _ rfl⟩
theorem RowsOf.then_ {w w' : World} {a : Option Addr} {n : Nat} {R : List Row4} (h : RowsOf 4 encR w w.heap.size a n R) (hb : Below w.heap.size w w') : RowsOf 4 encR w' w'.heap.size a n R := (h.below hb (Nat.le_refl _)).more hb.size
set_option maxHeartbeats 2000000 in
theorem ref_TableToDay (w : World) (s : ByteArray) (f : Int) (a1 a2 : Option Addr) (n1 c1 n2 c2 : Nat) (ms ss : List Int) (Y M D : Int) (d1 : -9223372036854775808 ≤ D) (d2 : D ≤ 9223372036854775807) (h1 : Ints w w.heap.size a1 n1 ms) (h2 : Ints w w.heap.size a2 n2 ss) (ok : TableOk f ms ss) :
    Calls Try.prog 22 #[.agg #[.string s, .int .i64 f, .slice a1 n1 c1, .slice a2 n2 c2], .agg #[.int .i64 Y, .int .i64 M, .int .i64 D]] w fun e w' => e = .returned (.tuple #[.int .i64 (toGo Y M D 3 (rowsAt ss 0 (yrs f ms))).1, .int .i64 (toGo Y M D 3 (rowsAt ss 0 (yrs f ms))).2]) ∧ Below w.heap.size w w' := by
  have hday := table_days ok
  obtain ⟨RR, hR⟩ : ∃ RR, RR = rowsAt ss 0 (yrs f ms) := ⟨_, rfl⟩
  rw [← hR] at hday ⊢
  obtain ⟨G, hG⟩ : ∃ G, G = toGo Y M D 3 RR := ⟨_, rfl⟩
  rw [← hG]
  have HR := Lib.hid hR; have H1 := Lib.hid h1; have H2 := Lib.hid h2; have OK := Lib.hid ok; have HG := Lib.hid hG; have HD := Lib.hid hday
  clear h1 h2 ok hR hG hday
  go_enter Try.func22, Try.ntmps22
  go_wp2_with fail
  refine (ref_TableDates _ _ _ _ _ _ _ _ _ ms ss ((H1.out.below (below_new (below_new (Below.refl _ _) _) _) (Nat.le_refl _)).more (by simp; omega)) ((H2.out.below (below_new (below_new (Below.refl _ _) _) _) (Nat.le_refl _)).more (by simp; omega)) OK.out).mono ?_
  rw [← HR.out]
  rintro e w1 ⟨ra, n, rc, rfl, hrows, hb⟩
  have ad := (At.new1 w (.cells #[.string s, .int .i64 f, .slice a1 n1 c1, .slice a2 n2 c2] 36) (.cells #[.int .i64 Y, .int .i64 M, .int .i64 D] 38)).then_ hb
  have b0 : Below w.heap.size w w1 := by (repeat' (first | exact Below.refl _ _ | assumption | refine Below.drew ?_ | refine below_drewN ?_ _ | refine below_new ?_ _ | refine below_set ?_ ?_ _ | refine below_then ?_ (by assumption) | refine below_drawn ?_ (by assumption) | exact Nat.le_refl _ | omega | (simp; done) | (simp; omega)))
  have hnn : n ≤ 9223372036854775807 := hrows.2.1
  have RL := Lib.hid hrows.1; have RO := Lib.hid hrows
  clear hb hrows
  go_wp2_with fail
  have bb := Below.refl w1.heap.size w1
  go_loopw [6, 8, 12] (fun t _ v wr => ∃ (i : Nat) (ev : Int), i ≤ n ∧ v = .int .i64 i ∧ t = .int .i64 ev ∧ toGo Y M D ev (RR.drop i) = G ∧ At wr (w.heap.size + 1) (.cells #[.int .i64 Y, .int .i64 M, .int .i64 D] 38) ∧ Below w1.heap.size w1 wr ∧ Below w.heap.size w wr) (fun _ _ v _ => n - (intOf v).toNat)
  case atStart => exact ⟨0, 3, by omega, rfl, rfl, by rw [HG.out]; rfl, ad, bb, b0⟩
  case round =>
    clear ad bb b0
    obtain ⟨i, ev, hi, rfl, rfl, hgo, ad, bb, b0⟩ := hrel
    by_cases hlt : i < n
    · obtain ⟨b, off, r, rfl, hbb, hr, c0, c1', c2', c3⟩ := (RO.out.then_ bb).open4 hlt
      obtain ⟨⟨g1, g2⟩, g3, g4⟩ := HD.out r (List.mem_of_getElem? hr)
      rw [drop_is hr] at hgo
      obtain ⟨y, m, a, b'⟩ := r
      simp only at c0 c1' c2' c3 g1 g2 g3 g4
      simp only [toGo] at hgo
      clear hr
      have t1 : IntKind.i64.wrap ((i : Int) + 1) = (i : Int) + 1 := IntWalk.i64_in _ (by omega)
      have hii : (i : Int) < (n : Int) := by omega
      have ad' := ad.alloc (.cells #[.int .i64 y, .int .i64 m, .int .i64 a, .int .i64 b'] 115)
      have bb' := below_new bb (.cells #[.int .i64 y, .int .i64 m, .int .i64 a, .int .i64 b'] 115)
      have b0' := below_new b0 (.cells #[.int .i64 y, .int .i64 m, .int .i64 a, .int .i64 b'] 115)
      have hltd := ad.lt
      have e0 := ad.cell 0; have e1 := ad.cell 1; have e2 := ad.cell 2; simp at e0 e1 e2
      by_cases hy : y = Y
      case neg =>
        have hyb : (y != Y) = true := by simpa using hy
        rw [if_pos hy] at hgo
        have HGO := Lib.hid hgo; clear hgo hy
        go_wp2_with fail
        go_roundw
        case rel => exact ⟨i + 1, ev, by omega, by go_num, rfl, HGO.out, ad', bb', b0'⟩
        case measure => simp [intOf]; omega
      have hyb : (y != Y) = false := by simpa using hy
      rw [if_neg (by simpa using hy)] at hgo
      clear hy
      by_cases hg : m = M ∧ 1 ≤ D ∧ a + D - 1 < b' ∧ D < 100
      · rw [if_pos hg] at hgo
        obtain ⟨q1, q2, q3, q4⟩ := hg
        have q1b : (m == M) = true := by simpa using q1
        have t2 : IntKind.i64.wrap (a + D) = a + D := IntWalk.i64_in _ (by omega)
        have t3 : IntKind.i64.wrap (a + D - 1) = a + D - 1 := IntWalk.i64_in _ (by omega)
        have HGO := Lib.hid hgo; clear hgo q1
        go_wp2_with fail
        go_ret2
        exact ⟨by rw [← HGO.out]; rfl, b0'⟩
      · rw [if_neg hg] at hgo
        have HGO := Lib.hid hgo; clear hgo
        by_cases q1 : m = M
        case neg =>
          have q1b : (m == M) = false := by simpa using q1
          clear q1 hg
          go_wp2_with fail
          go_roundw
          case rel => exact ⟨i + 1, 1, by omega, by go_num, rfl, HGO.out, ad', bb', b0'⟩
          case measure => simp [intOf]; omega
        have q1b : (m == M) = true := by simpa using q1
        by_cases q2 : D < 1
        · clear q1 hg
          go_wp2_with fail
          go_roundw
          case rel => exact ⟨i + 1, 1, by omega, by go_num, rfl, HGO.out, ad', bb', b0'⟩
          case measure => simp [intOf]; omega
        by_cases q3 : D < 100
        · have q4 : b' ≤ a + D - 1 := by
            apply Classical.byContradiction
            intro h; exact hg ⟨q1, by omega, by omega, q3⟩
          have t2 : IntKind.i64.wrap (a + D) = a + D := IntWalk.i64_in _ (by omega)
          have t3 : IntKind.i64.wrap (a + D - 1) = a + D - 1 := IntWalk.i64_in _ (by omega)
          clear q1 hg
          go_wp2_with fail
          go_roundw
          case rel => exact ⟨i + 1, 1, by omega, by go_num, rfl, HGO.out, ad', bb', b0'⟩
          case measure => simp [intOf]; omega
        · have q5 : 100 ≤ D := by omega
          clear q1 hg
          go_wp2_with fail
          all_goals
            go_roundw
            case rel => exact ⟨i + 1, 1, by omega, by go_num, rfl, HGO.out, ad', bb', b0'⟩
            case measure => simp [intOf]; omega
    · rw [List.drop_eq_nil_of_le (by have := RL.out; omega)] at hgo
      simp only [toGo] at hgo
      have HGO := Lib.hid hgo; clear hgo
      go_wp2_with fail
      go_ret2
      exact ⟨by rw [← HGO.out]; rfl, b0⟩
set_option maxHeartbeats 2000000 in
theorem ref_TableFromDay (w : World) (s : ByteArray) (f : Int) (a1 a2 : Option Addr) (n1 c1 n2 c2 : Nat) (ms ss : List Int) (x : Int) (h1 : Ints w w.heap.size a1 n1 ms) (h2 : Ints w w.heap.size a2 n2 ss) (ok : TableOk f ms ss) :
    Calls Try.prog 23 #[.agg #[.string s, .int .i64 f, .slice a1 n1 c1, .slice a2 n2 c2], .int .i64 x] w fun e w' => e = .returned (datV (fromGo x (rowsAt ss 0 (yrs f ms)))) ∧ Below w.heap.size w w' := by
  have hday := table_days ok
  obtain ⟨RR, hR⟩ : ∃ RR, RR = rowsAt ss 0 (yrs f ms) := ⟨_, rfl⟩
  rw [← hR] at hday ⊢
  obtain ⟨G, hG⟩ : ∃ G, G = fromGo x RR := ⟨_, rfl⟩
  rw [← hG]
  have HR := Lib.hid hR; have H1 := Lib.hid h1; have H2 := Lib.hid h2; have OK := Lib.hid ok; have HG := Lib.hid hG; have HD := Lib.hid hday
  clear h1 h2 ok hR hG hday
  go_enter Try.func23, Try.ntmps23
  go_wp2_with fail
  refine (ref_TableDates _ _ _ _ _ _ _ _ _ ms ss ((H1.out.below (below_new (below_new (Below.refl _ _) _) _) (Nat.le_refl _)).more (by simp; omega)) ((H2.out.below (below_new (below_new (Below.refl _ _) _) _) (Nat.le_refl _)).more (by simp; omega)) OK.out).mono ?_
  rw [← HR.out]
  rintro e w1 ⟨ra, n, rc, rfl, hrows, hb⟩
  have ar := (At.new1 w (.cells #[.string s, .int .i64 f, .slice a1 n1 c1, .slice a2 n2 c2] 36) (.cells #[.int .i64 0, .int .i64 0, .int .i64 0] 38)).then_ hb
  have b0 : Below w.heap.size w w1 := by (repeat' (first | exact Below.refl _ _ | assumption | refine Below.drew ?_ | refine below_drewN ?_ _ | refine below_new ?_ _ | refine below_set ?_ ?_ _ | refine below_then ?_ (by assumption) | refine below_drawn ?_ (by assumption) | exact Nat.le_refl _ | omega | (simp; done) | (simp; omega)))
  have hnn : n ≤ 9223372036854775807 := hrows.2.1
  have RL := Lib.hid hrows.1; have RO := Lib.hid hrows
  clear hb hrows
  go_wp2_with fail
  have bb := Below.refl w1.heap.size w1
  go_loopw [7, 11] (fun _ v wr => ∃ (i : Nat), i ≤ n ∧ v = .int .i64 i ∧ fromGo x (RR.drop i) = G ∧ At wr (w.heap.size + 1) (.cells #[.int .i64 0, .int .i64 0, .int .i64 0] 38) ∧ Below w1.heap.size w1 wr ∧ Below w.heap.size w wr) (fun _ v _ => n - (intOf v).toNat)
  case atStart => exact ⟨0, by omega, rfl, by rw [HG.out]; rfl, ar, bb, b0⟩
  case round =>
    clear ar bb b0
    obtain ⟨i, hi, rfl, hgo, ar, bb, b0⟩ := hrel
    by_cases hlt : i < n
    · obtain ⟨b, off, r, rfl, hbb, hr, c0, c1', c2', c3⟩ := (RO.out.then_ bb).open4 hlt
      obtain ⟨⟨g1, g2⟩, g3, g4⟩ := HD.out r (List.mem_of_getElem? hr)
      rw [drop_is hr] at hgo
      obtain ⟨y, m, a, b'⟩ := r
      simp only at c0 c1' c2' c3 g1 g2 g3 g4
      simp only [fromGo] at hgo
      clear hr
      have t1 : IntKind.i64.wrap ((i : Int) + 1) = (i : Int) + 1 := IntWalk.i64_in _ (by omega)
      have hii : (i : Int) < (n : Int) := by omega
      have ar' := ar.alloc (.cells #[.int .i64 y, .int .i64 m, .int .i64 a, .int .i64 b'] 115)
      have bb' := below_new bb (.cells #[.int .i64 y, .int .i64 m, .int .i64 a, .int .i64 b'] 115)
      have b0' := below_new b0 (.cells #[.int .i64 y, .int .i64 m, .int .i64 a, .int .i64 b'] 115)
      have hltd := ar.lt
      by_cases hg : a ≤ x ∧ x < b'
      · rw [if_pos hg] at hgo
        obtain ⟨q1, q2⟩ := hg
        have t2 : IntKind.i64.wrap (x - a) = x - a := IntWalk.i64_in _ (by omega)
        have t3 : IntKind.i64.wrap (x - a + 1) = x - a + 1 := IntWalk.i64_in _ (by omega)
        have HGO := Lib.hid hgo; clear hgo
        have e0 := ar.cell 0; have e1 := ar.cell 1; have e2 := ar.cell 2; simp at e0 e1 e2
        have z0 := ar.frozen 0; have z1 := ar.frozen 1; have z2 := ar.frozen 2
        go_wp2_with fail
        have ar3 := (ar.store3 (.int .i64 y) (.int .i64 m) (.int .i64 (x - a + 1))).alloc (.cells #[.int .i64 y, .int .i64 m, .int .i64 a, .int .i64 b'] 115)
        have b3 := below_new (below_set3 b0 (p := w.heap.size + 1) (by omega) (.int .i64 y) (.int .i64 m) (.int .i64 (x - a + 1))) (.cells #[.int .i64 y, .int .i64 m, .int .i64 a, .int .i64 b'] 115)
        clear e0 e1 e2 z0 z1 z2
        generalize World.alloc (World.setCell (World.setCell _ _ _) _ _) _ = W3 at ar3 b3 ⊢
        have e0 := ar3.cell 0; have e1 := ar3.cell 1; have e2 := ar3.cell 2; simp at e0 e1 e2
        exact bodyPost_ret (v := .tuple #[.agg #[.int .i64 y, .int .i64 m, .int .i64 (x - a + 1)], .int .i64 0]) (by simp [results, Try.results23, go_sem, e0, e1, e2]) rfl ⟨by rw [← HGO.out]; rfl, b3⟩
      · have hcs : x < a ∨ (a ≤ x ∧ b' ≤ x) := by omega
        rw [if_neg hg] at hgo
        have HGO := Lib.hid hgo; clear hgo hg
        rcases hcs with q1 | ⟨q1, q2⟩
        all_goals
          go_wp2_with fail
          go_roundw
          case rel => exact ⟨i + 1, by omega, by go_num, HGO.out, ar', bb', b0'⟩
          case measure => simp [intOf]; omega
    · rw [List.drop_eq_nil_of_le (by have := RL.out; omega)] at hgo
      simp only [fromGo] at hgo
      have HGO := Lib.hid hgo; clear hgo
      have e0 := ar.cell 0; have e1 := ar.cell 1; have e2 := ar.cell 2; simp at e0 e1 e2
      have z0 := ar.frozen 0; have z1 := ar.frozen 1; have z2 := ar.frozen 2
      go_wp2_with fail
      have ar3 := ar.store3 (.int .i64 0) (.int .i64 0) (.int .i64 0)
      have b3 := below_set3 b0 (p := w.heap.size + 1) (by omega) (.int .i64 0) (.int .i64 0) (.int .i64 0)
      clear e0 e1 e2 z0 z1 z2
      generalize World.setCell (World.setCell _ _ _) _ _ = W3 at ar3 b3 ⊢
      have e0 := ar3.cell 0; have e1 := ar3.cell 1; have e2 := ar3.cell 2; simp at e0 e1 e2
      exact bodyPost_ret (v := .tuple #[.agg #[.int .i64 0, .int .i64 0, .int .i64 0], .int .i64 3]) (by simp [results, Try.results23, go_sem, e0, e1, e2]) rfl ⟨by rw [← HGO.out]; rfl, b3⟩
end Go.Proofs.Ytkeicdimkmmnfaa
