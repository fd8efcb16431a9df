/- Contract of the reference's TableDates. -/
import Derived.Test.YtkeicdimkmmnfaaTab2
import Derived.Test.YtkeicdimkmmnfaaMonths
import Derived.Test.YtkeicdimkmmnfaaOwn
import Derived.Test.YtkeicdimkmmnfaaCycle2
import Derived.Test.YtkeicdimkmmnfaaNext7
namespace Go.Proofs.Ytkeicdimkmmnfaa
set_option linter.unusedVariables false
set_option maxRecDepth 100000
open Go.RowKit

def encR (r : Row4) : List Value := [.int .i64 r.y, .int .i64 r.m, .int .i64 r.a, .int .i64 r.b]
theorem flat_at : ∀ (R : List Row4) (i j : Nat) (r : Row4), R[i]? = some r → j < 4 → (R.flatMap encR)[i * 4 + j]? = (encR r)[j]?
  | r :: R, 0, j, x, hx, hj => by
    simp at hx; subst hx
    rw [List.flatMap_cons, Nat.zero_mul, Nat.zero_add, List.getElem?_append_left (by simpa [encR] using hj)]
  | r :: R, i + 1, j, x, hx, hj => by
    rw [List.flatMap_cons, List.getElem?_append_right (by simp [encR]; omega)]
    have := flat_at R i j x (by simpa using hx) hj
    rw [← this]
    congr 1
    simp [encR]; omega
theorem flat_length : ∀ (R : List Row4), (R.flatMap encR).length = R.length * 4
  | [] => rfl
  | r :: R => by rw [List.flatMap_cons, List.length_append, flat_length R, List.length_cons]; simp [encR]; omega
theorem own_rows {w : World} {base : Nat} {v : Value} {n : Nat} {R : List Row4} (h : w.ownsRow base 115 4 v n (R.flatMap encR)) (hn : R.length = n) : ∃ a c, v = .slice a n c ∧ n ≤ c ∧ RowsOf 4 encR w w.heap.size a n R := by
  rcases h.2 with ⟨rfl, h0⟩ | ⟨g, cap, cur, rfl, _, hcur, hnc, hcm, hcs, htake⟩
  · have hz : n = 0 := h0
    subst hz
    exact ⟨none, 0, rfl, by omega, hn, by omega, fun h => absurd h (by omega)⟩
  · unfold maxLen at hcm
    have hat : At w g (.cells cur 115) := hcur
    refine ⟨some ⟨g, 0, none⟩, cap, rfl, hnc, hn, by omega, fun _ => ⟨g, 0, rfl, hat.lt, fun i x hx j u hu => ?_⟩⟩
    have hj : j < 4 := by have := (List.getElem?_eq_some_iff.1 hu).1; simpa [encR] using this
    have hi : i < n := by have := (List.getElem?_eq_some_iff.1 hx).1; omega
    have h1 := flat_at R i j x hx hj
    rw [← htake, List.getElem?_take, if_pos (by omega), Array.getElem?_toList, hu] at h1
    rw [hat.cell (0 + i * 4 + j), Nat.zero_add, h1]
theorem Try.infoRow4 : (Try.prog.info? 115).map (fun i => (i.zero, i.size, i.bytes)) = some (some (.agg #[.int .i64 0, .int .i64 0, .int .i64 0, .int .i64 0]), 4, 32) := by kernel_rfl
/-- What TableDates leaves. -/
def DatesOut (w : World) (R : List Row4) (e : Ending) (w' : World) : Prop := ∃ a n c, e = .returned (.slice a n c) ∧ RowsOf 4 encR w' w'.heap.size a n R ∧ Below w.heap.size w w'
set_option maxHeartbeats 2000000 in
theorem ref_TableDates (w : World) (s : ByteArray) (f : Int) (a1 a2 : Option Addr) (n1 c1 n2 c2 : Nat) (ms ss : List Int) (h1 : Ints w w.heap.size a1 n1 ms) (h2 : Ints w w.heap.size a2 n2 ss) (ok : TableOk f ms ss) :
    Calls Try.prog 63 #[.agg #[.string s, .int .i64 f, .slice a1 n1 c1, .slice a2 n2 c2]] w (DatesOut w (rowsAt ss 0 (yrs f ms))) := by
  obtain ⟨i0, hi, hz0, hz1, hz2⟩ := info_parts Try.infoRow4
  have l1 := h1.1; have l2 := h2.1
  have p1 := ok.l1; have p2 := ok.l2; have p3 := ok.f1; have p4 := ok.f2
  rw [l1] at p1 p2 p4
  have hlen0 : (yrs f ms).length + 1 = n2 := by have := ok.len; have := yrs_length ms f ok.each; omega
  have hbig : ms.sum ≤ 13 * 40 := (sum_bound 40 ms (fun x hx => by have := ok.each x hx; simpa [mOk] using this) ok.l2).2
  have hn2 : n2 ≤ 521 := by have := ok.len; omega
  obtain ⟨RR, hR⟩ : ∃ RR, RR = rowsAt ss 0 (yrs f ms) := ⟨_, rfl⟩
  have hRl : RR.length + 1 = n2 := by rw [hR, rowsAt_length]; exact hlen0
  rw [← hR]
  have HR := Lib.hid hR; have H1 := Lib.hid h1; have H2 := Lib.hid h2; have OK := Lib.hid ok; have L1 := Lib.hid l1; have HRL := Lib.hid hRl
  clear h1 h2 ok l1 l2 hR hlen0 hbig hRl
  go_enter Try.func63, Try.ntmps63
  go_wp2_with fail
  have a0 := At.new w (.cells #[.string s, .int .i64 f, .slice a1 n1 c1, .slice a2 n2 c2] 36)
  have b0 := below_new (Below.refl w.heap.size w) (.cells #[.string s, .int .i64 f, .slice a1 n1 c1, .slice a2 n2 c2] 36)
  generalize World.alloc w _ = w1 at a0 b0 ⊢
  go_loopw [3, 4, 5, 6, 7, 11] (fun v _ _ _ _ t wr => ∃ (i k : Nat) (R : List Row4), i ≤ n1 ∧ t = .int .i64 i ∧ R.length = k ∧ R ++ rowsAt ss k (yrs (f + i) (ms.drop i)) = RR ∧ wr.ownsRow (w.heap.size + 1) 115 4 v k (R.flatMap encR) ∧ At wr w.heap.size (.cells #[.string s, .int .i64 f, .slice a1 n1 c1, .slice a2 n2 c2] 36) ∧ Below w.heap.size w wr) (fun _ _ _ _ _ t _ => n1 - (intOf t).toNat)
  case atStart => exact ⟨0, 0, [], by omega, rfl, rfl, by rw [HR.out]; simp, World.ownsRow_nil _ _ _ _, a0, b0⟩
  case round =>
    clear a0 b0
    obtain ⟨i, k, R, hi', rfl, hRk, hrest, hown, a0, b0⟩ := hrel
    by_cases hlt : i < n1
    · obtain ⟨b1, o1, n, rfl, hb1, hc1, hx, x1, x2⟩ := (H1.out.below b0 (Nat.le_refl _)).at_ hlt
      have hn := OK.out.each n (List.mem_of_getElem? hx)
      rw [rest_open (f := f) hx (by omega)] at hrest
      have HREST := Lib.hid hrest; have HRK := Lib.hid hRk; have OWN := Lib.hid hown
      clear hrest hRk hown hx
      have t7 : IntKind.i64.wrap ((i : Int) + 1) = (i : Int) + 1 := IntWalk.i64_in _ (by omega)
      have t8 : IntKind.i64.wrap (f + (i : Int)) = f + (i : Int) := IntWalk.i64_in _ (by omega)
      go_wp2_with fail
      clear hc1
      go_loopw [3, 6, 7] (fun v t _ wr => ∃ (k : Nat) (m : Int) (R : List Row4), 1 ≤ m ∧ m ≤ n + 1 ∧ t = .int .i64 m ∧ R.length = k ∧ R ++ rowsAt ss k (restOf f ms i n m) = RR ∧ wr.ownsRow (w.heap.size + 1) 115 4 v k (R.flatMap encR) ∧ At wr w.heap.size (.cells #[.string s, .int .i64 f, .slice (some ⟨b1, o1, none⟩) n1 c1, .slice a2 n2 c2] 36) ∧ Below w.heap.size w wr) (fun _ t _ _ => (n + 1 - intOf t).toNat)
      case atStart => exact ⟨k, 1, R, by omega, by omega, rfl, HRK.out, HREST.out, OWN.out, a0, b0⟩
      case round =>
        clear HREST HRK OWN a0 b0
        obtain ⟨k, m, R, m1, m2, rfl, hRk, hrest, hown, a0, b0⟩ := hrel
        by_cases hmn : m ≤ n
        · rw [rest_step hmn] at hrest
          simp only [rowsAt] at hrest
          have hkn : k + 1 < n2 := by
            have h := congrArg List.length hrest
            simp only [List.length_append, List.length_cons] at h
            have := HRL.out
            omega
          obtain ⟨b2, o2, rfl, hb2, hc2, hs2⟩ := (H2.out.below b0 (Nat.le_refl _)).getD_at (show k < n2 by omega)
          obtain ⟨b3, o3, e3, hb3, hc3, hs3⟩ := (H2.out.below b0 (Nat.le_refl _)).getD_at hkn
          injection e3 with e3; injection e3 with e3 e4 e5; subst e3 e4
          clear e5 hs2 hs3
          have hk2 : (k : Int) + 1 < (n2 : Int) := by omega
          have hk3 : (0 : Int) ≤ (k : Int) + 1 := by omega
          have hk4 : ((k : Int) + 1).toNat = k + 1 := by omega
          have hk5 : (k : Int) < (n2 : Int) := by omega
          have t1 : IntKind.i64.wrap ((k : Int) + 1) = (k : Int) + 1 := IntWalk.i64_in _ (by omega)
          have t2 : IntKind.i64.wrap (m + 1) = m + 1 := IntWalk.i64_in _ (by omega)
          obtain ⟨A, hA⟩ : ∃ A, A = ss.getD k 0 := ⟨_, rfl⟩
          obtain ⟨B, hB⟩ : ∃ B, B = ss.getD (k + 1) 0 := ⟨_, rfl⟩
          rw [← hA] at hc2 hrest
          rw [← hB] at hc3 hrest
          have HREST := Lib.hid hrest; have HRK := Lib.hid hRk
          clear hrest hRk hA hB
          obtain ⟨aa, cc, rfl, _, _⟩ := own_rows hown HRK.out
          have OWN := Lib.hid hown; clear hown
          have d0 := a0.cell 0; have d1 := a0.cell 1; have d2 := a0.cell 2; have d3 := a0.cell 3; simp at d0 d1 d2 d3
          have hltw := a0.lt
          go_wp2_with fail
          have ag := own_above OWN.out (show w.heap.size < w.heap.size + 1 by omega)
          have ab := own_above OWN.out (show b2 < w.heap.size + 1 by omega)
          go_region_held3 (fun w' => w'.cell? ⟨w.heap.size, 1, none⟩ = some (.int .i64 f) ∧ w'.cell? ⟨w.heap.size, 3, none⟩ = some (.slice (some ⟨b2, o2, none⟩) n2 c2) ∧ w'.cell? ⟨b2, o2 + k, none⟩ = some (.int .i64 A) ∧ w'.cell? ⟨b2, o2 + (k + 1), none⟩ = some (.int .i64 B))
            (first
              | go_keep
              | (go_split_ands
                 refine ⟨?_, ?_, ?_, ?_⟩
                 · (rw [hgrow.cell_far _ (by simp; omega) ag]; assumption)
                 · (rw [hgrow.cell_far _ (by simp; omega) ag]; assumption)
                 · (rw [hgrow.cell_far _ (by simp; omega) ab]; assumption)
                 · (rw [hgrow.cell_far _ (by simp; omega) ab]; assumption)))
            ((refine step_append_lies _ (by rfl) _ _ _ (by rfl) (w.heap.size + 1) 115 i0 _ 4 32 Try.underlying113 hi hz0 hz1 hz2 rfl (by omega) (.slice aa k cc) k (R.flatMap encR) (by rfl) ((OWN.out.alloc _).drew) ⟨wr.heap.size, 0, none⟩ 1 1 [.int .i64 (f + i), .int .i64 m, .int .i64 A, .int .i64 B] (by rfl) (by rfl) (World.news_of_block (cs := #[.int .i64 (f + i), .int .i64 m, .int .i64 A, .int .i64 B]) (t := 115) (fr := (0, 0)) (heap_alloc_new wr _)) (by simp [Value.oneCell']) (by omega) (by unfold maxLen; omega) (by omega) (by simp; omega) (wr.heap.size + 1) (by simp) ?_; intro gg cap w4 hown' hgrow hat hltg))
          have a1' := (a0.alloc (.cells #[.int .i64 (f + i), .int .i64 m, .int .i64 A, .int .i64 B] 115)).drew.grown' hgrow (own_above OWN.out (by omega))
          have b1' : Below w.heap.size w w4 := (below_new b0 (.cells #[.int .i64 (f + i), .int .i64 m, .int .i64 A, .int .i64 B] 115)).drew.grown hgrow (by simp; omega) (fun b hb => by
            rcases Nat.lt_or_ge b (w.heap.size + 1) with h | h
            · exact absurd hb.symm (own_above OWN.out h)
            · omega)
          have OWN' := Lib.hid hown'
          clear hown' hgrow a0 b0 OWN d0 d1 d2 d3 hc2 hc3
          go_wp2_with fail
          go_roundw
          case rel =>
            refine ⟨k + 1, m + 1, R ++ [⟨f + i, m, A, B⟩], by omega, by omega, by go_num, by rw [List.length_append, HRK.out]; rfl, ?_, ?_, a1', b1'⟩
            · rw [List.append_assoc]; exact HREST.out
            · rw [List.flatMap_append]; simpa [encR] using OWN'.out
          case measure => simp [intOf]; omega
        · rw [rest_close (show n < m by omega)] at hrest
          have HREST := Lib.hid hrest; have HRK := Lib.hid hRk; have OWN := Lib.hid hown; clear hrest hRk hown
          go_wp2_with fail
          go_roundw
          case rel => exact ⟨i + 1, k, R, by omega, by go_num, HRK.out, HREST.out, OWN.out, a0, b0⟩
          case measure => simp [intOf]; omega
    · rw [List.drop_eq_nil_of_le (by have := L1.out; omega)] at hrest
      simp only [yrs, rowsAt, List.append_nil] at hrest
      subst hrest
      obtain ⟨aa, cc, rfl, _, hrows⟩ := own_rows hown hRk
      have HRO := Lib.hid hrows; clear hrows hown hRk
      go_wp2_with fail
      go_ret
      exact ⟨aa, k, cc, rfl, HRO.out, b0⟩
end Go.Proofs.Ytkeicdimkmmnfaa
