/- Contract of the reference's RecurError. -/
import Derived.Test.YtdmkghgachapaaaDoorRecur2
import Derived.RegionTactic
import Derived.ChangeAlike
namespace Go.Proofs.YtdmkghgachapaaaDoor
set_option linter.unusedVariables false
set_option maxRecDepth 100000
open Go.RowKit

set_option maxHeartbeats 4000000 in
theorem ref_RecurError (w : World) (u ev f cn un : Int) (a1 a2 a3 : Option Addr) (n1 n2 n3 c1 c2 c3 : Nat) (ws ms ns : List Int)
    (h1 : Ints w w.heap.size a1 n1 ws) (h2 : Ints w w.heap.size a2 n2 ms) (h3 : Ints w w.heap.size a3 n3 ns) (k1 : n1 ≤ c1) (k2 : n2 ≤ c2) (k3 : n3 ≤ c3) (m1 : c1 ≤ 9223372036854775807) (m2 : c2 ≤ 9223372036854775807) (m3 : c3 ≤ 9223372036854775807) :
    Calls Tryd.prog 7 #[.agg #[.int .i64 u, .int .i64 ev, .int .i64 f, .int .i64 cn, .int .i64 un, .slice a1 n1 c1, .slice a2 n2 c2, .slice a3 n3 c3]] w fun e w' => e = .returned (.int .i64 (recurErr u ev f cn un ws ms ns)) ∧ Below w.heap.size w w' := by
  have H1 := Lib.hid h1; have H2 := Lib.hid h2; have H3 := Lib.hid h3; clear h1 h2 h3
  rcases inB_cases 1 4 u with ⟨bu, hu⟩ | ⟨bu, hu⟩
  case inr =>
    have ho := Lib.hid (show recurErr u ev f cn un ws ms ns = 1 by rw [recurErr, if_pos hu])
    go_enter Tryd.func7, Tryd.ntmps7
    go_wp2_with (go_at_call 17; refine (ref_In _ _ _ _).mono ?_; rintro e w1 ⟨rfl, rfl⟩)
    go_ret
    exact ⟨ret_int (by rw [ho.out]), (Below.refl _ _).alloc (Nat.le_refl _) _⟩
  by_cases hr : ¬ (1 ≤ ev ∧ ev ≤ 1000) ∨ ¬ (-4000000 ≤ f ∧ f ≤ 4000000) ∨ ¬ (-4000000 ≤ un ∧ un ≤ 4000000) ∨ un < f ∨ ¬ (0 ≤ cn ∧ cn ≤ 1000)
  · have ho := Lib.hid (show recurErr u ev f cn un ws ms ns = 3 by rw [recurErr, if_neg (by omega), if_pos hr])
    have hq : inB 1 1000 ev = false ∨ (inB 1 1000 ev = true ∧ inB (-4000000) 4000000 f = false) ∨ (inB 1 1000 ev = true ∧ inB (-4000000) 4000000 f = true ∧ inB (-4000000) 4000000 un = false) ∨
        (inB 1 1000 ev = true ∧ inB (-4000000) 4000000 f = true ∧ inB (-4000000) 4000000 un = true ∧ un < f) ∨ (inB 1 1000 ev = true ∧ inB (-4000000) 4000000 f = true ∧ inB (-4000000) 4000000 un = true ∧ f ≤ un ∧ inB 0 1000 cn = false) := by
      rcases inB_cases (-4000000) 4000000 f with ⟨b1, b1'⟩ | ⟨b1, b1'⟩ <;> rcases inB_cases (-4000000) 4000000 un with ⟨b2, b2'⟩ | ⟨b2, b2'⟩ <;> rcases inB_cases 1 1000 ev with ⟨b3, b3'⟩ | ⟨b3, b3'⟩ <;> rcases inB_cases 0 1000 cn with ⟨b4, b4'⟩ | ⟨b4, b4'⟩ <;> simp only [b1, b2, b3, b4] <;> simp <;> omega
    clear hr
    rcases hq with q1 | ⟨q1, q2⟩ | ⟨q1, q2, q3⟩ | ⟨q1, q2, q3, q4⟩ | ⟨q1, q2, q3, q4, q5⟩
    all_goals
      go_enter Tryd.func7, Tryd.ntmps7
      go_wp2_with (first | (go_at_call 17; refine (ref_In _ _ _ _).mono ?_; rintro e w1 ⟨rfl, rfl⟩) | (go_at_call 18; refine (ref_Day _ _).mono ?_; rintro e w1 ⟨rfl, rfl⟩))
      go_ret
      exact ⟨ret_int (by rw [ho.out]), (Below.refl _ _).alloc (Nat.le_refl _) _⟩
  have HO := Lib.hid (show recurErr u ev f cn un ws ms ns = if listOut 0 6 true ws ≠ 0 then listOut 0 6 true ws else if listOut (-31) 31 false ms ≠ 0 then listOut (-31) 31 false ms else listOut 1 12 true ns by rw [recurErr, if_neg (by omega), if_neg hr])
  have hf1 : inB (-4000000) 4000000 f = true := inB_yes (by omega) (by omega)
  have hf2 : inB (-4000000) 4000000 un = true := inB_yes (by omega) (by omega)
  have hf3 : inB 1 1000 ev = true := inB_yes (by omega) (by omega)
  have hf4 : inB 0 1000 cn = true := inB_yes (by omega) (by omega)
  have v3 : f ≤ un := by omega
  clear hr
  go_enter Tryd.func7, Tryd.ntmps7
  go_wp2_with (first | (go_at_call 17; refine (ref_In _ _ _ _).mono ?_; rintro e w1 ⟨rfl, rfl⟩) | (go_at_call 18; refine (ref_Day _ _).mono ?_; rintro e w1 ⟨rfl, rfl⟩))
  clear hf1 hf2 hf3 hf4 v3 bu hu
  go_loopw [3, 4, 5, 6, 7, 8, 10, 52] (fun _ _ _ _ _ _ _ i wr => ∃ k : Nat, k ≤ 3 ∧ i = .int .i64 k ∧ (1 ≤ k → listOut 0 6 true ws = 0) ∧ (2 ≤ k → listOut (-31) 31 false ms = 0) ∧ (3 ≤ k → listOut 1 12 true ns = 0) ∧
      At wr (w.heap.size + 1) (.cells #[.slice a1 n1 c1, .slice a2 n2 c2, .slice a3 n3 c3] 22) ∧ Below w.heap.size w wr) (fun _ _ _ _ _ _ _ i _ => 3 - (intOf i).toNat)
  case atStart => exact ⟨0, by omega, rfl, by omega, by omega, by omega, At.new1 _ _ _, ((Below.refl _ _).alloc (Nat.le_refl _) _).alloc (by simp) _⟩
  case round =>
    obtain ⟨k, hk, rfl, g1, g2, g3, hat, hb⟩ := hrel
    have G1 := Lib.hid g1; have G2 := Lib.hid g2; have G3 := Lib.hid g3; clear g1 g2 g3
    have d0 := hat.cell 0
    have d1 := hat.cell 1
    have d2 := hat.cell 2
    simp at d0 d1 d2
    have AT := Lib.hid hat; clear hat
    have hz := hb.size
    have hk' : k = 0 ∨ k = 1 ∨ k = 2 ∨ k = 3 := by omega
    rcases hk' with rfl | rfl | rfl | rfl
    · have hl := H1.out.1
      have HL := Lib.hid hl; clear hl
      by_cases hbig : 31 < n1
      · have hfin := Lib.hid (show listOut 0 6 true ws = 2 by rw [listOut, if_pos (by rw [HL.out]; exact hbig)])
        go_wp2_with fail
        go_ret
        exact ⟨ret_int (by rw [HO.out, if_pos (by rw [hfin.out]; simp), hfin.out]), hb⟩
      have hlo := Lib.hid (show listOut 0 6 true ws = listErr 0 6 true [] ws by rw [listOut, if_neg (by rw [HL.out]; exact hbig)])
      have hsm : n1 ≤ 31 := by omega
      clear hbig
      have HI := Lib.hid (H1.out.below hb (Nat.le_refl _))
      go_wp2_with fail
      go_region
      all_goals
        go_wp2_with fail
        go_loop [7, 8, 10, 70] (fun _ _ _ i => ∃ j : Nat, j ≤ n1 ∧ i = .int .i64 j ∧ listErr 0 6 true (ws.take j) (ws.drop j) = listErr 0 6 true [] ws) (fun _ _ _ i => n1 - (intOf i).toNat)
        case atStart => exact ⟨0, by omega, rfl, by simp⟩
        case round =>
          obtain ⟨j, hj, rfl, hall⟩ := hrel
          have HA := Lib.hid hall; clear hall
          by_cases hlt : j < n1
          · obtain ⟨b1, o1, x, rfl, hb1, hc1, hx, x1, x2⟩ := HI.out.at_ hlt
            have hbz : b1 < wr.heap.size := by omega
            have hst := HA.out
            rw [drop_at' hx, listErr_cons] at hst
            have HX := Lib.hid hx; clear hx
            by_cases hq : ¬ (0 ≤ x ∧ x ≤ 6) ∨ (x = 0 ∧ true = false)
            · rw [if_pos hq] at hst
              have hfin := Lib.hid (hlo.out.trans hst.symm); clear hst
              have hib : inB 0 6 x = false := inB_no (by rcases hq with h | ⟨_, h⟩; exact h; cases h)
              clear hq
              go_wp2_with (go_at_call 17; refine (ref_In _ _ _ _).mono ?_; rintro e w1 ⟨rfl, rfl⟩)
              go_ret
              exact ⟨ret_int (by rw [HO.out, if_pos (by rw [hfin.out]; simp), hfin.out]), (((hb.drew).alloc (by simpa using hz) _).alloc (by simp; omega) _)⟩
            · rw [if_neg hq] at hst
              have hib : inB (0) 6 x = true := inB_yes (by omega) (by omega)

              clear hq
              go_wp2_with (go_at_call 17; refine (ref_In _ _ _ _).mono ?_; rintro e w1 ⟨rfl, rfl⟩)
              go_loop [10, 92] (fun _ i => ∃ m : Nat, m ≤ j ∧ i = .int .i64 m ∧ ¬ x ∈ ws.take m) (fun _ i => j - (intOf i).toNat)
              case atStart => exact ⟨0, by omega, rfl, by simp⟩
              case round =>
                obtain ⟨m, hm, rfl, hno⟩ := hrel
                have HN := Lib.hid hno; clear hno
                by_cases hlm : m < j
                · obtain ⟨b2, o2, y, hy0, hb2, hc2, hy, y1, y2⟩ := HI.out.at_ (show m < n1 by omega)
                  injection hy0 with hy0
                  injection hy0 with e1 e2 _
                  subst e1 e2
                  by_cases hxy : y = x
                  · have hbq : (y == x) = true := by simp [hxy]
                    have hmem : x ∈ ws.take j := by
                      have h1 : (ws.take j)[m]? = some y := by rw [List.getElem?_take, if_pos hlm]; exact hy
                      rw [hxy] at h1
                      exact List.mem_of_getElem? h1
                    rw [if_pos hmem] at hst
                    have hfin := Lib.hid (hlo.out.trans hst.symm)
                    clear hst hmem hxy hy
                    go_wp2_with fail
                    go_ret
                    exact ⟨ret_int (by rw [HO.out, if_pos (by rw [hfin.out]; simp), hfin.out]), (((hb.drew).alloc (by simpa using hz) _).alloc (by simp; omega) _)⟩
                  · have hbq : (y == x) = false := by simp [hxy]
                    have HXY := Lib.hid hxy; have HY := Lib.hid hy; clear hxy hy
                    go_wp2_with fail
                    go_round
                    case rel =>
                      refine ⟨m + 1, by omega, by go_num, ?_⟩
                      rw [take_snoc HY.out, List.mem_append, List.mem_singleton]
                      exact fun h => h.elim HN.out (fun h => HXY.out h.symm)
                    case measure => simp [intOf]; omega
                · have hmj : m = j := by omega
                  have hnm := HN.out
                  rw [hmj] at hnm
                  rw [if_neg hnm] at hst
                  have HS := Lib.hid hst; clear hst hnm hmj
                  go_wp2_with fail
                  go_round
                  case rel => first | exact ⟨j + 1, by omega, by go_num, by rw [take_snoc HX.out]; exact HS.out⟩ | exact ⟨_, _, _, _, _, ⟨j + 1, by omega, by go_num, by rw [take_snoc HX.out]; exact HS.out⟩, rfl, rfl, rfl, rfl, rfl⟩
                  case measure => simp [intOf]; omega
          · have hfin : listOut 0 6 true ws = 0 := by
              rw [hlo.out, ← HA.out, List.drop_eq_nil_of_le (by have := HL.out; omega), listErr.eq_def]
            have HF := Lib.hid hfin; clear hfin
            go_wp2_with fail
            go_roundw
            case rel => exact ⟨1, by omega, by go_num, fun _ => HF.out, fun h => absurd h (by omega), fun h => absurd h (by omega), ((AT.out.drew.alloc _).alloc _), (((hb.drew).alloc (by simpa using hz) _).alloc (by simp; omega) _)⟩
            case measure => simp [intOf]
    · have hl := H2.out.1
      have HL := Lib.hid hl; clear hl
      by_cases hbig : 31 < n2
      · have hfin := Lib.hid (show listOut (-31) 31 false ms = 2 by rw [listOut, if_pos (by rw [HL.out]; exact hbig)])
        go_wp2_with fail
        go_ret
        exact ⟨ret_int (by rw [HO.out, if_neg (by rw [G1.out (by omega)]; simp), if_pos (by rw [hfin.out]; simp), hfin.out]), hb⟩
      have hlo := Lib.hid (show listOut (-31) 31 false ms = listErr (-31) 31 false [] ms by rw [listOut, if_neg (by rw [HL.out]; exact hbig)])
      have hsm : n2 ≤ 31 := by omega
      clear hbig
      have HI := Lib.hid (H2.out.below hb (Nat.le_refl _))
      go_wp2_with fail
      go_region
      all_goals
        go_wp2_with fail
        go_loop [7, 8, 10, 70] (fun _ _ _ i => ∃ j : Nat, j ≤ n2 ∧ i = .int .i64 j ∧ listErr (-31) 31 false (ms.take j) (ms.drop j) = listErr (-31) 31 false [] ms) (fun _ _ _ i => n2 - (intOf i).toNat)
        case atStart => exact ⟨0, by omega, rfl, by simp⟩
        case round =>
          obtain ⟨j, hj, rfl, hall⟩ := hrel
          have HA := Lib.hid hall; clear hall
          by_cases hlt : j < n2
          · obtain ⟨b1, o1, x, rfl, hb1, hc1, hx, x1, x2⟩ := HI.out.at_ hlt
            have hbz : b1 < wr.heap.size := by omega
            have hst := HA.out
            rw [drop_at' hx, listErr_cons] at hst
            have HX := Lib.hid hx; clear hx
            by_cases hq : ¬ ((-31) ≤ x ∧ x ≤ 31) ∨ (x = 0 ∧ false = false)
            · rw [if_pos hq] at hst
              have hfin := Lib.hid (hlo.out.trans hst.symm); clear hst
              by_cases hx0 : x = 0
              · have hx1 : (x == 0) = true := by simp [hx0]
                have hib : inB (-31) 31 x = true := inB_yes (by omega) (by omega)
                clear hq hx0
                go_wp2_with (go_at_call 17; refine (ref_In _ _ _ _).mono ?_; rintro e w1 ⟨rfl, rfl⟩)
                go_ret
                exact ⟨ret_int (by rw [HO.out, if_neg (by rw [G1.out (by omega)]; simp), if_pos (by rw [hfin.out]; simp), hfin.out]), (((hb.drew).alloc (by simpa using hz) _).alloc (by simp; omega) _)⟩
              · have hib : inB (-31) 31 x = false := inB_no (by rcases hq with h | ⟨h, _⟩; exact h; exact absurd h hx0)
                clear hq hx0
                go_wp2_with (go_at_call 17; refine (ref_In _ _ _ _).mono ?_; rintro e w1 ⟨rfl, rfl⟩)
                go_ret
                exact ⟨ret_int (by rw [HO.out, if_neg (by rw [G1.out (by omega)]; simp), if_pos (by rw [hfin.out]; simp), hfin.out]), (((hb.drew).alloc (by simpa using hz) _).alloc (by simp; omega) _)⟩
            · rw [if_neg hq] at hst
              have hib : inB (-31) 31 x = true := inB_yes (by omega) (by omega)
              have hx1 : (x == 0) = false := by simp; intro h; exact hq (.inr ⟨h, rfl⟩)
              clear hq
              go_wp2_with (go_at_call 17; refine (ref_In _ _ _ _).mono ?_; rintro e w1 ⟨rfl, rfl⟩)
              go_loop [10, 92] (fun _ i => ∃ m : Nat, m ≤ j ∧ i = .int .i64 m ∧ ¬ x ∈ ms.take m) (fun _ i => j - (intOf i).toNat)
              case atStart => exact ⟨0, by omega, rfl, by simp⟩
              case round =>
                obtain ⟨m, hm, rfl, hno⟩ := hrel
                have HN := Lib.hid hno; clear hno
                by_cases hlm : m < j
                · obtain ⟨b2, o2, y, hy0, hb2, hc2, hy, y1, y2⟩ := HI.out.at_ (show m < n2 by omega)
                  injection hy0 with hy0
                  injection hy0 with e1 e2 _
                  subst e1 e2
                  by_cases hxy : y = x
                  · have hbq : (y == x) = true := by simp [hxy]
                    have hmem : x ∈ ms.take j := by
                      have h1 : (ms.take j)[m]? = some y := by rw [List.getElem?_take, if_pos hlm]; exact hy
                      rw [hxy] at h1
                      exact List.mem_of_getElem? h1
                    rw [if_pos hmem] at hst
                    have hfin := Lib.hid (hlo.out.trans hst.symm)
                    clear hst hmem hxy hy
                    go_wp2_with fail
                    go_ret
                    exact ⟨ret_int (by rw [HO.out, if_neg (by rw [G1.out (by omega)]; simp), if_pos (by rw [hfin.out]; simp), hfin.out]), (((hb.drew).alloc (by simpa using hz) _).alloc (by simp; omega) _)⟩
                  · have hbq : (y == x) = false := by simp [hxy]
                    have HXY := Lib.hid hxy; have HY := Lib.hid hy; clear hxy hy
                    go_wp2_with fail
                    go_round
                    case rel =>
                      refine ⟨m + 1, by omega, by go_num, ?_⟩
                      rw [take_snoc HY.out, List.mem_append, List.mem_singleton]
                      exact fun h => h.elim HN.out (fun h => HXY.out h.symm)
                    case measure => simp [intOf]; omega
                · have hmj : m = j := by omega
                  have hnm := HN.out
                  rw [hmj] at hnm
                  rw [if_neg hnm] at hst
                  have HS := Lib.hid hst; clear hst hnm hmj
                  go_wp2_with fail
                  go_round
                  case rel => first | exact ⟨j + 1, by omega, by go_num, by rw [take_snoc HX.out]; exact HS.out⟩ | exact ⟨_, _, _, _, _, ⟨j + 1, by omega, by go_num, by rw [take_snoc HX.out]; exact HS.out⟩, rfl, rfl, rfl, rfl, rfl⟩
                  case measure => simp [intOf]; omega
          · have hfin : listOut (-31) 31 false ms = 0 := by
              rw [hlo.out, ← HA.out, List.drop_eq_nil_of_le (by have := HL.out; omega), listErr.eq_def]
            have HF := Lib.hid hfin; clear hfin
            go_wp2_with fail
            go_roundw
            case rel => exact ⟨2, by omega, by go_num, fun _ => G1.out (by omega), fun _ => HF.out, fun h => absurd h (by omega), ((AT.out.drew.alloc _).alloc _), (((hb.drew).alloc (by simpa using hz) _).alloc (by simp; omega) _)⟩
            case measure => simp [intOf]
    · have hl := H3.out.1
      have HL := Lib.hid hl; clear hl
      by_cases hbig : 31 < n3
      · have hfin := Lib.hid (show listOut 1 12 true ns = 2 by rw [listOut, if_pos (by rw [HL.out]; exact hbig)])
        go_wp2_with fail
        go_ret
        exact ⟨ret_int (by rw [HO.out, if_neg (by rw [G1.out (by omega)]; simp), if_neg (by rw [G2.out (by omega)]; simp), hfin.out]), hb⟩
      have hlo := Lib.hid (show listOut 1 12 true ns = listErr 1 12 true [] ns by rw [listOut, if_neg (by rw [HL.out]; exact hbig)])
      have hsm : n3 ≤ 31 := by omega
      clear hbig
      have HI := Lib.hid (H3.out.below hb (Nat.le_refl _))
      go_wp2_with fail
      go_region
      all_goals
        go_wp2_with fail
        go_loop [7, 8, 10, 70] (fun _ _ _ i => ∃ j : Nat, j ≤ n3 ∧ i = .int .i64 j ∧ listErr 1 12 true (ns.take j) (ns.drop j) = listErr 1 12 true [] ns) (fun _ _ _ i => n3 - (intOf i).toNat)
        case atStart => exact ⟨0, by omega, rfl, by simp⟩
        case round =>
          obtain ⟨j, hj, rfl, hall⟩ := hrel
          have HA := Lib.hid hall; clear hall
          by_cases hlt : j < n3
          · obtain ⟨b1, o1, x, rfl, hb1, hc1, hx, x1, x2⟩ := HI.out.at_ hlt
            have hbz : b1 < wr.heap.size := by omega
            have hst := HA.out
            rw [drop_at' hx, listErr_cons] at hst
            have HX := Lib.hid hx; clear hx
            by_cases hq : ¬ (1 ≤ x ∧ x ≤ 12) ∨ (x = 0 ∧ true = false)
            · rw [if_pos hq] at hst
              have hfin := Lib.hid (hlo.out.trans hst.symm); clear hst
              have hib : inB 1 12 x = false := inB_no (by rcases hq with h | ⟨_, h⟩; exact h; cases h)
              clear hq
              go_wp2_with (go_at_call 17; refine (ref_In _ _ _ _).mono ?_; rintro e w1 ⟨rfl, rfl⟩)
              go_ret
              exact ⟨ret_int (by rw [HO.out, if_neg (by rw [G1.out (by omega)]; simp), if_neg (by rw [G2.out (by omega)]; simp), hfin.out]), (((hb.drew).alloc (by simpa using hz) _).alloc (by simp; omega) _)⟩
            · rw [if_neg hq] at hst
              have hib : inB (1) 12 x = true := inB_yes (by omega) (by omega)

              clear hq
              go_wp2_with (go_at_call 17; refine (ref_In _ _ _ _).mono ?_; rintro e w1 ⟨rfl, rfl⟩)
              go_loop [10, 92] (fun _ i => ∃ m : Nat, m ≤ j ∧ i = .int .i64 m ∧ ¬ x ∈ ns.take m) (fun _ i => j - (intOf i).toNat)
              case atStart => exact ⟨0, by omega, rfl, by simp⟩
              case round =>
                obtain ⟨m, hm, rfl, hno⟩ := hrel
                have HN := Lib.hid hno; clear hno
                by_cases hlm : m < j
                · obtain ⟨b2, o2, y, hy0, hb2, hc2, hy, y1, y2⟩ := HI.out.at_ (show m < n3 by omega)
                  injection hy0 with hy0
                  injection hy0 with e1 e2 _
                  subst e1 e2
                  by_cases hxy : y = x
                  · have hbq : (y == x) = true := by simp [hxy]
                    have hmem : x ∈ ns.take j := by
                      have h1 : (ns.take j)[m]? = some y := by rw [List.getElem?_take, if_pos hlm]; exact hy
                      rw [hxy] at h1
                      exact List.mem_of_getElem? h1
                    rw [if_pos hmem] at hst
                    have hfin := Lib.hid (hlo.out.trans hst.symm)
                    clear hst hmem hxy hy
                    go_wp2_with fail
                    go_ret
                    exact ⟨ret_int (by rw [HO.out, if_neg (by rw [G1.out (by omega)]; simp), if_neg (by rw [G2.out (by omega)]; simp), hfin.out]), (((hb.drew).alloc (by simpa using hz) _).alloc (by simp; omega) _)⟩
                  · have hbq : (y == x) = false := by simp [hxy]
                    have HXY := Lib.hid hxy; have HY := Lib.hid hy; clear hxy hy
                    go_wp2_with fail
                    go_round
                    case rel =>
                      refine ⟨m + 1, by omega, by go_num, ?_⟩
                      rw [take_snoc HY.out, List.mem_append, List.mem_singleton]
                      exact fun h => h.elim HN.out (fun h => HXY.out h.symm)
                    case measure => simp [intOf]; omega
                · have hmj : m = j := by omega
                  have hnm := HN.out
                  rw [hmj] at hnm
                  rw [if_neg hnm] at hst
                  have HS := Lib.hid hst; clear hst hnm hmj
                  go_wp2_with fail
                  go_round
                  case rel => first | exact ⟨j + 1, by omega, by go_num, by rw [take_snoc HX.out]; exact HS.out⟩ | exact ⟨_, _, _, _, _, ⟨j + 1, by omega, by go_num, by rw [take_snoc HX.out]; exact HS.out⟩, rfl, rfl, rfl, rfl, rfl⟩
                  case measure => simp [intOf]; omega
          · have hfin : listOut 1 12 true ns = 0 := by
              rw [hlo.out, ← HA.out, List.drop_eq_nil_of_le (by have := HL.out; omega), listErr.eq_def]
            have HF := Lib.hid hfin; clear hfin
            go_wp2_with fail
            go_roundw
            case rel => exact ⟨3, by omega, by go_num, fun _ => G1.out (by omega), fun _ => G2.out (by omega), fun _ => HF.out, ((AT.out.drew.alloc _).alloc _), (((hb.drew).alloc (by simpa using hz) _).alloc (by simp; omega) _)⟩
            case measure => simp [intOf]
    · go_wp2_with fail
      go_ret
      exact ⟨ret_int (by rw [HO.out, if_neg (by rw [G1.out (by omega)]; simp), if_neg (by rw [G2.out (by omega)]; simp), G3.out (by omega)]), hb⟩

end Go.Proofs.YtdmkghgachapaaaDoor
