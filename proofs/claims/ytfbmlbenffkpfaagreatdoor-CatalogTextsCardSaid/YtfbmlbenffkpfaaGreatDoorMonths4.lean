/- Contract of the reference's MonthsError. -/
import Derived.Test.YtfbmlbenffkpfaaGreatDoorMonths3
namespace Go.Proofs.YtfbmlbenffkpfaaGreatDoor
set_option linter.unusedVariables false
set_option maxRecDepth 100000
open Go.RowKit

theorem pos_more {a f : Int} (h : 0 < a) (hf : 0 ≤ f) : decide (0 < a + f) = true := decide_eq_true (by omega)
theorem pos_first {a f : Int} (h0 : 0 ≤ a) (h : ¬ 0 < a) : decide (0 < a + f) = decide (0 < f) := by
  have : a = 0 := by omega
  subst this; simp
set_option maxHeartbeats 4000000 in
theorem ref_MonthsError (w : World) (a : Option Addr) (n c : Nat) (ms : List Mon) (h : Months w w.heap.size a n ms) :
    Calls Tryz.prog 124 #[.slice a n c] w fun e w' => e = .returned (.int .i64 (monthsErr ms)) ∧ Drawn w w' := by
  have l1 := h.len
  have m1 := h.max
  rcases inB_cases 1 20 (n : Int) with ⟨hb, hn1, hn8⟩ | ⟨hb, hn⟩
  case inr =>
    have ho := Lib.hid (show monthsErr ms = 2 by rw [monthsErr, if_pos (by omega)])
    clear h l1
    go_enter Tryz.func124, Tryz.ntmps124
    go_wp2_with fail
    refine (ref_In _ _ _ _).mono ?_; rw [hb]; rintro e w1 ⟨rfl, rfl⟩
    go_wp2_with fail
    go_ret
    exact ⟨ret_int (by rw [ho.out]), Drawn.refl _⟩
  have ho := Lib.hid (show monthsErr ms = monthsGo [] 0 0 ms by rw [monthsErr, if_neg (by omega)])
  have H := Lib.hid h; have L1 := Lib.hid l1; clear h l1
  go_enter Tryz.func124, Tryz.ntmps124
  go_wp2_with fail
  refine (ref_In _ _ _ _).mono ?_; rw [hb]; rintro e w1 ⟨rfl, rfl⟩
  clear hb
  go_wp2_with fail
  go_loopw [3, 4, 5, 6, 13] (fun p q _ _ i wr => ∃ (k : Nat) (A B : Int), k ≤ n ∧ i = .int .i64 k ∧ p = .bool (decide (0 < A)) ∧ q = .bool (decide (0 < B)) ∧ MonthsTo ms k A B ∧ Drawn w wr) (fun _ _ _ _ i _ => n - (intOf i).toNat)
  case atStart => exact ⟨0, 0, 0, by omega, rfl, rfl, rfl, MonthsTo.start ms, Drawn.refl _⟩
  case round =>
    obtain ⟨k, A, B, hk, rfl, rfl, rfl, hM, hd⟩ := hrel
    obtain ⟨A1, A2, B1, B2⟩ : 0 ≤ A ∧ A ≤ 400 * k ∧ 0 ≤ B ∧ B ≤ 400 * k := ⟨hM.2.2.1, hM.2.2.2.1, hM.2.2.2.2.1, hM.2.2.2.2.2.1⟩
    have HM := Lib.hid hM; clear hM
    obtain ⟨PA, hPA⟩ : ∃ x, x = decide (0 < A) := ⟨_, rfl⟩
    obtain ⟨PB, hPB⟩ : ∃ x, x = decide (0 < B) := ⟨_, rfl⟩
    rw [← hPA, ← hPB]
    have HPA := Lib.hid hPA; have HPB := Lib.hid hPB; clear hPA hPB
    by_cases hlt : k < n
    · obtain ⟨b, off, rfl, hbB, hcs⟩ := (H.out.below (hd.below w.heap.size) (Nat.le_refl _)).open_ (by omega)
      obtain ⟨s, f, g, c0, c1, c2, hx, hs, f1, f2, g1, g2⟩ := hcs k hlt
      have HX := Lib.hid hx
      have HCS := Lib.hid hcs
      clear hcs hx
      rcases Bool.eq_false_or_eq_true (isName s) with hnm | hnm
      case inr =>
        have hfin := Lib.hid (ho.out.trans (HM.out.name HX.out hnm))
        go_wp2_with fail
        refine (ref_Name _ _ hs).mono ?_; rw [hnm]; rintro e w1 ⟨rfl, rfl⟩
        go_wp2_with fail
        go_ret
        exact ⟨ret_int (by rw [hfin.out]), hd⟩
      go_wp2_with fail
      refine (ref_Name _ _ hs).mono ?_; rw [hnm]; rintro e w1 ⟨rfl, rfl⟩
      go_wp2_with fail
      go_loopw [6, 24] (fun _ i wi => ∃ j : Nat, j ≤ k ∧ i = .int .i64 j ∧ ((ms.take j).any fun x => x.1.toList == s.toList) = false ∧ Drawn wr wi) (fun _ i _ => k - (intOf i).toNat)
      case atStart => exact ⟨0, by omega, rfl, by simp, Drawn.refl _⟩
      case round =>
        obtain ⟨j, hj, rfl, hany, hdi⟩ := hrel
        have HANY := Lib.hid hany; clear hany
        obtain ⟨ni, rfl⟩ := hdi
        by_cases hjk : j < k
        · obtain ⟨s', f', g', c0', _, _, hx', _, _, _, _, _⟩ := HCS.out j (by omega)
          have HX' := Lib.hid hx'; clear hx'
          have hjn : j < n := by omega
          have hnext := Lib.hid (show ((ms.take (j + 1)).any fun x => x.1.toList == s.toList) = (s'.toList == s.toList) by rw [take_one HX'.out, List.any_append, HANY.out]; simp)
          obtain ⟨bb, hbb⟩ : ∃ bb, (s'.toList == s.toList) = bb := ⟨_, rfl⟩
          cases bb with
          | true =>
            have htw : ((ms.take k).any fun x => x.1.toList == s.toList) = true := by
              obtain ⟨y, hy, hy2⟩ := List.any_eq_true.1 (hnext.out.trans hbb)
              exact List.any_eq_true.2 ⟨y, (List.take_subset_take_left ms (by omega)) hy, hy2⟩
            have hfin := Lib.hid (ho.out.trans (HM.out.twice HX.out hnm htw))
            clear htw
            go_wp2_with fail
            go_quiet (fail)
            go_wp2_with fail
            go_ret
            exact ⟨ret_int (by rw [hfin.out]), by (repeat' (first | exact Drawn.refl _ | assumption | refine Drawn.drew ?_ | refine Drawn.drewN ?_ _ | exact ⟨_, rfl⟩))⟩
          | false =>
            have hnx := Lib.hid (hnext.out.trans hbb)
            go_wp2_with fail
            go_quiet (fail)
            go_wp2_with fail
            go_roundw
            case rel => exact ⟨j + 1, by omega, by go_num, hnx.out, ⟨_, rfl⟩⟩
            case measure => simp [intOf]; omega
        · have : j = k := by omega
          subst this
          rcases lenB_cases f g with ⟨⟨hf, p1, p2⟩, hg, p3, p4⟩ | ⟨hfg, hor⟩
          · have hnext := Lib.hid (HM.out.next HX.out hnm HANY.out hf hg)
            have hA := HPA.out
            have hB := HPB.out
            have eA : decide (0 < A + f) = (PA || decide (0 < f)) := by
              by_cases q : 0 < A
              · rw [hA, pos_more q p1, decide_eq_true q]; rfl
              · rw [hA, pos_first A1 q, decide_eq_false q]; rfl
            have eB : decide (0 < B + g) = (PB || decide (0 < g)) := by
              by_cases q : 0 < B
              · rw [hB, pos_more q p3, decide_eq_true q]; rfl
              · rw [hB, pos_first B1 q, decide_eq_false q]; rfl
            have EA := Lib.hid eA; have EB := Lib.hid eB
            clear hA hB eA eB HPA HPB
            cases PA <;> cases PB
            all_goals
              go_wp2_with fail
              refine (ref_In _ _ _ _).mono ?_; rw [hf]; rintro e w3 ⟨rfl, rfl⟩
              go_wp2_with fail
              refine (ref_In _ _ _ _).mono ?_; rw [hg]; rintro e w3 ⟨rfl, rfl⟩
              go_wp2_with fail
              go_quiet (fail)
              go_wp2_with fail
              go_roundw
              case rel => exact ⟨j + 1, A + f, B + g, by omega, by go_num, by rw [EA.out]; simp, by rw [EB.out]; simp, hnext.out, by (repeat' (first | exact Drawn.refl _ | assumption | refine Drawn.drew ?_ | refine Drawn.drewN ?_ _ | exact ⟨_, rfl⟩))⟩
              case measure => simp [intOf]; omega
          · have hfin := Lib.hid (ho.out.trans (HM.out.range HX.out hnm HANY.out hfg))
            rcases hor with ⟨hf, _⟩ | ⟨⟨hf, _⟩, hg, _⟩
            · go_wp2_with fail
              refine (ref_In _ _ _ _).mono ?_; rw [hf]; rintro e w3 ⟨rfl, rfl⟩
              go_wp2_with fail
              go_ret
              exact ⟨ret_int (by rw [hfin.out]), by (repeat' (first | exact Drawn.refl _ | assumption | refine Drawn.drew ?_ | refine Drawn.drewN ?_ _ | exact ⟨_, rfl⟩))⟩
            · go_wp2_with fail
              refine (ref_In _ _ _ _).mono ?_; rw [hf]; rintro e w3 ⟨rfl, rfl⟩
              go_wp2_with fail
              refine (ref_In _ _ _ _).mono ?_; rw [hg]; rintro e w3 ⟨rfl, rfl⟩
              go_wp2_with fail
              go_ret
              exact ⟨ret_int (by rw [hfin.out]), by (repeat' (first | exact Drawn.refl _ | assumption | refine Drawn.drew ?_ | refine Drawn.drewN ?_ _ | exact ⟨_, rfl⟩))⟩
    · have hfin := Lib.hid (ho.out.trans (HM.out.last (by have := L1.out; omega)))
      have hA := HPA.out
      have hB := HPB.out
      have hres := Lib.hid (show monthsErr ms = if (!PA || !PB) = true then 8 else 0 by
        rw [hfin.out, hA, hB]
        by_cases q : A = 0 ∨ B = 0
        · rw [if_pos q, if_pos (by rcases q with q | q <;> subst q <;> simp)]
        · rw [if_neg q, if_neg (by simp; omega)])
      clear hA hB HPA HPB hfin
      cases PA <;> cases PB
      all_goals
        go_wp2_with fail
        go_ret
        exact ⟨ret_int (by rw [hres.out]; rfl), hd⟩
end Go.Proofs.YtfbmlbenffkpfaaGreatDoor
