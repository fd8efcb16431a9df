/- Contract of the reference's CellError. -/
import Derived.Test.YthpiiocncdpimaaDoorPage1
import Derived.Deep.LoopGhost
namespace Go.Proofs.YthpiiocncdpimaaDoor
set_option linter.unusedVariables false
set_option maxRecDepth 100000
open Go.RowKit Go.Shelf

theorem cellBad_ref (s : ByteArray) : cellBad s = (!Lib.validD s.data.toList || (decide (Lib.trimB s.data.toList 32 ≠ s.data.toList) || decide (0 ≤ Lib.idxFunc isCtl true s))) := by
  unfold cellBad
  by_cases h : Lib.trimB s.data.toList 32 = s.data.toList
  · have h2 := (trim_same 32 s.data.toList).1 h
    rw [h2.1, h2.2, decide_eq_false (show ¬ (Lib.trimB s.data.toList 32 ≠ s.data.toList) from fun hn => hn h)]; rfl
  · have h2 := fun k => h ((trim_same 32 s.data.toList).2 k)
    rw [decide_eq_true h]
    have : ([32].isPrefixOf s.data.toList || (Lib.hasSuffix s.data.toList [32] || decide (0 ≤ Lib.idxFunc isCtl true s))) = true := by
      cases h3 : [32].isPrefixOf s.data.toList with
      | true => rfl
      | false =>
        cases h4 : Lib.hasSuffix s.data.toList [32] with
        | true => rfl
        | false => exact absurd ⟨h3, h4⟩ h2
    rw [this]; simp
set_option maxHeartbeats 4000000 in
theorem ref_CellError (s : ByteArray) (w : World) (hs : s.size ≤ 9223372036854775807) (hT : Lib.Utf8Tabs 0 1 w) :
    Calls Tryd.prog 36 #[.string s] w fun e w' => e = .returned (.int .i64 (cellErr s)) ∧ Below w.heap.size w w' := by
  have VA := Lib.hid (show Calls Tryd.prog 60 #[.string s] w (fun e w' => e = .returned (.bool (Lib.validD s.data.toList)) ∧ Below w.heap.size w w') from Any.utf8_ValidString Tryd.laysn196 s w hs hT)
  have TR := Lib.hid (fun W => show Calls Tryd.prog 61 #[.string s, .string ⟨#[32]⟩] W (fun e w' => e = .returned (.string ⟨(Lib.trimB s.data.toList 32).toArray⟩) ∧ (w' = W ∨ w' = W.drew)) from Any.strings_Trim_one Tryd.laysn160 s 32 (by decide) W hs)
  unfold cellErr
  rw [cellBad_ref]
  by_cases hbig : 120 < s.size
  · rw [if_pos hbig]
    have d1 : (120 : Int) < s.size := by omega
    clear VA TR hbig
    go_enter Tryd.func36, Tryd.ntmps36
    go_wp2_with fail
    go_ret
    exact ⟨rfl, Below.refl _ _⟩
  · rw [if_neg hbig]
    have d1 : ¬ (120 : Int) < s.size := by omega
    have d1' : (s.size : Int) ≤ 120 := by omega
    generalize Lib.validD s.data.toList = b1 at VA ⊢
    clear hT
    cases b1 with
    | false =>
      go_enter Tryd.func36, Tryd.ntmps36
      go_wp2_with fail
      refine VA.out.mono ?_
      rintro e w1 ⟨rfl, hb⟩
      go_wp2_with fail
      go_ret
      exact ⟨rfl, hb⟩
    | true =>
      by_cases ht : Lib.trimB s.data.toList 32 = s.data.toList
      · rw [ht] at TR
        rw [show (⟨s.data.toList.toArray⟩ : ByteArray) = s from str_eta s] at TR
        rw [decide_eq_false (show ¬ (Lib.trimB s.data.toList 32 ≠ s.data.toList) from fun hn => hn ht)]
        obtain ⟨R, hR⟩ : ∃ R, R = Lib.idxFunc isCtl true s := ⟨_, rfl⟩
        rw [← hR]
        have HR := Lib.hid hR
        obtain ⟨V, hV⟩ : ∃ V : Int, V = (if (!true || (false || decide (0 ≤ R))) = true then 8 else 0) := ⟨_, rfl⟩
        rw [← hV]
        have HV := Lib.hid hV
        clear hR ht hV
        go_enter Tryd.func36, Tryd.ntmps36
        go_wp2_with fail
        refine VA.out.mono ?_
        rintro e w1 ⟨rfl, hb⟩
        go_wp2_with fail
        refine (TR.out _).mono ?_
        rintro e w2 ⟨rfl, h2⟩
        have hb2 : Below w.heap.size w w2 := by
          rcases h2 with rfl | rfl
          · exact hb
          · exact hb.drew
        have HB := Lib.hid hb2
        clear h2 hb hb2 VA TR
        go_wp2_with fail
        go_loopg [] s.size (fun gf wx => ∃ pos : Nat, wx.heap[w2.heap.size]? = some (.stringIter s pos) ∧ Below w.heap.size w wx ∧ Lib.idxFuncFrom isCtl true s gf pos = R ∧ s.size ≤ pos + gf)
        case atStart => exact ⟨0, World.iter_heap w2 s 0, HB.out.alloc HB.out.size _, by rw [HR.out]; rfl, by omega⟩
        case round =>
          clear HR
          obtain ⟨pos, hit, hbw, hleft, hfu⟩ := hrel
          by_cases hps : pos < s.size
          · obtain ⟨g', rfl⟩ : ∃ g', gk = g' + 1 := ⟨gk - 1, by omega⟩
            have hnx : ∀ ty, (Instr.next (.pointer (some ⟨w2.heap.size, 0, none⟩)) true ty).run Tryd.prog wr = _ := fun ty => Lib.run_next_any_at wr w2.heap.size s pos ty hit hps
            have hwd := Lib.width_pos s pos
            obtain ⟨C, hC⟩ : ∃ C, (Utf8.decode s pos).1 = C := ⟨_, rfl⟩
            obtain ⟨K, hK⟩ : ∃ K, (Utf8.decode s pos).2 = K := ⟨_, rfl⟩
            simp only [Lib.idxFuncFrom, hps, if_true, hC, hK] at hleft
            rw [hC, hK] at hnx
            rw [hK] at hwd
            have hit2 := Lib.iterAt_heap wr w2.heap.size s pos (pos + K) hit
            have hbw2 := Lib.below_iterAt hbw (k := w2.heap.size) HB.out.size s (pos + K)
            obtain ⟨W, hWd⟩ : ∃ W, wr.iterAt w2.heap.size s (pos + K) = W := ⟨_, rfl⟩
            rw [hWd] at hnx hit2 hbw2
            clear hC hK hWd hit hbw
            have HIT := Lib.hid hit2; have HBW := Lib.hid hbw2
            clear hit2 hbw2
            by_cases h1 : C < 32
            · have hc : isCtl C = true := by unfold isCtl; rw [decide_eq_true h1]; rfl
              rw [hc, if_pos rfl] at hleft
              have d2 : (C : Int) < 32 := by omega
              have hr : decide (0 ≤ R) = true := by rw [decide_eq_true_eq]; omega
              have HRR := Lib.hid hr
              clear hc hleft h1 hr
              go_wp2_with fail
              go_ret
              exact ⟨by rw [HV.out, HRR.out]; rfl, HBW.out⟩
            · have d2 : ¬ (C : Int) < 32 := by omega
              by_cases h3 : C = 127
              · have hc : isCtl C = true := by unfold isCtl; rw [decide_eq_true h3]; simp
                rw [hc, if_pos rfl] at hleft
                have d3 : ((C : Int) == 127) = true := by simp; omega
                have hr : decide (0 ≤ R) = true := by rw [decide_eq_true_eq]; omega
                have HRR := Lib.hid hr
                clear hc hleft h1 h3 hr
                go_wp2_with fail
                go_ret
                exact ⟨by rw [HV.out, HRR.out]; rfl, HBW.out⟩
              · have hc : isCtl C = false := by unfold isCtl; rw [decide_eq_false h1, decide_eq_false h3]; rfl
                rw [hc, if_neg (by simp)] at hleft
                have d3 : ((C : Int) == 127) = false := by simp; omega
                have HL := Lib.hid hleft
                clear hc hleft h1 h3
                go_wp2_with fail
                go_roundg g'
                case measure => omega
                case rel => exact ⟨pos + K, HIT.out, HBW.out, HL.out, by omega⟩
          · have hnx : ∀ ty, (Instr.next (.pointer (some ⟨w2.heap.size, 0, none⟩)) true ty).run Tryd.prog wr = _ := fun ty => Lib.run_next_end_at wr w2.heap.size s pos ty hit hps
            rw [Lib.idxFuncFrom_end isCtl true s gk pos hps] at hleft
            have HBW := Lib.hid hbw
            have HRR := Lib.hid (show decide (0 ≤ R) = false by rw [← hleft]; rfl)
            clear hleft hit hbw
            go_wp2_with fail
            go_ret
            exact ⟨by rw [HV.out, HRR.out]; rfl, HBW.out⟩
      · obtain ⟨T, hTT⟩ : ∃ T : ByteArray, T = ⟨(Lib.trimB s.data.toList 32).toArray⟩ := ⟨_, rfl⟩
        rw [← hTT] at TR
        have h9 : T.data.toList ≠ s.data.toList := by rw [hTT]; simpa using ht
        have e1 : (T.toList == s.toList) = false := by rw [str_list, str_list]; simpa using h9
        have e1' : (!(T.toList == s.toList)) = true := by rw [e1]; rfl
        have e2 : (T.toList != s.toList) = true := by unfold bne; rw [e1]; rfl
        have e3 : T ≠ s := fun e => h9 (by rw [e])
        clear h9
        rw [decide_eq_true ht]
        clear hTT ht
        go_enter Tryd.func36, Tryd.ntmps36
        go_wp2_with fail
        refine VA.out.mono ?_
        rintro e w1 ⟨rfl, hb⟩
        go_wp2_with fail
        refine (TR.out _).mono ?_
        rintro e w2 ⟨rfl, h2⟩
        have hb2 : Below w.heap.size w w2 := by
          rcases h2 with rfl | rfl
          · exact hb
          · exact hb.drew
        have HB := Lib.hid hb2
        clear h2 hb hb2 VA TR
        go_wp2_with fail
        go_ret
        exact ⟨rfl, HB.out⟩
end Go.Proofs.YthpiiocncdpimaaDoor
