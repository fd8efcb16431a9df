/- Contract of pattern.split. -/
import Derived.Test.YtjjmbnflhldoeacPatM
import Derived.Outline
namespace Go.Proofs.Ytjjmbnflhldoeac
set_option linter.unusedVariables false
set_option maxRecDepth 100000
open Go.RowKit Go.Shelf

theorem map_app (acc : List Pc) (x : List Pc) (r : Option (List Pc)) : (r.map fun q => x ++ q).map (acc ++ ·) = r.map ((acc ++ x) ++ ·) := by cases r <;> simp
theorem enc_snoc (acc : List Pc) (x : Pc) : (acc ++ [x]).flatMap encPc = acc.flatMap encPc ++ encPc x := by simp
theorem own_snoc {w : World} {base : Nat} {T : TypeId} {v : Value} {acc : List Pc} {b : Bool} {s : List UInt8} (h : w.ownsRow base T 2 v (acc.length + 1) (acc.flatMap encPc ++ [.bool b, .string ⟨s.toArray⟩])) : w.ownsRow base T 2 v (acc ++ [(b, s)]).length ((acc ++ [(b, s)]).flatMap encPc) := by
  rw [enc_snoc, List.length_append]; exact h
theorem cutL_len (l : List UInt8) (c : UInt8) : (cutL l c).length ≤ l.length := by rw [← cut_take, List.length_take]; omega
set_option maxHeartbeats 8000000 in
theorem pt_split (l0 : List UInt8) (w : World) (hl0 : l0.length ≤ 9223372036854775807) :
    Calls Try.prog 8 #[.string ⟨l0.toArray⟩] w (SplitPost 43 (decide (60 < l0.length)) (splitT 61 [] l0) w) := by
  obtain ⟨i0, hi, hz0, hz1, hz2⟩ := info_parts infoPart
  have hsz := pt_size l0
  by_cases hbig : 60 < l0.length
  · rw [decide_eq_true hbig]
    unfold SplitPost
    go_enter Try.func8, Try.ntmps8
    go_wp2_with fail
    go_ret2
    exact ⟨rfl, Below.refl _ _⟩
  · rw [decide_eq_false hbig]
    obtain ⟨R, hR⟩ : ∃ R, R = splitT 61 [] l0 := ⟨_, rfl⟩
    rw [← hR]
    have HR := Lib.hid hR; clear hR
    go_enter Try.func8, Try.ntmps8
    go_wp2_with fail
    go_loopw [0, 4] (fun p v wr => ∃ (l : List UInt8) (acc : List Pc) (m : Nat), p = .string ⟨l.toArray⟩ ∧ l.length ≤ 60 ∧ l.length < m ∧ R = (splitT m [] l).map (acc ++ ·) ∧ acc.length + 2 * l.length ≤ 120 ∧ wr.ownsRow w.heap.size 43 2 v acc.length (acc.flatMap encPc) ∧ Below w.heap.size w wr) (fun p _ _ => strLen p)
    case atStart => exact ⟨l0, [], 61, rfl, by omega, by omega, by rw [HR.out]; simp, by simp; omega, World.ownsRow_nil _ _ _ _, Below.refl _ _⟩
    case round =>
      obtain ⟨l, acc, m, rfl, hl60, hm, hr, hacc, hown, hb⟩ := hrel
      clear hsz hbig hl0
      have hsz := pt_size l
      obtain ⟨m, rfl⟩ : ∃ k, m = k + 1 := ⟨m - 1, by omega⟩
      have HRR := Lib.hid hr; have OWN := Lib.hid hown; have HB := Lib.hid hb; clear hr hown hb
      by_cases hnil : l = []
      · have hfin : R = some acc := by rw [HRR.out, hnil]; simp [splitT, cutL, cutB, txt]
        have e1 : (⟨l.toArray⟩ : ByteArray).toList = [] := by rw [pt_list, hnil]
        subst hnil
        have HF := Lib.hid hfin
        clear hfin
        go_wp2_with fail
        go_ret2
        unfold SplitPost
        rw [HF.out]
        exact ⟨_, rfl, OWN.out, HB.out⟩
      have e1 : ((⟨l.toArray⟩ : ByteArray).toList).isEmpty = false := by rw [pt_list]; cases l with | nil => exact absurd rfl hnil | cons _ _ => rfl
      have e1' : (!((⟨l.toArray⟩ : ByteArray).toList).isEmpty) = true := by rw [e1]; rfl
      have CUT := Lib.hid (fun W => lib_Cut ⟨l.toArray⟩ 123 W (by omega))
      have hT := cutL_len l 123
      have hRl := cutR_len l 123
      obtain ⟨T, hTe⟩ : ∃ T, T = cutL l 123 := ⟨_, rfl⟩
      obtain ⟨S, hSe⟩ : ∃ S, S = cutR l 123 := ⟨_, rfl⟩
      have hcut : ∀ W, Calls Try.prog 12 #[.string ⟨l.toArray⟩, .string ⟨#[123]⟩] W fun e w' => e = .returned (.tuple #[.string ⟨T.toArray⟩, .string ⟨S.toArray⟩, .bool (cutB l 123)]) ∧ Drawn W w' := by rw [hTe, hSe]; exact CUT.out
      rw [← hTe] at hT
      rw [← hSe] at hRl
      have hsp : splitT (m + 1) [] l = if cutB T 125 then none else if cutB l 123 = false then some (txt T) else if cutB S 125 = false ∨ (kindOf (cutL S 125)).1 = 0 then none else (splitT m [] (cutR S 125)).map fun q => txt T ++ (true, cutL S 125) :: q := by
        rw [hTe, hSe, splitT]; rfl
      have HSP := Lib.hid hsp
      replace hcut := Lib.hid hcut
      clear CUT hTe hSe hsp hnil
      obtain ⟨s0, hs0⟩ : ∃ s : ByteArray, s = ⟨l.toArray⟩ := ⟨_, rfl⟩
      rw [← hs0] at e1 e1' hsz hcut ⊢
      clear hs0
      go_wp2_with fail
      refine (hcut.out _).mono ?_
      rintro e W1 ⟨rfl, hd⟩
      have OW1 := Lib.hid (own_thenP OWN.out (hd.below _))
      have B1 := Lib.hid (below_drawn HB.out hd)
      clear hd OWN HB
      go_wp2_with fail
      refine (lib_Contains T 125 _).mono ?_
      rintro e w' ⟨rfl, rfl⟩
      cases hcb : cutB T 125 with
      | true =>
        have HF := Lib.hid (show R = none by rw [HRR.out, HSP.out, hcb]; rfl)
        go_wp2_with fail
        go_ret2
        unfold SplitPost
        rw [HF.out]
        exact ⟨rfl, B1.out⟩
      | false =>
        have HS2 := HSP.out
        rw [hcb, if_neg (by decide)] at HS2
        replace HSP := Lib.hid HS2
        clear HS2 hcb
        by_cases ht : T = []
        · have e2 : (⟨T.toArray⟩ : ByteArray).toList = [] := by rw [pt_list, ht]
          have htx : txt T = [] := by unfold txt; rw [if_pos ht]
          have HTX := Lib.hid htx
          obtain ⟨sT, hsT⟩ : ∃ s : ByteArray, s = ⟨T.toArray⟩ := ⟨_, rfl⟩
          rw [← hsT] at e2 ⊢
          clear htx hsT ht
          cases hcl : cutB l 123 with
          | false =>
            have HF := Lib.hid (show R = some (acc ++ []) by rw [HRR.out, HSP.out, hcl, if_pos rfl, HTX.out]; rfl)
            clear HRR HSP hcl
            rw [List.append_nil] at HF
            go_wp2_with fail
            go_ret2
            unfold SplitPost
            rw [HF.out]
            exact ⟨_, rfl, OW1.out, B1.out⟩
          | true =>
            have hlt : S.length < l.length := hRl.2 hcl
            have hss := pt_size S
            have CUT := Lib.hid (fun W => lib_Cut ⟨S.toArray⟩ 125 W (by omega))
            have hI := cutL_len S 125
            have hMl := cutR_len S 125
            obtain ⟨I, hIe⟩ : ∃ I, I = cutL S 125 := ⟨_, rfl⟩
            obtain ⟨M, hMe⟩ : ∃ M, M = cutR S 125 := ⟨_, rfl⟩
            have hcut2 : ∀ W, Calls Try.prog 12 #[.string ⟨S.toArray⟩, .string ⟨#[125]⟩] W fun e w' => e = .returned (.tuple #[.string ⟨I.toArray⟩, .string ⟨M.toArray⟩, .bool (cutB S 125)]) ∧ Drawn W w' := by rw [hIe, hMe]; exact CUT.out
            rw [← hMe] at hMl
            have HS3 := HSP.out
            rw [hcl, if_neg (by decide), ← hIe, ← hMe] at HS3
            replace HSP := Lib.hid HS3
            replace hcut2 := Lib.hid hcut2
            clear CUT hIe hMe HS3 hcl
            go_wp2_with fail
            refine (hcut2.out _).mono ?_
            rintro e W3 ⟨rfl, hd⟩
            have OW3 := Lib.hid (own_thenP OW1.out (hd.below _))
            have B3 := Lib.hid (below_drawn B1.out hd)
            clear hd OW1 B1
            go_wp2_with fail
            refine (pt_kind I _).mono ?_
            rintro e w' ⟨rfl, rfl⟩
            obtain ⟨K, hK⟩ : ∃ K, K = (kindOf I).1 := ⟨_, rfl⟩
            rw [← hK]
            have HS4 := HSP.out
            rw [← hK] at HS4
            replace HSP := Lib.hid HS4
            clear HS4 hK
            cases hcs : cutB S 125 with
            | false =>
              have HF := Lib.hid (show R = none by rw [HRR.out, HSP.out, hcs, if_pos (.inl rfl)]; rfl)
              go_wp2_with fail
              go_ret2
              unfold SplitPost
              rw [HF.out]
              exact ⟨rfl, B3.out⟩
            | true =>
              by_cases hk0 : K = 0
              · have HF := Lib.hid (show R = none by rw [HRR.out, HSP.out, hcs, if_pos (.inr hk0)]; rfl)
                have kb : (K == 0) = true := by simpa using hk0
                clear hk0
                go_wp2_with fail
                go_ret2
                unfold SplitPost
                rw [HF.out]
                exact ⟨rfl, B3.out⟩
              · have HF := Lib.hid (show R = (splitT m [] M).map ((acc ++ [(true, I)]) ++ ·) by
                  rw [HRR.out, HSP.out, hcs, if_neg (by rintro (h | h); cases h; exact hk0 h), HTX.out]
                  cases splitT m [] M <;> simp)
                have kb : (K == 0) = false := by simpa using hk0
                have hml : M.length < S.length := hMl.2 hcs
                have hzw : w.heap.size ≤ W3.heap.size := B3.out.size
                have hal2 : acc.length ≤ 119 := by first | omega | (simp; omega)
                clear hk0 hcs HRR HSP
                obtain ⟨sI, hsI⟩ : ∃ s : ByteArray, s = ⟨I.toArray⟩ := ⟨_, rfl⟩
                rw [← hsI]
                have HSI := Lib.hid hsI; clear hsI
                go_wp2_with (at_builtin; refine wpList_append_own _ rfl _ _ 31 rfl (w.heap.size) 43 i0 (.agg #[.bool false, .string ⟨#[]⟩]) 2 24 Try.underlying31 hi hz0 hz1 hz2 rfl (by decide) _ _ _ rfl (OW3.out.alloc _) ⟨W3.heap.size, 0, none⟩ 1 1 [.bool true, .string sI] rfl rfl (World.news_of_block (cs := #[.bool true, .string sI]) (t := 43) (fr := (0, 0)) (heap_alloc_new W3 _)) (by simp [Value.oneCell']) (by unfold maxLen; first | omega | (simp; omega)) (by first | omega | (simp; omega)) (by first | omega | (simp; omega)) ?_; intro v'' w4' hown' hgrow _)
                have bw := ((B3.out.alloc hzw (.cells #[.bool true, .string sI] 43))).grown hgrow (by simp; omega) (fun bb hbb => own_farP OW3.out hbb)
                have ow4 : w4'.ownsRow w.heap.size 43 2 v'' (acc ++ [(true, I)]).length ((acc ++ [(true, I)]).flatMap encPc) := own_snoc (by rw [← HSI.out]; exact hown')
                have OW4 := Lib.hid ow4
                have B4 := Lib.hid bw
                clear hown' hgrow bw ow4 OW3 B3 hzw
                go_wp2_with fail
                go_roundw
                case rel => exact ⟨M, acc ++ [(true, I)], m, rfl, by omega, by omega, HF.out, by simp only [List.length_append, List.length_cons, List.length_nil]; omega, OW4.out, B4.out⟩
                case measure => have e9 := pt_size M; simp only [strLen]; omega
        · have e2 : ((⟨T.toArray⟩ : ByteArray).toList).isEmpty = false := by rw [pt_list]; cases T with | nil => exact absurd rfl ht | cons _ _ => rfl
          have e2' : (!((⟨T.toArray⟩ : ByteArray).toList).isEmpty) = true := by rw [e2]; rfl
          have htx : txt T = [(false, T)] := by unfold txt; rw [if_neg ht]
          have HTX := Lib.hid htx
          obtain ⟨sT, hsT⟩ : ∃ s : ByteArray, s = ⟨T.toArray⟩ := ⟨_, rfl⟩
          rw [← hsT] at e2 e2' ⊢
          have HST := Lib.hid hsT
          have hzw : w.heap.size ≤ W1.heap.size := B1.out.size
          have hal : acc.length ≤ 118 := by
            have : l ≠ [] := by intro h0; rw [h0] at hT; simp at hT; exact ht hT
            have : 1 ≤ l.length := by cases l with | nil => exact absurd rfl this | cons _ _ => simp
            omega
          have hll : 1 ≤ l.length := by
            cases l with
            | nil => simp at hT; exact absurd hT ht
            | cons _ _ => simp
          clear htx hsT ht
          cases hcl : cutB l 123 with
          | false =>
            have HF := Lib.hid (show R = some (acc ++ [(false, T)]) by rw [HRR.out, HSP.out, hcl, if_pos rfl, HTX.out]; rfl)
            clear HRR HSP hcl
            go_wp2_with (at_builtin; refine wpList_append_own _ rfl _ _ 31 rfl (w.heap.size) 43 i0 (.agg #[.bool false, .string ⟨#[]⟩]) 2 24 Try.underlying31 hi hz0 hz1 hz2 rfl (by decide) _ _ _ rfl (OW1.out.alloc _) ⟨W1.heap.size, 0, none⟩ 1 1 [.bool false, .string sT] rfl rfl (World.news_of_block (cs := #[.bool false, .string sT]) (t := 43) (fr := (0, 0)) (heap_alloc_new W1 _)) (by simp [Value.oneCell']) (by unfold maxLen; first | omega | (simp; omega)) (by first | omega | (simp; omega)) (by first | omega | (simp; omega)) ?_; intro v' w4 hown' hgrow _)
            have bw := ((B1.out.alloc hzw (.cells #[.bool false, .string sT] 43))).grown hgrow (by simp; omega) (fun bb hbb => own_farP OW1.out hbb)
            have OWN' := Lib.hid hown'
            have BW := Lib.hid bw
            clear hown' hgrow bw
            go_wp2_with fail
            go_ret2
            unfold SplitPost
            rw [HF.out]
            exact ⟨_, rfl, own_snoc (by rw [← HST.out]; exact OWN'.out), BW.out⟩
          | true =>
            go_wp2_with (at_builtin; refine wpList_append_own _ rfl _ _ 31 rfl (w.heap.size) 43 i0 (.agg #[.bool false, .string ⟨#[]⟩]) 2 24 Try.underlying31 hi hz0 hz1 hz2 rfl (by decide) _ _ _ rfl (OW1.out.alloc _) ⟨W1.heap.size, 0, none⟩ 1 1 [.bool false, .string sT] rfl rfl (World.news_of_block (cs := #[.bool false, .string sT]) (t := 43) (fr := (0, 0)) (heap_alloc_new W1 _)) (by simp [Value.oneCell']) (by unfold maxLen; first | omega | (simp; omega)) (by first | omega | (simp; omega)) (by first | omega | (simp; omega)) ?_; intro v' w4 hown' hgrow _)
            have bw := ((B1.out.alloc hzw (.cells #[.bool false, .string sT] 43))).grown hgrow (by simp; omega) (fun bb hbb => own_farP OW1.out hbb)
            have ow2 : w4.ownsRow w.heap.size 43 2 v' (acc ++ [(false, T)]).length ((acc ++ [(false, T)]).flatMap encPc) := own_snoc (by rw [← HST.out]; exact hown')
            have OW2 := Lib.hid ow2
            have B2 := Lib.hid bw
            clear hown' hgrow bw ow2 OW1 B1 hzw
            have hlt : S.length < l.length := hRl.2 hcl
            have hss := pt_size S
            have CUT := Lib.hid (fun W => lib_Cut ⟨S.toArray⟩ 125 W (by omega))
            have hI := cutL_len S 125
            have hMl := cutR_len S 125
            obtain ⟨I, hIe⟩ : ∃ I, I = cutL S 125 := ⟨_, rfl⟩
            obtain ⟨M, hMe⟩ : ∃ M, M = cutR S 125 := ⟨_, rfl⟩
            have hcut2 : ∀ W, Calls Try.prog 12 #[.string ⟨S.toArray⟩, .string ⟨#[125]⟩] W fun e w' => e = .returned (.tuple #[.string ⟨I.toArray⟩, .string ⟨M.toArray⟩, .bool (cutB S 125)]) ∧ Drawn W w' := by rw [hIe, hMe]; exact CUT.out
            rw [← hMe] at hMl
            have HS3 := HSP.out
            rw [hcl, if_neg (by decide), ← hIe, ← hMe] at HS3
            replace HSP := Lib.hid HS3
            replace hcut2 := Lib.hid hcut2
            clear CUT hIe hMe HS3 hcl
            go_wp2_with fail
            refine (hcut2.out _).mono ?_
            rintro e W3 ⟨rfl, hd⟩
            have OW3 := Lib.hid (own_thenP OW2.out (hd.below _))
            have B3 := Lib.hid (below_drawn B2.out hd)
            clear hd OW2 B2
            go_wp2_with fail
            refine (pt_kind I _).mono ?_
            rintro e w' ⟨rfl, rfl⟩
            obtain ⟨K, hK⟩ : ∃ K, K = (kindOf I).1 := ⟨_, rfl⟩
            rw [← hK]
            have HS4 := HSP.out
            rw [← hK] at HS4
            replace HSP := Lib.hid HS4
            clear HS4 hK
            cases hcs : cutB S 125 with
            | false =>
              have HF := Lib.hid (show R = none by rw [HRR.out, HSP.out, hcs, if_pos (.inl rfl)]; rfl)
              go_wp2_with fail
              go_ret2
              unfold SplitPost
              rw [HF.out]
              exact ⟨rfl, B3.out⟩
            | true =>
              by_cases hk0 : K = 0
              · have HF := Lib.hid (show R = none by rw [HRR.out, HSP.out, hcs, if_pos (.inr hk0)]; rfl)
                have kb : (K == 0) = true := by simpa using hk0
                clear hk0
                go_wp2_with fail
                go_ret2
                unfold SplitPost
                rw [HF.out]
                exact ⟨rfl, B3.out⟩
              · have HF := Lib.hid (show R = (splitT m [] M).map (((acc ++ [(false, T)]) ++ [(true, I)]) ++ ·) by
                  rw [HRR.out, HSP.out, hcs, if_neg (by rintro (h | h); cases h; exact hk0 h), HTX.out]
                  cases splitT m [] M <;> simp)
                have kb : (K == 0) = false := by simpa using hk0
                have hml : M.length < S.length := hMl.2 hcs
                have hzw : w.heap.size ≤ W3.heap.size := B3.out.size
                have hal2 : (acc ++ [(false, T)]).length ≤ 119 := by first | omega | (simp; omega)
                clear hk0 hcs HRR HSP
                obtain ⟨sI, hsI⟩ : ∃ s : ByteArray, s = ⟨I.toArray⟩ := ⟨_, rfl⟩
                rw [← hsI]
                have HSI := Lib.hid hsI; clear hsI
                go_wp2_with (at_builtin; refine wpList_append_own _ rfl _ _ 31 rfl (w.heap.size) 43 i0 (.agg #[.bool false, .string ⟨#[]⟩]) 2 24 Try.underlying31 hi hz0 hz1 hz2 rfl (by decide) _ _ _ rfl (OW3.out.alloc _) ⟨W3.heap.size, 0, none⟩ 1 1 [.bool true, .string sI] rfl rfl (World.news_of_block (cs := #[.bool true, .string sI]) (t := 43) (fr := (0, 0)) (heap_alloc_new W3 _)) (by simp [Value.oneCell']) (by unfold maxLen; first | omega | (simp; omega)) (by first | omega | (simp; omega)) (by first | omega | (simp; omega)) ?_; intro v'' w4' hown' hgrow _)
                have bw := ((B3.out.alloc hzw (.cells #[.bool true, .string sI] 43))).grown hgrow (by simp; omega) (fun bb hbb => own_farP OW3.out hbb)
                have ow4 : w4'.ownsRow w.heap.size 43 2 v'' ((acc ++ [(false, T)]) ++ [(true, I)]).length (((acc ++ [(false, T)]) ++ [(true, I)]).flatMap encPc) := own_snoc (by rw [← HSI.out]; exact hown')
                have OW4 := Lib.hid ow4
                have B4 := Lib.hid bw
                clear hown' hgrow bw ow4 OW3 B3 hzw
                go_wp2_with fail
                go_roundw
                case rel => exact ⟨M, (acc ++ [(false, T)]) ++ [(true, I)], m, rfl, by omega, by omega, HF.out, by simp only [List.length_append, List.length_cons, List.length_nil]; omega, OW4.out, B4.out⟩
                case measure => have e9 := pt_size M; simp only [strLen]; omega
end Go.Proofs.Ytjjmbnflhldoeac
