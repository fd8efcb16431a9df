import Derived.Test.YtdmkghgachapaabGreatDoorMgQ
import Derived.Test.YtdmkghgachapaabGreatDoorTree4
import Derived.Test.YtdmkghgachapaabGreatDoorLayX
import Derived.Shelf.Strings.SplitShaped
import Derived.Deep.AppendLies
set_option linter.unusedSimpArgs false
namespace Go.Proofs.YtdmkghgachapaabGreatDoor
set_option linter.unusedVariables false
set_option maxRecDepth 100000
open Go.RowKit Go.Shelf
abbrev lnO (l : List (List UInt8)) : Obj := .cells (l.map strV).toArray 9
theorem lines_at {s : List UInt8} {j : Nat} {T : List UInt8} (h : (linesOf s)[j]? = some T) : (linesE s)[j]? = some T := by
  rw [linesE_of] at h
  split at h
  · rw [List.getElem?_dropLast] at h
    split at h
    · exact h
    · cases h
  · exact h
theorem lines_cell {s : List UInt8} {j lb : Nat} {T : List UInt8} {W : World} (ha : At W lb (lnO (linesE s))) (h : (linesOf s)[j]? = some T) : W.cell? ⟨lb, j, none⟩ = some (.string (tkS T)) := by
  have := ha.cell j
  rw [this]
  simp [lines_at h, strV]
theorem own_toks {w : World} {base : Nat} {v : Value} {l : List Tok} (h : w.ownsRow base 9 1 v l.length (l.map strV)) : ∃ A c, v = .slice A l.length c ∧ l.length ≤ c ∧ c ≤ 9223372036854775807 ∧
    (0 < l.length → ∃ q off, A = some ⟨q, off, none⟩ ∧ base ≤ q ∧ q < w.heap.size ∧ ∀ (j : Nat) (t : Tok), l[j]? = some t → w.cell? ⟨q, off + j, none⟩ = some (.string (tkS t))) := by
  by_cases h0 : 0 < l.length
  · rcases h.2 with ⟨_, hz⟩ | ⟨g, cap, cur, rfl, hb, hcur, hnc, hcm, hcs, htake⟩
    · exact absurd hz (by omega)
    · obtain ⟨g', c', e, h1, h2, h3⟩ := own_strs h rfl h0
      injection e with e1 _ e2
      injection e1 with e1
      injection e1 with e1 _ _
      subst e1 e2
      exact ⟨_, _, rfl, hnc, by unfold maxLen at hcm; omega, fun _ => ⟨g, 0, rfl, hb, h2, h3⟩⟩
  · rcases h.2 with ⟨rfl, hz⟩ | ⟨g, cap, cur, rfl, hb, hcur, hnc, hcm, hcs, htake⟩
    · exact ⟨none, 0, by rw [hz], by omega, by omega, fun h => absurd h h0⟩
    · exact ⟨_, _, rfl, hnc, by unfold maxLen at hcm; omega, fun h => absurd h h0⟩
set_option maxHeartbeats 32000000 in
theorem ref_RuleParse (S : ByteArray) (f : Nat) (w : World) (hS : S.size ≤ 9223372036854775806) (hM : ∃ m : Int, w.cell? ⟨0, 0, none⟩ = some (.int .i64 m)) (hns : parseP f S.data.toList ≠ .stuck)
    (hag : ∀ T, (linesOf S.data.toList)[3]? = some T → expR f 1 (toks T).tail 0 = expP f 0 (toks T).tail 0) :
    Calls Tryz.prog 73 #[.string S] w (PPost w (parseP f S.data.toList)) := by
  obtain ⟨RR, hRR⟩ : ∃ RR, RR = parseP f S.data.toList := ⟨_, rfl⟩
  rw [← hRR] at hns ⊢
  have hlen := str_len S
  obtain ⟨mx0, hmx⟩ := hM
  have hgM : 0 < w.heap.size := World.block_lt_of_cell? _ _ hmx
  obtain ⟨bR, hbR⟩ : ∃ bR, bR = w.heap.size := ⟨_, rfl⟩
  have HBR := Lib.hid (show w.heap.size ≤ bR by omega)
  have A0 := Lib.hid (At.newAt w zT bR hbR)
  have HB0 := Lib.hid (below_new (Below.refl w.heap.size w) zT)
  by_cases hbig : 4000 < S.size
  · have HR := Lib.hid (show RR = .good (.inl (0, 2)) by rw [hRR]; unfold parseP; rw [if_pos (by rw [hlen]; exact hbig)])
    have d1 : (4000 : Int) < S.size := by omega
    clear hns hRR hlen hbig hag hmx hgM
    go_enter Tryz.func73, Tryz.ntmps73
    go_upto_region 1 with fail
    rw [← hbR]
    clear hbR
    generalize World.alloc w _ = W0 at A0 HB0 ⊢
    have a1 := A0.out
    have HBW := HB0
    clear A0 HB0
    have z0 := a1.frozen 0; have z1 := a1.frozen 1; have z2 := a1.frozen 2; have z3 := a1.frozen 3; have z4 := a1.frozen 4; have z5 := a1.frozen 5; have z6 := a1.frozen 6; have zl := a1.lt
    have y0 := a1.cell 0; have y1 := a1.cell 1; have y2 := a1.cell 2; have y3 := a1.cell 3; have y4 := a1.cell 4; have y5 := a1.cell 5; have y6 := a1.cell 6
    simp at y0 y1 y2 y3 y4 y5 y6
    have F1 := Lib.hid (tree_store a1 (.string ⟨#[]⟩) (.int .i64 0) (.int .i64 0) (.int .i64 0) (.int .i64 0) (.slice none 0 0) (.slice none 0 0))
    have F2 := Lib.hid (below_set7 HBW.out HBR.out (.string ⟨#[]⟩) (.int .i64 0) (.int .i64 0) (.int .i64 0) (.int .i64 0) (.slice none 0 0) (.slice none 0 0))
    clear a1
    go_wp2_with fail
    generalize World.setCell (World.setCell (World.setCell (World.setCell (World.setCell (World.setCell (World.setCell W0 _ _) _ _) _ _) _ _) _ _) _ _) _ _ = W9 at F1 F2 ⊢
    have e0 := F1.out.cell 0; have e1 := F1.out.cell 1; have e2 := F1.out.cell 2; have e3 := F1.out.cell 3; have e4 := F1.out.cell 4; have e5 := F1.out.cell 5; have e6 := F1.out.cell 6
    simp at e0 e1 e2 e3 e4 e5 e6
    (try simp only [Exit.inBlock, Exit.then])
    refine bodyPost_ret (v := .tuple #[.agg #[.string ⟨#[]⟩, .int .i64 0, .int .i64 0, .int .i64 0, .int .i64 0, .slice none 0 0, .slice none 0 0], .int .i64 0, .int .i64 2]) ?_ rfl ?_
    · simp [results, Tryz.results73, go_sem, e0, e1, e2, e3, e4, e5, e6]
    · exact (by rw [HR.out]; exact ⟨rfl, by have := F2.out; (repeat' (first | exact bxR _ _ | assumption | refine bxD ?_ | refine bxN ?_ _ | refine bxA ?_ _ | refine bxS ?_ ?_ _ | refine bxT ?_ (by assumption) | refine bxW ?_ (by assumption) | exact Nat.le_refl _ | omega | (simp; done) | (simp; omega)))⟩)
  have d1 : ¬ (4000 : Int) < S.size := by omega
  obtain ⟨tb, htb⟩ : ∃ tb, tb = w.heap.size + 1 := ⟨_, rfl⟩
  have HT0 := Lib.hid (At.newAt (w.alloc zT) zT tb (by rw [htb, World.size_alloc]))
  have A1 := Lib.hid (A0.out.alloc zT)
  have HB1 := Lib.hid (below_new HB0.out zT)
  have hBt : bR < tb := by omega
  have HTT := Lib.hid (show w.heap.size ≤ tb by omega)
  have HEND := Lib.hid (fun (i : Nat) (R : Res PRule) (h : linesP f 0 (linesOf S.data.toList) rule0 = (i, R)) => hRR.trans (parse_end (f := f) (s := S.data.toList) (by rw [hlen]; exact hbig) h))
  have HNS := Lib.hid hns
  have hl4 : S.data.toList.length ≤ 4000 := by rw [hlen]; omega
  obtain ⟨sl, hsl⟩ : ∃ sl, sl = S.data.toList := ⟨_, rfl⟩
  obtain ⟨N1, hN1⟩ : ∃ N1, (linesE sl).length = N1 + 1 := ⟨_, linesE_len sl⟩
  have hN4 : N1 ≤ 4000 := by
    have h1 := linesE_len sl
    have h2 := Lib.countB_le ⟨#[10]⟩ (by decide) S.size S (Nat.le_refl _)
    have h3 : Lib.count sl [10] ≤ S.size := by rw [hsl]; exact h2
    omega
  have CSP := Lib.hid (fun (W : World) (hW : Below w.heap.size w W) => show Calls Tryz.prog 56 #[.string S, .string ⟨#[10]⟩] W (fun e w' => e = .returned (.slice (some ⟨W.heap.size, 0, none⟩) (N1 + 1) (N1 + 1)) ∧ w' = W.alloc (lnO (linesE sl))) from by
    have hm : W.cell? ⟨0, 0, none⟩ = some (.int .i64 mx0) := (hW.cell (p := ⟨0, 0, none⟩) hgM).trans hmx
    have h1 := Any.strings_Split { Tryz.laysLaysMn146 with } Tryz.laysLaysMn146.i9 S ⟨#[10]⟩ mx0 W (by omega) hm (by decide)
    have h2 : Lib.countB S ⟨#[10]⟩ + 1 = N1 + 1 := by rw [← hN1, linesE_len, hsl]
    rw [split_cells, h2, ← hsl] at h1
    exact h1)
  rw [← hsl] at HEND hl4 hag
  have HAG := Lib.hid hag
  obtain ⟨last, hlast⟩ : ∃ last, last = (linesE sl).getLastD [] := ⟨_, rfl⟩
  obtain ⟨n, hn⟩ : ∃ n, n = (linesOf sl).length := ⟨_, rfl⟩
  have hnn := linesE_of sl
  rw [← hlast] at hnn
  have HN1 := Lib.hid (fun (h : last = []) => show n = N1 by rw [hn, hnn, if_pos h, List.length_dropLast, hN1]; rfl)
  have HN2 := Lib.hid (fun (h : last ≠ []) => show n = N1 + 1 by rw [hn, hnn, if_neg h, hN1])
  have hnN : n ≤ N1 + 1 := by
    by_cases h : last = []
    · have := HN1.out h; omega
    · have := HN2.out h; omega
  have HLST := Lib.hid (show (linesE sl)[N1]? = some last by
    rw [hlast]
    have : linesE sl ≠ [] := by intro h; rw [h] at hN1; cases hN1
    rw [List.getLastD_eq_getLast?, List.getLast?_eq_getElem?, hN1]
    simp only [Nat.add_sub_cancel]
    rw [List.getElem?_eq_getElem (by omega)]; rfl)
  have HLL := Lib.hid (fun (j : Nat) (T : List UInt8) (h : (linesOf sl)[j]? = some T) => show T.length ≤ 4000 from Nat.le_trans (linesE_size sl T (List.mem_of_getElem? (lines_at h))) hl4)
  have HNN := Lib.hid hn
  clear hns hRR hlen hbig A0 HB0 hsl hlast hnn hn hag hmx hgM hN1 hl4
  go_enter Tryz.func73, Tryz.ntmps73
  go_upto_region 4 with fail
  (try rw [World.size_alloc])
  rw [← htb, ← hbR]
  clear htb hbR
  generalize World.alloc (World.alloc w _) _ = W1 at HT0 A1 HB1 ⊢
  go_wp2_with fail
  refine (CSP.out W1 HB1.out).mono ?_
  rintro e w2 ⟨rfl, rfl⟩
  obtain ⟨lb, hlb⟩ : ∃ lb, lb = W1.heap.size := ⟨_, rfl⟩
  have htl : tb < lb := by have := HT0.out.lt; omega
  obtain ⟨O, hO⟩ : ∃ O, O = lnO (linesE sl) := ⟨_, rfl⟩
  have HO := Lib.hid hO
  rw [← hO]
  have O2 := Lib.hid (At.newAt W1 O lb hlb)
  have A2 := Lib.hid (A1.out.alloc O)
  have HB2 := Lib.hid (below_new HB1.out O)
  have HT2 := Lib.hid (HT0.out.alloc O)
  clear CSP HT0 A1 HB1 hO
  go_upto_region 5 with fail
  rw [← hlb]
  clear hlb
  generalize World.alloc W1 _ = W2 at O2 A2 HB2 HT2 ⊢
  have HTR := Lib.hid (show TrQ W2 tb (fun b => b = lb) rule0 (.slice none 0 0) from
    ⟨fun _ => False, 0, 0, none, 0, 0, W2.heap.size, HT2.out, TG.leaf _ _ I64_zero I64_zero, (fun b hb => ⟨fun h => h, by rw [hb]; exact O2.out.lt, by simp [Value.ownBlock]⟩), HT2.out.lt, Nat.le_refl _, (fun _ h => h.elim), World.ownsRow_nil _ _ _ _⟩)
  clear HT2
  have hwN : IntKind.i64.wrap (N1 : Int) = (N1 : Int) := IntWalk.i64_in _ (by omega)
  have hlN : (N1 : Int) < (N1 : Int) + 1 := by omega
  have hlbz := O2.out.lt
  have xl : W2.cell? ⟨lb, N1, none⟩ = some (.string (tkS last)) := by
    have := O2.out
    rw [HO.out] at this
    rw [this.cell N1]
    simp [HLST.out, strV]
  go_cut [6, 24] from 18 to 24 (fun v6 v24 wx => v6 = .slice (some ⟨lb, 0, none⟩) (N1 + 1) (N1 + 1) ∧ v24 = .bool (decide (last = [])) ∧ W2 = wx)
  case first =>
    obtain ⟨X, hX⟩ : ∃ X, X = tkS last := ⟨_, rfl⟩
    rw [← hX] at xl
    by_cases hl : last = []
    · obtain rfl : X = ⟨#[]⟩ := by rw [hX, hl]
      have HL := Lib.hid hl
      clear hX hl
      go_wp2_with fail
      go_meet
      case rel => exact ⟨rfl, by rw [decide_eq_true HL.out], rfl⟩
    · have hne := str_ne X (by rw [hX, tkS_len]; exact List.length_pos_iff.2 hl)
      have HL := Lib.hid hl
      clear hX hl
      go_wp2_with fail
      go_meet
      case rel => exact ⟨rfl, by rw [decide_eq_false HL.out], rfl⟩
  case rest =>
    obtain ⟨rfl, rfl, rfl⟩ := hcut
    clear xl
    apply_assumption
    go_cut [6] from 18 to 29 (fun v6 wx => v6 = .slice (some ⟨lb, 0, none⟩) n (N1 + 1) ∧ W2 = wx)
    case first =>
      by_cases hl : last = []
      · rw [decide_eq_true hl]
        have hq := HN1.out hl
        have HQ1 := Lib.hid hq
        clear hl hq
        go_wp2_with fail
        go_meet
        case rel => exact ⟨by rw [HQ1.out], rfl⟩
      · rw [decide_eq_false hl]
        have hq := HN2.out hl
        have HQ1 := Lib.hid hq
        clear hl hq
        go_wp2_with fail
        go_meet
        case rel => exact ⟨by rw [HQ1.out], rfl⟩
    case rest =>
      obtain ⟨rfl, rfl⟩ := hcut
      clear hwN hlN hlbz HN1 HN2 HLST
      go_wp2_with fail
      go_loopw [32] (fun vi wr => ∃ (i : Nat) (t : PRule) (v : Value), vi = .int .i64 i ∧ i ≤ n ∧ linesP f 0 (linesOf sl) rule0 = linesP f i ((linesOf sl).drop i) t ∧ t.ms.length ≤ i ∧ (i ≤ 4 → t.ms = [] ∧ v = .slice none 0 0) ∧ OKt t ∧ TrQ wr tb (fun b => b = lb) t v ∧ At wr bR zT ∧ At wr lb O ∧ Below w.heap.size w wr) (fun vi _ => n - (intOf vi).toNat)
      case atStart => exact ⟨0, rule0, .slice none 0 0, rfl, by omega, rfl, by simp [rule0], fun _ => ⟨rfl, rfl⟩, ⟨by simp [rule0], by simp [rule0]⟩, HTR.out, A2.out, O2.out, HB2.out⟩
      case round =>
        clear HTR A2 HB2 O2
        obtain ⟨i, t, v, rfl, hin, hq, hmi, h34, hok, htr, hat, hln, hbel⟩ := hrel
        have HQ := Lib.hid hq; have HTR := Lib.hid htr; have HAT := Lib.hid hat; have HLN := Lib.hid hln; have HBL := Lib.hid hbel; have H34 := Lib.hid h34; have HOK := Lib.hid hok
        have HMS := Lib.hid (show t.ms.length ≤ 4001 by omega)
        have HMI := Lib.hid hmi
        clear hq htr hat hln hbel h34 hok hmi
        by_cases hlt : i < n
        · obtain ⟨T, hT⟩ : ∃ T, (linesOf sl)[i]? = some T := ⟨_, List.getElem?_eq_getElem (by have := HNN.out; omega)⟩
          have hdrop : (linesOf sl).drop i = T :: (linesOf sl).drop (i + 1) := by
            obtain ⟨hl, e⟩ := List.getElem?_eq_some_iff.1 hT
            rw [List.drop_eq_getElem_cons hl, e]
          have hTl := HLL.out i T hT
          have xl : wr.cell? ⟨lb, i, none⟩ = some (.string (tkS T)) := lines_cell (by have := HLN.out; rw [HO.out] at this; exact this) hT
          have HEX := Lib.hid (fun (hi : i = 3) (l : List Tok) (hl : needP [108, 101, 97, 112] (toks T) = .good l) => show expR f 1 l 0 = expP f 0 l 0 from by
            unfold needP at hl
            split at hl
            · injection hl with hl
              rw [← hl]
              exact HAG.out T (by rw [← hi]; exact hT)
            · cases hl)
          have HQ2 := Lib.hid (show linesP f 0 (linesOf sl) rule0 = match rowP f i (toks T) t with
              | .good t' => linesP f (i + 1) ((linesOf sl).drop (i + 1)) t'
              | .bad e => (i, .bad e)
              | .stuck => (i, .stuck) by rw [HQ.out, hdrop, linesP]; cases rowP f i (toks T) t <;> rfl)
          have HNST := Lib.hid (fun h => HNS.out (by
            have := HEND.out i .stuck (by rw [HQ2.out, h])
            exact this) : rowP f i (toks T) t ≠ .stuck)
          obtain ⟨TS, hTS⟩ : ∃ TS, TS = tkS T := ⟨_, rfl⟩
          rw [← hTS] at xl
          have hTz : TS.size ≤ 4000 := by rw [hTS, tkS_len]; exact hTl
          have CW := Lib.hid (show Calls Tryz.prog 89 #[.string TS] wr (fun e w' => (∃ v, e = .returned v ∧ w'.ownsRow wr.heap.size 9 1 v (toks T).length ((toks T).map strV)) ∧ Below wr.heap.size wr w') from by
            have := ref_Words TS wr hTz
            rw [show TS.data.toList = T by rw [hTS]] at this
            exact this)
          have HOQ := Lib.hid (show okQ (toks T) from ⟨okL_toks hTl, toks_ne T⟩)
          have hlz := HLN.out.lt
          have hi40 : i ≤ 4001 := by omega
          have hii : (i : Int) < (n : Int) := by omega
          clear hT hdrop hTl hTS hTz HQ
          go_wp2_with fail
          refine CW.out.mono ?_
          rintro e w1 ⟨⟨vv, rfl, hown⟩, hb1⟩
          obtain ⟨A, c, rfl, hc1, hc2, hA⟩ := own_toks hown
          obtain ⟨L, hL⟩ : ∃ L, L = (toks T).length := ⟨_, rfl⟩
          rw [← hL]
          obtain ⟨g, hg⟩ : ∃ g, g = w1.heap.size := ⟨_, rfl⟩
          have hts : tb < wr.heap.size := HTR.out.lt
          have hws : wr.heap.size ≤ w1.heap.size := hb1.size
          obtain ⟨BB, hBB⟩ : ∃ BB : Nat → Prop, BB = fun b => wr.heap.size ≤ b ∧ b < w1.heap.size := ⟨_, rfl⟩
          obtain ⟨GG, hGG⟩ : ∃ GG : Nat → Prop, GG = fun b => b = lb ∨ b = g := ⟨_, rfl⟩
          have b2 : Below wr.heap.size wr (w1.alloc (rf A L c 0 0)) := below_new hb1 _
          have RD2 : QAt BB (w1.alloc (rf A L c 0 0)) g (toks T) 0 := by
            refine ⟨A, L, c, At.newAt w1 _ g hg, ⟨hL, by omega, hc2, fun b hb => ?_, fun h0 => ?_⟩, HOQ.out⟩
            · rw [hBB] at hb; rw [World.size_alloc]; have := hb.2; omega
            · obtain ⟨q, off, e, h1, h2, h3⟩ := hA (by omega)
              refine ⟨q, off, e, by omega, by rw [hBB]; exact ⟨h1, h2⟩, fun j t hj => ?_⟩
              exact ((below_new (Below.refl w1.heap.size w1) (rf A L c 0 0)).cell (p := ⟨q, off + j, none⟩) h2).trans (h3 j t hj)
          have TR2 : TrQ (w1.alloc (rf A L c 0 0)) tb GG t v := HTR.out.fresh b2 (fun b hb => by
            rw [hGG] at hb
            rcases hb with h | h
            · exact .inl h
            · exact .inr ⟨by omega, by rw [World.size_alloc]; omega⟩)
          have LN2 : At (w1.alloc (rf A L c 0 0)) lb O := HLN.out.then_ b2
          have CX := Lib.hid (show Cx BB GG g lb tb from ⟨by rw [hGG]; exact .inr rfl, by rw [hGG]; exact .inl rfl, by omega, htl, by omega, fun h => by rw [hBB] at h; have := h.1; omega⟩)
          have HNV := Lib.hid (show ∀ b, BB b → v.ownBlock ≠ some b from fun b hb e => by
            rw [hBB] at hb
            obtain ⟨D, x, n, a, m, d, base, _, _, _, _, _, _, h8⟩ := HTR.out
            have := (own_lt h8 e).2
            have := hb.1
            omega)
          have RQ0 := Lib.hid (show RQ BB GG g lb tb O (toks T) t v wr (w1.alloc (rf A L c 0 0)) from ⟨TR2, RD2, LN2, b2.mono (Nat.le_of_lt hts)⟩)
          have HG1 := Lib.hid (show w1.heap.size ≤ g by omega)
          have HBBh := Lib.hid hBB; have HGGh := Lib.hid hGG
          have HL := Lib.hid hL
          clear hown hA hb1 b2 RD2 TR2 LN2 CW xl hBB hGG HTR HLN hL hlz hii
          go_upto_region 11 with fail
          rw [← hg]
          clear hg
          generalize World.alloc w1 _ = W2' at RQ0 ⊢
          go_cut [40] from 40 to 40 (fun vz wx => ∃ z : Int, vz = .int .i64 z ∧ z = i ∧ RQ BB GG g lb tb O (toks T) t v wr wx)
          case first =>
            go_wp2_with fail
            go_meet
            case rel => exact ⟨_, rfl, rfl, RQ0.out⟩
          case rest =>
            obtain ⟨z, rfl, hz, hq⟩ := hcut
            have HZ := Lib.hid hz; have H := Lib.hid hq
            clear hz hq RQ0
            apply_assumption
            obtain ⟨BD, hBD⟩ : ∃ BD, BD = (needP (kOf i) (toks T)).bind fun l => restP f i l t := ⟨_, rfl⟩
            have HBD := Lib.hid hBD
            have HROW := Lib.hid (show rowP f i (toks T) t = BD.bind fun p => if hd p.2 = [] then .good p.1 else .bad 4 by rw [row_body, hBD])
            clear hBD
            go_cut [] from 40 to 85 (fun wx => SwR BB GG g lb tb O v wr BD wx)
            case first =>
              have hzz : z = 0 ∨ z = 1 ∨ z = 2 ∨ z = 3 ∨ 4 ≤ z := by have := HZ.out; omega
              rcases hzz with rfl | rfl | rfl | rfl | hz4
              · have HI := Lib.hid (show i = 0 by have := HZ.out; omega)
                have CN := Lib.hid (show Calls Tryz.prog 90 #[.pointer (some ⟨g, 0, none⟩), .string ⟨#[99, 97, 108, 101, 110, 100, 97, 114]⟩] wc (fun e W' => e = .returned (.tuple #[]) ∧ StR BB GG g lb tb O t v wr (needP [99, 97, 108, 101, 110, 100, 97, 114] (toks T)) W' ∧ OneKept g wc W') from c_need CX.out H.out [99, 97, 108, 101, 110, 100, 97, 114] (by decide))
                go_wp2_with fail
                refine CN.out.mono ?_
                rintro e w3 ⟨rfl, h3, hk3⟩
                have H3 := Lib.hid h3
                clear h3 hk3 CN H
                go_wp2_with fail
                refine (c_name CX.out H3.out).mono ?_
                rintro e w4 ⟨X, rfl, h4, hk4⟩
                obtain ⟨⟨xx, hxx⟩, hfz, hlt4⟩ := stx_cell h4 0 (by omega)
                have H4 := Lib.hid h4
                clear h4 hk4 H3
                go_wp2_with fail
                go_meet
                case rel =>
                  have hs := stx_field CX.out H4.out 0 (fun x => { t with nm := x }) (fun _ => rfl) (fun _ => rfl) (fun _ _ _ _ _ _ => rfl)
                  rw [Res.assoc] at hs
                  rw [HBD.out, HI.out]
                  exact hs
              · have HI := Lib.hid (show i = 1 by have := HZ.out; omega)
                have CN := Lib.hid (show Calls Tryz.prog 90 #[.pointer (some ⟨g, 0, none⟩), .string ⟨#[101, 112, 111, 99, 104]⟩] wc (fun e W' => e = .returned (.tuple #[]) ∧ StR BB GG g lb tb O t v wr (needP [101, 112, 111, 99, 104] (toks T)) W' ∧ OneKept g wc W') from c_need CX.out H.out [101, 112, 111, 99, 104] (by decide))
                go_wp2_with fail
                refine CN.out.mono ?_
                rintro e w3 ⟨rfl, h3, hk3⟩
                have H3 := Lib.hid h3
                clear h3 hk3 CN H
                go_wp2_with fail
                refine (c_signed CX.out H3.out).mono ?_
                rintro e w4 ⟨z9, rfl, h4, hk4⟩
                obtain ⟨⟨xx, hxx⟩, hfz, hlt4⟩ := stx_cell h4 1 (by omega)
                have H4 := Lib.hid h4
                clear h4 hk4 H3
                go_wp2_with fail
                go_meet
                case rel =>
                  have hs := stx_field CX.out H4.out 1 (fun x => { t with ep := x }) (fun _ => rfl) (fun _ => rfl) (fun _ _ _ _ _ _ => rfl)
                  rw [Res.assoc] at hs
                  rw [HBD.out, HI.out]
                  exact hs
              · have HI := Lib.hid (show i = 2 by have := HZ.out; omega)
                have CN := Lib.hid (show Calls Tryz.prog 90 #[.pointer (some ⟨g, 0, none⟩), .string ⟨#[99, 121, 99, 108, 101]⟩] wc (fun e W' => e = .returned (.tuple #[]) ∧ StR BB GG g lb tb O t v wr (needP [99, 121, 99, 108, 101] (toks T)) W' ∧ OneKept g wc W') from c_need CX.out H.out [99, 121, 99, 108, 101] (by decide))
                go_wp2_with fail
                refine CN.out.mono ?_
                rintro e w3 ⟨rfl, h3, hk3⟩
                have H3 := Lib.hid h3
                clear h3 hk3 CN H
                go_wp2_with fail
                refine (c_signed CX.out H3.out).mono ?_
                rintro e w4 ⟨z9, rfl, h4, hk4⟩
                obtain ⟨⟨xx, hxx⟩, hfz, hlt4⟩ := stx_cell h4 2 (by omega)
                have H4 := Lib.hid h4
                clear h4 hk4 H3
                go_wp2_with fail
                go_meet
                case rel =>
                  have hs := stx_field CX.out H4.out 2 (fun x => { t with cy := x }) (fun _ => rfl) (fun _ => rfl) (fun _ _ _ _ _ _ => rfl)
                  rw [Res.assoc] at hs
                  rw [HBD.out, HI.out]
                  exact hs
              · have HI := Lib.hid (show i = 3 by have := HZ.out; omega)
                replace HEX := Lib.hid (show ∀ l, needP [108, 101, 97, 112] (toks T) = .good l → expR f 1 l 0 = expP f 0 l 0 ∧ expP f 0 l 0 ≠ .stuck from fun l hl => ⟨HEX.out HI.out l hl, fun h => by
                  have h9 : rowP f 3 (toks T) t ≠ .stuck := by have := HNST.out; rw [HI.out] at this; exact this
                  unfold needP at hl
                  split at hl
                  · rename_i hk
                    injection hl with hl
                    exact row3_stuck h9 hk (by rw [hl]; exact h)
                  · cases hl⟩)
                have CN := Lib.hid (show Calls Tryz.prog 90 #[.pointer (some ⟨g, 0, none⟩), .string ⟨#[108, 101, 97, 112]⟩] wc (fun e W' => e = .returned (.tuple #[]) ∧ StR BB GG g lb tb O t v wr (needP [108, 101, 97, 112] (toks T)) W' ∧ OneKept g wc W') from c_need CX.out H.out [108, 101, 97, 112] (by decide))
                go_wp2_with fail
                refine CN.out.mono ?_
                rintro e w3 ⟨rfl, h3, hk3⟩
                have H3 := Lib.hid h3
                clear h3 hk3 CN H
                go_wp2_with fail
                refine (c_expr (f := f) CX.out H3.out (fun l hl => by
                  obtain ⟨q1, q2⟩ := HEX.out l hl
                  rw [q1]; exact q2) rf_expr_bad).mono ?_
                rintro e w4 ⟨k9, n9, a9, m9, d9, rfl, h4⟩
                obtain ⟨⟨x3, hx3⟩, hf3, hlt4⟩ := ste_cell h4 3 (by omega)
                obtain ⟨⟨x4, hx4⟩, hf4, _⟩ := ste_cell h4 4 (by omega)
                obtain ⟨⟨x5, hx5⟩, hf5, _⟩ := ste_cell h4 5 (by omega)
                have H4 := Lib.hid h4
                clear h4 H3
                go_wp2_with fail
                go_meet
                case rel =>
                  have hs := ste_leap CX.out H4.out (H34.out (by have := HI.out; omega)).1 (H34.out (by have := HI.out; omega)).2
                  rw [Res.assoc] at hs
                  rw [HBD.out, HI.out]
                  have e9 : ((needP [108, 101, 97, 112] (toks T)).bind fun l => restP f 3 l t) = ((needP [108, 101, 97, 112] (toks T)).bind fun x => (expR f 1 x 0).bind fun p => .good ({ t with lp := p.1 }, p.2)) := by
                    cases hN : needP [108, 101, 97, 112] (toks T) with
                    | stuck => rfl
                    | bad c => rfl
                    | good l => show restP f 3 l t = (expR f 1 l 0).bind _; rw [(HEX.out l hN).1]; rfl
                  show SwR BB GG g lb tb O v wr ((needP [108, 101, 97, 112] (toks T)).bind fun l => restP f 3 l t) _
                  rw [e9]
                  exact hs
              · have HSZ4 : ∀ {α : Type} {val : α → Value} {R : Res (α × List Tok)} {x : Value} {W : World}, StX BB GG g lb tb O t v wr val R x W → Below tb wr W ∧ g < W.heap.size ∧ lb < W.heap.size := by
                  intro α val R x W h
                  cases R with
                  | stuck => exact h.elim
                  | bad c => exact ⟨h.2.bel, h.2.bad.lt, h.2.ln.lt⟩
                  | good p => exact ⟨h.2.bel, h.2.rd.lt, h.2.ln.lt⟩
                have CN := Lib.hid (show Calls Tryz.prog 90 #[.pointer (some ⟨g, 0, none⟩), .string ⟨#[109, 111, 110, 116, 104]⟩] wc (fun e W' => e = .returned (.tuple #[]) ∧ StR BB GG g lb tb O t v wr (needP [109, 111, 110, 116, 104] (toks T)) W' ∧ OneKept g wc W') from c_need CX.out H.out [109, 111, 110, 116, 104] (by decide))
                go_wp2_with fail
                refine CN.out.mono ?_
                rintro e w3 ⟨rfl, h3, hk3⟩
                have H3 := Lib.hid h3
                clear h3 hk3 CN H
                have hi4 : 4 ≤ i := by have := HZ.out; omega
                have HB4 := Lib.hid (show BD = ((needP [109, 111, 110, 116, 104] (toks T)).bind monP).bind fun p => .good ({ t with ms := t.ms ++ [p.1] }, p.2) by
                  rw [HBD.out, kOf_4 hi4, Res.assoc]
                  cases needP [109, 111, 110, 116, 104] (toks T) with
                  | stuck => rfl
                  | bad c => rfl
                  | good l => exact restP_4 hi4 l t)
                have j0 : (z == 0) = false := by simp; omega
                have j1 : (z == 1) = false := by simp; omega
                have j2 : (z == 2) = false := by simp; omega
                have j3 : (z == 3) = false := by simp; omega
                obtain ⟨RN, hRN⟩ : ∃ RN, RN = needP [109, 111, 110, 116, 104] (toks T) := ⟨_, rfl⟩
                rw [← hRN] at H3 HB4
                clear hRN hz4
                go_wp2_with fail
                refine (c_name CX.out H3.out).mono ?_
                rintro e w4 ⟨X, rfl, h4, hk4⟩
                obtain ⟨mb, hmb⟩ : ∃ mb, mb = w4.heap.size := ⟨_, rfl⟩
                obtain ⟨_, _, hlt4⟩ := stx_cell h4 0 (by omega)
                have N5 := Lib.hid (At.newAt w4 (moO X 0 0) mb hmb)
                have HX5 := Lib.hid (stx_val h4)
                have hbelow : Below w4.heap.size w4 (w4.alloc (moO X 0 0)) := below_new (Below.refl _ _) _
                have H5 := Lib.hid (stx_str (G' := fun b => GG b ∨ b = mb) h4 hbelow (fun b hb => by
                  rcases hb with h | h
                  · exact .inl h
                  · exact .inr ⟨by omega, by rw [World.size_alloc]; omega⟩))
                have hw3r : wr.heap.size ≤ w4.heap.size := by
                  have : Below tb wr w4 ∧ g < w4.heap.size ∧ lb < w4.heap.size := HSZ4 h4
                  exact this.1.size
                have hgl4 : g < w4.heap.size ∧ lb < w4.heap.size := (HSZ4 h4).2
                have hg1 : w1.heap.size ≤ w4.heap.size := by have := HG1.out; omega
                have CX5 := Lib.hid (show Cx BB (fun b => GG b ∨ b = mb) g lb tb from ⟨.inl CX.out.gG, .inl CX.out.lG, CX.out.gt, CX.out.lt, CX.out.gl, CX.out.nB⟩)
                have MX5 := Lib.hid (show Mx BB (fun b => GG b ∨ b = mb) g lb tb mb from ⟨.inr rfl, by omega, by omega, by omega, fun h => by rw [HBBh.out] at h; have := h.2; omega⟩)
                have hgm : g ≠ mb := by omega
                clear h4 hk4 H3 hbelow hw3r hgl4 hg1
                go_upto_region 14 with fail
                rw [← hmb]
                clear hmb
                generalize World.alloc w4 _ = W5 at N5 H5 ⊢
                go_wp2_with fail
                refine (c_signed CX5.out H5.out).mono ?_
                rintro e w6 ⟨z1, rfl, h6, hk6⟩
                have M6 := Lib.hid (ms_of HX5.out h6)
                have n6 := N5.out.oneKept hk6 hgm.symm
                have z10 := n6.frozen 1; have zl := n6.lt; have y1 := n6.cell 1; simp at y1
                have N7 := Lib.hid (show At (w6.setCell ⟨mb, 1, none⟩ (.int .i64 z1)) mb (moO X z1 0) from n6.store 1 _)
                have M7 := Lib.hid (M6.out.setb MX5.out 1 (.int .i64 z1))
                clear h6 hk6 n6 M6 N5 H5
                go_upto_region 15 with fail
                generalize World.setCell w6 _ _ = W7 at N7 M7 ⊢
                clear z10 zl y1
                have q1 := N7.out.cell 1; have q2 := N7.out.cell 2; have z20 := N7.out.frozen 2; have zl := N7.out.lt
                simp at q1 q2
                have N8 := Lib.hid (show At (W7.setCell ⟨mb, 2, none⟩ (.int .i64 z1)) mb (moO X z1 z1) from N7.out.store 2 _)
                have M8 := Lib.hid (M7.out.setb MX5.out 2 (.int .i64 z1))
                clear N7 M7
                go_upto_region 16 with fail
                generalize World.setCell W7 _ _ = W8 at N8 M8 ⊢
                clear q1 q2 z20 zl
                obtain ⟨z, hzz⟩ : ∃ z, z = z1 := ⟨_, rfl⟩
                rw [← hzz] at N8 M8
                clear hzz
                rcases M8.out with ⟨xx, l2, hm, hX, hr⟩ | ⟨c, hc, hm, hf⟩
                · have HXX := Lib.hid hX
                  obtain ⟨A, m, cc, x0, hml, x1⟩ := hr.rd.cells0
                  have hgl8 := hr.rd.lt
                  by_cases hl2 : l2 = []
                  · have HBD18 := Lib.hid (show BD = .good ({ t with ms := t.ms ++ [(xx, z, z)] }, l2) by rw [HB4.out, hm, if_pos (by rw [hl2]; rfl)]; rfl)
                    have H18 := Lib.hid hr
                    have N18 := N8
                    obtain rfl : m = 0 := by rw [hml, hl2]; rfl
                    clear hm hX hr hl2 hml M8 N8
                    go_upto_region 18 with fail
                    clear x0 x1 hgl8
                    obtain ⟨D, k, n, a, m, d, base, h1, h2, h3, h4, h5, h6, h8⟩ := H18.out.tr
                    have c6 : W8.cell? ⟨tb, 6, none⟩ = some v := h1.cell 6
                    have m0 : W8.cell? ⟨mb, 0, none⟩ = some (.string X) := N18.out.cell 0
                    have m1 : W8.cell? ⟨mb, 1, none⟩ = some (.int .i64 z) := N18.out.cell 1
                    have m2 : W8.cell? ⟨mb, 2, none⟩ = some (.int .i64 z) := N18.out.cell 2
                    have hbz := h1.lt
                    have hmz := N18.out.lt
                    obtain ⟨i0, hi, hz0, hz1, hz2⟩ := info_parts infoMon
                    obtain ⟨ML, hML⟩ : ∃ ML, ML = t.ms.length := ⟨_, rfl⟩
                    have hml4 : ML ≤ 4001 := by have := HMS.out; omega
                    rw [← hML] at h8
                    have HML := Lib.hid hML
                    have H1 := Lib.hid h1; have H2 := Lib.hid h2; have H3 := Lib.hid h3; have H6 := Lib.hid h6; have H8 := Lib.hid h8
                    clear h1 h2 h3 h6 h8 hML
                    go_wp2_with (at_builtin; refine wpList_append_lies _ rfl _ _ 89 rfl (base) 128 i0 (.agg #[.string ByteArray.empty, .int .i64 0, .int .i64 0]) 3 32 Tryz.underlying89 hi hz0 hz1 hz2 rfl (by decide) v ML (t.ms.flatMap monC) rfl (H8.out.alloc _) ⟨W8.heap.size, 0, none⟩ 1 1 [.string X, .int .i64 z, .int .i64 z] rfl rfl (World.news_of_block (cs := #[.string X, .int .i64 z, .int .i64 z]) (t := 128) (fr := (0, 0)) (heap_alloc_new W8 _)) (by simp [Value.oneCell']) (by decide) (by unfold maxLen; omega) (by omega) (by first | omega | (simp; omega)) _ rfl ?_; intro g4 cap4 w7 hown' hgrow hlies hglt; have a7 := (H1.out.alloc (.cells #[.string X, .int .i64 z, .int .i64 z] 128)).grow hgrow (fun e => by have := (own_lt H8.out e).1; omega); have y4 : w7.frozen? ⟨tb, 6, none⟩ = false := a7.frozen 6; have y5 : w7.cell? ⟨tb, 6, none⟩ = some v := a7.cell 6; have y6 : tb < w7.heap.size := a7.lt; have HOWN := Lib.hid hown'; have HGR := Lib.hid hgrow; have HLI := Lib.hid hlies; clear hown' hgrow hlies a7)
                    go_meet
                    case rel =>
                      have hML := HML.out
                      subst hML
                      have hW1 : Below W8.heap.size W8 (W8.alloc (.cells #[.string X, .int .i64 z, .int .i64 z] 128)) := below_new (Below.refl _ _) _
                      have hnb : ∀ b, v.ownBlock = some b → tb ≤ b := fun b e => by have := (own_lt H8.out e).1; omega
                      rw [HBD18.out]
                      refine ⟨.slice (some ⟨g4, 0, none⟩) (t.ms.length + 1) cap4, fun h => by simp at h, (TrQ.app H1.out H2.out H3.out h4 h5 H6.out H8.out hW1 (xx, z, z) (by have := HOWN.out; rw [HXX.out] at this; exact this) HGR.out (by rcases HLI.out with h | h; exact .inl h; exact .inr (by rw [h]; exact hW1.size))).mono (fun b hb => .inl hb), (H18.out.rd.grow hW1 HGR.out (H3.out g (.inl CX.out.gG)).2.2 HNV.out).set CX.out.nB (by have := CX.out.gt; omega) 6 _, ((H18.out.ln.then_ hW1).grow HGR.out (H3.out lb (.inl CX.out.lG)).2.2).apart (p := ⟨tb, 6, none⟩) (by show lb ≠ tb; have := CX.out.lt; omega) _, grow_bel H18.out.bel (Nat.le_of_lt hbz) hW1 HGR.out hnb 6 _⟩
                  · have hne : hd l2 ≠ [] := fun h => hl2 ((hr.rd.okq.hd).1 h)
                    have HS8 := Lib.hid hm
                    have hmpos : (0 : Int) < (m : Int) := by have : 0 < l2.length := List.length_pos_iff.2 hl2; omega
                    have HM8 := Lib.hid (show BD = (signP l2).bind fun s => .good ({ t with ms := t.ms ++ [(xx, z, s.1)] }, s.2) by rw [HB4.out, hm, if_neg hne, Res.assoc]; rfl)
                    have CS := Lib.hid (c_signed CX5.out (R := .good l2) hr)
                    clear hm hX hr hl2 hml M8 hne
                    go_wp2_with fail
                    refine CS.out.mono ?_
                    rintro e w9 ⟨z9, rfl, h9, hk9⟩
                    have h9 : StX BB (fun b => GG b ∨ b = mb) g lb tb O t v wr (fun x : Int => .int .i64 x) (signP l2) (.int .i64 z9) w9 := h9
                    have n9 := N8.out.oneKept hk9 hgm.symm
                    have z20 := n9.frozen 2; have zl := n9.lt; have y2 := n9.cell 2; simp at y2
                    have N18 := Lib.hid (show At (w9.setCell ⟨mb, 2, none⟩ (.int .i64 z9)) mb (moO X z z9) from n9.store 2 _)
                    clear x0 x1 hgl8 hmpos
                    rcases signP_cases l2 with ⟨c, es⟩ | ⟨q, es⟩
                    · rw [es] at h9
                      have HBD18 := Lib.hid (show BD = .bad c by rw [HM8.out, es]; rfl)
                      have HC18 := Lib.hid h9.1
                      have H18 := Lib.hid (h9.2.setb MX5.out 2 (.int .i64 z9))
                      clear h9 hk9 n9 N8 CS HM8 es
                      go_upto_region 18 with fail
                      generalize World.setCell w9 _ _ = W10 at N18 H18 ⊢
                      clear z20 zl y2
                      obtain ⟨t0, ht0, D, k, n, a, m, d, base, h1, h2, h3, h4, h5, h6, h8⟩ := H18.out.tr
                      rw [ht0] at h8
                      have c6 : W10.cell? ⟨tb, 6, none⟩ = some v := h1.cell 6
                      have m0 : W10.cell? ⟨mb, 0, none⟩ = some (.string X) := N18.out.cell 0
                      have m1 : W10.cell? ⟨mb, 1, none⟩ = some (.int .i64 z) := N18.out.cell 1
                      have m2 : W10.cell? ⟨mb, 2, none⟩ = some (.int .i64 z9) := N18.out.cell 2
                      have hbz := h1.lt
                      have hmz := N18.out.lt
                      obtain ⟨i0, hi, hz0, hz1, hz2⟩ := info_parts infoMon
                      obtain ⟨ML, hML⟩ : ∃ ML, ML = t.ms.length := ⟨_, rfl⟩
                      have hml4 : ML ≤ 4001 := by have := HMS.out; omega
                      rw [← hML] at h8
                      have HML := Lib.hid hML
                      have H1 := Lib.hid h1; have H2 := Lib.hid h2; have H3 := Lib.hid h3; have H6 := Lib.hid h6; have H8 := Lib.hid h8
                      clear h1 h2 h3 h6 h8 hML
                      go_wp2_with (at_builtin; refine wpList_append_lies _ rfl _ _ 89 rfl (base) 128 i0 (.agg #[.string ByteArray.empty, .int .i64 0, .int .i64 0]) 3 32 Tryz.underlying89 hi hz0 hz1 hz2 rfl (by decide) v ML (t.ms.flatMap monC) rfl (H8.out.alloc _) ⟨W10.heap.size, 0, none⟩ 1 1 [.string X, .int .i64 z, .int .i64 z9] rfl rfl (World.news_of_block (cs := #[.string X, .int .i64 z, .int .i64 z9]) (t := 128) (fr := (0, 0)) (heap_alloc_new W10 _)) (by simp [Value.oneCell']) (by decide) (by unfold maxLen; omega) (by omega) (by first | omega | (simp; omega)) _ rfl ?_; intro g4 cap4 w7 hown' hgrow hlies hglt; have a7 := (H1.out.alloc (.cells #[.string X, .int .i64 z, .int .i64 z9] 128)).grow hgrow (fun e => by have := (own_lt H8.out e).1; omega); have y4 : w7.frozen? ⟨tb, 6, none⟩ = false := a7.frozen 6; have y5 : w7.cell? ⟨tb, 6, none⟩ = some v := a7.cell 6; have y6 : tb < w7.heap.size := a7.lt; have HOWN := Lib.hid hown'; have HGR := Lib.hid hgrow; have HLI := Lib.hid hlies; clear hown' hgrow hlies a7)
                      go_meet
                      case rel =>
                        have hML := HML.out
                        subst hML
                        have hW1 : Below W10.heap.size W10 (W10.alloc (.cells #[.string X, .int .i64 z, .int .i64 z9] 128)) := below_new (Below.refl _ _) _
                        have hnb : ∀ b, v.ownBlock = some b → tb ≤ b := fun b e => by have := (own_lt H8.out e).1; omega
                        rw [HBD18.out]
                        obtain ⟨qA, qm, qc, qo, qa⟩ := H18.out.bad
                        exact ⟨HC18.out, ⟨qA, qm, qc, qo, ((qa.then_ hW1).grow HGR.out (H3.out g (.inl CX.out.gG)).2.2).apart (p := ⟨tb, 6, none⟩) (by show g ≠ tb; have := CX.out.gt; omega) _⟩, ((H18.out.ln.then_ hW1).grow HGR.out (H3.out lb (.inl CX.out.lG)).2.2).apart (p := ⟨tb, 6, none⟩) (by show lb ≠ tb; have := CX.out.lt; omega) _, grow_bel H18.out.bel (Nat.le_of_lt hbz) hW1 HGR.out hnb 6 _⟩
                    · rw [es] at h9
                      obtain ⟨hz9, h9⟩ := h9
                      injection hz9 with _ hz9
                      obtain ⟨q1, l3⟩ := q
                      simp only at hz9 h9
                      have HBD18 := Lib.hid (show BD = .good ({ t with ms := t.ms ++ [(xx, z, z9)] }, l3) by rw [HM8.out, es, hz9]; rfl)
                      have H18 := Lib.hid (h9.setb MX5.out 2 (.int .i64 z9))
                      clear h9 hk9 n9 N8 CS HM8 es hz9
                      go_upto_region 18 with fail
                      generalize World.setCell w9 _ _ = W10 at N18 H18 ⊢
                      clear z20 zl y2
                      obtain ⟨D, k, n, a, m, d, base, h1, h2, h3, h4, h5, h6, h8⟩ := H18.out.tr
                      have c6 : W10.cell? ⟨tb, 6, none⟩ = some v := h1.cell 6
                      have m0 : W10.cell? ⟨mb, 0, none⟩ = some (.string X) := N18.out.cell 0
                      have m1 : W10.cell? ⟨mb, 1, none⟩ = some (.int .i64 z) := N18.out.cell 1
                      have m2 : W10.cell? ⟨mb, 2, none⟩ = some (.int .i64 z9) := N18.out.cell 2
                      have hbz := h1.lt
                      have hmz := N18.out.lt
                      obtain ⟨i0, hi, hz0, hz1, hz2⟩ := info_parts infoMon
                      obtain ⟨ML, hML⟩ : ∃ ML, ML = t.ms.length := ⟨_, rfl⟩
                      have hml4 : ML ≤ 4001 := by have := HMS.out; omega
                      rw [← hML] at h8
                      have HML := Lib.hid hML
                      have H1 := Lib.hid h1; have H2 := Lib.hid h2; have H3 := Lib.hid h3; have H6 := Lib.hid h6; have H8 := Lib.hid h8
                      clear h1 h2 h3 h6 h8 hML
                      go_wp2_with (at_builtin; refine wpList_append_lies _ rfl _ _ 89 rfl (base) 128 i0 (.agg #[.string ByteArray.empty, .int .i64 0, .int .i64 0]) 3 32 Tryz.underlying89 hi hz0 hz1 hz2 rfl (by decide) v ML (t.ms.flatMap monC) rfl (H8.out.alloc _) ⟨W10.heap.size, 0, none⟩ 1 1 [.string X, .int .i64 z, .int .i64 z9] rfl rfl (World.news_of_block (cs := #[.string X, .int .i64 z, .int .i64 z9]) (t := 128) (fr := (0, 0)) (heap_alloc_new W10 _)) (by simp [Value.oneCell']) (by decide) (by unfold maxLen; omega) (by omega) (by first | omega | (simp; omega)) _ rfl ?_; intro g4 cap4 w7 hown' hgrow hlies hglt; have a7 := (H1.out.alloc (.cells #[.string X, .int .i64 z, .int .i64 z9] 128)).grow hgrow (fun e => by have := (own_lt H8.out e).1; omega); have y4 : w7.frozen? ⟨tb, 6, none⟩ = false := a7.frozen 6; have y5 : w7.cell? ⟨tb, 6, none⟩ = some v := a7.cell 6; have y6 : tb < w7.heap.size := a7.lt; have HOWN := Lib.hid hown'; have HGR := Lib.hid hgrow; have HLI := Lib.hid hlies; clear hown' hgrow hlies a7)
                      go_meet
                      case rel =>
                        have hML := HML.out
                        subst hML
                        have hW1 : Below W10.heap.size W10 (W10.alloc (.cells #[.string X, .int .i64 z, .int .i64 z9] 128)) := below_new (Below.refl _ _) _
                        have hnb : ∀ b, v.ownBlock = some b → tb ≤ b := fun b e => by have := (own_lt H8.out e).1; omega
                        rw [HBD18.out]
                        refine ⟨.slice (some ⟨g4, 0, none⟩) (t.ms.length + 1) cap4, fun h => by simp at h, (TrQ.app H1.out H2.out H3.out h4 h5 H6.out H8.out hW1 (xx, z, z9) (by have := HOWN.out; rw [HXX.out] at this; exact this) HGR.out (by rcases HLI.out with h | h; exact .inl h; exact .inr (by rw [h]; exact hW1.size))).mono (fun b hb => .inl hb), (H18.out.rd.grow hW1 HGR.out (H3.out g (.inl CX.out.gG)).2.2 HNV.out).set CX.out.nB (by have := CX.out.gt; omega) 6 _, ((H18.out.ln.then_ hW1).grow HGR.out (H3.out lb (.inl CX.out.lG)).2.2).apart (p := ⟨tb, 6, none⟩) (by show lb ≠ tb; have := CX.out.lt; omega) _, grow_bel H18.out.bel (Nat.le_of_lt hbz) hW1 HGR.out hnb 6 _⟩
                · obtain ⟨A, m, cc, x0, x1⟩ := hf.bad.cells0
                  have hgl8 := hf.bad.lt
                  have HBD18 := Lib.hid (show BD = .bad c by rw [HB4.out, hm]; rfl)
                  have HC18 := Lib.hid hc
                  have H18 := Lib.hid hf
                  have N18 := N8
                  have e1 : (c == 0) = false := by simpa using hc
                  have hmm : m = 0 ∨ (0 : Int) < (m : Int) := by omega
                  clear hm hf hc M8 N8
                  rcases hmm with rfl | hmm
                  all_goals
                    go_upto_region 18 with fail
                    clear x0 x1 hgl8 e1
                    obtain ⟨t0, ht0, D, k, n, a, m, d, base, h1, h2, h3, h4, h5, h6, h8⟩ := H18.out.tr
                    rw [ht0] at h8
                    have c6 : W8.cell? ⟨tb, 6, none⟩ = some v := h1.cell 6
                    have m0 : W8.cell? ⟨mb, 0, none⟩ = some (.string X) := N18.out.cell 0
                    have m1 : W8.cell? ⟨mb, 1, none⟩ = some (.int .i64 z) := N18.out.cell 1
                    have m2 : W8.cell? ⟨mb, 2, none⟩ = some (.int .i64 z) := N18.out.cell 2
                    have hbz := h1.lt
                    have hmz := N18.out.lt
                    obtain ⟨i0, hi, hz0, hz1, hz2⟩ := info_parts infoMon
                    obtain ⟨ML, hML⟩ : ∃ ML, ML = t.ms.length := ⟨_, rfl⟩
                    have hml4 : ML ≤ 4001 := by have := HMS.out; omega
                    rw [← hML] at h8
                    have HML := Lib.hid hML
                    have H1 := Lib.hid h1; have H2 := Lib.hid h2; have H3 := Lib.hid h3; have H6 := Lib.hid h6; have H8 := Lib.hid h8
                    clear h1 h2 h3 h6 h8 hML
                    go_wp2_with (at_builtin; refine wpList_append_lies _ rfl _ _ 89 rfl (base) 128 i0 (.agg #[.string ByteArray.empty, .int .i64 0, .int .i64 0]) 3 32 Tryz.underlying89 hi hz0 hz1 hz2 rfl (by decide) v ML (t.ms.flatMap monC) rfl (H8.out.alloc _) ⟨W8.heap.size, 0, none⟩ 1 1 [.string X, .int .i64 z, .int .i64 z] rfl rfl (World.news_of_block (cs := #[.string X, .int .i64 z, .int .i64 z]) (t := 128) (fr := (0, 0)) (heap_alloc_new W8 _)) (by simp [Value.oneCell']) (by decide) (by unfold maxLen; omega) (by omega) (by first | omega | (simp; omega)) _ rfl ?_; intro g4 cap4 w7 hown' hgrow hlies hglt; have a7 := (H1.out.alloc (.cells #[.string X, .int .i64 z, .int .i64 z] 128)).grow hgrow (fun e => by have := (own_lt H8.out e).1; omega); have y4 : w7.frozen? ⟨tb, 6, none⟩ = false := a7.frozen 6; have y5 : w7.cell? ⟨tb, 6, none⟩ = some v := a7.cell 6; have y6 : tb < w7.heap.size := a7.lt; have HOWN := Lib.hid hown'; have HGR := Lib.hid hgrow; have HLI := Lib.hid hlies; clear hown' hgrow hlies a7)
                    go_meet
                    case rel =>
                      have hML := HML.out
                      subst hML
                      have hW1 : Below W8.heap.size W8 (W8.alloc (.cells #[.string X, .int .i64 z, .int .i64 z] 128)) := below_new (Below.refl _ _) _
                      have hnb : ∀ b, v.ownBlock = some b → tb ≤ b := fun b e => by have := (own_lt H8.out e).1; omega
                      rw [HBD18.out]
                      obtain ⟨qA, qm, qc, qo, qa⟩ := H18.out.bad
                      exact ⟨HC18.out, ⟨qA, qm, qc, qo, ((qa.then_ hW1).grow HGR.out (H3.out g (.inl CX.out.gG)).2.2).apart (p := ⟨tb, 6, none⟩) (by show g ≠ tb; have := CX.out.gt; omega) _⟩, ((H18.out.ln.then_ hW1).grow HGR.out (H3.out lb (.inl CX.out.lG)).2.2).apart (p := ⟨tb, 6, none⟩) (by show lb ≠ tb; have := CX.out.lt; omega) _, grow_bel H18.out.bel (Nat.le_of_lt hbz) hW1 HGR.out hnb 6 _⟩
            case rest =>
              have HS := Lib.hid hcut
              clear hcut H HEX HZ HBD
              have HBW0 := Lib.hid (fun (W : World) (h : Below tb wr W) => show Below w.heap.size w W from ⟨h.os.trans HBL.out.os, h.tape.trans HBL.out.tape, h.output.trans HBL.out.output, Nat.le_trans HBL.out.size h.size, fun b hb => (h.block b (Nat.lt_of_lt_of_le hb HTT.out)).trans (HBL.out.block b hb)⟩)
              cases BD with
              | stuck => exact HS.out.elim
              | bad c =>
                have HR := Lib.hid (show RR = .good (.inl (i, c)) by rw [HEND.out i (.bad c) (by rw [HQ2.out, HROW.out]; rfl)]; rfl)
                obtain ⟨hc, hbad, hlnn, hbl⟩ := HS.out
                obtain ⟨qA, qm, qc, x0, x1⟩ := hbad.cells0
                have x1d : wc.drew.cell? ⟨g, 1, none⟩ = some (.int .i64 c) := x1
                have hgl := hbad.lt
                have e1 : (c == 0) = false := by simpa using hc
                have e2 : (c != 0) = true := by simpa using hc
                have a1 := HAT.out.below hbl hBt
                have hgR1 : ¬ bR = g := by have := CX.out.gt; omega
                have hgR2 : ¬ g = bR := by have := CX.out.gt; omega
                have HBW := Lib.hid (HBW0.out wc hbl)
                clear hc hbad hlnn hbl HS
                have z0 := a1.frozen 0; have z1 := a1.frozen 1; have z2 := a1.frozen 2; have z3 := a1.frozen 3; have z4 := a1.frozen 4; have z5 := a1.frozen 5; have z6 := a1.frozen 6; have zl := a1.lt
                have y0 := a1.cell 0; have y1 := a1.cell 1; have y2 := a1.cell 2; have y3 := a1.cell 3; have y4 := a1.cell 4; have y5 := a1.cell 5; have y6 := a1.cell 6
                simp at y0 y1 y2 y3 y4 y5 y6
                have F1 := Lib.hid (tree_store a1 (.string ⟨#[]⟩) (.int .i64 0) (.int .i64 0) (.int .i64 0) (.int .i64 0) (.slice none 0 0) (.slice none 0 0))
                have F2 := Lib.hid (below_set7 HBW.out HBR.out (.string ⟨#[]⟩) (.int .i64 0) (.int .i64 0) (.int .i64 0) (.int .i64 0) (.slice none 0 0) (.slice none 0 0))
                clear a1
                go_wp2_with fail
                go_region
                all_goals go_wp2_with fail
                generalize World.setCell (World.setCell (World.setCell (World.setCell (World.setCell (World.setCell (World.setCell wc _ _) _ _) _ _) _ _) _ _) _ _) _ _ = W9 at F1 F2 ⊢
                have e0 := F1.out.cell 0; have e1 := F1.out.cell 1; have e2 := F1.out.cell 2; have e3 := F1.out.cell 3; have e4 := F1.out.cell 4; have e5 := F1.out.cell 5; have e6 := F1.out.cell 6
                simp at e0 e1 e2 e3 e4 e5 e6
                (try simp only [Exit.inBlock, Exit.then])
                refine bodyPost_ret (v := .tuple #[.agg #[.string ⟨#[]⟩, .int .i64 0, .int .i64 0, .int .i64 0, .int .i64 0, .slice none 0 0, .slice none 0 0], .int .i64 (i : Int), .int .i64 c]) ?_ rfl ?_
                · simp [results, Tryz.results73, go_sem, e0, e1, e2, e3, e4, e5, e6]
                · exact (by rw [HR.out]; exact ⟨rfl, by have := F2.out; (repeat' (first | exact bxR _ _ | assumption | refine bxD ?_ | refine bxN ?_ _ | refine bxA ?_ _ | refine bxS ?_ ?_ _ | refine bxT ?_ (by assumption) | refine bxW ?_ (by assumption) | exact Nat.le_refl _ | omega | (simp; done) | (simp; omega)))⟩)
              | good p =>
                obtain ⟨t', l'⟩ := p
                obtain ⟨v', hv', hr⟩ := HS.out
                simp only at hv' hr
                obtain ⟨qA, qm, qc, x0, hqm, x1⟩ := hr.rd.cells0
                have hgl := hr.rd.lt
                by_cases hl' : l' = []
                · have HRW := Lib.hid (show rowP f i (toks T) t = .good t' by rw [HROW.out]; show (if hd l' = [] then _ else _) = _; rw [if_pos (by rw [hl']; rfl)])
                  have hro := rowP_ok HRW.out HOQ.out.1 HOK.out
                  obtain rfl : qm = 0 := by rw [hqm, hl']; rfl
                  have HREL := Lib.hid (show ∃ (i' : Nat) (t'' : PRule) (v'' : Value), (.int .i64 ((i : Int) + 1) : Value) = .int .i64 i' ∧ i' ≤ n ∧ linesP f 0 (linesOf sl) rule0 = linesP f i' ((linesOf sl).drop i') t'' ∧ t''.ms.length ≤ i' ∧ (i' ≤ 4 → t''.ms = [] ∧ v'' = .slice none 0 0) ∧ OKt t'' ∧ TrQ wc tb (fun b => b = lb) t'' v'' ∧ At wc bR zT ∧ At wc lb O ∧ Below w.heap.size w wc from
                    ⟨i + 1, t', v', by go_num, by omega, by rw [HQ2.out, HRW.out], by have := hro.2.2; have := HMI.out; omega, fun h => by
                      have h0 := H34.out (by omega)
                      have hm : t'.ms = [] := by rw [hro.2.1 (by omega)]; exact h0.1
                      exact ⟨hm, by rw [hv' hm]; exact h0.2⟩, hro.1, hr.tr.mono (fun b hb => by rw [HGGh.out]; exact .inl hb), HAT.out.below hr.bel hBt, hr.ln, HBW0.out wc hr.bel⟩)
                  clear hr hv' hro HS hqm hl'
                  go_wp2_with fail
                  go_roundw
                  case rel => exact HREL.out
                  case measure => simp [intOf]; omega
                · have HR := Lib.hid (show RR = .good (.inl (i, 4)) by
                    rw [HEND.out i (.bad 4) (by rw [HQ2.out, HROW.out]; show (match (if hd l' = [] then Res.good t' else Res.bad 4 : Res PRule) with | .good t' => _ | .bad e => _ | .stuck => _) = _; rw [if_neg (fun h => hl' ((hr.rd.okq.hd).1 h))])]; rfl)
                  have hmpos : (0 : Int) < (qm : Int) := by have : 0 < l'.length := List.length_pos_iff.2 hl'; omega
                  have CF := Lib.hid (rf_fail 4 hr.rd)
                  have HRR := Lib.hid hr
                  clear hr hv' HS hqm hl'
                  go_wp2_with fail
                  refine CF.out.mono ?_
                  rintro e w5 ⟨rfl, hq⟩
                  have hff := HRR.out.failed CX.out hq
                  obtain ⟨qA', qm', qc', x0', x1'⟩ := hff.bad.cells0
                  have x1d : w5.drew.cell? ⟨g, 1, none⟩ = some (.int .i64 4) := x1'
                  have hgl' := hff.bad.lt
                  have a1 := HAT.out.below hff.bel hBt
                  have hgR1 : ¬ bR = g := by have := CX.out.gt; omega
                  have hgR2 : ¬ g = bR := by have := CX.out.gt; omega
                  have HBW := Lib.hid (HBW0.out w5 hff.bel)
                  clear hff hq x0 x1 hgl hmpos CF HRR
                  have z0 := a1.frozen 0; have z1 := a1.frozen 1; have z2 := a1.frozen 2; have z3 := a1.frozen 3; have z4 := a1.frozen 4; have z5 := a1.frozen 5; have z6 := a1.frozen 6; have zl := a1.lt
                  have y0 := a1.cell 0; have y1 := a1.cell 1; have y2 := a1.cell 2; have y3 := a1.cell 3; have y4 := a1.cell 4; have y5 := a1.cell 5; have y6 := a1.cell 6
                  simp at y0 y1 y2 y3 y4 y5 y6
                  have F1 := Lib.hid (tree_store a1 (.string ⟨#[]⟩) (.int .i64 0) (.int .i64 0) (.int .i64 0) (.int .i64 0) (.slice none 0 0) (.slice none 0 0))
                  have F2 := Lib.hid (below_set7 HBW.out HBR.out (.string ⟨#[]⟩) (.int .i64 0) (.int .i64 0) (.int .i64 0) (.int .i64 0) (.slice none 0 0) (.slice none 0 0))
                  clear a1
                  go_wp2_with fail
                  go_region
                  all_goals go_wp2_with fail
                  generalize World.setCell (World.setCell (World.setCell (World.setCell (World.setCell (World.setCell (World.setCell w5 _ _) _ _) _ _) _ _) _ _) _ _) _ _ = W9 at F1 F2 ⊢
                  have e0 := F1.out.cell 0; have e1 := F1.out.cell 1; have e2 := F1.out.cell 2; have e3 := F1.out.cell 3; have e4 := F1.out.cell 4; have e5 := F1.out.cell 5; have e6 := F1.out.cell 6
                  simp at e0 e1 e2 e3 e4 e5 e6
                  (try simp only [Exit.inBlock, Exit.then])
                  refine bodyPost_ret (v := .tuple #[.agg #[.string ⟨#[]⟩, .int .i64 0, .int .i64 0, .int .i64 0, .int .i64 0, .slice none 0 0, .slice none 0 0], .int .i64 (i : Int), .int .i64 4]) ?_ rfl ?_
                  · simp [results, Tryz.results73, go_sem, e0, e1, e2, e3, e4, e5, e6]
                  · exact (by rw [HR.out]; exact ⟨rfl, by have := F2.out; (repeat' (first | exact bxR _ _ | assumption | refine bxD ?_ | refine bxN ?_ _ | refine bxA ?_ _ | refine bxS ?_ ?_ _ | refine bxT ?_ (by assumption) | refine bxW ?_ (by assumption) | exact Nat.le_refl _ | omega | (simp; done) | (simp; omega)))⟩)
        · obtain rfl : i = n := by omega
          have HL := Lib.hid (show linesP f 0 (linesOf sl) rule0 = (i, .good t) by rw [HQ.out, List.drop_eq_nil_of_le (by have := HNN.out; omega)]; rfl)
          by_cases hi4 : i < 4
          · have HR := Lib.hid (show RR = .good (.inl (i, 4)) by rw [HEND.out _ _ HL.out]; show (if i < 4 then _ else _) = _; rw [if_pos hi4])
            have d4 : (i : Int) < 4 := by omega
            have a1 := HAT.out
            have HBW := HBL
            clear HQ HL hi4 hlt
            have z0 := a1.frozen 0; have z1 := a1.frozen 1; have z2 := a1.frozen 2; have z3 := a1.frozen 3; have z4 := a1.frozen 4; have z5 := a1.frozen 5; have z6 := a1.frozen 6; have zl := a1.lt
            have y0 := a1.cell 0; have y1 := a1.cell 1; have y2 := a1.cell 2; have y3 := a1.cell 3; have y4 := a1.cell 4; have y5 := a1.cell 5; have y6 := a1.cell 6
            simp at y0 y1 y2 y3 y4 y5 y6
            have F1 := Lib.hid (tree_store a1 (.string ⟨#[]⟩) (.int .i64 0) (.int .i64 0) (.int .i64 0) (.int .i64 0) (.slice none 0 0) (.slice none 0 0))
            have F2 := Lib.hid (below_set7 HBW.out HBR.out (.string ⟨#[]⟩) (.int .i64 0) (.int .i64 0) (.int .i64 0) (.int .i64 0) (.slice none 0 0) (.slice none 0 0))
            clear a1
            go_wp2_with fail
            generalize World.setCell (World.setCell (World.setCell (World.setCell (World.setCell (World.setCell (World.setCell wr _ _) _ _) _ _) _ _) _ _) _ _) _ _ = W9 at F1 F2 ⊢
            have e0 := F1.out.cell 0; have e1 := F1.out.cell 1; have e2 := F1.out.cell 2; have e3 := F1.out.cell 3; have e4 := F1.out.cell 4; have e5 := F1.out.cell 5; have e6 := F1.out.cell 6
            simp at e0 e1 e2 e3 e4 e5 e6
            (try simp only [Exit.inBlock, Exit.then])
            refine bodyPost_ret (v := .tuple #[.agg #[.string ⟨#[]⟩, .int .i64 0, .int .i64 0, .int .i64 0, .int .i64 0, .slice none 0 0, .slice none 0 0], .int .i64 (i : Int), .int .i64 4]) ?_ rfl ?_
            · simp [results, Tryz.results73, go_sem, e0, e1, e2, e3, e4, e5, e6]
            · exact (by rw [HR.out]; exact ⟨rfl, by have := F2.out; (repeat' (first | exact bxR _ _ | assumption | refine bxD ?_ | refine bxN ?_ _ | refine bxA ?_ _ | refine bxS ?_ ?_ _ | refine bxT ?_ (by assumption) | refine bxW ?_ (by assumption) | exact Nat.le_refl _ | omega | (simp; done) | (simp; omega)))⟩)
          · have d4 : ¬ (i : Int) < 4 := by omega
            have HRP := Lib.hid (show RR = if perr t ≠ 0 then .good (.inl (0, perr t)) else .good (.inr t) by rw [HEND.out _ _ HL.out]; show (if i < 4 then _ else _) = _; rw [if_neg hi4])
            have HTRR := Lib.hid (HTR.out.tr (g := lb) rfl)
            obtain ⟨k, nn, a, m, d, am, nm, cm, rfl, htat, hk, hn, k1, m1, k2, m2, hsub, hmon⟩ := HTRR.out.open_ HOK.out
            obtain ⟨E, hE⟩ : ∃ E, E = perr t := ⟨_, rfl⟩
            obtain ⟨N, hN⟩ : ∃ N, N = tkS t.nm := ⟨_, rfl⟩
            have CC := Lib.hid (show Calls Tryz.prog 95 #[.agg #[.string N, .int .i64 t.ep, .int .i64 t.cy, .int .i64 k, .int .i64 nn, .slice a m d, .slice am nm cm]] wr (fun e w' => e = .returned (.int .i64 E) ∧ Below wr.heap.size wr w') from by
              have hlp : t.lp = .node k nn t.lp.kids := by rw [hk, hn]; cases t.lp; rfl
              rw [hE, hN]
              have := ref_RuleError wr (tkS t.nm) t.ep t.cy k nn t.lp.kids a am m d nm cm (t.ms.map monO) (by rw [tkS_len]; have := HOK.out.1; omega) k1 m1 k2 (by rw [← hlp]; exact hsub) hmon
              rw [← hlp] at this
              exact this)
            rw [← hE] at HRP
            have x0 := htat.cell 0; have x1 := htat.cell 1; have x2 := htat.cell 2; have x3 := htat.cell 3; have x4 := htat.cell 4; have x5 := htat.cell 5; have x6 := htat.cell 6
            have hbz := htat.lt
            simp at x0 x1 x2 x3 x4 x5 x6
            rw [← hN] at x0
            have HTAT := Lib.hid htat
            have HN := Lib.hid hN
            obtain ⟨ep, hep⟩ : ∃ ep, ep = t.ep := ⟨_, rfl⟩
            obtain ⟨cy, hcy⟩ : ∃ cy, cy = t.cy := ⟨_, rfl⟩
            rw [← hep, ← hcy] at CC
            rw [← hep] at x1
            rw [← hcy] at x2
            have HEP := Lib.hid hep; have HCY := Lib.hid hcy
            clear hE hN hk hn hsub hmon htat HQ HL hi4 hep hcy HTR hlt
            go_wp2_with fail
            refine CC.out.mono ?_
            rintro e w5 ⟨rfl, hb⟩
            have HBW := Lib.hid (below_then HBL.out hb)
            have a1 := HAT.out.then_ hb
            have HTR5 := Lib.hid (HTRR.out.then_ hb)
            have t5 := HTAT.out.then_ hb
            clear hb CC x0 x1 x2 x3 x4 x5 x6 HTAT
            by_cases hz : E = 0
            · have HR := Lib.hid (show RR = .good (.inr t) by rw [HRP.out, if_neg (by simp [hz])])
              subst hz
              have x0 := t5.cell 0; have x1 := t5.cell 1; have x2 := t5.cell 2; have x3 := t5.cell 3; have x4 := t5.cell 4; have x5 := t5.cell 5; have x6 := t5.cell 6
              have hbz5 := t5.lt
              simp at x0 x1 x2 x3 x4 x5 x6
              rw [← HN.out] at x0
              rw [← HEP.out] at x1
              rw [← HCY.out] at x2
              have T5 := Lib.hid t5
              clear t5 HRP
              have z0 := a1.frozen 0; have z1 := a1.frozen 1; have z2 := a1.frozen 2; have z3 := a1.frozen 3; have z4 := a1.frozen 4; have z5 := a1.frozen 5; have z6 := a1.frozen 6; have zl := a1.lt
              have y0 := a1.cell 0; have y1 := a1.cell 1; have y2 := a1.cell 2; have y3 := a1.cell 3; have y4 := a1.cell 4; have y5 := a1.cell 5; have y6 := a1.cell 6
              simp at y0 y1 y2 y3 y4 y5 y6
              have F1 := Lib.hid (tree_store a1 (.string N) (.int .i64 ep) (.int .i64 cy) (.int .i64 k) (.int .i64 nn) (.slice a m d) (.slice am nm cm))
              have F2 := Lib.hid (below_set7 HBW.out HBR.out (.string N) (.int .i64 ep) (.int .i64 cy) (.int .i64 k) (.int .i64 nn) (.slice a m d) (.slice am nm cm))
              have F3 := Lib.hid (tree_after HTR5.out T5.out HOK.out hBt (.string N) (.int .i64 ep) (.int .i64 cy) (.int .i64 k) (.int .i64 nn) (.slice a m d) (.slice am nm cm))
              clear a1
              go_wp2_with fail
              generalize World.setCell (World.setCell (World.setCell (World.setCell (World.setCell (World.setCell (World.setCell w5 _ _) _ _) _ _) _ _) _ _) _ _) _ _ = W9 at F1 F2 F3 ⊢
              have e0 := F1.out.cell 0; have e1 := F1.out.cell 1; have e2 := F1.out.cell 2; have e3 := F1.out.cell 3; have e4 := F1.out.cell 4; have e5 := F1.out.cell 5; have e6 := F1.out.cell 6
              simp at e0 e1 e2 e3 e4 e5 e6
              (try simp only [Exit.inBlock, Exit.then])
              refine bodyPost_ret (v := .tuple #[.agg #[.string N, .int .i64 ep, .int .i64 cy, .int .i64 k, .int .i64 nn, .slice a m d, .slice am nm cm], .int .i64 0, .int .i64 0]) ?_ rfl ?_
              · simp [results, Tryz.results73, go_sem, e0, e1, e2, e3, e4, e5, e6]
              · exact (by rw [HR.out, HN.out, HEP.out, HCY.out]; exact ⟨⟨k, nn, a, m, d, am, nm, cm, rfl, F3.out⟩, F2.out⟩)
            · have HR := Lib.hid (show RR = .good (.inl (0, E)) by rw [HRP.out, if_pos hz])
              have e1 : (E == 0) = false := by simpa using hz
              have e2 : (E != 0) = true := by simpa using hz
              clear hz t5 HRP
              have z0 := a1.frozen 0; have z1 := a1.frozen 1; have z2 := a1.frozen 2; have z3 := a1.frozen 3; have z4 := a1.frozen 4; have z5 := a1.frozen 5; have z6 := a1.frozen 6; have zl := a1.lt
              have y0 := a1.cell 0; have y1 := a1.cell 1; have y2 := a1.cell 2; have y3 := a1.cell 3; have y4 := a1.cell 4; have y5 := a1.cell 5; have y6 := a1.cell 6
              simp at y0 y1 y2 y3 y4 y5 y6
              have F1 := Lib.hid (tree_store a1 (.string ⟨#[]⟩) (.int .i64 0) (.int .i64 0) (.int .i64 0) (.int .i64 0) (.slice none 0 0) (.slice none 0 0))
              have F2 := Lib.hid (below_set7 HBW.out HBR.out (.string ⟨#[]⟩) (.int .i64 0) (.int .i64 0) (.int .i64 0) (.int .i64 0) (.slice none 0 0) (.slice none 0 0))
              clear a1
              go_wp2_with fail
              generalize World.setCell (World.setCell (World.setCell (World.setCell (World.setCell (World.setCell (World.setCell w5 _ _) _ _) _ _) _ _) _ _) _ _) _ _ = W9 at F1 F2 ⊢
              have e0 := F1.out.cell 0; have e1 := F1.out.cell 1; have e2 := F1.out.cell 2; have e3 := F1.out.cell 3; have e4 := F1.out.cell 4; have e5 := F1.out.cell 5; have e6 := F1.out.cell 6
              simp at e0 e1 e2 e3 e4 e5 e6
              (try simp only [Exit.inBlock, Exit.then])
              refine bodyPost_ret (v := .tuple #[.agg #[.string ⟨#[]⟩, .int .i64 0, .int .i64 0, .int .i64 0, .int .i64 0, .slice none 0 0, .slice none 0 0], .int .i64 0, .int .i64 E]) ?_ rfl ?_
              · simp [results, Tryz.results73, go_sem, e0, e1, e2, e3, e4, e5, e6]
              · exact (by rw [HR.out]; exact ⟨rfl, by have := F2.out; (repeat' (first | exact bxR _ _ | assumption | refine bxD ?_ | refine bxN ?_ _ | refine bxA ?_ _ | refine bxS ?_ ?_ _ | refine bxT ?_ (by assumption) | refine bxW ?_ (by assumption) | exact Nat.le_refl _ | omega | (simp; done) | (simp; omega)))⟩)
end Go.Proofs.YtdmkghgachapaabGreatDoor
