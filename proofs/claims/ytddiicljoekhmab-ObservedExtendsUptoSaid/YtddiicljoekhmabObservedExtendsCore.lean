/- ObservedExtends, the walk: where what it reads is within the bound, the Go text returns true, and writes nothing that was there. -/
import Derived.Test.YtddiicljoekhmabExt2
import Derived.Test.YtddiicljoekhmabBulkI
import Derived.ChangeMaps5
namespace Go.Proofs.Ytddiicljoekhmab.observedExtendsLaw
set_option linter.unusedVariables false
set_option linter.unusedSimpArgs false
set_option maxRecDepth 100000
open Go.RowKit Go.ChangeShapes Go.WideShapes

def errF (s : ByteArray) (f : Int) (ms ss st : List Int) : Int := if tableErr s f ms ss ≠ 0 then tableErr s f ms ss else if st.length ≠ 12 ∧ st.length ≠ 13 then 1 else 0
theorem ext_of (s : ByteArray) (f : Int) (ms ss st : List Int) : extE s f ms ss st = if errF s f ms ss st ≠ 0 then errF s f ms ss st else tableErr s f (ms ++ [(st.length : Int)]) (ss ++ st) := by
  unfold extE errF
  by_cases h1 : tableErr s f ms ss ≠ 0
  · rw [if_pos h1, if_pos h1, if_pos h1]
  · rw [if_neg h1, if_neg h1]
    by_cases h2 : st.length ≠ 12 ∧ st.length ≠ 13
    · rw [if_pos h2, if_pos h2, if_pos (by decide)]
    · rw [if_neg h2, if_neg h2, if_neg (by decide)]
theorem ext_uni {s : ByteArray} {f : Int} {ms ss st : List Int} {w w' : World} {e : Ending} (h : ExtPost s f ms ss st w e w') :
    ∃ q r b1 k1 d1 b2 k2 d2 P1 P2, e = .returned (.tuple #[tabV q r b1 k1 d1 b2 k2 d2, .int .i64 (extE s f ms ss st)]) ∧ Ints w' w'.heap.size b1 k1 P1 ∧ Ints w' w'.heap.size b2 k2 P2 ∧ Below w.heap.size w w' ∧
      (extE s f ms ss st ≠ 0 → q = ⟨#[]⟩ ∧ r = 0 ∧ P1 = [] ∧ P2 = []) ∧ (extE s f ms ss st = 0 → q = s ∧ r = f ∧ P1 = ms ++ [(st.length : Int)] ∧ P2 = ss ++ st) := by
  obtain ⟨hb, h⟩ := h
  by_cases hE : extE s f ms ss st ≠ 0
  · rw [if_pos hE] at h
    exact ⟨_, _, none, 0, 0, none, 0, 0, [], [], h, ints0 w', ints0 w', hb, fun _ => ⟨rfl, rfl, rfl, rfl⟩, fun h0 => absurd h0 hE⟩
  · rw [if_neg hE] at h
    obtain ⟨b1, k1, d1, b2, k2, d2, he, i1, i2⟩ := h
    have h0 : extE s f ms ss st = 0 := by omega
    exact ⟨s, f, b1, k1, d1, b2, k2, d2, _, _, by rw [h0]; exact he, i1, i2, hb, fun hh => absurd h0 hh, fun _ => ⟨rfl, rfl, rfl, rfl⟩⟩
theorem tabO_is (s : ByteArray) (f : Int) (a1 : Option Addr) (n1 c1 : Nat) (a2 : Option Addr) (n2 c2 : Nat) : tabO s f a1 n1 c1 a2 n2 c2 = .cells #[.string s, .int .i64 f, .slice a1 n1 c1, .slice a2 n2 c2] 33 := rfl
set_option maxHeartbeats 16000000 in
theorem core (w : World) (s : ByteArray) (f : Int) (a1 a2 a3 : Option Addr) (n1 c1 n2 c2 n3 c3 : Nat) (ms ss st : List Int) (hs : s.size ≤ 9223372036854775807) (hf : I64 f)
    (h1 : Ints w w.heap.size a1 n1 ms) (h2 : Ints w w.heap.size a2 n2 ss) (h3 : Ints w w.heap.size a3 n3 st) (e1 : a1 = none → c1 = 0) (e2 : a2 = none → c2 = 0) (e3 : a3 = none → c3 = 0) (m1 : n1 ≤ 1048576) (m2 : n2 ≤ 1048576) (m3 : n3 ≤ 1048576) :
    Calls Try.prog 4 #[tabV s f a1 n1 c1 a2 n2 c2, .slice a3 n3 c3] w fun e w' => e = .returned (.bool true) ∧ Below w.heap.size w w' := by
  have L1 := Lib.hid h1.1; have L2 := Lib.hid h2.1; have L3 := Lib.hid h3.1
  have H1 := Lib.hid h1; have H2 := Lib.hid h2; have H3 := Lib.hid h3
  have hf1 := hf.1; have hf2 := hf.2
  have HFI := Lib.hid hf
  clear h1 h2 h3 hf
  have hmk := fun W => make_12 W
  go_enter Try.func4, Try.ntmps4
  go_upto_region 2 with fail
  have t0 := (At.new w (tabO s f a1 n1 c1 a2 n2 c2)).alloc (.cells (moreC 0) 3)
  have a0 := At.new1 w (tabO s f a1 n1 c1 a2 n2 c2) (.cells (moreC 0) 3)
  have b0 := below_new (below_new (Below.refl w.heap.size w) (tabO s f a1 n1 c1 a2 n2 c2)) (.cells (moreC 0) 3)
  generalize World.alloc (World.alloc w _) _ = W1 at t0 a0 b0 ⊢
  have hTw : w.heap.size < W1.heap.size := t0.lt
  obtain ⟨T, hT⟩ : ∃ T, T = w.heap.size := ⟨_, rfl⟩
  have HTq := Lib.hid hT
  have B1 := Lib.hid b0
  rw [← hT] at t0 a0 hTw ⊢
  clear hT b0
  have T1 := Lib.hid t0; have A1 := Lib.hid a0
  clear t0 a0
  go_wp2_with fail
  go_loopw [6, 16] (fun _ vi wr => ∃ k : Nat, k ≤ 12 ∧ vi = .int .i64 k ∧ At wr (T + 1) (.cells (moreC k) 3) ∧ At wr T (tabO s f a1 n1 c1 a2 n2 c2) ∧ Below w.heap.size w wr) (fun _ vi _ => 12 - (intOf vi).toNat)
  case atStart => exact ⟨0, by omega, rfl, A1.out, T1.out, B1.out⟩
  case round =>
    obtain ⟨k, hk, rfl, ha, ht, hb⟩ := hrel
    obtain ⟨W2, rfl⟩ : ∃ W2, W2 = wr := ⟨_, rfl⟩
    have HA := Lib.hid ha; have HT := Lib.hid ht; have HB := Lib.hid hb
    clear ht hb
    by_cases hk12 : k < 12
    · as_aux_lemma =>
      have c : W2.cell? ⟨T + 1, k, none⟩ = some (.int .i64 0) := (ha.cell k).trans (more_get k hk12)
      have fz := ha.frozen k
      have hl := ha.lt
      have hw1 : IntKind.i64.wrap (30 * (k : Int)) = 30 * (k : Int) := IntWalk.i64_in _ (by omega)
      have hw2 : IntKind.i64.wrap (490 + 30 * (k : Int)) = 490 + 30 * (k : Int) := IntWalk.i64_in _ (by omega)
      have HTw := HTq.out
      have HS := Lib.hid (show At (W2.setCell ⟨T + 1, k, none⟩ (.int .i64 (490 + 30 * (k : Int)))) (T + 1) (.cells (moreC (k + 1)) 3) from by
        have h := ha.store k (.int .i64 (490 + 30 * (k : Int)))
        rw [more_set k hk12] at h
        exact h)
      have HS2 := Lib.hid (HT.out.apart (p := ⟨T + 1, k, none⟩) (by simp only; omega) (.int .i64 (490 + 30 * (k : Int))))
      have HS3 := Lib.hid (below_set HB.out (p := ⟨T + 1, k, none⟩) (by simp only; omega) (.int .i64 (490 + 30 * (k : Int))))
      clear HTw ha
      go_wp2_with fail
      go_roundw
      case rel => exact ⟨k + 1, by omega, by go_num, HS.out, HS2.out, HS3.out⟩
      case measure => first | (simp [intOf]; done) | (simp [intOf]; omega)
    · obtain rfl : k = 12 := by omega
      clear hk hk12
      have hIM := ha
      rw [more_end] at hIM
      have HIM := Lib.hid (At.ints moreI hIM more_i64 (by decide))
      clear ha hIM HA A1 T1 B1
      go_wp2_with fail
      refine (law_year12 W2).mono ?_
      rintro e w2 ⟨g, cap, cur, rfl, ha1, hag, htk, hlt, hc1, hc2, hb2⟩
      have I12 := Lib.hid (show Ints w2 w2.heap.size (some ⟨W2.heap.size + 1, 0, none⟩) 1 [12] from At.ints [12] ha1 (by intro x hx; simp at hx; subst hx; constructor <;> decide) (by decide))
      have IST := Lib.hid (At.ints_of (startsTo 13) hag htk (by rfl) starts_i64 (by decide))
      have IMR := Lib.hid (show Ints w2 w2.heap.size (some ⟨T + 1, 0, none⟩) 12 moreI from (HIM.out.below hb2 (Nat.le_refl _)).more hb2.size)
      have T2 := Lib.hid (HT.out.then_ hb2); have B2 := Lib.hid (below_then HB.out hb2)
      clear ha1 hag htk hb2 HIM HT HB
      go_wp2_with fail
      refine (observed_Extend w2 tabN 5 (some ⟨W2.heap.size + 1, 0, none⟩) (some ⟨g, 0, none⟩) (some ⟨T + 1, 0, none⟩) 1 1 13 cap 12 12 [12] (startsTo 13) moreI (by decide) (by constructor <;> decide) I12.out IST.out IMR.out (fun h => nomatch h) (fun h => nomatch h)).mono ?_
      rintro e w3 ⟨hb3, hx⟩
      rw [lit_ext, if_neg (by simp)] at hx
      obtain ⟨b1, k1, d1, b2, k2, d2, rfl, hi1, hi2⟩ := hx
      obtain rfl : k1 = 2 := hi1.1.symm.trans (by decide)
      obtain rfl : k2 = 25 := hi2.1.symm.trans (by decide)
      obtain ⟨q1, o1, x24, rfl, hq1, hc24, hx24, _⟩ := hi2.at_ (show 24 < 25 by omega)
      rw [lit_24] at hx24
      injection hx24 with hx24
      subst hx24
      have T3 := Lib.hid (T2.out.then_ hb3); have B3 := Lib.hid (below_then B2.out hb3)
      clear hi1 hi2 hb3 I12 IST IMR T2 B2 hlt hc1 hc2
      go_upto_region 10 with fail
      have B4 := Lib.hid (below_new B3.out (tabO tabN 5 b1 2 d1 (some ⟨q1, o1, none⟩) 25 d2))
      have T4 := Lib.hid (T3.out.alloc (tabO tabN 5 b1 2 d1 (some ⟨q1, o1, none⟩) 25 d2))
      clear hc24 hq1 T3 B3
      generalize World.alloc w3 _ = W4 at B4 T4 ⊢
      have I1 := Lib.hid ((H1.out.below B4.out (Nat.le_refl _)).more B4.out.size); have I2 := Lib.hid ((H2.out.below B4.out (Nat.le_refl _)).more B4.out.size); have I3 := Lib.hid ((H3.out.below B4.out (Nat.le_refl _)).more B4.out.size)
      have t4 := T4.out
      have z0 := t4.cell 0; have z1 := t4.cell 1; have z2 := t4.cell 2; have z3 := t4.cell 3; simp at z0 z1 z2 z3
      have hTl4 := t4.lt
      clear t4 hmk
      go_wp2_with fail
      refine (observed_Extend W4 s f a1 a2 a3 n1 c1 n2 c2 n3 c3 ms ss st hs HFI.out I1.out I2.out I3.out e2 e3).mono ?_
      rintro e w5 hx
      obtain ⟨q, r, p1, r1, d1', p2, r2, d2', P1, P2, rfl, j1, j2, hb5, hne, heq⟩ := ext_uni hx
      have hexo := ext_of s f ms ss st
      obtain ⟨EX, hEX⟩ : ∃ EX, EX = extE s f ms ss st := ⟨_, rfl⟩
      rw [← hEX] at hexo hne heq ⊢
      have HEXO := Lib.hid hexo; have HNE := Lib.hid hne; have HEQ := Lib.hid heq
      have T5 := Lib.hid (T4.out.then_ hb5); have B5 := Lib.hid (below_then B4.out hb5); have J1 := Lib.hid j1; have J2 := Lib.hid j2
      have hTl5 := T5.out.lt
      clear hx hexo hne heq hEX j1 j2 hb5 z0 z1 z2 z3 hTl4 I1 I2 I3 T4
      go_upto_region 11 with fail
      have T6 := Lib.hid (T5.out.alloc (tabO q r p1 r1 d1' p2 r2 d2')); have B6 := Lib.hid (below_new B5.out (tabO q r p1 r1 d1' p2 r2 d2')); have X6 := Lib.hid (At.new w5 (tabO q r p1 r1 d1' p2 r2 d2'))
      have J16 := Lib.hid ((J1.out.below (below_new (Below.refl w5.heap.size w5) (tabO q r p1 r1 d1' p2 r2 d2')) (Nat.le_refl _)).more (below_new (Below.refl w5.heap.size w5) (tabO q r p1 r1 d1' p2 r2 d2')).size)
      have J26 := Lib.hid ((J2.out.below (below_new (Below.refl w5.heap.size w5) (tabO q r p1 r1 d1' p2 r2 d2')) (Nat.le_refl _)).more (below_new (Below.refl w5.heap.size w5) (tabO q r p1 r1 d1' p2 r2 d2')).size)
      obtain ⟨X, hX⟩ : ∃ X, X = w5.heap.size := ⟨_, rfl⟩
      have hTX : T < X := by rw [hX]; exact hTl5
      have hwX : w.heap.size ≤ X := by rw [hX]; exact B5.out.size
      rw [← hX] at X6 ⊢
      clear hX J1 J2 T5 B5 hTl5
      generalize World.alloc w5 _ = W6 at T6 B6 X6 J16 J26 ⊢
      have I1 := Lib.hid ((H1.out.below B6.out (Nat.le_refl _)).more B6.out.size); have I2 := Lib.hid ((H2.out.below B6.out (Nat.le_refl _)).more B6.out.size)
      have t6 := T6.out
      have z0 := t6.cell 0; have z1 := t6.cell 1; have z2 := t6.cell 2; have z3 := t6.cell 3; simp at z0 z1 z2 z3
      clear t6
      go_wp2_with fail
      refine (ref_TableError W6 s f a1 a2 n1 c1 n2 c2 ms ss hs hf1 hf2 I1.out I2.out).mono ?_
      rintro e w7 ⟨rfl, hb7⟩
      have hef : errF s f ms ss st = if tableErr s f ms ss ≠ 0 then tableErr s f ms ss else if st.length ≠ 12 ∧ st.length ≠ 13 then 1 else 0 := rfl
      rw [L3.out] at hef
      generalize tableErr s f ms ss = TE at hef ⊢
      have HEF := Lib.hid hef
      have T7 := Lib.hid (T6.out.then_ hb7); have B7 := Lib.hid (below_then B6.out hb7); have X7 := Lib.hid (X6.out.then_ hb7)
      have J17 := Lib.hid ((J16.out.below hb7 (Nat.le_refl _)).more hb7.size); have J27 := Lib.hid ((J26.out.below hb7 (Nat.le_refl _)).more hb7.size)
      clear hef hb7 I1 I2 T6 B6 X6 J16 J26 z0 z1 z2 z3
      go_upto_region 12 with fail
      go_cut [66] from 55 (fun y wx => y = .bool (decide (TE = 0) && (decide (n3 ≠ 12) && decide (n3 ≠ 13))) ∧ w7 = wx)
      case first =>
        by_cases c1' : TE = 0
        · have d1 : (TE == 0) = true := by simpa using c1'
          by_cases c2' : n3 = 12
          · have d2 : ((n3 : Int) != 12) = false := by simp; omega
            go_wp2_with fail
            go_meet
            case rel => exact ⟨by simp [c2'], rfl⟩
          · have d2 : ((n3 : Int) != 12) = true := by simp; omega
            by_cases c3' : n3 = 13
            · have d3 : ((n3 : Int) != 13) = false := by simp; omega
              go_wp2_with fail
              go_meet
              case rel => exact ⟨by simp [c3'], rfl⟩
            · have d3 : ((n3 : Int) != 13) = true := by simp; omega
              go_wp2_with fail
              go_meet
              case rel => exact ⟨by simp [c1', c2', c3'], rfl⟩
        · have d1 : (TE == 0) = false := by simpa using c1'
          go_wp2_with fail
          go_meet
          case rel => exact ⟨by simp [c1'], rfl⟩
      case rest =>
      obtain ⟨rfl, rfl⟩ := hcut
      go_upto_if 66 with fail
      go_cut [11] from 66 (fun y wx => y = .int .i64 (errF s f ms ss st) ∧ w7 = wx)
      case first =>
        cases hbb : (decide (TE = 0) && (decide (n3 ≠ 12) && decide (n3 ≠ 13))) with
        | true =>
          simp only [Bool.and_eq_true, decide_eq_true_eq] at hbb
          have HF := Lib.hid (show (1 : Int) = errF s f ms ss st by rw [HEF.out, if_neg (by omega), if_pos ⟨hbb.2.1, hbb.2.2⟩])
          clear hbb
          go_wp2_with fail
          go_meet
          case rel => exact ⟨by rw [← HF.out], rfl⟩
        | false =>
          have HF := Lib.hid (show TE = errF s f ms ss st by
            rw [HEF.out]
            by_cases c : TE ≠ 0
            · rw [if_pos c]
            · have c0 : TE = 0 := by omega
              rw [if_neg c, if_neg (fun hh => by simp [c0, hh.1, hh.2] at hbb)]; exact c0)
          clear hbb
          go_wp2_with fail
          go_meet
          case rel => exact ⟨by rw [← HF.out], rfl⟩
      case rest =>
      obtain ⟨rfl, rfl⟩ := hcut
      clear HEF
      obtain ⟨EF, hEF⟩ : ∃ EF, EF = errF s f ms ss st := ⟨_, rfl⟩
      rw [← hEF] at HEXO ⊢
      clear hEF
      have t7 := T7.out
      have z0 := t7.cell 0; have z1 := t7.cell 1; have z2 := t7.cell 2; have z3 := t7.cell 3; simp at z0 z1 z2 z3
      have hTl7 := t7.lt
      clear t7
      apply_assumption
      go_upto_region 15 with fail
      have hb8 := below_new (Below.refl w7.heap.size w7) (tabO s f none 0 0 none 0 0)
      have T8 := Lib.hid (T7.out.alloc (tabO s f none 0 0 none 0 0)); have Y8 := Lib.hid (At.new w7 (tabO s f none 0 0 none 0 0)); have B8 := Lib.hid (below_then B7.out hb8)
      have hz8 : (w7.alloc (tabO s f none 0 0 none 0 0)).heap.size = w7.heap.size + 1 := by simp
      have HB8 := Lib.hid hb8
      have hTX7 := X7.out.lt
      clear z0 z1 z2 z3 hTl7 hb8
      generalize World.alloc w7 _ = W8 at T8 Y8 B8 hz8 HB8 ⊢
      obtain ⟨Y, hY⟩ : ∃ Y, Y = w7.heap.size := ⟨_, rfl⟩
      have HYQ := Lib.hid hY
      rw [← hY] at Y8 hz8 HB8 hTX7 ⊢
      clear hY
      have I1 := Lib.hid ((H1.out.below B8.out (Nat.le_refl _)).more B8.out.size)
      have t8 := T8.out; have y8 := Y8.out
      have z0 := t8.cell 0; have z1 := t8.cell 1; have z2 := t8.cell 2; have z3 := t8.cell 3; simp at z0 z1 z2 z3
      have y0 := y8.cell 0; have y1 := y8.cell 1; have y2 := y8.cell 2; have y3 := y8.cell 3; simp at y0 y1 y2 y3
      have hTl8 := t8.lt; have hYl8 := y8.lt
      clear t8 y8
      have hn3i : I64 (n3 : Int) := by constructor <;> omega
      have HN3I := Lib.hid hn3i
      have HMI := Lib.hid (show ∀ x ∈ ms ++ [(n3 : Int)], I64 x from fun x hx => by
        rcases List.mem_append.1 hx with hx | hx
        · exact H1.out.2.2.1 x hx
        · rw [List.mem_singleton] at hx; subst hx; exact HN3I.out)
      have HML := Lib.hid (show (ms ++ [(n3 : Int)]).length = n1 + 1 by rw [List.length_append, L1.out]; rfl)
      have HNF := Lib.hid (show ∀ b, Value.ownBlock (.slice none 0 0) = some b → False from fun b hb => by simp [Value.ownBlock] at hb)
      clear hn3i
      go_upto_region 16 with (first
        | (at_builtin; refine wpList_append_ints rfl _ _ rfl W8.heap.size (.slice none 0 0) 0 [] rfl (World.ownsRow_nil _ _ _ _) a1 n1 c1 ms rfl I1.out e1 (by omega) (by omega) (Nat.le_refl _) ?_; intro v1 w9 own1 grow1; (rw [Nat.zero_add, List.nil_append] at own1); have hb9 : Below W8.heap.size W8 w9 := (Below.refl _ W8).grown grow1 (Nat.le_refl _) (fun b hb => (HNF.out b hb).elim); have OWN1 := Lib.hid own1; have hz9 := hb9.size; have HB9 := Lib.hid hb9; clear own1 grow1 hb9)
        | (at_builtin; refine wpList_append_ints rfl _ _ rfl W8.heap.size v1 n1 ms rfl (OWN1.out.alloc _) (some ⟨w9.heap.size, 0, none⟩) 1 1 [(n3 : Int)] rfl (ints_lit (At.new w9 _) HN3I.out) (fun h => nomatch h) (by omega) (by omega) (by simp; omega) ?_; intro v2 w11 own2 grow2; (obtain ⟨gm, cm, rfl, _, _, _⟩ := own_ints own2 HMI.out HML.out); have far1 := Lib.hid (fun b hb => (OWN1.out.lt b hb).1); have hb11 : Below W8.heap.size W8 w11 := (below_new HB9.out (.cells #[.int .i64 (n3 : Int)] 3)).grown grow2 (by simp; omega) far1.out; have y11 := Y8.out.then_ hb11; have c11 := y11.cell 2; have f11 := y11.frozen 2; have hYl11 := y11.lt; have OWN2 := Lib.hid own2; have HB11 := Lib.hid hb11; clear own2 grow2 hb11))
      have hz9' := hz9
      have HB12 := Lib.hid (below_set (HB8.out.trans (HB11.out.mono (by omega))) (p := ⟨Y, 2, none⟩) (Nat.le_refl _) (.slice gm (n1 + 1) cm))
      have OWM := Lib.hid (own_setE OWN2.out (p := ⟨Y, 2, none⟩) (by simp only; omega) (.slice gm (n1 + 1) cm))
      have y12 : At (w11.setCell ⟨Y, 2, none⟩ (.slice gm (n1 + 1) cm)) Y (tabO s f gm (n1 + 1) cm none 0 0) := by
        have h := y11.store 2 (.slice gm (n1 + 1) cm)
        simpa using h
      have Y12 := Lib.hid y12
      have hz12 : W8.heap.size ≤ (w11.setCell ⟨Y, 2, none⟩ (.slice gm (n1 + 1) cm)).heap.size := by have := HB11.out.size; simpa [World.setCell] using this
      clear y12 c11 f11 y11 hYl11 hz9 hz9' z0 z1 z2 z3 y0 y1 y2 y3 OWN1 OWN2 HB9 HB11 I1 far1 Y8 T8 B8 hTl8 hYl8
      generalize World.setCell w11 _ _ = W12 at HB12 OWM Y12 hz12 ⊢
      have hwY : w.heap.size ≤ Y := by rw [HYQ.out]; exact B7.out.size
      have B12 := Lib.hid (B7.out.trans (HB12.out.mono hwY))
      have T12 := Lib.hid (T7.out.below HB12.out (by omega))
      have I2 := Lib.hid ((H2.out.below B12.out (Nat.le_refl _)).more B12.out.size)
      have t12 := T12.out; have y12 := Y12.out
      have z0 := t12.cell 0; have z1 := t12.cell 1; have z2 := t12.cell 2; have z3 := t12.cell 3; simp at z0 z1 z2 z3
      have y0 := y12.cell 0; have y1 := y12.cell 1; have y2 := y12.cell 2; have y3 := y12.cell 3; simp at y0 y1 y2 y3
      have hTl12 := t12.lt; have hYl12 := y12.lt
      clear t12 y12
      have HSI := Lib.hid (show ∀ x ∈ ss ++ st, I64 x from fun x hx => by
        rcases List.mem_append.1 hx with hx | hx
        · exact H2.out.2.2.1 x hx
        · exact H3.out.2.2.1 x hx)
      have HSL := Lib.hid (show (ss ++ st).length = n2 + n3 by rw [List.length_append, L2.out, L3.out])
      go_upto_region 17 with (first
        | (at_builtin; refine wpList_append_ints rfl _ _ rfl W12.heap.size (.slice none 0 0) 0 [] rfl (World.ownsRow_nil _ _ _ _) a2 n2 c2 ss rfl I2.out e2 (by omega) (by omega) (Nat.le_refl _) ?_; intro v3 w13 own3 grow3; (rw [Nat.zero_add, List.nil_append] at own3); have hb13 : Below W12.heap.size W12 w13 := (Below.refl _ W12).grown grow3 (Nat.le_refl _) (fun b hb => (HNF.out b hb).elim); have OWN3 := Lib.hid own3; have hz13 := hb13.size; have HB13 := Lib.hid hb13; have I3 := Lib.hid ((H3.out.below (below_then B12.out hb13) (Nat.le_refl _)).more (below_then B12.out hb13).size); clear own3 grow3 hb13)
        | (at_builtin; refine wpList_append_ints rfl _ _ rfl W12.heap.size v3 n2 ss rfl OWN3.out a3 n3 c3 st rfl I3.out e3 (by omega) (by omega) hz13 ?_; intro v4 w14 own4 grow4; (obtain ⟨gs, cs, rfl, _, _, _⟩ := own_ints own4 HSI.out HSL.out); have far3 := Lib.hid (fun b hb => (OWN3.out.lt b hb).1); have hb14 : Below W12.heap.size W12 w14 := HB13.out.grown grow4 hz13 far3.out; have y14 := Y12.out.then_ hb14; have c14 := y14.cell 3; have f14 := y14.frozen 3; have hYl14 := y14.lt; have OWN4 := Lib.hid own4; have HB14 := Lib.hid hb14; clear own4 grow4 hb14))
      have HB15 := Lib.hid (below_set (HB12.out.trans (HB14.out.mono (by omega))) (p := ⟨Y, 3, none⟩) (Nat.le_refl _) (.slice gs (n2 + n3) cs))
      have OWM15 := Lib.hid (own_setE (own_thenI OWM.out HB14.out) (p := ⟨Y, 3, none⟩) (by simp only; omega) (.slice gs (n2 + n3) cs))
      have OWS15 := Lib.hid (own_setE OWN4.out (p := ⟨Y, 3, none⟩) (by simp only; omega) (.slice gs (n2 + n3) cs))
      have y15 : At (w14.setCell ⟨Y, 3, none⟩ (.slice gs (n2 + n3) cs)) Y (tabO s f gm (n1 + 1) cm gs (n2 + n3) cs) := by
        have h := y14.store 3 (.slice gs (n2 + n3) cs)
        simpa using h
      have Y15 := Lib.hid y15
      clear y15 c14 f14 y14 hYl14 z0 z1 z2 z3 y0 y1 y2 y3 OWM OWN3 OWN4 HB13 HB14 I2 I3 far3 Y12 T12 B12 HB12 hTl12 hYl12
      generalize World.setCell w14 _ _ = W15 at HB15 OWM15 OWS15 Y15 ⊢
      have B15 := Lib.hid (B7.out.trans (HB15.out.mono hwY))
      obtain ⟨a8, c8, em, _, _, im⟩ := own_ints OWM15.out HMI.out HML.out
      obtain ⟨a9, c9, es, _, _, is⟩ := own_ints OWS15.out HSI.out HSL.out
      obtain ⟨rfl, rfl⟩ : gm = a8 ∧ cm = c8 := by injection em with g1 _ g3; exact ⟨g1, g3⟩
      obtain ⟨rfl, rfl⟩ : gs = a9 ∧ cs = c9 := by injection es with g1 _ g3; exact ⟨g1, g3⟩
      clear em es
      have IM := Lib.hid im; have IS := Lib.hid is
      have hb15 : Below w7.heap.size w7 W15 := by have h := HB15.out; rw [HYQ.out] at h; exact h
      have J1 := Lib.hid ((J17.out.below hb15 (Nat.le_refl _)).more hb15.size); have J2 := Lib.hid ((J27.out.below hb15 (Nat.le_refl _)).more hb15.size)
      have X15 := Lib.hid (X7.out.then_ hb15)
      have y15 := Y15.out; have x15 := X15.out
      have y0 := y15.cell 0; have y1 := y15.cell 1; have y2 := y15.cell 2; have y3 := y15.cell 3; simp at y0 y1 y2 y3
      have x0 := x15.cell 0; have x1 := x15.cell 1; have x2 := x15.cell 2; have x3 := x15.cell 3; simp at x0 x1 x2 x3
      have hYl15 := y15.lt; have hXl15 := x15.lt
      clear y15 x15 im is OWM15 OWS15 hb15 J17 J27 X7 T7 B7 HB15 HB8
      by_cases hEF : EF = 0
      · subst hEF
        have hext := HEXO.out
        rw [if_neg (by simp)] at hext
        rw [L3.out] at hext
        have HEXT := Lib.hid hext
        clear hext HEXO
        go_wp2_with fail
        refine (ref_TableError W15 s f gm gs (n1 + 1) cm (n2 + n3) cs (ms ++ [(n3 : Int)]) (ss ++ st) hs hf1 hf2 IM.out IS.out).mono ?_
        rintro e w16 ⟨rfl, hb16⟩
        rw [← HEXT.out]
        have X16 := Lib.hid (X15.out.then_ hb16); have Y16 := Lib.hid (Y15.out.then_ hb16); have B16 := Lib.hid (below_then B15.out hb16)
        have K1 := Lib.hid ((J1.out.below hb16 (Nat.le_refl _)).more hb16.size); have K2 := Lib.hid ((J2.out.below hb16 (Nat.le_refl _)).more hb16.size); have K3 := Lib.hid ((IM.out.below hb16 (Nat.le_refl _)).more hb16.size); have K4 := Lib.hid ((IS.out.below hb16 (Nat.le_refl _)).more hb16.size)
        have y16 := Y16.out; have x16 := X16.out
        clear y0 y1 y2 y3 x0 x1 x2 x3
        have y0 := y16.cell 0; have y1 := y16.cell 1; have y2 := y16.cell 2; have y3 := y16.cell 3; simp at y0 y1 y2 y3
        have x0 := x16.cell 0; have x1 := x16.cell 1; have x2 := x16.cell 2; have x3 := x16.cell 3; simp at x0 x1 x2 x3
        clear y16 x16 hb16
        by_cases hE0 : EX = 0
        · obtain ⟨rfl, rfl, rfl, rfl⟩ := HEQ.out hE0
          subst hE0
          rw [L3.out] at K1
          go_wp2_with fail
          obtain rfl : r1 = n1 + 1 := K1.out.1.symm.trans HML.out
          obtain rfl : r2 = n2 + n3 := K2.out.1.symm.trans HSL.out
          refine (ref_SameTable w16 q r p1 p2 gm gs _ _ d1' d2' _ _ cm cs _ _ K1.out K2.out K3.out K4.out).mono ?_
          rintro e w17 ⟨rfl, hb17⟩
          have B17 := Lib.hid (below_then B16.out hb17)
          clear hb17
          go_wp2_with fail
          go_ret
          exact ⟨rfl, B17.out⟩
        · obtain ⟨rfl, rfl, rfl, rfl⟩ := HNE.out hE0
          have hEb : (EX != 0) = true := by simpa using hE0
          clear hE0
          go_wp2_with fail
          refine (ref_SameTable w16 ⟨#[]⟩ 0 p1 p2 none none r1 r2 d1' d2' 0 0 0 0 [] [] K1.out K2.out (ints0 _) (ints0 _)).mono ?_
          rintro e w17 ⟨rfl, hb17⟩
          have B17 := Lib.hid (below_then B16.out hb17)
          clear hb17
          go_wp2_with fail
          go_ret
          exact ⟨by simp, B17.out⟩
      · have hext := HEXO.out
        rw [if_pos hEF] at hext
        obtain rfl := hext
        obtain ⟨rfl, rfl, rfl, rfl⟩ := HNE.out hEF
        have hEb : (EX == 0) = false := by simpa using hEF
        have hEc : (EX != 0) = true := by simpa using hEF
        clear hEF HEXO HNE HEQ
        go_wp2_with fail
        refine (ref_SameTable W15 ⟨#[]⟩ 0 p1 p2 none none r1 r2 d1' d2' 0 0 0 0 [] [] J1.out J2.out (ints0 _) (ints0 _)).mono ?_
        rintro e w17 ⟨rfl, hb17⟩
        have B17 := Lib.hid (below_then B15.out hb17)
        clear hb17
        go_wp2_with fail
        go_ret
        exact ⟨by simp, B17.out⟩
end Go.Proofs.Ytddiicljoekhmab.observedExtendsLaw
