/- RecurTexts: the Go text returns true at every input of the bound. -/
import Derived.Test.YtdmkghgachapaaaDoorRows
import Derived.Test.YtdmkghgachapaaaDoorRtx
import Derived.Test.YtdmkghgachapaaaDoorLaidS
namespace Go.Proofs.YtdmkghgachapaaaDoor.recurTextsLaw
set_option linter.unusedVariables false
set_option linter.unusedSimpArgs false
set_option maxRecDepth 100000
open Go.RowKit Go.ChangeShapes Go.WideShapes Go.Shelf

abbrev monO : Obj := .cells #[.int .i64 (-1)] 3
theorem nilI (w : World) (B : Nat) : Ints w B none 0 [] := ⟨rfl, by omega, by simp, fun h => absurd h (by omega)⟩
theorem laid_units {W : World} {rest : List (String × DataW Unit)} {d : DataW Unit} (hd : d = strData unitsL) (h : laidMet Tryd.prog (("ephemeris/recur.units", d) :: rest) W) : UnitsAt W := by
  subst hd
  have hv := laid_strs (g := 0) (t := 42) (e := 9) (n := 5) (by kernel_rfl) (by kernel_rfl) Tryd.underlying42 Tryd.underlying9 (by kernel_rfl) (by kernel_rfl) h
  intro k hk
  have h0 := World.var?_cell (g := 0) (by kernel_rfl) hv k
  rw [h0]
  match k, hk with
  | 0, _ => rfl
  | 1, _ => rfl
  | 2, _ => rfl
  | 3, _ => rfl
  | 4, _ => rfl
theorem units_data : (Rows.laid_ephemeris_recur_units : DataW Unit) = strData unitsL := by kernel_rfl
def Kept (W : World) (u ev f cn un : Int) (a1 a2 a3 : Option Addr) (n1 n2 n3 c1 c2 c3 : Nat) (w' : World) : Prop :=
  Below W.heap.size W w' ∧ At w' W.heap.size (recO u ev f cn un a1 a2 a3 n1 n2 n3 c1 c2 c3)
theorem Kept.step {W : World} {u ev f cn un : Int} {a1 a2 a3 : Option Addr} {n1 n2 n3 c1 c2 c3 : Nat} {w' w2 : World} (h : Kept W u ev f cn un a1 a2 a3 n1 n2 n3 c1 c2 c3 w') (hb : Below w'.heap.size w' w2) : Kept W u ev f cn un a1 a2 a3 n1 n2 n3 c1 c2 c3 w2 := ⟨below_then h.1 hb, h.2.then_ hb⟩
theorem Kept.bel {W : World} {u ev f cn un : Int} {a1 a2 a3 : Option Addr} {n1 n2 n3 c1 c2 c3 : Nat} {w' : World} (h : Kept W u ev f cn un a1 a2 a3 n1 n2 n3 c1 c2 c3 w') : Below W.heap.size W w' := h.1
theorem Kept.box {W : World} {u ev f cn un : Int} {a1 a2 a3 : Option Addr} {n1 n2 n3 c1 c2 c3 : Nat} {w' : World} (h : Kept W u ev f cn un a1 a2 a3 n1 n2 n3 c1 c2 c3 w') : At w' W.heap.size (recO u ev f cn un a1 a2 a3 n1 n2 n3 c1 c2 c3) := h.2
set_option maxHeartbeats 16000000 in
theorem core (W : World) (u ev f cn un : Int) (a1 a2 a3 : Option Addr) (n1 n2 n3 c1 c2 c3 : Nat) (ws ms ns : List Int) (h1 : Ints W W.heap.size a1 n1 ws) (h2 : Ints W W.heap.size a2 n2 ms) (h3 : Ints W W.heap.size a3 n3 ns)
    (k1 : n1 ≤ c1) (k2 : n2 ≤ c2) (k3 : n3 ≤ c3) (m1 : c1 ≤ 9223372036854775807) (m2 : c2 ≤ 9223372036854775807) (m3 : c3 ≤ 9223372036854775807) (he : I64 ev) (hf : I64 f) (hc : I64 cn) (hu : I64 un)
    (S : List UInt8) (hS : S.length ≤ 4294960000) (hp : Pow W) (hE : Errs W) (hun : UnitsAt W) (m : Int) (hm : W.cell? ⟨3, 0, none⟩ = some (.int .i64 m)) :
    Calls Tryd.prog 3 #[.agg #[.int .i64 u, .int .i64 ev, .int .i64 f, .int .i64 cn, .int .i64 un, .slice a1 n1 c1, .slice a2 n2 c2, .slice a3 n3 c3], .string ⟨S.toArray⟩] W fun e w' => e = .returned (.bool true) ∧ Below W.heap.size W w' := by
  have hgm := World.block_lt_of_cell? _ _ hm
  have HT := Lib.hid (fun h0 : recurErr u ev f cn un ws ms ns = 0 => text_len he hf hc hu h1.2.2.1 h2.2.2.1 h3.2.2.1 h0)
  have HPP := Lib.hid (fun h0 : recurErr u ev f cn un ws ms ns = 0 => parse_print he hf hc hu h1.2.2.1 h2.2.2.1 h3.2.2.1 h0)
  have CPG := Lib.hid (fun (S : List UInt8) (u ev f un cn : Int) (xs ys zs : List Int) (h0 : parseE S = 0) (hr : rawR S = (u, ev, f, un, cn, xs, ys, zs)) (hS : S.length ≤ 4294960000) (V : World) (hV : Below W.heap.size W V) => parse_good h0 hr V m ((hV.cell (p := ⟨3, 0, none⟩) hgm).trans hm) hS (hp.below hV) (hE.below hV) (hun.below hV))
  have CPB := Lib.hid (fun (S : List UInt8) (E : Int) (h0 : parseE S = E) (hE0 : E ≠ 0) (hS : S.length ≤ 4294960000) (V : World) (hV : Below W.heap.size W V) => parse_bad h0 hE0 V m ((hV.cell (p := ⟨3, 0, none⟩) hgm).trans hm) hS (hp.below hV) (hE.below hV) (hun.below hV))
  have J := Lib.hid (fun (V : World) (hV : Below W.heap.size W V) => show Ints V V.heap.size a1 n1 ws ∧ Ints V V.heap.size a2 n2 ms ∧ Ints V V.heap.size a3 n3 ns from ⟨(h1.below hV (Nat.le_refl _)).more hV.size, (h2.below hV (Nat.le_refl _)).more hV.size, (h3.below hV (Nat.le_refl _)).more hV.size⟩)
  have CP := Lib.hid (fun (V : World) (hV : Below W.heap.size W V) => recur_Print V u ev f cn un a1 a2 a3 n1 n2 n3 c1 c2 c3 ws ms ns he hf hc hu (J.out V hV).1 (J.out V hV).2.1 (J.out V hV).2.2 k1 k2 k3 m1 m2 m3 (hp.below hV) (hun.below hV))
  have CE := Lib.hid (fun (V : World) (hV : Below W.heap.size W V) => ref_RecurError V u ev f cn un a1 a2 a3 n1 n2 n3 c1 c2 c3 ws ms ns (J.out V hV).1 (J.out V hV).2.1 (J.out V hV).2.2 k1 k2 k3 m1 m2 m3)
  have CT := Lib.hid (fun (h0 : recurErr u ev f cn un ws ms ns = 0) (V : World) (hV : Below W.heap.size W V) => show Calls Tryd.prog 8 #[.agg (recV u ev f cn un a1 a2 a3 n1 n2 n3 c1 c2 c3)] V (fun e w' => e = .returned (.string ⟨(recS u ev f cn un ws ms ns).toArray⟩) ∧ Below V.heap.size V w') from by
    obtain ⟨u1, u2, u3⟩ := recurErr_unit h0
    have hfew := recurErr_few h0
    rw [h1.1, h2.1, h3.1] at hfew
    obtain ⟨k, rfl⟩ := Int.eq_ofNat_of_zero_le (show 0 ≤ u by omega)
    exact ref_RecurText V k (by omega) (by omega) ev f cn un a1 a2 a3 n1 n2 n3 c1 c2 c3 ws ms ns he hf hc hu u3 (J.out V hV).1 (J.out V hV).2.1 (J.out V hV).2.2 (by omega) (by omega) (by omega) (hp.below hV))
  have HPW := Lib.hid hp
  clear h1 h2 h3 hp hE hun hm k1 k2 k3 m1 m2 m3 he hf hc hu
  go_enter Tryd.func3, Tryd.ntmps3
  go_upto_region 1 with fail
  have t0 := At.new W (recO u ev f cn un a1 a2 a3 n1 n2 n3 c1 c2 c3)
  have b0 := below_new (Below.refl W.heap.size W) (recO u ev f cn un a1 a2 a3 n1 n2 n3 c1 c2 c3)
  generalize World.alloc W _ = W1 at t0 b0 ⊢
  have K1 := Lib.hid (show Kept W u ev f cn un a1 a2 a3 n1 n2 n3 c1 c2 c3 W1 from ⟨b0, t0⟩)
  clear t0 b0
  go_upto_region 2 with fail
  have s0 := At.new W1 monO
  have s1 := s0.alloc (recO 3 1 1 0 100 none (some ⟨W1.heap.size, 0, none⟩) none 0 1 0 0 1 0)
  have t1 := At.new (W1.alloc monO) (recO 3 1 1 0 100 none (some ⟨W1.heap.size, 0, none⟩) none 0 1 0 0 1 0)
  simp only [World.size_alloc] at t1
  have b1 := below_new (below_new (Below.refl W1.heap.size W1) monO) (recO 3 1 1 0 100 none (some ⟨W1.heap.size, 0, none⟩) none 0 1 0 0 1 0)
  have kb := K1.out.step b1
  clear s0 b1
  obtain ⟨M0, hM0⟩ : ∃ M, M = W1.heap.size := ⟨_, rfl⟩
  rw [← hM0] at s1 t1 kb ⊢
  clear hM0
  generalize World.alloc (World.alloc W1 _) _ = W2 at s1 t1 kb ⊢
  have K2 := Lib.hid kb
  clear kb
  have S2 := Lib.hid s1; have T2 := Lib.hid t1
  clear s1 t1
  have CM := Lib.hid (CPG.out monthlyS 3 1 1 100 0 [] [-1] [] monthly_ok.1 monthly_ok.2 (by decide))
  go_wp2_with fail
  refine (CM.out W2 K2.out.bel).mono ?_
  rintro e W3 ⟨hb, b1, b2, b3, m1, m2, m3, v1, v2, v3, rfl, r1, r2, r3⟩
  have K3 := Lib.hid (K2.out.step hb)
  have S3 := Lib.hid (S2.out.then_ hb); have T3 := Lib.hid (T2.out.then_ hb)
  have R1 := Lib.hid r1; have R2 := Lib.hid r2; have R3 := Lib.hid r3
  clear hb r1 r2 r3 CM
  have t0 := At.new W3 (recO 3 1 1 0 100 b1 b2 b3 m1 m2 m3 v1 v2 v3)
  have h0 := below_new (Below.refl W3.heap.size W3) (recO 3 1 1 0 100 b1 b2 b3 m1 m2 m3 v1 v2 v3)
  go_upto_region 3 with fail
  obtain ⟨G3, hG⟩ : ∃ G, G = W3.heap.size := ⟨_, rfl⟩
  rw [← hG] at t0 ⊢
  clear hG
  generalize World.alloc W3 _ = W4 at t0 h0 ⊢
  have K4 := Lib.hid (K3.out.step h0)
  have S4 := Lib.hid (S3.out.then_ h0); have T4 := Lib.hid (T3.out.then_ h0)
  have Q1 := Lib.hid (R1.out.then_ h0); have Q2 := Lib.hid (R2.out.then_ h0); have Q3 := Lib.hid (R3.out.then_ h0)
  have x8 := t0.lt; have x9 := T4.out.lt
  have d0 := t0.cell 0
  have d1 := t0.cell 1
  have d2 := t0.cell 2
  have d3 := t0.cell 3
  have d4 := t0.cell 4
  have d5 := t0.cell 5
  have d6 := t0.cell 6
  have d7 := t0.cell 7
  simp at d0 d1 d2 d3 d4 d5 d6 d7
  have g0 := T4.out.cell 0
  have g1 := T4.out.cell 1
  have g2 := T4.out.cell 2
  have g3 := T4.out.cell 3
  have g4 := T4.out.cell 4
  have g5 := T4.out.cell 5
  have g6 := T4.out.cell 6
  have g7 := T4.out.cell 7
  simp at g0 g1 g2 g3 g4 g5 g6 g7
  clear t0 h0
  go_wp2_with fail
  refine (ref_SameRecur W4 3 1 1 0 100 b1 b2 b3 none (some ⟨M0, 0, none⟩) none m1 m2 m3 v1 v2 v3 0 1 0 0 1 0 [] [-1] [] Q1.out.1 Q2.out.1 Q3.out.1 (nilI _ _) (At.ints [-1] S4.out (by intro x hx; simp at hx; subst hx; exact ⟨by decide, by decide⟩) (by simp)) (nilI _ _)).mono ?_
  rintro e W5 ⟨rfl, hb⟩
  have K5 := Lib.hid (K4.out.step hb)
  clear d0 d1 d2 d3 d4 d5 d6 d7 g0 g1 g2 g3 g4 g5 g6 g7
  clear hb x8 x9 S2 S3 S4 T2 T3 T4 Q1 Q2 Q3 R1 R2 R3 K2 K3 K4
  go_upto_region 5 with fail
  have y9 := K5.out.box.lt
  have k0 := K5.out.box.cell 0
  have k1 := K5.out.box.cell 1
  have k2 := K5.out.box.cell 2
  have k3 := K5.out.box.cell 3
  have k4 := K5.out.box.cell 4
  have k5 := K5.out.box.cell 5
  have k6 := K5.out.box.cell 6
  have k7 := K5.out.box.cell 7
  simp at k0 k1 k2 k3 k4 k5 k6 k7
  go_wp2_with fail
  refine (CP.out W5 K5.out.bel).mono ?_
  rintro e W6 ⟨hb, hpr⟩
  have K6 := Lib.hid (K5.out.step hb)
  clear k0 k1 k2 k3 k4 k5 k6 k7
  clear hb y9
  by_cases hE0 : recurErr u ev f cn un ws ms ns = 0
  · rw [hE0] at CE
    rw [if_neg (by rw [hE0]; simp)] at hpr
    subst hpr
    have HT2 := Lib.hid (HT.out hE0); have HP2 := Lib.hid (HPP.out hE0); have CT2 := Lib.hid (CT.out hE0)
    clear hE0
    obtain ⟨TX, hTX⟩ : ∃ T, T = recS u ev f cn un ws ms ns := ⟨_, rfl⟩
    rw [← hTX] at HT2 HP2 CT2 ⊢
    clear hTX
    go_upto_region 6 with fail
    have y9 := K6.out.box.lt
    have k0 := K6.out.box.cell 0
    have k1 := K6.out.box.cell 1
    have k2 := K6.out.box.cell 2
    have k3 := K6.out.box.cell 3
    have k4 := K6.out.box.cell 4
    have k5 := K6.out.box.cell 5
    have k6 := K6.out.box.cell 6
    have k7 := K6.out.box.cell 7
    simp at k0 k1 k2 k3 k4 k5 k6 k7
    go_wp2_with fail
    refine (CE.out W6 K6.out.bel).mono ?_
    rintro e W7 ⟨rfl, hb⟩
    have K7 := Lib.hid (K6.out.step hb)
    clear k0 k1 k2 k3 k4 k5 k6 k7
    clear hb y9
    have CX := Lib.hid (CPG.out TX u ev f un cn ws ms ns HP2.out.1 HP2.out.2 HT2.out)
    go_wp2_with fail
    refine (CX.out W7 K7.out.bel).mono ?_
    rintro e W8 ⟨hb, b1, b2, b3, m1, m2, m3, v1, v2, v3, rfl, r1, r2, r3⟩
    have K8 := Lib.hid (K7.out.step hb)
    have R1 := Lib.hid r1; have R2 := Lib.hid r2; have R3 := Lib.hid r3
    clear hb r1 r2 r3 CX
    have t0 := At.new W8 (recO u ev f cn un b1 b2 b3 m1 m2 m3 v1 v2 v3)
    have h0 := below_new (Below.refl W8.heap.size W8) (recO u ev f cn un b1 b2 b3 m1 m2 m3 v1 v2 v3)
    go_upto_region 11 with fail
    obtain ⟨G8, hG⟩ : ∃ G, G = W8.heap.size := ⟨_, rfl⟩
    rw [← hG] at t0 ⊢
    clear hG
    generalize World.alloc W8 _ = W9 at t0 h0 ⊢
    have K9 := Lib.hid (K8.out.step h0)
    have Q1 := Lib.hid (R1.out.then_ h0); have Q2 := Lib.hid (R2.out.then_ h0); have Q3 := Lib.hid (R3.out.then_ h0)
    have T9 := Lib.hid t0
    have y9 := K9.out.box.lt
    have k0 := K9.out.box.cell 0
    have k1 := K9.out.box.cell 1
    have k2 := K9.out.box.cell 2
    have k3 := K9.out.box.cell 3
    have k4 := K9.out.box.cell 4
    have k5 := K9.out.box.cell 5
    have k6 := K9.out.box.cell 6
    have k7 := K9.out.box.cell 7
    simp at k0 k1 k2 k3 k4 k5 k6 k7
    clear t0 h0
    go_wp2_with fail
    refine (CT2.out W9 K9.out.bel).mono ?_
    rintro e W10 ⟨rfl, hb⟩
    have K10 := Lib.hid (K9.out.step hb)
    have U1 := Lib.hid (Q1.out.then_ hb); have U2 := Lib.hid (Q2.out.then_ hb); have U3 := Lib.hid (Q3.out.then_ hb)
    have T10 := Lib.hid (T9.out.then_ hb)
    clear k0 k1 k2 k3 k4 k5 k6 k7
    clear hb y9
    have y9 := K10.out.box.lt; have x9 := T10.out.lt
    have k0 := K10.out.box.cell 0
    have k1 := K10.out.box.cell 1
    have k2 := K10.out.box.cell 2
    have k3 := K10.out.box.cell 3
    have k4 := K10.out.box.cell 4
    have k5 := K10.out.box.cell 5
    have k6 := K10.out.box.cell 6
    have k7 := K10.out.box.cell 7
    simp at k0 k1 k2 k3 k4 k5 k6 k7
    have d0 := T10.out.cell 0
    have d1 := T10.out.cell 1
    have d2 := T10.out.cell 2
    have d3 := T10.out.cell 3
    have d4 := T10.out.cell 4
    have d5 := T10.out.cell 5
    have d6 := T10.out.cell 6
    have d7 := T10.out.cell 7
    simp at d0 d1 d2 d3 d4 d5 d6 d7
    go_wp2_with fail
    refine (ref_SameRecur W10 u ev f cn un b1 b2 b3 a1 a2 a3 m1 m2 m3 v1 v2 v3 n1 n2 n3 c1 c2 c3 ws ms ns U1.out.1 U2.out.1 U3.out.1 (J.out W10 K10.out.bel).1 (J.out W10 K10.out.bel).2.1 (J.out W10 K10.out.bel).2.2).mono ?_
    rintro e W11 ⟨rfl, hb⟩
    have K11 := Lib.hid (K10.out.step hb)
    clear k0 k1 k2 k3 k4 k5 k6 k7
    clear d0 d1 d2 d3 d4 d5 d6 d7
    clear hb y9 x9 U1 U2 U3 T10 T9 Q1 Q2 Q3 R1 R2 R3
    go_upto_region 13 with fail
    by_cases hz : parseE S = 0
    · obtain ⟨RU, REV, RF0, RUN, RCN, RXS, RYS, RZS, hRR⟩ : ∃ a b c d e f g h, rawR S = (a, b, c, d, e, f, g, h) := ⟨_, _, _, _, _, _, _, _, rfl⟩
      have CX := Lib.hid (CPG.out S RU REV RF0 RUN RCN RXS RYS RZS hz hRR hS)
      obtain ⟨y1, y2, y3⟩ := parse_ok hz
      have hI := raw_i64 S
      unfold backS at y2
      unfold rawE at y3
      rw [hRR] at y1 y2 y3 hI
      simp only at y1 y2 y3 hI
      have Y1 := Lib.hid y1; have Y2 := Lib.hid y2; have Y3 := Lib.hid y3; have HI := Lib.hid hI
      clear hz hRR y1 y2 y3 hI
      go_wp2_with fail
      refine (CX.out W11 K11.out.bel).mono ?_
      rintro e V1 ⟨hb, b1, b2, b3, m1, m2, m3, v1, v2, v3, rfl, r1, r2, r3⟩
      have K1s := Lib.hid (K11.out.step hb)
      have R1 := Lib.hid r1; have R2 := Lib.hid r2; have R3 := Lib.hid r3
      clear hb r1 r2 r3
      have t0 := At.new V1 (recO RU REV RF0 RCN RUN b1 b2 b3 m1 m2 m3 v1 v2 v3)
      have h0 := below_new (Below.refl V1.heap.size V1) (recO RU REV RF0 RCN RUN b1 b2 b3 m1 m2 m3 v1 v2 v3)
      go_upto_region 14 with fail
      obtain ⟨G, hG⟩ : ∃ G, G = V1.heap.size := ⟨_, rfl⟩
      rw [← hG] at t0 ⊢
      clear hG
      generalize World.alloc V1 _ = V2 at t0 h0 ⊢
      have K2s := Lib.hid (K1s.out.step h0)
      have Q1 := Lib.hid (R1.out.then_ h0); have Q2 := Lib.hid (R2.out.then_ h0); have Q3 := Lib.hid (R3.out.then_ h0)
      have T0 := Lib.hid t0
      have x9 := t0.lt
      have d0 := t0.cell 0
      have d1 := t0.cell 1
      have d2 := t0.cell 2
      have d3 := t0.cell 3
      have d4 := t0.cell 4
      have d5 := t0.cell 5
      have d6 := t0.cell 6
      have d7 := t0.cell 7
      simp at d0 d1 d2 d3 d4 d5 d6 d7
      clear t0 h0
      go_wp2_with fail
      refine (ref_RecurError V2 RU REV RF0 RCN RUN b1 b2 b3 m1 m2 m3 v1 v2 v3 RXS RYS RZS Q1.out.1 Q2.out.1 Q3.out.1 Q1.out.2.1 Q2.out.2.1 Q3.out.2.1 Q1.out.2.2.1 Q2.out.2.2.1 Q3.out.2.2.1).mono ?_
      rw [Y3.out]
      rintro e V3 ⟨rfl, hb⟩
      have K3s := Lib.hid (K2s.out.step hb)
      have T3 := Lib.hid (T0.out.then_ hb)
      have S1 := Lib.hid (Q1.out.then_ hb); have S2 := Lib.hid (Q2.out.then_ hb); have S3 := Lib.hid (Q3.out.then_ hb)
      clear d0 d1 d2 d3 d4 d5 d6 d7
      have x9 := T3.out.lt
      have d0 := T3.out.cell 0
      have d1 := T3.out.cell 1
      have d2 := T3.out.cell 2
      have d3 := T3.out.cell 3
      have d4 := T3.out.cell 4
      have d5 := T3.out.cell 5
      have d6 := T3.out.cell 6
      have d7 := T3.out.cell 7
      simp at d0 d1 d2 d3 d4 d5 d6 d7
      obtain ⟨u1, u2, u3⟩ := recurErr_unit Y3.out
      have hfew := recurErr_few Y3.out
      rw [S1.out.1.1, S2.out.1.1, S3.out.1.1] at hfew
      have CRT := Lib.hid (show Calls Tryd.prog 8 #[.agg (recV RU REV RF0 RCN RUN b1 b2 b3 m1 m2 m3 v1 v2 v3)] V3 (fun e w' => e = .returned (.string ⟨S.toArray⟩) ∧ Below V3.heap.size V3 w') from by
        obtain ⟨k, rfl⟩ := Int.eq_ofNat_of_zero_le (show 0 ≤ RU by omega)
        have h := ref_RecurText V3 k (by omega) (by omega) REV RF0 RCN RUN b1 b2 b3 m1 m2 m3 v1 v2 v3 RXS RYS RZS HI.out.1 HI.out.2.1 HI.out.2.2.2 HI.out.2.2.1 u3 S1.out.1 S2.out.1 S3.out.1 (by omega) (by omega) (by omega) (HPW.out.below K3s.out.bel)
        rw [Y2.out] at h
        exact h)
      clear u1 u2 u3 hfew hb
      go_wp2_with fail
      refine CRT.out.mono ?_
      rintro e V4 ⟨rfl, hb⟩
      have B4 := Lib.hid (below_then K3s.out.bel hb)
      clear hb
      go_wp2_with fail
      go_ret
      exact ⟨by simp, B4.out⟩
    · have CX := Lib.hid (CPB.out S (parseE S) rfl hz hS)
      obtain ⟨E, hEE⟩ : ∃ E, E = parseE S := ⟨_, rfl⟩
      rw [← hEE] at CX hz
      clear hEE
      have hE1 : (E == 0) = false := by simpa using hz
      have hE2 : (E != 0) = true := by simpa using hz
      clear hz
      go_wp2_with fail
      refine (CX.out W11 K11.out.bel).mono ?_
      rintro e V1 ⟨rfl, hb⟩
      have K1s := Lib.hid (K11.out.step hb)
      clear hb
      have t0 := At.new V1 (recO 0 0 0 0 0 none none none 0 0 0 0 0 0)
      have h0 := below_new (Below.refl V1.heap.size V1) (recO 0 0 0 0 0 none none none 0 0 0 0 0 0)
      go_upto_region 14 with fail
      obtain ⟨G, hG⟩ : ∃ G, G = V1.heap.size := ⟨_, rfl⟩
      rw [← hG] at t0 ⊢
      clear hG
      generalize World.alloc V1 _ = V2 at t0 h0 ⊢
      have K2s := Lib.hid (K1s.out.step h0)
      have x9 := t0.lt
      have d0 := t0.cell 0
      have d1 := t0.cell 1
      have d2 := t0.cell 2
      have d3 := t0.cell 3
      have d4 := t0.cell 4
      have d5 := t0.cell 5
      have d6 := t0.cell 6
      have d7 := t0.cell 7
      simp at d0 d1 d2 d3 d4 d5 d6 d7
      clear t0 h0
      go_wp2_with fail
      refine (ref_SameRecur V2 0 0 0 0 0 none none none none none none 0 0 0 0 0 0 0 0 0 0 0 0 [] [] [] (nilI _ _) (nilI _ _) (nilI _ _) (nilI _ _) (nilI _ _) (nilI _ _)).mono ?_
      rintro e V4 ⟨rfl, hb⟩
      have B4 := Lib.hid (below_then K2s.out.bel hb)
      clear hb
      go_wp2_with fail
      go_ret
      exact ⟨by simp, B4.out⟩
  · rw [if_pos hE0] at hpr
    subst hpr
    obtain ⟨ER, hER⟩ : ∃ E, E = recurErr u ev f cn un ws ms ns := ⟨_, rfl⟩
    rw [← hER] at CE hE0 ⊢
    clear hER
    have hE1 : (ER != 0) = true := by simpa using hE0
    clear hE0
    go_upto_region 6 with fail
    have y9 := K6.out.box.lt
    have k0 := K6.out.box.cell 0
    have k1 := K6.out.box.cell 1
    have k2 := K6.out.box.cell 2
    have k3 := K6.out.box.cell 3
    have k4 := K6.out.box.cell 4
    have k5 := K6.out.box.cell 5
    have k6 := K6.out.box.cell 6
    have k7 := K6.out.box.cell 7
    simp at k0 k1 k2 k3 k4 k5 k6 k7
    go_wp2_with fail
    refine (CE.out W6 K6.out.bel).mono ?_
    rintro e W7 ⟨rfl, hb⟩
    have K7 := Lib.hid (K6.out.step hb)
    clear k0 k1 k2 k3 k4 k5 k6 k7
    clear hb y9
    go_upto_region 13 with fail
    by_cases hz : parseE S = 0
    · obtain ⟨RU, REV, RF0, RUN, RCN, RXS, RYS, RZS, hRR⟩ : ∃ a b c d e f g h, rawR S = (a, b, c, d, e, f, g, h) := ⟨_, _, _, _, _, _, _, _, rfl⟩
      have CX := Lib.hid (CPG.out S RU REV RF0 RUN RCN RXS RYS RZS hz hRR hS)
      obtain ⟨y1, y2, y3⟩ := parse_ok hz
      have hI := raw_i64 S
      unfold backS at y2
      unfold rawE at y3
      rw [hRR] at y1 y2 y3 hI
      simp only at y1 y2 y3 hI
      have Y1 := Lib.hid y1; have Y2 := Lib.hid y2; have Y3 := Lib.hid y3; have HI := Lib.hid hI
      clear hz hRR y1 y2 y3 hI
      go_wp2_with fail
      refine (CX.out W7 K7.out.bel).mono ?_
      rintro e V1 ⟨hb, b1, b2, b3, m1, m2, m3, v1, v2, v3, rfl, r1, r2, r3⟩
      have K1s := Lib.hid (K7.out.step hb)
      have R1 := Lib.hid r1; have R2 := Lib.hid r2; have R3 := Lib.hid r3
      clear hb r1 r2 r3
      have t0 := At.new V1 (recO RU REV RF0 RCN RUN b1 b2 b3 m1 m2 m3 v1 v2 v3)
      have h0 := below_new (Below.refl V1.heap.size V1) (recO RU REV RF0 RCN RUN b1 b2 b3 m1 m2 m3 v1 v2 v3)
      go_upto_region 14 with fail
      obtain ⟨G, hG⟩ : ∃ G, G = V1.heap.size := ⟨_, rfl⟩
      rw [← hG] at t0 ⊢
      clear hG
      generalize World.alloc V1 _ = V2 at t0 h0 ⊢
      have K2s := Lib.hid (K1s.out.step h0)
      have Q1 := Lib.hid (R1.out.then_ h0); have Q2 := Lib.hid (R2.out.then_ h0); have Q3 := Lib.hid (R3.out.then_ h0)
      have T0 := Lib.hid t0
      have x9 := t0.lt
      have d0 := t0.cell 0
      have d1 := t0.cell 1
      have d2 := t0.cell 2
      have d3 := t0.cell 3
      have d4 := t0.cell 4
      have d5 := t0.cell 5
      have d6 := t0.cell 6
      have d7 := t0.cell 7
      simp at d0 d1 d2 d3 d4 d5 d6 d7
      clear t0 h0
      go_wp2_with fail
      refine (ref_RecurError V2 RU REV RF0 RCN RUN b1 b2 b3 m1 m2 m3 v1 v2 v3 RXS RYS RZS Q1.out.1 Q2.out.1 Q3.out.1 Q1.out.2.1 Q2.out.2.1 Q3.out.2.1 Q1.out.2.2.1 Q2.out.2.2.1 Q3.out.2.2.1).mono ?_
      rw [Y3.out]
      rintro e V3 ⟨rfl, hb⟩
      have K3s := Lib.hid (K2s.out.step hb)
      have T3 := Lib.hid (T0.out.then_ hb)
      have S1 := Lib.hid (Q1.out.then_ hb); have S2 := Lib.hid (Q2.out.then_ hb); have S3 := Lib.hid (Q3.out.then_ hb)
      clear d0 d1 d2 d3 d4 d5 d6 d7
      have x9 := T3.out.lt
      have d0 := T3.out.cell 0
      have d1 := T3.out.cell 1
      have d2 := T3.out.cell 2
      have d3 := T3.out.cell 3
      have d4 := T3.out.cell 4
      have d5 := T3.out.cell 5
      have d6 := T3.out.cell 6
      have d7 := T3.out.cell 7
      simp at d0 d1 d2 d3 d4 d5 d6 d7
      obtain ⟨u1, u2, u3⟩ := recurErr_unit Y3.out
      have hfew := recurErr_few Y3.out
      rw [S1.out.1.1, S2.out.1.1, S3.out.1.1] at hfew
      have CRT := Lib.hid (show Calls Tryd.prog 8 #[.agg (recV RU REV RF0 RCN RUN b1 b2 b3 m1 m2 m3 v1 v2 v3)] V3 (fun e w' => e = .returned (.string ⟨S.toArray⟩) ∧ Below V3.heap.size V3 w') from by
        obtain ⟨k, rfl⟩ := Int.eq_ofNat_of_zero_le (show 0 ≤ RU by omega)
        have h := ref_RecurText V3 k (by omega) (by omega) REV RF0 RCN RUN b1 b2 b3 m1 m2 m3 v1 v2 v3 RXS RYS RZS HI.out.1 HI.out.2.1 HI.out.2.2.2 HI.out.2.2.1 u3 S1.out.1 S2.out.1 S3.out.1 (by omega) (by omega) (by omega) (HPW.out.below K3s.out.bel)
        rw [Y2.out] at h
        exact h)
      clear u1 u2 u3 hfew hb
      go_wp2_with fail
      refine CRT.out.mono ?_
      rintro e V4 ⟨rfl, hb⟩
      have B4 := Lib.hid (below_then K3s.out.bel hb)
      clear hb
      go_wp2_with fail
      go_ret
      exact ⟨by simp, B4.out⟩
    · have CX := Lib.hid (CPB.out S (parseE S) rfl hz hS)
      obtain ⟨E, hEE⟩ : ∃ E, E = parseE S := ⟨_, rfl⟩
      rw [← hEE] at CX hz
      clear hEE
      have hE1 : (E == 0) = false := by simpa using hz
      have hE2 : (E != 0) = true := by simpa using hz
      clear hz
      go_wp2_with fail
      refine (CX.out W7 K7.out.bel).mono ?_
      rintro e V1 ⟨rfl, hb⟩
      have K1s := Lib.hid (K7.out.step hb)
      clear hb
      have t0 := At.new V1 (recO 0 0 0 0 0 none none none 0 0 0 0 0 0)
      have h0 := below_new (Below.refl V1.heap.size V1) (recO 0 0 0 0 0 none none none 0 0 0 0 0 0)
      go_upto_region 14 with fail
      obtain ⟨G, hG⟩ : ∃ G, G = V1.heap.size := ⟨_, rfl⟩
      rw [← hG] at t0 ⊢
      clear hG
      generalize World.alloc V1 _ = V2 at t0 h0 ⊢
      have K2s := Lib.hid (K1s.out.step h0)
      have x9 := t0.lt
      have d0 := t0.cell 0
      have d1 := t0.cell 1
      have d2 := t0.cell 2
      have d3 := t0.cell 3
      have d4 := t0.cell 4
      have d5 := t0.cell 5
      have d6 := t0.cell 6
      have d7 := t0.cell 7
      simp at d0 d1 d2 d3 d4 d5 d6 d7
      clear t0 h0
      go_wp2_with fail
      refine (ref_SameRecur V2 0 0 0 0 0 none none none none none none 0 0 0 0 0 0 0 0 0 0 0 0 [] [] [] (nilI _ _) (nilI _ _) (nilI _ _) (nilI _ _) (nilI _ _) (nilI _ _)).mono ?_
      rintro e V4 ⟨rfl, hb⟩
      have B4 := Lib.hid (below_then K2s.out.bel hb)
      clear hb
      go_wp2_with fail
      go_ret
      exact ⟨by simp, B4.out⟩
theorem walk {H : Type} {enc : TypeId × Value → H} {v0 v1 : Value} {d0 d1 : DataW H} {p0 p1 : List MemPlace} {base : Nat} (W : World)
    (o0 : Value.okWide Tryd.prog W .any base 24 v0) (h0 : DataW.Trod enc Tryd.prog W 0 (fun _ => true) true 24 v0 d0 p0) (hz0 : Rows.uptoBulk d0 ≤ 1048576)
    (o1 : Value.okWide Tryd.prog W .any base 9 v1) (h1 : DataW.Trod enc Tryd.prog W 0 (fun _ => true) true 9 v1 d1 p1)
    (hsz : ∀ bytes, d1 = .lit (.string bytes) → bytes.length ≤ 4294960000) (hL : laidMet Tryd.prog Rows.recurTextsRow.laid W) (hsh : W.ShapedOpen Tryd.prog) :
    Calls Tryd.prog 3 #[v0, v1] W fun e w' => e = .returned (.bool true) ∧ Below W.heap.size W w' := by
  obtain ⟨s, rfl, rfl, rfl, hs⟩ := Go.ChangeMaps.open_string Tryd.underlying9 o1 h1
  obtain ⟨m, hm⟩ := Tryd.laysLaysMn146.s1_3 W hsh
  obtain ⟨cs, n, rfl, hl, hf⟩ := open_agg Tryd.underlying24 (by kernel_rfl) (by kernel_rfl) o0 h0
  match cs, hl with
  | [v0, v1, v2, v3, v4, v5, v6, v7], _ =>
    obtain ⟨_, _, e0, t0⟩ := hf 0 _ rfl
    obtain ⟨_, _, e1, t1⟩ := hf 1 _ rfl
    obtain ⟨_, _, e2, t2⟩ := hf 2 _ rfl
    obtain ⟨_, _, e3, t3⟩ := hf 3 _ rfl
    obtain ⟨_, _, e4, t4⟩ := hf 4 _ rfl
    obtain ⟨_, _, e5, t5⟩ := hf 5 _ rfl
    obtain ⟨_, _, e6, t6⟩ := hf 6 _ rfl
    obtain ⟨_, _, e7, t7⟩ := hf 7 _ rfl
    obtain ⟨x0, rfl, q0⟩ := open_num t0
    obtain ⟨x1, rfl, q1⟩ := open_num t1
    obtain ⟨x2, rfl, q2⟩ := open_num t2
    obtain ⟨x3, rfl, q3⟩ := open_num t3
    obtain ⟨x4, rfl, q4⟩ := open_num t4
    obtain ⟨a1, n1, c1, ws, rfl, k1, m1, h1⟩ := open_Ints t5
    obtain ⟨a2, n2, c2, ms, rfl, k2, m2, h2⟩ := open_Ints t6
    obtain ⟨a3, n3, c3, ns, rfl, k3, m3, h3⟩ := open_Ints t7
    simp at e0 e1 e2 e3 e4 e5 e6 e7
    subst e0 e1 e2 e3 e4 e5 e6 e7
    have h := core W x0 x1 x2 x3 x4 a1 a2 a3 n1 n2 n3 c1 c2 c3 ws ms ns h1 h2 h3 k1 k2 k3 m1 m2 m3 q1 q2 q3 q4 s.data.toList (hsz s.data.toList rfl) (laid_pow pow_data.symm hL.tail.tail) (laid_errs hL.tail.tail.tail.tail) (laid_units units_data hL.tail.tail.tail.tail.tail.tail) m hm
    rw [show (⟨s.data.toList.toArray⟩ : ByteArray) = s from by simp] at h
    exact h
end Go.Proofs.YtdmkghgachapaaaDoor.recurTextsLaw
