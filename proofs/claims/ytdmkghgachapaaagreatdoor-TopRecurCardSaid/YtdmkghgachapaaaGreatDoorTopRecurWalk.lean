/- TopRecur: the Go text returns true at every input. -/
import Derived.Test.YtdmkghgachapaaaGreatDoorRows
import Derived.Test.YtdmkghgachapaaaGreatDoorMgS
import Derived.Test.YtdmkghgachapaaaGreatDoorTopR0
import Derived.Test.YtdmkghgachapaaaGreatDoorMgA
import Derived.Test.YtdmkghgachapaaaGreatDoorRec10
import Derived.Test.YtdmkghgachapaaaGreatDoorMgI
namespace Go.Proofs.YtdmkghgachapaaaGreatDoor.topRecurLaw
set_option linter.unusedVariables false
set_option linter.unusedSimpArgs false
set_option maxRecDepth 100000
open Go.RowKit Go.ChangeShapes Go.WideShapes Go.Shelf greg

def litS : List UInt8 := [101, 118, 101, 114, 121, 32, 49, 32, 100, 97, 121, 32, 102, 114, 111, 109, 32, 49, 32, 117, 110, 116, 105, 108, 32, 57]
theorem lit_ok : parseE litS = 0 ∧ rawR litS = (1, 1, 1, 9, 0, [], [], []) := ⟨by decide +kernel, by kernel_rfl⟩
theorem rest_self (xs : List Int) : rest xs xs = [] := by
  unfold rest hasB
  rw [List.filter_eq_nil_iff]
  intro a ha
  simpa using ha
theorem range_ok {f n : Int} (h1 : -4000000 ≤ f) (h2 : f ≤ 3900000) (h3 : 0 ≤ n) (h4 : n < 500) : rangeErr f f (f + n) = 0 := by
  have e1 : inB (-4000000) 4000000 f = true := by
    rcases inB_cases (-4000000) 4000000 f with ⟨h, _⟩ | ⟨_, h⟩
    · exact h
    · omega
  have e2 : inB (-4000000) 4000000 (f + n) = true := by
    rcases inB_cases (-4000000) 4000000 (f + n) with ⟨h, _⟩ | ⟨_, h⟩
    · exact h
    · omega
  unfold rangeErr
  rw [e1, e2, if_neg (by simp), if_neg (by omega), if_neg (by omega)]
theorem rec_bounds {u ev f cn un : Int} {ws ms ns : List Int} (h : recurErr u ev f cn un ws ms ns = 0) : 1 ≤ u ∧ u ≤ 4 ∧ 1 ≤ ev ∧ ev ≤ 1000 ∧ -4000000 ≤ f ∧ f ≤ 4000000 ∧ -4000000 ≤ un ∧ un ≤ 4000000 := by
  unfold recurErr at h
  split at h
  · omega
  rename_i h1
  split at h
  · omega
  rename_i h2
  omega
theorem days_in (u ev f cn un : Int) (ws ms ns : List Int) (n : Int) : ∀ x ∈ daysL u ev f cn un ws ms ns f (f + n), f ≤ x ∧ x ≤ un := by
  intro x hx
  unfold daysL at hx
  have h := listP_in _ _ _ _ _ _ x hx
  have hl : lowOf f cn f = f := by unfold lowOf; split <;> simp
  rw [hl] at h
  have hm : minI (f + n) un ≤ un := by unfold minI; split <;> omega
  omega
def RowX (w : World) (a : Option Addr) (n c : Nat) (xs : List Int) : Prop := Ints w w.heap.size a n xs ∧ n ≤ c ∧ c ≤ 9223372036854775807
theorem RowX.then_ {w w' : World} {a : Option Addr} {n c : Nat} {xs : List Int} (h : RowX w a n c xs) (hb : Below w.heap.size w w') : RowX w' a n c xs := ⟨(h.1.below hb (Nat.le_refl _)).more hb.size, h.2⟩
theorem laid_units {W : World} {rest : List (String × DataW Unit)} {d : DataW Unit} (hd : d = strData unitsL) (h : laidMet Tryz.prog (("ephemeris/recur.units", d) :: rest) W) : UnitsAt W := by
  subst hd
  have hv := laid_strs (g := 0) (t := 45) (e := 9) (n := 5) (by kernel_rfl) (by kernel_rfl) Tryz.underlying45 Tryz.underlying9 (by kernel_rfl) (by kernel_rfl) h
  intro k hk
  have h0 := World.var?_cell (g := 0) (by kernel_rfl) hv k
  rw [h0]
  match k, hk with
  | 0, _ => rfl
  | 1, _ => rfl
  | 2, _ => rfl
  | 3, _ => rfl
  | 4, _ => rfl
theorem units_data : (Rows.laid_ephemeris_recur_units : DataW Unit) = strData unitsL := by kernel_rfl
def Kept (W : World) (u ev f cn un : Int) (a1 a2 a3 : Option Addr) (n1 n2 n3 c1 c2 c3 : Nat) (w' : World) : Prop :=
  Below W.heap.size W w' ∧ At w' W.heap.size (recO u ev f cn un a1 a2 a3 n1 n2 n3 c1 c2 c3)
theorem Kept.step {W : World} {u ev f cn un : Int} {a1 a2 a3 : Option Addr} {n1 n2 n3 c1 c2 c3 : Nat} {w' w2 : World} (h : Kept W u ev f cn un a1 a2 a3 n1 n2 n3 c1 c2 c3 w') (hb : Below w'.heap.size w' w2) : Kept W u ev f cn un a1 a2 a3 n1 n2 n3 c1 c2 c3 w2 := ⟨below_then h.1 hb, h.2.then_ hb⟩
theorem Kept.bel {W : World} {u ev f cn un : Int} {a1 a2 a3 : Option Addr} {n1 n2 n3 c1 c2 c3 : Nat} {w' : World} (h : Kept W u ev f cn un a1 a2 a3 n1 n2 n3 c1 c2 c3 w') : Below W.heap.size W w' := h.1
theorem Kept.box {W : World} {u ev f cn un : Int} {a1 a2 a3 : Option Addr} {n1 n2 n3 c1 c2 c3 : Nat} {w' : World} (h : Kept W u ev f cn un a1 a2 a3 n1 n2 n3 c1 c2 c3 w') : At w' W.heap.size (recO u ev f cn un a1 a2 a3 n1 n2 n3 c1 c2 c3) := h.2
set_option maxHeartbeats 16000000 in
theorem core (W : World) (u ev f cn un : Int) (a1 a2 a3 : Option Addr) (n1 n2 n3 c1 c2 c3 : Nat) (ws ms ns : List Int) (h1 : Ints W W.heap.size a1 n1 ws) (h2 : Ints W W.heap.size a2 n2 ms) (h3 : Ints W W.heap.size a3 n3 ns)
    (k1 : n1 ≤ c1) (k2 : n2 ≤ c2) (k3 : n3 ≤ c3) (m1 : c1 ≤ 9223372036854775807) (m2 : c2 ≤ 9223372036854775807) (m3 : c3 ≤ 9223372036854775807) (he : I64 ev) (hf : I64 f) (hc : I64 cn) (hu : I64 un)
    (n : Int) (hp : Pow W) (hE : Errs W) (hun : UnitsAt W) (m : Int) (hm : W.cell? ⟨3, 0, none⟩ = some (.int .i64 m)) :
    Calls Tryz.prog 3 #[.agg #[.int .i64 u, .int .i64 ev, .int .i64 f, .int .i64 cn, .int .i64 un, .slice a1 n1 c1, .slice a2 n2 c2, .slice a3 n3 c3], .int .i64 n] W fun e w' => e = .returned (.bool true) ∧ Below W.heap.size W w' := by
  have hgm := World.block_lt_of_cell? _ _ hm
  have HT := Lib.hid (fun h0 : recurErr u ev f cn un ws ms ns = 0 => text_len he hf hc hu h1.2.2.1 h2.2.2.1 h3.2.2.1 h0)
  have HPP := Lib.hid (fun h0 : recurErr u ev f cn un ws ms ns = 0 => parse_print he hf hc hu h1.2.2.1 h2.2.2.1 h3.2.2.1 h0)
  have CPG := Lib.hid (fun (S : List UInt8) (u ev f un cn : Int) (xs ys zs : List Int) (h0 : parseE S = 0) (hr : rawR S = (u, ev, f, un, cn, xs, ys, zs)) (hS : S.length ≤ 4294960000) (V : World) (hV : Below W.heap.size W V) => parse_good h0 hr V m ((hV.cell (p := ⟨3, 0, none⟩) hgm).trans hm) hS (hp.below hV) (hE.below hV) (hun.below hV))
  have J := Lib.hid (fun (V : World) (hV : Below W.heap.size W V) => show Ints V V.heap.size a1 n1 ws ∧ Ints V V.heap.size a2 n2 ms ∧ Ints V V.heap.size a3 n3 ns from ⟨(h1.below hV (Nat.le_refl _)).more hV.size, (h2.below hV (Nat.le_refl _)).more hV.size, (h3.below hV (Nat.le_refl _)).more hV.size⟩)
  have CP := Lib.hid (fun (V : World) (hV : Below W.heap.size W V) => recur_Print V u ev f cn un a1 a2 a3 n1 n2 n3 c1 c2 c3 ws ms ns he hf hc hu (J.out V hV).1 (J.out V hV).2.1 (J.out V hV).2.2 k1 k2 k3 m1 m2 m3 (hp.below hV) (hun.below hV))
  have KK := Lib.hid (show (n1 ≤ c1 ∧ c1 ≤ 9223372036854775807) ∧ (n2 ≤ c2 ∧ c2 ≤ 9223372036854775807) ∧ (n3 ≤ c3 ∧ c3 ≤ 9223372036854775807) from ⟨⟨k1, m1⟩, ⟨k2, m2⟩, ⟨k3, m3⟩⟩)
  clear h1 h2 h3 hp hE hun hm k1 k2 k3 m1 m2 m3 he hc hu
  go_enter Tryz.func3, Tryz.ntmps3
  go_upto_region 1 with fail
  have t0 := At.new W (recO u ev f cn un a1 a2 a3 n1 n2 n3 c1 c2 c3)
  have b0 := below_new (Below.refl W.heap.size W) (recO u ev f cn un a1 a2 a3 n1 n2 n3 c1 c2 c3)
  generalize World.alloc W _ = W1 at t0 b0 ⊢
  have K1 := Lib.hid (show Kept W u ev f cn un a1 a2 a3 n1 n2 n3 c1 c2 c3 W1 from ⟨b0, t0⟩)
  clear t0 b0
  have CM := Lib.hid (CPG.out litS 1 1 1 9 0 [] [] [] lit_ok.1 lit_ok.2 (by decide))
  go_wp2_with fail
  refine (CM.out W1 K1.out.bel).mono ?_
  rintro e W3 ⟨hb, b1, b2, b3, m1, m2, m3, v1, v2, v3, rfl, r1, r2, r3⟩
  have K3 := Lib.hid (K1.out.step hb)
  clear hb r1 r2 r3 CM
  have t0 := At.new W3 (recO 1 1 1 0 9 b1 b2 b3 m1 m2 m3 v1 v2 v3)
  have h0 := below_new (Below.refl W3.heap.size W3) (recO 1 1 1 0 9 b1 b2 b3 m1 m2 m3 v1 v2 v3)
  go_upto_region 2 with fail
  obtain ⟨G3, hG⟩ : ∃ G, G = W3.heap.size := ⟨_, rfl⟩
  rw [← hG] at t0 ⊢
  clear hG
  generalize World.alloc W3 _ = W4 at t0 h0 ⊢
  have K4 := Lib.hid (K3.out.step h0)
  have x8 := t0.lt
  have d4 := t0.cell 4
  simp at d4
  clear t0 h0
  go_upto_region 4 with fail
  have y9 := K4.out.box.lt
  have k0 := K4.out.box.cell 0
  have k1 := K4.out.box.cell 1
  have k2 := K4.out.box.cell 2
  have k3 := K4.out.box.cell 3
  have k4 := K4.out.box.cell 4
  have k5 := K4.out.box.cell 5
  have k6 := K4.out.box.cell 6
  have k7 := K4.out.box.cell 7
  simp at k0 k1 k2 k3 k4 k5 k6 k7
  clear d4 x8
  go_wp2_with fail
  refine (CP.out W4 K4.out.bel).mono ?_
  rintro e W6 ⟨hb, hpr⟩
  have K6 := Lib.hid (K4.out.step hb)
  clear k0 k1 k2 k3 k4 k5 k6 k7
  clear hb y9
  by_cases hE0 : recurErr u ev f cn un ws ms ns = 0
  case neg =>
    rw [if_pos hE0] at hpr
    subst hpr
    obtain ⟨ER, hER⟩ : ∃ E, E = recurErr u ev f cn un ws ms ns := ⟨_, rfl⟩
    rw [← hER] at hE0 ⊢
    have hE1 : (ER != 0) = true := by simpa using hE0
    clear hE0 hER
    go_wp2_with fail
    go_ret
    exact ⟨rfl, K6.out.bel⟩
  rw [if_neg (by rw [hE0]; simp)] at hpr
  subst hpr
  have k2 := K6.out.box.cell 2
  simp at k2
  have y9 := K6.out.box.lt
  by_cases hf9 : 3900000 < f
  · go_wp2_with fail
    go_ret
    exact ⟨rfl, K6.out.bel⟩
  go_upto_region 7 with fail
  clear k2 y9
  have HT2 := Lib.hid (HT.out hE0); have HP2 := Lib.hid (HPP.out hE0)
  have HE0 := Lib.hid hE0
  have HF9 := Lib.hid hf9
  clear hE0 hf9
  obtain ⟨TX, hTX⟩ : ∃ T, T = recS u ev f cn un ws ms ns := ⟨_, rfl⟩
  rw [← hTX] at HT2 HP2 ⊢
  clear hTX
  have CX := Lib.hid (CPG.out TX u ev f un cn ws ms ns HP2.out.1 HP2.out.2 HT2.out)
  go_wp2_with fail
  refine (CX.out W6 K6.out.bel).mono ?_
  rintro e W8 ⟨hb, b1, b2, b3, m1, m2, m3, v1, v2, v3, rfl, r1, r2, r3⟩
  have K8 := Lib.hid (K6.out.step hb)
  have R1 := Lib.hid r1; have R2 := Lib.hid r2; have R3 := Lib.hid r3
  clear hb r1 r2 r3 CX
  have t0 := At.new W8 (recO u ev f cn un b1 b2 b3 m1 m2 m3 v1 v2 v3)
  have h0 := below_new (Below.refl W8.heap.size W8) (recO u ev f cn un b1 b2 b3 m1 m2 m3 v1 v2 v3)
  go_upto_region 8 with fail
  obtain ⟨G8, hG⟩ : ∃ G, G = W8.heap.size := ⟨_, rfl⟩
  rw [← hG] at t0 ⊢
  clear hG
  generalize World.alloc W8 _ = W9 at t0 h0 ⊢
  have K9 := Lib.hid (K8.out.step h0)
  have Q1 := Lib.hid (R1.out.then_ h0); have Q2 := Lib.hid (R2.out.then_ h0); have Q3 := Lib.hid (R3.out.then_ h0)
  have T9 := Lib.hid t0
  clear t0 h0 R1 R2 R3
  go_upto_region 10 with fail
  have x9 := T9.out.lt
  have d0 := T9.out.cell 0
  have d1 := T9.out.cell 1
  have d2 := T9.out.cell 2
  have d3 := T9.out.cell 3
  have d4 := T9.out.cell 4
  have d5 := T9.out.cell 5
  have d6 := T9.out.cell 6
  have d7 := T9.out.cell 7
  simp at d0 d1 d2 d3 d4 d5 d6 d7
  have CN := Lib.hid (recur_Normal W9 u ev f cn un b1 b2 b3 m1 m2 m3 v1 v2 v3 ws ms ns Q1.out.1 Q2.out.1 Q3.out.1 Q1.out.2.1 Q2.out.2.1 Q3.out.2.1 Q1.out.2.2.1 Q2.out.2.2.1 Q3.out.2.2.1)
  rw [HE0.out] at CN
  go_wp2_with fail
  refine CN.out.mono ?_
  rintro e W10 (⟨h, _⟩ | ⟨-, p1, l1, q1, p2, l2, q2, p3, l3, q3, rfl, i1, i2, i3, hb, ⟨o1, o2⟩, ⟨o3, o4⟩, o5, o6⟩)
  · exact absurd rfl h
  have K10 := Lib.hid (K9.out.step hb)
  clear d0 d1 d2 d3 d4 d5 d6 d7
  clear hb x9 CN T9 Q1 Q2 Q3
  have ND := Lib.hid (norm_days u ev f cn un ws ms ns)
  have NE := Lib.hid (norm_err HE0.out)
  obtain ⟨VU, hVU⟩ : ∃ x, x = nU u ev f ws ms := ⟨_, rfl⟩
  obtain ⟨VE, hVE⟩ : ∃ x, x = nE u ev f ws ms := ⟨_, rfl⟩
  obtain ⟨WW, hWW⟩ : ∃ x, x = sortI (nWW u ev f ws ms) := ⟨_, rfl⟩
  obtain ⟨MM, hMM⟩ : ∃ x, x = sortI (nM u f ws ms) := ⟨_, rfl⟩
  obtain ⟨NN, hNN⟩ : ∃ x, x = sortI (nN u f ws ms ns) := ⟨_, rfl⟩
  rw [← hVU, ← hVE, ← hWW, ← hMM, ← hNN] at NE ND
  have hVU2 : (if nC u ev f ws ms = true then 2 else u) = VU := hVU.symm
  have hVE2 : (if nC u ev f ws ms = true then ev / 7 else ev) = VE := hVE.symm
  have hWW2 : sortI (if nC u ev f ws ms = true then [(f - 1) % 7] else nW u f ws ms) = WW := hWW.symm
  rw [hWW2] at i1
  rw [← hMM] at i2
  rw [← hNN] at i3
  rw [hVU2, hVE2]
  clear hVU hVE hWW hMM hNN hVU2 hVE2 hWW2
  have R1 := Lib.hid (show RowX W10 p1 l1 q1 WW from ⟨i1, o1, o2⟩); have R2 := Lib.hid (show RowX W10 p2 l2 q2 MM from ⟨i2, o3, o4⟩); have R3 := Lib.hid (show RowX W10 p3 l3 q3 NN from ⟨i3, o5, o6⟩)
  clear i1 i2 i3 o1 o2 o3 o4 o5 o6
  have t0 := At.new W10 (recO VU VE f cn un p1 p2 p3 l1 l2 l3 q1 q2 q3)
  have h0 := below_new (Below.refl W10.heap.size W10) (recO VU VE f cn un p1 p2 p3 l1 l2 l3 q1 q2 q3)
  go_upto_region 11 with fail
  obtain ⟨G10, hG⟩ : ∃ G, G = W10.heap.size := ⟨_, rfl⟩
  rw [← hG] at t0 ⊢
  clear hG
  generalize World.alloc W10 _ = W11 at t0 h0 ⊢
  have K11 := Lib.hid (K10.out.step h0)
  have Q1 := Lib.hid (R1.out.then_ h0); have Q2 := Lib.hid (R2.out.then_ h0); have Q3 := Lib.hid (R3.out.then_ h0)
  have T11 := Lib.hid t0
  clear t0 h0 R1 R2 R3
  go_upto_region 13 with fail
  go_wp2_with fail
  refine (top_aCut n 0 500 W11 (by omega) (by omega) (by omega) (by omega)).mono ?_
  rintro e w' ⟨rfl, hw'⟩
  subst hw'
  obtain ⟨mN1, mN2⟩ := modA_in n 500 (by omega)
  obtain ⟨Nn, hNn⟩ : ∃ x, x = 0 + modA n 500 := ⟨_, rfl⟩
  rw [← hNn]
  have nn1 : 0 ≤ Nn := by omega
  have nn2 : Nn < 500 := by omega
  clear hNn mN1 mN2
  go_upto_region 14 with fail
  obtain ⟨u1, u2, ev1, ev2, f1, f2, g1, g2⟩ := rec_bounds HE0.out
  have hf9 := HF9.out
  have HRE := Lib.hid (range_ok (f := f) (n := Nn) (by omega) (by omega) (by omega) (by omega))
  have x9 := T11.out.lt
  have d0 := T11.out.cell 0
  have d1 := T11.out.cell 1
  have d2 := T11.out.cell 2
  have d3 := T11.out.cell 3
  have d4 := T11.out.cell 4
  have d5 := T11.out.cell 5
  have d6 := T11.out.cell 6
  have d7 := T11.out.cell 7
  simp at d0 d1 d2 d3 d4 d5 d6 d7
  have y9 := K11.out.box.lt
  have k0 := K11.out.box.cell 0
  have k1 := K11.out.box.cell 1
  have k2 := K11.out.box.cell 2
  have k3 := K11.out.box.cell 3
  have k4 := K11.out.box.cell 4
  have k5 := K11.out.box.cell 5
  have k6 := K11.out.box.cell 6
  have k7 := K11.out.box.cell 7
  simp at k0 k1 k2 k3 k4 k5 k6 k7
  have J11 := J.out W11 K11.out.bel
  have CD := Lib.hid (recur_Diff W11 u ev f cn un a1 a2 a3 n1 n2 n3 c1 c2 c3 ws ms ns VU VE f cn un p1 p2 p3 l1 l2 l3 q1 q2 q3 WW MM NN J11.1 J11.2.1 J11.2.2 KK.out.1.1 KK.out.1.2 KK.out.2.1.1 KK.out.2.1.2 KK.out.2.2.1 KK.out.2.2.2 Q1.out.1 Q2.out.1 Q3.out.1 Q1.out.2.1 Q1.out.2.2 Q2.out.2.1 Q2.out.2.2 Q3.out.2.1 Q3.out.2.2 f (f + Nn))
  have hde : diffErr (recurErr u ev f cn un ws ms ns) (recurErr VU VE f cn un WW MM NN) (rangeErr f f (f + Nn)) (rangeErr f f (f + Nn)) = 0 := by rw [HE0.out, NE.out, HRE.out]; rfl
  unfold DiffOut at CD
  rw [hde, ND.out u1 u2 ev1 (f + Nn), rest_self] at CD
  clear hde J11
  go_wp2_with fail
  refine CD.out.mono ?_
  rintro e W12 (⟨h, _⟩ | ⟨-, s1, j1, w1, s2, j2, w2, rfl, i1, i2, hb⟩)
  · exact absurd rfl h
  have hj1 : j1 = 0 := i1.1.symm
  have hj2 : j2 = 0 := i2.1.symm
  subst hj1 hj2
  have K12 := Lib.hid (K11.out.step hb)
  have T12 := Lib.hid (T11.out.then_ hb)
  have U1 := Lib.hid (Q1.out.then_ hb); have U2 := Lib.hid (Q2.out.then_ hb); have U3 := Lib.hid (Q3.out.then_ hb)
  clear d0 d1 d2 d3 d4 d5 d6 d7
  clear k0 k1 k2 k3 k4 k5 k6 k7
  clear hb x9 y9 i1 i2 CD Q1 Q2 Q3
  go_upto_region 15 with fail
  have x9 := T12.out.lt
  have d0 := T12.out.cell 0
  have d1 := T12.out.cell 1
  have d2 := T12.out.cell 2
  have d3 := T12.out.cell 3
  have d4 := T12.out.cell 4
  have d5 := T12.out.cell 5
  have d6 := T12.out.cell 6
  have d7 := T12.out.cell 7
  simp at d0 d1 d2 d3 d4 d5 d6 d7
  have y9 := K12.out.box.lt
  have k0 := K12.out.box.cell 0
  have k1 := K12.out.box.cell 1
  have k2 := K12.out.box.cell 2
  have k3 := K12.out.box.cell 3
  have k4 := K12.out.box.cell 4
  have k5 := K12.out.box.cell 5
  have k6 := K12.out.box.cell 6
  have k7 := K12.out.box.cell 7
  simp at k0 k1 k2 k3 k4 k5 k6 k7
  have CY := Lib.hid (recur_Days W12 VU VE f cn un p1 p2 p3 l1 l2 l3 q1 q2 q3 WW MM NN U1.out.1 U2.out.1 U3.out.1 U1.out.2.1 U2.out.2.1 U3.out.2.1 U1.out.2.2 U2.out.2.2 U3.out.2.2 f (f + Nn))
  have hde : daysErr VU VE f cn un WW MM NN f (f + Nn) = 0 := by unfold daysErr; rw [NE.out, HRE.out]; rfl
  unfold DaysOut at CY
  rw [hde, ND.out u1 u2 ev1 (f + Nn)] at CY
  clear hde
  go_wp2_with fail
  refine CY.out.mono ?_
  rintro e W13 (⟨h, _⟩ | ⟨-, dp, dn, dc, rfl, o1, o2, hd, hb⟩)
  · exact absurd rfl h
  have K13 := Lib.hid (K12.out.step hb)
  clear d0 d1 d2 d3 d4 d5 d6 d7
  clear k0 k1 k2 k3 k4 k5 k6 k7
  clear hb x9 y9 U1 U2 U3 T12 T11 CY
  have HD := Lib.hid hd
  have DL := Lib.hid (days_in u ev f cn un ws ms ns Nn)
  have D1 := Lib.hid hd.1
  have dm := hd.2.1
  clear hd u1 u2 ev1 ev2
  have k2 := K13.out.box.cell 2; have k4 := K13.out.box.cell 4
  simp at k2 k4
  have y9 := K13.out.box.lt
  go_wp2_with fail
  go_loop [82] (fun i => ∃ k : Nat, k ≤ dn ∧ i = .int .i64 k) (fun i => dn - (intOf i).toNat)
  case atStart => exact ⟨0, by omega, rfl⟩
  case round =>
    obtain ⟨k, hk, rfl⟩ := hrel
    by_cases hlt : k < dn
    · obtain ⟨db, doo, x, rfl, hb1, hc1, hx, x1, x2⟩ := HD.out.at_ hlt
      have hxm := DL.out x (List.mem_of_getElem? hx)
      clear hx
      have e1 : ¬ x < f := by omega
      have e2 : ¬ un < x := by omega
      clear hxm
      go_wp2_with fail
      go_round
      case rel => exact ⟨k + 1, by omega, by go_num⟩
      case measure => simp [intOf]; omega
    · go_wp2_with fail
      go_ret
      exact ⟨by simp, K13.out.bel⟩
theorem walk {H : Type} {enc : TypeId × Value → H} {v0 v1 : Value} {d0 d1 : DataW H} {p0 p1 : List MemPlace} {base : Nat} (W : World)
    (o0 : Value.okWide Tryz.prog W .any base 24 v0) (h0 : DataW.Trod enc Tryz.prog W 0 (fun _ => true) true 24 v0 d0 p0)
    (o1 : Value.okWide Tryz.prog W .any base 3 v1) (h1 : DataW.Trod enc Tryz.prog W 0 (fun _ => true) true 3 v1 d1 p1) (hL : laidMet Tryz.prog Rows.topRecurRow.laid W) (hsh : W.ShapedOpen Tryz.prog) :
    Calls Tryz.prog 3 #[v0, v1] W fun e w' => e = .returned (.bool true) ∧ Below W.heap.size W w' := by
  obtain ⟨xn, rfl, rfl, rfl, qn⟩ := open_int Tryz.underlying3 o1 h1
  obtain ⟨m, hm⟩ := Tryz.laysLaysMn146.s1_3 W hsh
  obtain ⟨cs, n, rfl, hl, hf⟩ := open_agg Tryz.underlying24 (by kernel_rfl) (by kernel_rfl) o0 h0
  match cs, hl with
  | [v0, v1, v2, v3, v4, v5, v6, v7], _ =>
    obtain ⟨_, _, e0, t0⟩ := hf 0 _ rfl
    obtain ⟨_, _, e1, t1⟩ := hf 1 _ rfl
    obtain ⟨_, _, e2, t2⟩ := hf 2 _ rfl
    obtain ⟨_, _, e3, t3⟩ := hf 3 _ rfl
    obtain ⟨_, _, e4, t4⟩ := hf 4 _ rfl
    obtain ⟨_, _, e5, t5⟩ := hf 5 _ rfl
    obtain ⟨_, _, e6, t6⟩ := hf 6 _ rfl
    obtain ⟨_, _, e7, t7⟩ := hf 7 _ rfl
    obtain ⟨x0, rfl, q0⟩ := open_num t0
    obtain ⟨x1, rfl, q1⟩ := open_num t1
    obtain ⟨x2, rfl, q2⟩ := open_num t2
    obtain ⟨x3, rfl, q3⟩ := open_num t3
    obtain ⟨x4, rfl, q4⟩ := open_num t4
    obtain ⟨a1, n1, c1, ws, rfl, k1, m1, h1⟩ := open_Ints t5
    obtain ⟨a2, n2, c2, ms, rfl, k2, m2, h2⟩ := open_Ints t6
    obtain ⟨a3, n3, c3, ns, rfl, k3, m3, h3⟩ := open_Ints t7
    simp at e0 e1 e2 e3 e4 e5 e6 e7
    subst e0 e1 e2 e3 e4 e5 e6 e7
    exact core W x0 x1 x2 x3 x4 a1 a2 a3 n1 n2 n3 c1 c2 c3 ws ms ns h1 h2 h3 k1 k2 k3 m1 m2 m3 q1 q2 q3 q4 xn (laid_pow pow_data.symm hL.tail.tail) (laid_errs hL.tail.tail.tail.tail) (laid_units units_data hL.tail.tail.tail.tail.tail.tail) m hm
end Go.Proofs.YtdmkghgachapaaaGreatDoor.topRecurLaw
