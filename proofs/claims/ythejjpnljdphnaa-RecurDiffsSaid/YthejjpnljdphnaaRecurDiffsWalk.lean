/- RecurDiffs: the Go text returns true at every input, and writes nothing that was there. -/
import Derived.Test.YthejjpnljdphnaaRec10
import Derived.Test.YthejjpnljdphnaaRows2
namespace Go.Proofs.Ythejjpnljdphnaa.recurDiffsLaw
set_option linter.unusedVariables false
set_option maxRecDepth 100000
open Go.RowKit Go.ChangeShapes Go.WideShapes

theorem nilInts (w : World) (B : Nat) : Ints w B none 0 [] := ⟨rfl, by omega, by simp, fun h => absurd h (by omega)⟩
theorem lit1 : diffErr (recurErr 1 2 1 0 100 [] [] []) (recurErr 1 3 1 0 100 [] [] []) (rangeErr 1 1 5) (rangeErr 1 1 5) = 0 := by decide +kernel
theorem lit2 : rest (daysL 1 2 1 0 100 [] [] [] 1 5) (daysL 1 3 1 0 100 [] [] [] 1 5) = [3, 5] := by decide +kernel
theorem lit3 : rest (daysL 1 3 1 0 100 [] [] [] 1 5) (daysL 1 2 1 0 100 [] [] [] 1 5) = [4] := by decide +kernel
theorem rest_snoc {xs ys : List Int} {k : Nat} {x : Int} (h : xs[k]? = some x) : rest (xs.take (k + 1)) ys = rest (xs.take k) ys ++ (if hasB x ys = true then [] else [x]) := by
  unfold rest
  rw [filter_one _ h]
  cases hasB x ys <;> simp
theorem rest_len (xs ys : List Int) : (rest xs ys).length ≤ xs.length := List.length_filter_le _ _
theorem days_E {u ev f cn un : Int} {ws ms ns : List Int} {a b : Int} (h : recurErr u ev f cn un ws ms ns = 0) : daysErr u ev f cn un ws ms ns a b = rangeErr f a b := by rw [daysErr, h]; simp
set_option maxHeartbeats 8000000 in
theorem core (w : World) (u1 ev1 f1 cn1 un1 : Int) (a11 a12 a13 : Option Addr) (n11 n12 n13 c11 c12 c13 : Nat) (ws1 ms1 ns1 : List Int) (u2 ev2 f2 cn2 un2 : Int) (a21 a22 a23 : Option Addr) (n21 n22 n23 c21 c22 c23 : Nat) (ws2 ms2 ns2 : List Int)
    (h11 : Ints w w.heap.size a11 n11 ws1) (h12 : Ints w w.heap.size a12 n12 ms1) (h13 : Ints w w.heap.size a13 n13 ns1) (k11 : n11 ≤ c11) (m11 : c11 ≤ 9223372036854775807) (k12 : n12 ≤ c12) (m12 : c12 ≤ 9223372036854775807) (k13 : n13 ≤ c13) (m13 : c13 ≤ 9223372036854775807) (h21 : Ints w w.heap.size a21 n21 ws2) (h22 : Ints w w.heap.size a22 n22 ms2) (h23 : Ints w w.heap.size a23 n23 ns2) (k21 : n21 ≤ c21) (m21 : c21 ≤ 9223372036854775807) (k22 : n22 ≤ c22) (m22 : c22 ≤ 9223372036854775807) (k23 : n23 ≤ c23) (m23 : c23 ≤ 9223372036854775807) (a b : Int) :
    Calls Try.prog 4 #[.agg #[.int .i64 u1, .int .i64 ev1, .int .i64 f1, .int .i64 cn1, .int .i64 un1, .slice a11 n11 c11, .slice a12 n12 c12, .slice a13 n13 c13], .agg #[.int .i64 u2, .int .i64 ev2, .int .i64 f2, .int .i64 cn2, .int .i64 un2, .slice a21 n21 c21, .slice a22 n22 c22, .slice a23 n23 c23], .int .i64 a, .int .i64 b] w fun e w' => e = .returned (.bool true) ∧ Below w.heap.size w w' := by
  obtain ⟨i0, hi, hz0, hz1, hz2⟩ := info_parts Try.infoInt'
  have H11 := Lib.hid h11; clear h11
  have H12 := Lib.hid h12; clear h12
  have H13 := Lib.hid h13; clear h13
  have H21 := Lib.hid h21; clear h21
  have H22 := Lib.hid h22; clear h22
  have H23 := Lib.hid h23; clear h23
  go_enter Try.func4, Try.ntmps4
  go_wp2_with fail
  have q1 := (((At.new w (.cells #[.int .i64 u1, .int .i64 ev1, .int .i64 f1, .int .i64 cn1, .int .i64 un1, .slice a11 n11 c11, .slice a12 n12 c12, .slice a13 n13 c13] 24)).alloc (.cells #[.int .i64 u2, .int .i64 ev2, .int .i64 f2, .int .i64 cn2, .int .i64 un2, .slice a21 n21 c21, .slice a22 n22 c22, .slice a23 n23 c23] 24)).alloc (.cells #[.int .i64 1, .int .i64 2, .int .i64 1, .int .i64 0, .int .i64 100, .slice none 0 0, .slice none 0 0, .slice none 0 0] 24)).alloc (.cells #[.int .i64 1, .int .i64 3, .int .i64 1, .int .i64 0, .int .i64 100, .slice none 0 0, .slice none 0 0, .slice none 0 0] 24)
  have q2 := ((At.new1 w (.cells #[.int .i64 u1, .int .i64 ev1, .int .i64 f1, .int .i64 cn1, .int .i64 un1, .slice a11 n11 c11, .slice a12 n12 c12, .slice a13 n13 c13] 24) (.cells #[.int .i64 u2, .int .i64 ev2, .int .i64 f2, .int .i64 cn2, .int .i64 un2, .slice a21 n21 c21, .slice a22 n22 c22, .slice a23 n23 c23] 24)).alloc (.cells #[.int .i64 1, .int .i64 2, .int .i64 1, .int .i64 0, .int .i64 100, .slice none 0 0, .slice none 0 0, .slice none 0 0] 24)).alloc (.cells #[.int .i64 1, .int .i64 3, .int .i64 1, .int .i64 0, .int .i64 100, .slice none 0 0, .slice none 0 0, .slice none 0 0] 24)
  have b0 := below_new (below_new (below_new (below_new (Below.refl w.heap.size w) (.cells #[.int .i64 u1, .int .i64 ev1, .int .i64 f1, .int .i64 cn1, .int .i64 un1, .slice a11 n11 c11, .slice a12 n12 c12, .slice a13 n13 c13] 24)) (.cells #[.int .i64 u2, .int .i64 ev2, .int .i64 f2, .int .i64 cn2, .int .i64 un2, .slice a21 n21 c21, .slice a22 n22 c22, .slice a23 n23 c23] 24)) (.cells #[.int .i64 1, .int .i64 2, .int .i64 1, .int .i64 0, .int .i64 100, .slice none 0 0, .slice none 0 0, .slice none 0 0] 24)) (.cells #[.int .i64 1, .int .i64 3, .int .i64 1, .int .i64 0, .int .i64 100, .slice none 0 0, .slice none 0 0, .slice none 0 0] 24)
  generalize World.alloc (World.alloc (World.alloc (World.alloc w _) _) _) _ = W0 at q1 q2 b0 ⊢
  have K := Lib.hid (show ∀ W, Below W0.heap.size W0 W → At W w.heap.size (.cells #[.int .i64 u1, .int .i64 ev1, .int .i64 f1, .int .i64 cn1, .int .i64 un1, .slice a11 n11 c11, .slice a12 n12 c12, .slice a13 n13 c13] 24) ∧ At W (w.heap.size + 1) (.cells #[.int .i64 u2, .int .i64 ev2, .int .i64 f2, .int .i64 cn2, .int .i64 un2, .slice a21 n21 c21, .slice a22 n22 c22, .slice a23 n23 c23] 24) from fun W h => ⟨q1.then_ h, q2.then_ h⟩)
  have B0 := Lib.hid b0
  clear q1 q2 b0
  refine (recur_Diff W0 1 2 1 0 100 none none none 0 0 0 0 0 0 [] [] [] 1 3 1 0 100 none none none 0 0 0 0 0 0 [] [] [] (nilInts _ _) (nilInts _ _) (nilInts _ _) (by omega) (by omega) (by omega) (by omega) (by omega) (by omega) (nilInts _ _) (nilInts _ _) (nilInts _ _) (by omega) (by omega) (by omega) (by omega) (by omega) (by omega) 1 5).mono ?_
  rw [lit1]
  rintro e w1 hd
  rcases hd with ⟨hn, _⟩ | ⟨_, p1, r1, z1, p2, r2, z2, rfl, hI1, hI2, hb⟩
  · exact absurd rfl hn
  rw [lit2] at hI1
  rw [lit3] at hI2
  obtain rfl : r1 = 2 := hI1.1.symm
  obtain rfl : r2 = 1 := hI2.1.symm
  have B1 := Lib.hid (below_then B0.out hb)
  have R1 := Lib.hid hb
  have I1 := Lib.hid hI1; have I2 := Lib.hid hI2
  clear hI1 hI2 hb
  go_wp2_with fail
  have j1 : Ints (w1.alloc (.cells #[.int .i64 3, .int .i64 5] 3)) (w1.alloc (.cells #[.int .i64 3, .int .i64 5] 3)).heap.size (some ⟨w1.heap.size, 0, none⟩) 2 [3, 5] := At.ints [3, 5] (At.new w1 (.cells #[.int .i64 3, .int .i64 5] 3)) (by intro x hx; simp at hx; unfold I64; omega) (by simp)
  refine (ref_SameInts _ _ _ _ _ _ _ [3, 5] [3, 5] ((I1.out.alloc (Nat.le_refl _) (.cells #[.int .i64 3, .int .i64 5] 3)).more (show w1.heap.size ≤ (w1.alloc (.cells #[.int .i64 3, .int .i64 5] 3)).heap.size by simp)) j1).mono ?_
  rw [show (([3, 5] : List Int) == [3, 5]) = true by decide]
  rintro e w2 ⟨rfl, hdr⟩
  have hb : Below w1.heap.size w1 w2 := below_drawn (below_new (Below.refl _ _) (.cells #[.int .i64 3, .int .i64 5] 3)) hdr
  have B2 := Lib.hid (below_then B1.out hb); have R2 := Lib.hid (R1.out.trans (hb.mono R1.out.size))
  have I3 := Lib.hid (I2.out.far (Below.refl _ _) hb)
  clear hb hdr j1
  go_wp2_with fail
  have j1 : Ints (w2.alloc (.cells #[.int .i64 4] 3)) (w2.alloc (.cells #[.int .i64 4] 3)).heap.size (some ⟨w2.heap.size, 0, none⟩) 1 [4] := At.ints [4] (At.new w2 (.cells #[.int .i64 4] 3)) (by intro x hx; simp at hx; unfold I64; omega) (by simp)
  refine (ref_SameInts _ _ _ _ _ _ _ [4] [4] ((I3.out.alloc (Nat.le_refl _) (.cells #[.int .i64 4] 3)).more (show w2.heap.size ≤ (w2.alloc (.cells #[.int .i64 4] 3)).heap.size by simp)) j1).mono ?_
  rw [show (([4] : List Int) == [4]) = true by decide]
  rintro e w3 ⟨rfl, hdr⟩
  have hb : Below w2.heap.size w2 w3 := below_drawn (below_new (Below.refl _ _) (.cells #[.int .i64 4] 3)) hdr
  have B3 := Lib.hid (below_then B2.out hb); have R3 := Lib.hid (R2.out.trans (hb.mono R2.out.size))
  clear hb hdr j1 I1 I2 I3
  obtain ⟨q1, q2⟩ := K.out w3 R3.out
  have y1_0 : w3.cell? ⟨w.heap.size, 0, none⟩ = some (.int .i64 u1) := q1.cell 0
  have y1_1 : w3.cell? ⟨w.heap.size, 1, none⟩ = some (.int .i64 ev1) := q1.cell 1
  have y1_2 : w3.cell? ⟨w.heap.size, 2, none⟩ = some (.int .i64 f1) := q1.cell 2
  have y1_3 : w3.cell? ⟨w.heap.size, 3, none⟩ = some (.int .i64 cn1) := q1.cell 3
  have y1_4 : w3.cell? ⟨w.heap.size, 4, none⟩ = some (.int .i64 un1) := q1.cell 4
  have y1_5 : w3.cell? ⟨w.heap.size, 5, none⟩ = some (.slice a11 n11 c11) := q1.cell 5
  have y1_6 : w3.cell? ⟨w.heap.size, 6, none⟩ = some (.slice a12 n12 c12) := q1.cell 6
  have y1_7 : w3.cell? ⟨w.heap.size, 7, none⟩ = some (.slice a13 n13 c13) := q1.cell 7
  have y2_0 : w3.cell? ⟨(w.heap.size + 1), 0, none⟩ = some (.int .i64 u2) := q2.cell 0
  have y2_1 : w3.cell? ⟨(w.heap.size + 1), 1, none⟩ = some (.int .i64 ev2) := q2.cell 1
  have y2_2 : w3.cell? ⟨(w.heap.size + 1), 2, none⟩ = some (.int .i64 f2) := q2.cell 2
  have y2_3 : w3.cell? ⟨(w.heap.size + 1), 3, none⟩ = some (.int .i64 cn2) := q2.cell 3
  have y2_4 : w3.cell? ⟨(w.heap.size + 1), 4, none⟩ = some (.int .i64 un2) := q2.cell 4
  have y2_5 : w3.cell? ⟨(w.heap.size + 1), 5, none⟩ = some (.slice a21 n21 c21) := q2.cell 5
  have y2_6 : w3.cell? ⟨(w.heap.size + 1), 6, none⟩ = some (.slice a22 n22 c22) := q2.cell 6
  have y2_7 : w3.cell? ⟨(w.heap.size + 1), 7, none⟩ = some (.slice a23 n23 c23) := q2.cell 7
  clear q1 q2
  go_wp2_with fail
  refine (law_near w3 u1 ev1 f1 cn1 un1 a11 a12 a13 n11 n12 n13 c11 c12 c13 ws1 ms1 ns1 (H11.out.far B3.out (Below.refl _ _)) (H12.out.far B3.out (Below.refl _ _)) (H13.out.far B3.out (Below.refl _ _)) k11 k12 k13 m11 m12 m13 a b).mono ?_
  generalize (nearOut (daysErr u1 ev1 f1 cn1 un1 ws1 ms1 ns1 a b) f1 a b).1 = A
  generalize (nearOut (daysErr u1 ev1 f1 cn1 un1 ws1 ms1 ns1 a b) f1 a b).2 = Bd
  rintro e w4 ⟨rfl, hb⟩
  have B4 := Lib.hid (below_then B3.out hb)
  have R4 := Lib.hid (R3.out.trans (hb.mono R3.out.size))
  clear hb y1_0 y1_1 y1_2 y1_3 y1_4 y1_5 y1_6 y1_7 y2_0 y2_1 y2_2 y2_3 y2_4 y2_5 y2_6 y2_7
  obtain ⟨q1, q2⟩ := K.out w4 R4.out
  have y1_0 : w4.cell? ⟨w.heap.size, 0, none⟩ = some (.int .i64 u1) := q1.cell 0
  have y1_1 : w4.cell? ⟨w.heap.size, 1, none⟩ = some (.int .i64 ev1) := q1.cell 1
  have y1_2 : w4.cell? ⟨w.heap.size, 2, none⟩ = some (.int .i64 f1) := q1.cell 2
  have y1_3 : w4.cell? ⟨w.heap.size, 3, none⟩ = some (.int .i64 cn1) := q1.cell 3
  have y1_4 : w4.cell? ⟨w.heap.size, 4, none⟩ = some (.int .i64 un1) := q1.cell 4
  have y1_5 : w4.cell? ⟨w.heap.size, 5, none⟩ = some (.slice a11 n11 c11) := q1.cell 5
  have y1_6 : w4.cell? ⟨w.heap.size, 6, none⟩ = some (.slice a12 n12 c12) := q1.cell 6
  have y1_7 : w4.cell? ⟨w.heap.size, 7, none⟩ = some (.slice a13 n13 c13) := q1.cell 7
  have y2_0 : w4.cell? ⟨(w.heap.size + 1), 0, none⟩ = some (.int .i64 u2) := q2.cell 0
  have y2_1 : w4.cell? ⟨(w.heap.size + 1), 1, none⟩ = some (.int .i64 ev2) := q2.cell 1
  have y2_2 : w4.cell? ⟨(w.heap.size + 1), 2, none⟩ = some (.int .i64 f2) := q2.cell 2
  have y2_3 : w4.cell? ⟨(w.heap.size + 1), 3, none⟩ = some (.int .i64 cn2) := q2.cell 3
  have y2_4 : w4.cell? ⟨(w.heap.size + 1), 4, none⟩ = some (.int .i64 un2) := q2.cell 4
  have y2_5 : w4.cell? ⟨(w.heap.size + 1), 5, none⟩ = some (.slice a21 n21 c21) := q2.cell 5
  have y2_6 : w4.cell? ⟨(w.heap.size + 1), 6, none⟩ = some (.slice a22 n22 c22) := q2.cell 6
  have y2_7 : w4.cell? ⟨(w.heap.size + 1), 7, none⟩ = some (.slice a23 n23 c23) := q2.cell 7
  clear q1 q2
  obtain ⟨E1, hE1⟩ : ∃ E, E = recurErr u1 ev1 f1 cn1 un1 ws1 ms1 ns1 := ⟨_, rfl⟩
  obtain ⟨E2, hE2⟩ : ∃ E, E = recurErr u2 ev2 f2 cn2 un2 ws2 ms2 ns2 := ⟨_, rfl⟩
  obtain ⟨F1, hF1⟩ : ∃ E, E = rangeErr f1 A Bd := ⟨_, rfl⟩
  obtain ⟨F2, hF2⟩ : ∃ E, E = rangeErr f2 A Bd := ⟨_, rfl⟩
  have XE1 := Lib.hid hE1; have XE2 := Lib.hid hE2; have XF1 := Lib.hid hF1; have XF2 := Lib.hid hF2
  clear hE1 hE2 hF1 hF2
  go_wp2_with fail
  refine (recur_Diff w4 u1 ev1 f1 cn1 un1 a11 a12 a13 n11 n12 n13 c11 c12 c13 ws1 ms1 ns1 u2 ev2 f2 cn2 un2 a21 a22 a23 n21 n22 n23 c21 c22 c23 ws2 ms2 ns2 (H11.out.far B4.out (Below.refl _ _)) (H12.out.far B4.out (Below.refl _ _)) (H13.out.far B4.out (Below.refl _ _)) k11 m11 k12 m12 k13 m13 (H21.out.far B4.out (Below.refl _ _)) (H22.out.far B4.out (Below.refl _ _)) (H23.out.far B4.out (Below.refl _ _)) k21 m21 k22 m22 k23 m23 A Bd).mono ?_
  rw [← XE1.out, ← XE2.out, ← XF1.out, ← XF2.out]
  obtain ⟨XS, hXS⟩ : ∃ X, X = daysL u1 ev1 f1 cn1 un1 ws1 ms1 ns1 A Bd := ⟨_, rfl⟩
  obtain ⟨YS, hYS⟩ : ∃ X, X = daysL u2 ev2 f2 cn2 un2 ws2 ms2 ns2 A Bd := ⟨_, rfl⟩
  rw [← hXS, ← hYS]
  have HXS := Lib.hid hXS; have HYS := Lib.hid hYS
  clear hXS hYS
  rintro e w5 hd
  by_cases e1 : E1 = 0
  case neg =>
    have hde : diffErr E1 E2 F1 F2 = E1 := by rw [diffErr, if_pos e1]
    rw [hde] at hd
    rcases hd with ⟨_, rfl, hb⟩ | ⟨h0, _⟩
    rotate_left
    · exact absurd h0 e1
    have e1' : (E1 == 0) = false := by simpa using e1
    clear hde e1
    have B5 := Lib.hid (below_then B4.out hb)
    have R5 := Lib.hid (R4.out.trans (hb.mono R4.out.size))
    clear hb y1_0 y1_1 y1_2 y1_3 y1_4 y1_5 y1_6 y1_7 y2_0 y2_1 y2_2 y2_3 y2_4 y2_5 y2_6 y2_7
    obtain ⟨q1, q2⟩ := K.out w5 R5.out
    have y1_0 : w5.cell? ⟨w.heap.size, 0, none⟩ = some (.int .i64 u1) := q1.cell 0
    have y1_1 : w5.cell? ⟨w.heap.size, 1, none⟩ = some (.int .i64 ev1) := q1.cell 1
    have y1_2 : w5.cell? ⟨w.heap.size, 2, none⟩ = some (.int .i64 f1) := q1.cell 2
    have y1_3 : w5.cell? ⟨w.heap.size, 3, none⟩ = some (.int .i64 cn1) := q1.cell 3
    have y1_4 : w5.cell? ⟨w.heap.size, 4, none⟩ = some (.int .i64 un1) := q1.cell 4
    have y1_5 : w5.cell? ⟨w.heap.size, 5, none⟩ = some (.slice a11 n11 c11) := q1.cell 5
    have y1_6 : w5.cell? ⟨w.heap.size, 6, none⟩ = some (.slice a12 n12 c12) := q1.cell 6
    have y1_7 : w5.cell? ⟨w.heap.size, 7, none⟩ = some (.slice a13 n13 c13) := q1.cell 7
    have y2_0 : w5.cell? ⟨(w.heap.size + 1), 0, none⟩ = some (.int .i64 u2) := q2.cell 0
    have y2_1 : w5.cell? ⟨(w.heap.size + 1), 1, none⟩ = some (.int .i64 ev2) := q2.cell 1
    have y2_2 : w5.cell? ⟨(w.heap.size + 1), 2, none⟩ = some (.int .i64 f2) := q2.cell 2
    have y2_3 : w5.cell? ⟨(w.heap.size + 1), 3, none⟩ = some (.int .i64 cn2) := q2.cell 3
    have y2_4 : w5.cell? ⟨(w.heap.size + 1), 4, none⟩ = some (.int .i64 un2) := q2.cell 4
    have y2_5 : w5.cell? ⟨(w.heap.size + 1), 5, none⟩ = some (.slice a21 n21 c21) := q2.cell 5
    have y2_6 : w5.cell? ⟨(w.heap.size + 1), 6, none⟩ = some (.slice a22 n22 c22) := q2.cell 6
    have y2_7 : w5.cell? ⟨(w.heap.size + 1), 7, none⟩ = some (.slice a23 n23 c23) := q2.cell 7
    clear q1 q2
    go_wp2_with fail
    refine (ref_RecurError w5 u1 ev1 f1 cn1 un1 a11 a12 a13 n11 n12 n13 c11 c12 c13 ws1 ms1 ns1 (H11.out.far B5.out (Below.refl _ _)) (H12.out.far B5.out (Below.refl _ _)) (H13.out.far B5.out (Below.refl _ _)) k11 k12 k13 m11 m12 m13).mono ?_
    rw [← XE1.out]
    rintro e w10 ⟨rfl, hb⟩
    have B10 := Lib.hid (below_then B5.out hb)
    have R10 := Lib.hid (R5.out.trans (hb.mono R5.out.size))
    clear hb y1_0 y1_1 y1_2 y1_3 y1_4 y1_5 y1_6 y1_7 y2_0 y2_1 y2_2 y2_3 y2_4 y2_5 y2_6 y2_7
    obtain ⟨q1, q2⟩ := K.out w10 R10.out
    have y1_0 : w10.cell? ⟨w.heap.size, 0, none⟩ = some (.int .i64 u1) := q1.cell 0
    have y1_1 : w10.cell? ⟨w.heap.size, 1, none⟩ = some (.int .i64 ev1) := q1.cell 1
    have y1_2 : w10.cell? ⟨w.heap.size, 2, none⟩ = some (.int .i64 f1) := q1.cell 2
    have y1_3 : w10.cell? ⟨w.heap.size, 3, none⟩ = some (.int .i64 cn1) := q1.cell 3
    have y1_4 : w10.cell? ⟨w.heap.size, 4, none⟩ = some (.int .i64 un1) := q1.cell 4
    have y1_5 : w10.cell? ⟨w.heap.size, 5, none⟩ = some (.slice a11 n11 c11) := q1.cell 5
    have y1_6 : w10.cell? ⟨w.heap.size, 6, none⟩ = some (.slice a12 n12 c12) := q1.cell 6
    have y1_7 : w10.cell? ⟨w.heap.size, 7, none⟩ = some (.slice a13 n13 c13) := q1.cell 7
    have y2_0 : w10.cell? ⟨(w.heap.size + 1), 0, none⟩ = some (.int .i64 u2) := q2.cell 0
    have y2_1 : w10.cell? ⟨(w.heap.size + 1), 1, none⟩ = some (.int .i64 ev2) := q2.cell 1
    have y2_2 : w10.cell? ⟨(w.heap.size + 1), 2, none⟩ = some (.int .i64 f2) := q2.cell 2
    have y2_3 : w10.cell? ⟨(w.heap.size + 1), 3, none⟩ = some (.int .i64 cn2) := q2.cell 3
    have y2_4 : w10.cell? ⟨(w.heap.size + 1), 4, none⟩ = some (.int .i64 un2) := q2.cell 4
    have y2_5 : w10.cell? ⟨(w.heap.size + 1), 5, none⟩ = some (.slice a21 n21 c21) := q2.cell 5
    have y2_6 : w10.cell? ⟨(w.heap.size + 1), 6, none⟩ = some (.slice a22 n22 c22) := q2.cell 6
    have y2_7 : w10.cell? ⟨(w.heap.size + 1), 7, none⟩ = some (.slice a23 n23 c23) := q2.cell 7
    clear q1 q2
    go_wp2_with fail
    go_ret
    exact ⟨ret_bool (by simp), B10.out⟩
  subst e1
  by_cases e2 : E2 = 0
  case neg =>
    have hde : diffErr 0 E2 F1 F2 = E2 := by rw [diffErr, if_neg (by simp), if_pos e2]
    rw [hde] at hd
    rcases hd with ⟨_, rfl, hb⟩ | ⟨h0, _⟩
    rotate_left
    · exact absurd h0 e2
    have e2' : (E2 == 0) = false := by simpa using e2
    clear hde e2
    have B5 := Lib.hid (below_then B4.out hb)
    have R5 := Lib.hid (R4.out.trans (hb.mono R4.out.size))
    clear hb y1_0 y1_1 y1_2 y1_3 y1_4 y1_5 y1_6 y1_7 y2_0 y2_1 y2_2 y2_3 y2_4 y2_5 y2_6 y2_7
    obtain ⟨q1, q2⟩ := K.out w5 R5.out
    have y1_0 : w5.cell? ⟨w.heap.size, 0, none⟩ = some (.int .i64 u1) := q1.cell 0
    have y1_1 : w5.cell? ⟨w.heap.size, 1, none⟩ = some (.int .i64 ev1) := q1.cell 1
    have y1_2 : w5.cell? ⟨w.heap.size, 2, none⟩ = some (.int .i64 f1) := q1.cell 2
    have y1_3 : w5.cell? ⟨w.heap.size, 3, none⟩ = some (.int .i64 cn1) := q1.cell 3
    have y1_4 : w5.cell? ⟨w.heap.size, 4, none⟩ = some (.int .i64 un1) := q1.cell 4
    have y1_5 : w5.cell? ⟨w.heap.size, 5, none⟩ = some (.slice a11 n11 c11) := q1.cell 5
    have y1_6 : w5.cell? ⟨w.heap.size, 6, none⟩ = some (.slice a12 n12 c12) := q1.cell 6
    have y1_7 : w5.cell? ⟨w.heap.size, 7, none⟩ = some (.slice a13 n13 c13) := q1.cell 7
    have y2_0 : w5.cell? ⟨(w.heap.size + 1), 0, none⟩ = some (.int .i64 u2) := q2.cell 0
    have y2_1 : w5.cell? ⟨(w.heap.size + 1), 1, none⟩ = some (.int .i64 ev2) := q2.cell 1
    have y2_2 : w5.cell? ⟨(w.heap.size + 1), 2, none⟩ = some (.int .i64 f2) := q2.cell 2
    have y2_3 : w5.cell? ⟨(w.heap.size + 1), 3, none⟩ = some (.int .i64 cn2) := q2.cell 3
    have y2_4 : w5.cell? ⟨(w.heap.size + 1), 4, none⟩ = some (.int .i64 un2) := q2.cell 4
    have y2_5 : w5.cell? ⟨(w.heap.size + 1), 5, none⟩ = some (.slice a21 n21 c21) := q2.cell 5
    have y2_6 : w5.cell? ⟨(w.heap.size + 1), 6, none⟩ = some (.slice a22 n22 c22) := q2.cell 6
    have y2_7 : w5.cell? ⟨(w.heap.size + 1), 7, none⟩ = some (.slice a23 n23 c23) := q2.cell 7
    clear q1 q2
    go_wp2_with fail
    refine (ref_RecurError w5 u1 ev1 f1 cn1 un1 a11 a12 a13 n11 n12 n13 c11 c12 c13 ws1 ms1 ns1 (H11.out.far B5.out (Below.refl _ _)) (H12.out.far B5.out (Below.refl _ _)) (H13.out.far B5.out (Below.refl _ _)) k11 k12 k13 m11 m12 m13).mono ?_
    rw [← XE1.out]
    rintro e w10 ⟨rfl, hb⟩
    have B10 := Lib.hid (below_then B5.out hb)
    have R10 := Lib.hid (R5.out.trans (hb.mono R5.out.size))
    clear hb y1_0 y1_1 y1_2 y1_3 y1_4 y1_5 y1_6 y1_7 y2_0 y2_1 y2_2 y2_3 y2_4 y2_5 y2_6 y2_7
    obtain ⟨q1, q2⟩ := K.out w10 R10.out
    have y1_0 : w10.cell? ⟨w.heap.size, 0, none⟩ = some (.int .i64 u1) := q1.cell 0
    have y1_1 : w10.cell? ⟨w.heap.size, 1, none⟩ = some (.int .i64 ev1) := q1.cell 1
    have y1_2 : w10.cell? ⟨w.heap.size, 2, none⟩ = some (.int .i64 f1) := q1.cell 2
    have y1_3 : w10.cell? ⟨w.heap.size, 3, none⟩ = some (.int .i64 cn1) := q1.cell 3
    have y1_4 : w10.cell? ⟨w.heap.size, 4, none⟩ = some (.int .i64 un1) := q1.cell 4
    have y1_5 : w10.cell? ⟨w.heap.size, 5, none⟩ = some (.slice a11 n11 c11) := q1.cell 5
    have y1_6 : w10.cell? ⟨w.heap.size, 6, none⟩ = some (.slice a12 n12 c12) := q1.cell 6
    have y1_7 : w10.cell? ⟨w.heap.size, 7, none⟩ = some (.slice a13 n13 c13) := q1.cell 7
    have y2_0 : w10.cell? ⟨(w.heap.size + 1), 0, none⟩ = some (.int .i64 u2) := q2.cell 0
    have y2_1 : w10.cell? ⟨(w.heap.size + 1), 1, none⟩ = some (.int .i64 ev2) := q2.cell 1
    have y2_2 : w10.cell? ⟨(w.heap.size + 1), 2, none⟩ = some (.int .i64 f2) := q2.cell 2
    have y2_3 : w10.cell? ⟨(w.heap.size + 1), 3, none⟩ = some (.int .i64 cn2) := q2.cell 3
    have y2_4 : w10.cell? ⟨(w.heap.size + 1), 4, none⟩ = some (.int .i64 un2) := q2.cell 4
    have y2_5 : w10.cell? ⟨(w.heap.size + 1), 5, none⟩ = some (.slice a21 n21 c21) := q2.cell 5
    have y2_6 : w10.cell? ⟨(w.heap.size + 1), 6, none⟩ = some (.slice a22 n22 c22) := q2.cell 6
    have y2_7 : w10.cell? ⟨(w.heap.size + 1), 7, none⟩ = some (.slice a23 n23 c23) := q2.cell 7
    clear q1 q2
    go_wp2_with fail
    refine (ref_RecurError w10 u2 ev2 f2 cn2 un2 a21 a22 a23 n21 n22 n23 c21 c22 c23 ws2 ms2 ns2 (H21.out.far B10.out (Below.refl _ _)) (H22.out.far B10.out (Below.refl _ _)) (H23.out.far B10.out (Below.refl _ _)) k21 k22 k23 m21 m22 m23).mono ?_
    rw [← XE2.out]
    rintro e w11 ⟨rfl, hb⟩
    have B11 := Lib.hid (below_then B10.out hb)
    have R11 := Lib.hid (R10.out.trans (hb.mono R10.out.size))
    clear hb y1_0 y1_1 y1_2 y1_3 y1_4 y1_5 y1_6 y1_7 y2_0 y2_1 y2_2 y2_3 y2_4 y2_5 y2_6 y2_7
    obtain ⟨q1, q2⟩ := K.out w11 R11.out
    have y1_0 : w11.cell? ⟨w.heap.size, 0, none⟩ = some (.int .i64 u1) := q1.cell 0
    have y1_1 : w11.cell? ⟨w.heap.size, 1, none⟩ = some (.int .i64 ev1) := q1.cell 1
    have y1_2 : w11.cell? ⟨w.heap.size, 2, none⟩ = some (.int .i64 f1) := q1.cell 2
    have y1_3 : w11.cell? ⟨w.heap.size, 3, none⟩ = some (.int .i64 cn1) := q1.cell 3
    have y1_4 : w11.cell? ⟨w.heap.size, 4, none⟩ = some (.int .i64 un1) := q1.cell 4
    have y1_5 : w11.cell? ⟨w.heap.size, 5, none⟩ = some (.slice a11 n11 c11) := q1.cell 5
    have y1_6 : w11.cell? ⟨w.heap.size, 6, none⟩ = some (.slice a12 n12 c12) := q1.cell 6
    have y1_7 : w11.cell? ⟨w.heap.size, 7, none⟩ = some (.slice a13 n13 c13) := q1.cell 7
    have y2_0 : w11.cell? ⟨(w.heap.size + 1), 0, none⟩ = some (.int .i64 u2) := q2.cell 0
    have y2_1 : w11.cell? ⟨(w.heap.size + 1), 1, none⟩ = some (.int .i64 ev2) := q2.cell 1
    have y2_2 : w11.cell? ⟨(w.heap.size + 1), 2, none⟩ = some (.int .i64 f2) := q2.cell 2
    have y2_3 : w11.cell? ⟨(w.heap.size + 1), 3, none⟩ = some (.int .i64 cn2) := q2.cell 3
    have y2_4 : w11.cell? ⟨(w.heap.size + 1), 4, none⟩ = some (.int .i64 un2) := q2.cell 4
    have y2_5 : w11.cell? ⟨(w.heap.size + 1), 5, none⟩ = some (.slice a21 n21 c21) := q2.cell 5
    have y2_6 : w11.cell? ⟨(w.heap.size + 1), 6, none⟩ = some (.slice a22 n22 c22) := q2.cell 6
    have y2_7 : w11.cell? ⟨(w.heap.size + 1), 7, none⟩ = some (.slice a23 n23 c23) := q2.cell 7
    clear q1 q2
    go_wp2_with fail
    go_ret
    exact ⟨ret_bool (by simp), B11.out⟩
  subst e2
  have DE1 := Lib.hid (show daysErr u1 ev1 f1 cn1 un1 ws1 ms1 ns1 A Bd = F1 by rw [days_E XE1.out.symm, XF1.out])
  have DE2 := Lib.hid (show daysErr u2 ev2 f2 cn2 un2 ws2 ms2 ns2 A Bd = F2 by rw [days_E XE2.out.symm, XF2.out])
  by_cases f1z : F1 = 0
  case neg =>
    have hde : diffErr 0 0 F1 F2 = F1 := by rw [diffErr, if_neg (by simp), if_neg (by simp), if_pos f1z]
    rw [hde] at hd
    rcases hd with ⟨_, rfl, hb⟩ | ⟨h0, _⟩
    rotate_left
    · exact absurd h0 f1z
    have e2' : (F1 == 0) = false := by simpa using f1z
    clear hde f1z
    have B5 := Lib.hid (below_then B4.out hb)
    have R5 := Lib.hid (R4.out.trans (hb.mono R4.out.size))
    clear hb y1_0 y1_1 y1_2 y1_3 y1_4 y1_5 y1_6 y1_7 y2_0 y2_1 y2_2 y2_3 y2_4 y2_5 y2_6 y2_7
    obtain ⟨q1, q2⟩ := K.out w5 R5.out
    have y1_0 : w5.cell? ⟨w.heap.size, 0, none⟩ = some (.int .i64 u1) := q1.cell 0
    have y1_1 : w5.cell? ⟨w.heap.size, 1, none⟩ = some (.int .i64 ev1) := q1.cell 1
    have y1_2 : w5.cell? ⟨w.heap.size, 2, none⟩ = some (.int .i64 f1) := q1.cell 2
    have y1_3 : w5.cell? ⟨w.heap.size, 3, none⟩ = some (.int .i64 cn1) := q1.cell 3
    have y1_4 : w5.cell? ⟨w.heap.size, 4, none⟩ = some (.int .i64 un1) := q1.cell 4
    have y1_5 : w5.cell? ⟨w.heap.size, 5, none⟩ = some (.slice a11 n11 c11) := q1.cell 5
    have y1_6 : w5.cell? ⟨w.heap.size, 6, none⟩ = some (.slice a12 n12 c12) := q1.cell 6
    have y1_7 : w5.cell? ⟨w.heap.size, 7, none⟩ = some (.slice a13 n13 c13) := q1.cell 7
    have y2_0 : w5.cell? ⟨(w.heap.size + 1), 0, none⟩ = some (.int .i64 u2) := q2.cell 0
    have y2_1 : w5.cell? ⟨(w.heap.size + 1), 1, none⟩ = some (.int .i64 ev2) := q2.cell 1
    have y2_2 : w5.cell? ⟨(w.heap.size + 1), 2, none⟩ = some (.int .i64 f2) := q2.cell 2
    have y2_3 : w5.cell? ⟨(w.heap.size + 1), 3, none⟩ = some (.int .i64 cn2) := q2.cell 3
    have y2_4 : w5.cell? ⟨(w.heap.size + 1), 4, none⟩ = some (.int .i64 un2) := q2.cell 4
    have y2_5 : w5.cell? ⟨(w.heap.size + 1), 5, none⟩ = some (.slice a21 n21 c21) := q2.cell 5
    have y2_6 : w5.cell? ⟨(w.heap.size + 1), 6, none⟩ = some (.slice a22 n22 c22) := q2.cell 6
    have y2_7 : w5.cell? ⟨(w.heap.size + 1), 7, none⟩ = some (.slice a23 n23 c23) := q2.cell 7
    clear q1 q2
    go_wp2_with fail
    refine (ref_RecurError w5 u1 ev1 f1 cn1 un1 a11 a12 a13 n11 n12 n13 c11 c12 c13 ws1 ms1 ns1 (H11.out.far B5.out (Below.refl _ _)) (H12.out.far B5.out (Below.refl _ _)) (H13.out.far B5.out (Below.refl _ _)) k11 k12 k13 m11 m12 m13).mono ?_
    rw [← XE1.out]
    rintro e w10 ⟨rfl, hb⟩
    have B10 := Lib.hid (below_then B5.out hb)
    have R10 := Lib.hid (R5.out.trans (hb.mono R5.out.size))
    clear hb y1_0 y1_1 y1_2 y1_3 y1_4 y1_5 y1_6 y1_7 y2_0 y2_1 y2_2 y2_3 y2_4 y2_5 y2_6 y2_7
    obtain ⟨q1, q2⟩ := K.out w10 R10.out
    have y1_0 : w10.cell? ⟨w.heap.size, 0, none⟩ = some (.int .i64 u1) := q1.cell 0
    have y1_1 : w10.cell? ⟨w.heap.size, 1, none⟩ = some (.int .i64 ev1) := q1.cell 1
    have y1_2 : w10.cell? ⟨w.heap.size, 2, none⟩ = some (.int .i64 f1) := q1.cell 2
    have y1_3 : w10.cell? ⟨w.heap.size, 3, none⟩ = some (.int .i64 cn1) := q1.cell 3
    have y1_4 : w10.cell? ⟨w.heap.size, 4, none⟩ = some (.int .i64 un1) := q1.cell 4
    have y1_5 : w10.cell? ⟨w.heap.size, 5, none⟩ = some (.slice a11 n11 c11) := q1.cell 5
    have y1_6 : w10.cell? ⟨w.heap.size, 6, none⟩ = some (.slice a12 n12 c12) := q1.cell 6
    have y1_7 : w10.cell? ⟨w.heap.size, 7, none⟩ = some (.slice a13 n13 c13) := q1.cell 7
    have y2_0 : w10.cell? ⟨(w.heap.size + 1), 0, none⟩ = some (.int .i64 u2) := q2.cell 0
    have y2_1 : w10.cell? ⟨(w.heap.size + 1), 1, none⟩ = some (.int .i64 ev2) := q2.cell 1
    have y2_2 : w10.cell? ⟨(w.heap.size + 1), 2, none⟩ = some (.int .i64 f2) := q2.cell 2
    have y2_3 : w10.cell? ⟨(w.heap.size + 1), 3, none⟩ = some (.int .i64 cn2) := q2.cell 3
    have y2_4 : w10.cell? ⟨(w.heap.size + 1), 4, none⟩ = some (.int .i64 un2) := q2.cell 4
    have y2_5 : w10.cell? ⟨(w.heap.size + 1), 5, none⟩ = some (.slice a21 n21 c21) := q2.cell 5
    have y2_6 : w10.cell? ⟨(w.heap.size + 1), 6, none⟩ = some (.slice a22 n22 c22) := q2.cell 6
    have y2_7 : w10.cell? ⟨(w.heap.size + 1), 7, none⟩ = some (.slice a23 n23 c23) := q2.cell 7
    clear q1 q2
    go_wp2_with fail
    refine (ref_RecurError w10 u2 ev2 f2 cn2 un2 a21 a22 a23 n21 n22 n23 c21 c22 c23 ws2 ms2 ns2 (H21.out.far B10.out (Below.refl _ _)) (H22.out.far B10.out (Below.refl _ _)) (H23.out.far B10.out (Below.refl _ _)) k21 k22 k23 m21 m22 m23).mono ?_
    rw [← XE2.out]
    rintro e w11 ⟨rfl, hb⟩
    have B11 := Lib.hid (below_then B10.out hb)
    have R11 := Lib.hid (R10.out.trans (hb.mono R10.out.size))
    clear hb y1_0 y1_1 y1_2 y1_3 y1_4 y1_5 y1_6 y1_7 y2_0 y2_1 y2_2 y2_3 y2_4 y2_5 y2_6 y2_7
    obtain ⟨q1, q2⟩ := K.out w11 R11.out
    have y1_0 : w11.cell? ⟨w.heap.size, 0, none⟩ = some (.int .i64 u1) := q1.cell 0
    have y1_1 : w11.cell? ⟨w.heap.size, 1, none⟩ = some (.int .i64 ev1) := q1.cell 1
    have y1_2 : w11.cell? ⟨w.heap.size, 2, none⟩ = some (.int .i64 f1) := q1.cell 2
    have y1_3 : w11.cell? ⟨w.heap.size, 3, none⟩ = some (.int .i64 cn1) := q1.cell 3
    have y1_4 : w11.cell? ⟨w.heap.size, 4, none⟩ = some (.int .i64 un1) := q1.cell 4
    have y1_5 : w11.cell? ⟨w.heap.size, 5, none⟩ = some (.slice a11 n11 c11) := q1.cell 5
    have y1_6 : w11.cell? ⟨w.heap.size, 6, none⟩ = some (.slice a12 n12 c12) := q1.cell 6
    have y1_7 : w11.cell? ⟨w.heap.size, 7, none⟩ = some (.slice a13 n13 c13) := q1.cell 7
    have y2_0 : w11.cell? ⟨(w.heap.size + 1), 0, none⟩ = some (.int .i64 u2) := q2.cell 0
    have y2_1 : w11.cell? ⟨(w.heap.size + 1), 1, none⟩ = some (.int .i64 ev2) := q2.cell 1
    have y2_2 : w11.cell? ⟨(w.heap.size + 1), 2, none⟩ = some (.int .i64 f2) := q2.cell 2
    have y2_3 : w11.cell? ⟨(w.heap.size + 1), 3, none⟩ = some (.int .i64 cn2) := q2.cell 3
    have y2_4 : w11.cell? ⟨(w.heap.size + 1), 4, none⟩ = some (.int .i64 un2) := q2.cell 4
    have y2_5 : w11.cell? ⟨(w.heap.size + 1), 5, none⟩ = some (.slice a21 n21 c21) := q2.cell 5
    have y2_6 : w11.cell? ⟨(w.heap.size + 1), 6, none⟩ = some (.slice a22 n22 c22) := q2.cell 6
    have y2_7 : w11.cell? ⟨(w.heap.size + 1), 7, none⟩ = some (.slice a23 n23 c23) := q2.cell 7
    clear q1 q2
    go_wp2_with fail
    refine (law_recurError w11 u1 ev1 f1 cn1 un1 a11 a12 a13 n11 n12 n13 c11 c12 c13 ws1 ms1 ns1 (H11.out.far B11.out (Below.refl _ _)) (H12.out.far B11.out (Below.refl _ _)) (H13.out.far B11.out (Below.refl _ _)) k11 k12 k13 m11 m12 m13 A Bd).mono ?_
    rw [DE1.out]
    rintro e w12 ⟨rfl, hb⟩
    have B12 := Lib.hid (below_then B11.out hb)
    have R12 := Lib.hid (R11.out.trans (hb.mono R11.out.size))
    clear hb y1_0 y1_1 y1_2 y1_3 y1_4 y1_5 y1_6 y1_7 y2_0 y2_1 y2_2 y2_3 y2_4 y2_5 y2_6 y2_7
    obtain ⟨q1, q2⟩ := K.out w12 R12.out
    have y1_0 : w12.cell? ⟨w.heap.size, 0, none⟩ = some (.int .i64 u1) := q1.cell 0
    have y1_1 : w12.cell? ⟨w.heap.size, 1, none⟩ = some (.int .i64 ev1) := q1.cell 1
    have y1_2 : w12.cell? ⟨w.heap.size, 2, none⟩ = some (.int .i64 f1) := q1.cell 2
    have y1_3 : w12.cell? ⟨w.heap.size, 3, none⟩ = some (.int .i64 cn1) := q1.cell 3
    have y1_4 : w12.cell? ⟨w.heap.size, 4, none⟩ = some (.int .i64 un1) := q1.cell 4
    have y1_5 : w12.cell? ⟨w.heap.size, 5, none⟩ = some (.slice a11 n11 c11) := q1.cell 5
    have y1_6 : w12.cell? ⟨w.heap.size, 6, none⟩ = some (.slice a12 n12 c12) := q1.cell 6
    have y1_7 : w12.cell? ⟨w.heap.size, 7, none⟩ = some (.slice a13 n13 c13) := q1.cell 7
    have y2_0 : w12.cell? ⟨(w.heap.size + 1), 0, none⟩ = some (.int .i64 u2) := q2.cell 0
    have y2_1 : w12.cell? ⟨(w.heap.size + 1), 1, none⟩ = some (.int .i64 ev2) := q2.cell 1
    have y2_2 : w12.cell? ⟨(w.heap.size + 1), 2, none⟩ = some (.int .i64 f2) := q2.cell 2
    have y2_3 : w12.cell? ⟨(w.heap.size + 1), 3, none⟩ = some (.int .i64 cn2) := q2.cell 3
    have y2_4 : w12.cell? ⟨(w.heap.size + 1), 4, none⟩ = some (.int .i64 un2) := q2.cell 4
    have y2_5 : w12.cell? ⟨(w.heap.size + 1), 5, none⟩ = some (.slice a21 n21 c21) := q2.cell 5
    have y2_6 : w12.cell? ⟨(w.heap.size + 1), 6, none⟩ = some (.slice a22 n22 c22) := q2.cell 6
    have y2_7 : w12.cell? ⟨(w.heap.size + 1), 7, none⟩ = some (.slice a23 n23 c23) := q2.cell 7
    clear q1 q2
    go_wp2_with fail
    go_ret
    exact ⟨ret_bool (by simp), B12.out⟩
  subst f1z
  by_cases f2z : F2 = 0
  case neg =>
    have hde : diffErr 0 0 0 F2 = F2 := by rw [diffErr, if_neg (by simp), if_neg (by simp), if_neg (by simp)]
    rw [hde] at hd
    rcases hd with ⟨_, rfl, hb⟩ | ⟨h0, _⟩
    rotate_left
    · exact absurd h0 f2z
    have e2' : (F2 == 0) = false := by simpa using f2z
    clear hde f2z
    have B5 := Lib.hid (below_then B4.out hb)
    have R5 := Lib.hid (R4.out.trans (hb.mono R4.out.size))
    clear hb y1_0 y1_1 y1_2 y1_3 y1_4 y1_5 y1_6 y1_7 y2_0 y2_1 y2_2 y2_3 y2_4 y2_5 y2_6 y2_7
    obtain ⟨q1, q2⟩ := K.out w5 R5.out
    have y1_0 : w5.cell? ⟨w.heap.size, 0, none⟩ = some (.int .i64 u1) := q1.cell 0
    have y1_1 : w5.cell? ⟨w.heap.size, 1, none⟩ = some (.int .i64 ev1) := q1.cell 1
    have y1_2 : w5.cell? ⟨w.heap.size, 2, none⟩ = some (.int .i64 f1) := q1.cell 2
    have y1_3 : w5.cell? ⟨w.heap.size, 3, none⟩ = some (.int .i64 cn1) := q1.cell 3
    have y1_4 : w5.cell? ⟨w.heap.size, 4, none⟩ = some (.int .i64 un1) := q1.cell 4
    have y1_5 : w5.cell? ⟨w.heap.size, 5, none⟩ = some (.slice a11 n11 c11) := q1.cell 5
    have y1_6 : w5.cell? ⟨w.heap.size, 6, none⟩ = some (.slice a12 n12 c12) := q1.cell 6
    have y1_7 : w5.cell? ⟨w.heap.size, 7, none⟩ = some (.slice a13 n13 c13) := q1.cell 7
    have y2_0 : w5.cell? ⟨(w.heap.size + 1), 0, none⟩ = some (.int .i64 u2) := q2.cell 0
    have y2_1 : w5.cell? ⟨(w.heap.size + 1), 1, none⟩ = some (.int .i64 ev2) := q2.cell 1
    have y2_2 : w5.cell? ⟨(w.heap.size + 1), 2, none⟩ = some (.int .i64 f2) := q2.cell 2
    have y2_3 : w5.cell? ⟨(w.heap.size + 1), 3, none⟩ = some (.int .i64 cn2) := q2.cell 3
    have y2_4 : w5.cell? ⟨(w.heap.size + 1), 4, none⟩ = some (.int .i64 un2) := q2.cell 4
    have y2_5 : w5.cell? ⟨(w.heap.size + 1), 5, none⟩ = some (.slice a21 n21 c21) := q2.cell 5
    have y2_6 : w5.cell? ⟨(w.heap.size + 1), 6, none⟩ = some (.slice a22 n22 c22) := q2.cell 6
    have y2_7 : w5.cell? ⟨(w.heap.size + 1), 7, none⟩ = some (.slice a23 n23 c23) := q2.cell 7
    clear q1 q2
    go_wp2_with fail
    refine (ref_RecurError w5 u1 ev1 f1 cn1 un1 a11 a12 a13 n11 n12 n13 c11 c12 c13 ws1 ms1 ns1 (H11.out.far B5.out (Below.refl _ _)) (H12.out.far B5.out (Below.refl _ _)) (H13.out.far B5.out (Below.refl _ _)) k11 k12 k13 m11 m12 m13).mono ?_
    rw [← XE1.out]
    rintro e w10 ⟨rfl, hb⟩
    have B10 := Lib.hid (below_then B5.out hb)
    have R10 := Lib.hid (R5.out.trans (hb.mono R5.out.size))
    clear hb y1_0 y1_1 y1_2 y1_3 y1_4 y1_5 y1_6 y1_7 y2_0 y2_1 y2_2 y2_3 y2_4 y2_5 y2_6 y2_7
    obtain ⟨q1, q2⟩ := K.out w10 R10.out
    have y1_0 : w10.cell? ⟨w.heap.size, 0, none⟩ = some (.int .i64 u1) := q1.cell 0
    have y1_1 : w10.cell? ⟨w.heap.size, 1, none⟩ = some (.int .i64 ev1) := q1.cell 1
    have y1_2 : w10.cell? ⟨w.heap.size, 2, none⟩ = some (.int .i64 f1) := q1.cell 2
    have y1_3 : w10.cell? ⟨w.heap.size, 3, none⟩ = some (.int .i64 cn1) := q1.cell 3
    have y1_4 : w10.cell? ⟨w.heap.size, 4, none⟩ = some (.int .i64 un1) := q1.cell 4
    have y1_5 : w10.cell? ⟨w.heap.size, 5, none⟩ = some (.slice a11 n11 c11) := q1.cell 5
    have y1_6 : w10.cell? ⟨w.heap.size, 6, none⟩ = some (.slice a12 n12 c12) := q1.cell 6
    have y1_7 : w10.cell? ⟨w.heap.size, 7, none⟩ = some (.slice a13 n13 c13) := q1.cell 7
    have y2_0 : w10.cell? ⟨(w.heap.size + 1), 0, none⟩ = some (.int .i64 u2) := q2.cell 0
    have y2_1 : w10.cell? ⟨(w.heap.size + 1), 1, none⟩ = some (.int .i64 ev2) := q2.cell 1
    have y2_2 : w10.cell? ⟨(w.heap.size + 1), 2, none⟩ = some (.int .i64 f2) := q2.cell 2
    have y2_3 : w10.cell? ⟨(w.heap.size + 1), 3, none⟩ = some (.int .i64 cn2) := q2.cell 3
    have y2_4 : w10.cell? ⟨(w.heap.size + 1), 4, none⟩ = some (.int .i64 un2) := q2.cell 4
    have y2_5 : w10.cell? ⟨(w.heap.size + 1), 5, none⟩ = some (.slice a21 n21 c21) := q2.cell 5
    have y2_6 : w10.cell? ⟨(w.heap.size + 1), 6, none⟩ = some (.slice a22 n22 c22) := q2.cell 6
    have y2_7 : w10.cell? ⟨(w.heap.size + 1), 7, none⟩ = some (.slice a23 n23 c23) := q2.cell 7
    clear q1 q2
    go_wp2_with fail
    refine (ref_RecurError w10 u2 ev2 f2 cn2 un2 a21 a22 a23 n21 n22 n23 c21 c22 c23 ws2 ms2 ns2 (H21.out.far B10.out (Below.refl _ _)) (H22.out.far B10.out (Below.refl _ _)) (H23.out.far B10.out (Below.refl _ _)) k21 k22 k23 m21 m22 m23).mono ?_
    rw [← XE2.out]
    rintro e w11 ⟨rfl, hb⟩
    have B11 := Lib.hid (below_then B10.out hb)
    have R11 := Lib.hid (R10.out.trans (hb.mono R10.out.size))
    clear hb y1_0 y1_1 y1_2 y1_3 y1_4 y1_5 y1_6 y1_7 y2_0 y2_1 y2_2 y2_3 y2_4 y2_5 y2_6 y2_7
    obtain ⟨q1, q2⟩ := K.out w11 R11.out
    have y1_0 : w11.cell? ⟨w.heap.size, 0, none⟩ = some (.int .i64 u1) := q1.cell 0
    have y1_1 : w11.cell? ⟨w.heap.size, 1, none⟩ = some (.int .i64 ev1) := q1.cell 1
    have y1_2 : w11.cell? ⟨w.heap.size, 2, none⟩ = some (.int .i64 f1) := q1.cell 2
    have y1_3 : w11.cell? ⟨w.heap.size, 3, none⟩ = some (.int .i64 cn1) := q1.cell 3
    have y1_4 : w11.cell? ⟨w.heap.size, 4, none⟩ = some (.int .i64 un1) := q1.cell 4
    have y1_5 : w11.cell? ⟨w.heap.size, 5, none⟩ = some (.slice a11 n11 c11) := q1.cell 5
    have y1_6 : w11.cell? ⟨w.heap.size, 6, none⟩ = some (.slice a12 n12 c12) := q1.cell 6
    have y1_7 : w11.cell? ⟨w.heap.size, 7, none⟩ = some (.slice a13 n13 c13) := q1.cell 7
    have y2_0 : w11.cell? ⟨(w.heap.size + 1), 0, none⟩ = some (.int .i64 u2) := q2.cell 0
    have y2_1 : w11.cell? ⟨(w.heap.size + 1), 1, none⟩ = some (.int .i64 ev2) := q2.cell 1
    have y2_2 : w11.cell? ⟨(w.heap.size + 1), 2, none⟩ = some (.int .i64 f2) := q2.cell 2
    have y2_3 : w11.cell? ⟨(w.heap.size + 1), 3, none⟩ = some (.int .i64 cn2) := q2.cell 3
    have y2_4 : w11.cell? ⟨(w.heap.size + 1), 4, none⟩ = some (.int .i64 un2) := q2.cell 4
    have y2_5 : w11.cell? ⟨(w.heap.size + 1), 5, none⟩ = some (.slice a21 n21 c21) := q2.cell 5
    have y2_6 : w11.cell? ⟨(w.heap.size + 1), 6, none⟩ = some (.slice a22 n22 c22) := q2.cell 6
    have y2_7 : w11.cell? ⟨(w.heap.size + 1), 7, none⟩ = some (.slice a23 n23 c23) := q2.cell 7
    clear q1 q2
    go_wp2_with fail
    refine (law_recurError w11 u1 ev1 f1 cn1 un1 a11 a12 a13 n11 n12 n13 c11 c12 c13 ws1 ms1 ns1 (H11.out.far B11.out (Below.refl _ _)) (H12.out.far B11.out (Below.refl _ _)) (H13.out.far B11.out (Below.refl _ _)) k11 k12 k13 m11 m12 m13 A Bd).mono ?_
    rw [DE1.out]
    rintro e w12 ⟨rfl, hb⟩
    have B12 := Lib.hid (below_then B11.out hb)
    have R12 := Lib.hid (R11.out.trans (hb.mono R11.out.size))
    clear hb y1_0 y1_1 y1_2 y1_3 y1_4 y1_5 y1_6 y1_7 y2_0 y2_1 y2_2 y2_3 y2_4 y2_5 y2_6 y2_7
    obtain ⟨q1, q2⟩ := K.out w12 R12.out
    have y1_0 : w12.cell? ⟨w.heap.size, 0, none⟩ = some (.int .i64 u1) := q1.cell 0
    have y1_1 : w12.cell? ⟨w.heap.size, 1, none⟩ = some (.int .i64 ev1) := q1.cell 1
    have y1_2 : w12.cell? ⟨w.heap.size, 2, none⟩ = some (.int .i64 f1) := q1.cell 2
    have y1_3 : w12.cell? ⟨w.heap.size, 3, none⟩ = some (.int .i64 cn1) := q1.cell 3
    have y1_4 : w12.cell? ⟨w.heap.size, 4, none⟩ = some (.int .i64 un1) := q1.cell 4
    have y1_5 : w12.cell? ⟨w.heap.size, 5, none⟩ = some (.slice a11 n11 c11) := q1.cell 5
    have y1_6 : w12.cell? ⟨w.heap.size, 6, none⟩ = some (.slice a12 n12 c12) := q1.cell 6
    have y1_7 : w12.cell? ⟨w.heap.size, 7, none⟩ = some (.slice a13 n13 c13) := q1.cell 7
    have y2_0 : w12.cell? ⟨(w.heap.size + 1), 0, none⟩ = some (.int .i64 u2) := q2.cell 0
    have y2_1 : w12.cell? ⟨(w.heap.size + 1), 1, none⟩ = some (.int .i64 ev2) := q2.cell 1
    have y2_2 : w12.cell? ⟨(w.heap.size + 1), 2, none⟩ = some (.int .i64 f2) := q2.cell 2
    have y2_3 : w12.cell? ⟨(w.heap.size + 1), 3, none⟩ = some (.int .i64 cn2) := q2.cell 3
    have y2_4 : w12.cell? ⟨(w.heap.size + 1), 4, none⟩ = some (.int .i64 un2) := q2.cell 4
    have y2_5 : w12.cell? ⟨(w.heap.size + 1), 5, none⟩ = some (.slice a21 n21 c21) := q2.cell 5
    have y2_6 : w12.cell? ⟨(w.heap.size + 1), 6, none⟩ = some (.slice a22 n22 c22) := q2.cell 6
    have y2_7 : w12.cell? ⟨(w.heap.size + 1), 7, none⟩ = some (.slice a23 n23 c23) := q2.cell 7
    clear q1 q2
    go_wp2_with fail
    refine (law_recurError w12 u2 ev2 f2 cn2 un2 a21 a22 a23 n21 n22 n23 c21 c22 c23 ws2 ms2 ns2 (H21.out.far B12.out (Below.refl _ _)) (H22.out.far B12.out (Below.refl _ _)) (H23.out.far B12.out (Below.refl _ _)) k21 k22 k23 m21 m22 m23 A Bd).mono ?_
    rw [DE2.out]
    rintro e w13 ⟨rfl, hb⟩
    have B13 := Lib.hid (below_then B12.out hb)
    have R13 := Lib.hid (R12.out.trans (hb.mono R12.out.size))
    clear hb y1_0 y1_1 y1_2 y1_3 y1_4 y1_5 y1_6 y1_7 y2_0 y2_1 y2_2 y2_3 y2_4 y2_5 y2_6 y2_7
    obtain ⟨q1, q2⟩ := K.out w13 R13.out
    have y1_0 : w13.cell? ⟨w.heap.size, 0, none⟩ = some (.int .i64 u1) := q1.cell 0
    have y1_1 : w13.cell? ⟨w.heap.size, 1, none⟩ = some (.int .i64 ev1) := q1.cell 1
    have y1_2 : w13.cell? ⟨w.heap.size, 2, none⟩ = some (.int .i64 f1) := q1.cell 2
    have y1_3 : w13.cell? ⟨w.heap.size, 3, none⟩ = some (.int .i64 cn1) := q1.cell 3
    have y1_4 : w13.cell? ⟨w.heap.size, 4, none⟩ = some (.int .i64 un1) := q1.cell 4
    have y1_5 : w13.cell? ⟨w.heap.size, 5, none⟩ = some (.slice a11 n11 c11) := q1.cell 5
    have y1_6 : w13.cell? ⟨w.heap.size, 6, none⟩ = some (.slice a12 n12 c12) := q1.cell 6
    have y1_7 : w13.cell? ⟨w.heap.size, 7, none⟩ = some (.slice a13 n13 c13) := q1.cell 7
    have y2_0 : w13.cell? ⟨(w.heap.size + 1), 0, none⟩ = some (.int .i64 u2) := q2.cell 0
    have y2_1 : w13.cell? ⟨(w.heap.size + 1), 1, none⟩ = some (.int .i64 ev2) := q2.cell 1
    have y2_2 : w13.cell? ⟨(w.heap.size + 1), 2, none⟩ = some (.int .i64 f2) := q2.cell 2
    have y2_3 : w13.cell? ⟨(w.heap.size + 1), 3, none⟩ = some (.int .i64 cn2) := q2.cell 3
    have y2_4 : w13.cell? ⟨(w.heap.size + 1), 4, none⟩ = some (.int .i64 un2) := q2.cell 4
    have y2_5 : w13.cell? ⟨(w.heap.size + 1), 5, none⟩ = some (.slice a21 n21 c21) := q2.cell 5
    have y2_6 : w13.cell? ⟨(w.heap.size + 1), 6, none⟩ = some (.slice a22 n22 c22) := q2.cell 6
    have y2_7 : w13.cell? ⟨(w.heap.size + 1), 7, none⟩ = some (.slice a23 n23 c23) := q2.cell 7
    clear q1 q2
    go_wp2_with fail
    go_ret
    exact ⟨ret_bool (by simp), B13.out⟩
  subst f2z
  rcases hd with ⟨hn, _⟩ | ⟨_, p1, r1, z1, p2, r2, z2, rfl, hI1, hI2, hb⟩
  · exact absurd rfl hn
  have l1 := daysL_len u1 ev1 f1 cn1 un1 ws1 ms1 ns1 A Bd (rangeErr_zero XF1.out.symm).2.2.2.2.2.1
  have l2 := daysL_len u2 ev2 f2 cn2 un2 ws2 ms2 ns2 A Bd (rangeErr_zero XF2.out.symm).2.2.2.2.2.1
  rw [← HXS.out] at l1
  rw [← HYS.out] at l2
  have I1 := Lib.hid hI1; have I2 := Lib.hid hI2
  clear hI1 hI2
  have B5 := Lib.hid (below_then B4.out hb)
  have R5 := Lib.hid (R4.out.trans (hb.mono R4.out.size))
  clear hb y1_0 y1_1 y1_2 y1_3 y1_4 y1_5 y1_6 y1_7 y2_0 y2_1 y2_2 y2_3 y2_4 y2_5 y2_6 y2_7
  obtain ⟨q1, q2⟩ := K.out w5 R5.out
  have y1_0 : w5.cell? ⟨w.heap.size, 0, none⟩ = some (.int .i64 u1) := q1.cell 0
  have y1_1 : w5.cell? ⟨w.heap.size, 1, none⟩ = some (.int .i64 ev1) := q1.cell 1
  have y1_2 : w5.cell? ⟨w.heap.size, 2, none⟩ = some (.int .i64 f1) := q1.cell 2
  have y1_3 : w5.cell? ⟨w.heap.size, 3, none⟩ = some (.int .i64 cn1) := q1.cell 3
  have y1_4 : w5.cell? ⟨w.heap.size, 4, none⟩ = some (.int .i64 un1) := q1.cell 4
  have y1_5 : w5.cell? ⟨w.heap.size, 5, none⟩ = some (.slice a11 n11 c11) := q1.cell 5
  have y1_6 : w5.cell? ⟨w.heap.size, 6, none⟩ = some (.slice a12 n12 c12) := q1.cell 6
  have y1_7 : w5.cell? ⟨w.heap.size, 7, none⟩ = some (.slice a13 n13 c13) := q1.cell 7
  have y2_0 : w5.cell? ⟨(w.heap.size + 1), 0, none⟩ = some (.int .i64 u2) := q2.cell 0
  have y2_1 : w5.cell? ⟨(w.heap.size + 1), 1, none⟩ = some (.int .i64 ev2) := q2.cell 1
  have y2_2 : w5.cell? ⟨(w.heap.size + 1), 2, none⟩ = some (.int .i64 f2) := q2.cell 2
  have y2_3 : w5.cell? ⟨(w.heap.size + 1), 3, none⟩ = some (.int .i64 cn2) := q2.cell 3
  have y2_4 : w5.cell? ⟨(w.heap.size + 1), 4, none⟩ = some (.int .i64 un2) := q2.cell 4
  have y2_5 : w5.cell? ⟨(w.heap.size + 1), 5, none⟩ = some (.slice a21 n21 c21) := q2.cell 5
  have y2_6 : w5.cell? ⟨(w.heap.size + 1), 6, none⟩ = some (.slice a22 n22 c22) := q2.cell 6
  have y2_7 : w5.cell? ⟨(w.heap.size + 1), 7, none⟩ = some (.slice a23 n23 c23) := q2.cell 7
  clear q1 q2
  have D5 := Lib.hid (Below.refl w5.heap.size w5)
  go_wp2_with fail
  refine (ref_RecurError w5 u1 ev1 f1 cn1 un1 a11 a12 a13 n11 n12 n13 c11 c12 c13 ws1 ms1 ns1 (H11.out.far B5.out (Below.refl _ _)) (H12.out.far B5.out (Below.refl _ _)) (H13.out.far B5.out (Below.refl _ _)) k11 k12 k13 m11 m12 m13).mono ?_
  rw [← XE1.out]
  rintro e w10 ⟨rfl, hb⟩
  have B10 := Lib.hid (below_then B5.out hb)
  have R10 := Lib.hid (R5.out.trans (hb.mono R5.out.size))
  have D10 := Lib.hid (D5.out.trans (hb.mono D5.out.size))
  clear hb y1_0 y1_1 y1_2 y1_3 y1_4 y1_5 y1_6 y1_7 y2_0 y2_1 y2_2 y2_3 y2_4 y2_5 y2_6 y2_7
  obtain ⟨q1, q2⟩ := K.out w10 R10.out
  have y1_0 : w10.cell? ⟨w.heap.size, 0, none⟩ = some (.int .i64 u1) := q1.cell 0
  have y1_1 : w10.cell? ⟨w.heap.size, 1, none⟩ = some (.int .i64 ev1) := q1.cell 1
  have y1_2 : w10.cell? ⟨w.heap.size, 2, none⟩ = some (.int .i64 f1) := q1.cell 2
  have y1_3 : w10.cell? ⟨w.heap.size, 3, none⟩ = some (.int .i64 cn1) := q1.cell 3
  have y1_4 : w10.cell? ⟨w.heap.size, 4, none⟩ = some (.int .i64 un1) := q1.cell 4
  have y1_5 : w10.cell? ⟨w.heap.size, 5, none⟩ = some (.slice a11 n11 c11) := q1.cell 5
  have y1_6 : w10.cell? ⟨w.heap.size, 6, none⟩ = some (.slice a12 n12 c12) := q1.cell 6
  have y1_7 : w10.cell? ⟨w.heap.size, 7, none⟩ = some (.slice a13 n13 c13) := q1.cell 7
  have y2_0 : w10.cell? ⟨(w.heap.size + 1), 0, none⟩ = some (.int .i64 u2) := q2.cell 0
  have y2_1 : w10.cell? ⟨(w.heap.size + 1), 1, none⟩ = some (.int .i64 ev2) := q2.cell 1
  have y2_2 : w10.cell? ⟨(w.heap.size + 1), 2, none⟩ = some (.int .i64 f2) := q2.cell 2
  have y2_3 : w10.cell? ⟨(w.heap.size + 1), 3, none⟩ = some (.int .i64 cn2) := q2.cell 3
  have y2_4 : w10.cell? ⟨(w.heap.size + 1), 4, none⟩ = some (.int .i64 un2) := q2.cell 4
  have y2_5 : w10.cell? ⟨(w.heap.size + 1), 5, none⟩ = some (.slice a21 n21 c21) := q2.cell 5
  have y2_6 : w10.cell? ⟨(w.heap.size + 1), 6, none⟩ = some (.slice a22 n22 c22) := q2.cell 6
  have y2_7 : w10.cell? ⟨(w.heap.size + 1), 7, none⟩ = some (.slice a23 n23 c23) := q2.cell 7
  clear q1 q2
  go_wp2_with fail
  refine (ref_RecurError w10 u2 ev2 f2 cn2 un2 a21 a22 a23 n21 n22 n23 c21 c22 c23 ws2 ms2 ns2 (H21.out.far B10.out (Below.refl _ _)) (H22.out.far B10.out (Below.refl _ _)) (H23.out.far B10.out (Below.refl _ _)) k21 k22 k23 m21 m22 m23).mono ?_
  rw [← XE2.out]
  rintro e w11 ⟨rfl, hb⟩
  have B11 := Lib.hid (below_then B10.out hb)
  have R11 := Lib.hid (R10.out.trans (hb.mono R10.out.size))
  have D11 := Lib.hid (D10.out.trans (hb.mono D10.out.size))
  clear hb y1_0 y1_1 y1_2 y1_3 y1_4 y1_5 y1_6 y1_7 y2_0 y2_1 y2_2 y2_3 y2_4 y2_5 y2_6 y2_7
  obtain ⟨q1, q2⟩ := K.out w11 R11.out
  have y1_0 : w11.cell? ⟨w.heap.size, 0, none⟩ = some (.int .i64 u1) := q1.cell 0
  have y1_1 : w11.cell? ⟨w.heap.size, 1, none⟩ = some (.int .i64 ev1) := q1.cell 1
  have y1_2 : w11.cell? ⟨w.heap.size, 2, none⟩ = some (.int .i64 f1) := q1.cell 2
  have y1_3 : w11.cell? ⟨w.heap.size, 3, none⟩ = some (.int .i64 cn1) := q1.cell 3
  have y1_4 : w11.cell? ⟨w.heap.size, 4, none⟩ = some (.int .i64 un1) := q1.cell 4
  have y1_5 : w11.cell? ⟨w.heap.size, 5, none⟩ = some (.slice a11 n11 c11) := q1.cell 5
  have y1_6 : w11.cell? ⟨w.heap.size, 6, none⟩ = some (.slice a12 n12 c12) := q1.cell 6
  have y1_7 : w11.cell? ⟨w.heap.size, 7, none⟩ = some (.slice a13 n13 c13) := q1.cell 7
  have y2_0 : w11.cell? ⟨(w.heap.size + 1), 0, none⟩ = some (.int .i64 u2) := q2.cell 0
  have y2_1 : w11.cell? ⟨(w.heap.size + 1), 1, none⟩ = some (.int .i64 ev2) := q2.cell 1
  have y2_2 : w11.cell? ⟨(w.heap.size + 1), 2, none⟩ = some (.int .i64 f2) := q2.cell 2
  have y2_3 : w11.cell? ⟨(w.heap.size + 1), 3, none⟩ = some (.int .i64 cn2) := q2.cell 3
  have y2_4 : w11.cell? ⟨(w.heap.size + 1), 4, none⟩ = some (.int .i64 un2) := q2.cell 4
  have y2_5 : w11.cell? ⟨(w.heap.size + 1), 5, none⟩ = some (.slice a21 n21 c21) := q2.cell 5
  have y2_6 : w11.cell? ⟨(w.heap.size + 1), 6, none⟩ = some (.slice a22 n22 c22) := q2.cell 6
  have y2_7 : w11.cell? ⟨(w.heap.size + 1), 7, none⟩ = some (.slice a23 n23 c23) := q2.cell 7
  clear q1 q2
  go_wp2_with fail
  refine (law_recurError w11 u1 ev1 f1 cn1 un1 a11 a12 a13 n11 n12 n13 c11 c12 c13 ws1 ms1 ns1 (H11.out.far B11.out (Below.refl _ _)) (H12.out.far B11.out (Below.refl _ _)) (H13.out.far B11.out (Below.refl _ _)) k11 k12 k13 m11 m12 m13 A Bd).mono ?_
  rw [DE1.out]
  rintro e w12 ⟨rfl, hb⟩
  have B12 := Lib.hid (below_then B11.out hb)
  have R12 := Lib.hid (R11.out.trans (hb.mono R11.out.size))
  have D12 := Lib.hid (D11.out.trans (hb.mono D11.out.size))
  clear hb y1_0 y1_1 y1_2 y1_3 y1_4 y1_5 y1_6 y1_7 y2_0 y2_1 y2_2 y2_3 y2_4 y2_5 y2_6 y2_7
  obtain ⟨q1, q2⟩ := K.out w12 R12.out
  have y1_0 : w12.cell? ⟨w.heap.size, 0, none⟩ = some (.int .i64 u1) := q1.cell 0
  have y1_1 : w12.cell? ⟨w.heap.size, 1, none⟩ = some (.int .i64 ev1) := q1.cell 1
  have y1_2 : w12.cell? ⟨w.heap.size, 2, none⟩ = some (.int .i64 f1) := q1.cell 2
  have y1_3 : w12.cell? ⟨w.heap.size, 3, none⟩ = some (.int .i64 cn1) := q1.cell 3
  have y1_4 : w12.cell? ⟨w.heap.size, 4, none⟩ = some (.int .i64 un1) := q1.cell 4
  have y1_5 : w12.cell? ⟨w.heap.size, 5, none⟩ = some (.slice a11 n11 c11) := q1.cell 5
  have y1_6 : w12.cell? ⟨w.heap.size, 6, none⟩ = some (.slice a12 n12 c12) := q1.cell 6
  have y1_7 : w12.cell? ⟨w.heap.size, 7, none⟩ = some (.slice a13 n13 c13) := q1.cell 7
  have y2_0 : w12.cell? ⟨(w.heap.size + 1), 0, none⟩ = some (.int .i64 u2) := q2.cell 0
  have y2_1 : w12.cell? ⟨(w.heap.size + 1), 1, none⟩ = some (.int .i64 ev2) := q2.cell 1
  have y2_2 : w12.cell? ⟨(w.heap.size + 1), 2, none⟩ = some (.int .i64 f2) := q2.cell 2
  have y2_3 : w12.cell? ⟨(w.heap.size + 1), 3, none⟩ = some (.int .i64 cn2) := q2.cell 3
  have y2_4 : w12.cell? ⟨(w.heap.size + 1), 4, none⟩ = some (.int .i64 un2) := q2.cell 4
  have y2_5 : w12.cell? ⟨(w.heap.size + 1), 5, none⟩ = some (.slice a21 n21 c21) := q2.cell 5
  have y2_6 : w12.cell? ⟨(w.heap.size + 1), 6, none⟩ = some (.slice a22 n22 c22) := q2.cell 6
  have y2_7 : w12.cell? ⟨(w.heap.size + 1), 7, none⟩ = some (.slice a23 n23 c23) := q2.cell 7
  clear q1 q2
  go_wp2_with fail
  refine (law_recurError w12 u2 ev2 f2 cn2 un2 a21 a22 a23 n21 n22 n23 c21 c22 c23 ws2 ms2 ns2 (H21.out.far B12.out (Below.refl _ _)) (H22.out.far B12.out (Below.refl _ _)) (H23.out.far B12.out (Below.refl _ _)) k21 k22 k23 m21 m22 m23 A Bd).mono ?_
  rw [DE2.out]
  rintro e w13 ⟨rfl, hb⟩
  have B13 := Lib.hid (below_then B12.out hb)
  have R13 := Lib.hid (R12.out.trans (hb.mono R12.out.size))
  have D13 := Lib.hid (D12.out.trans (hb.mono D12.out.size))
  clear hb y1_0 y1_1 y1_2 y1_3 y1_4 y1_5 y1_6 y1_7 y2_0 y2_1 y2_2 y2_3 y2_4 y2_5 y2_6 y2_7
  obtain ⟨q1, q2⟩ := K.out w13 R13.out
  have y1_0 : w13.cell? ⟨w.heap.size, 0, none⟩ = some (.int .i64 u1) := q1.cell 0
  have y1_1 : w13.cell? ⟨w.heap.size, 1, none⟩ = some (.int .i64 ev1) := q1.cell 1
  have y1_2 : w13.cell? ⟨w.heap.size, 2, none⟩ = some (.int .i64 f1) := q1.cell 2
  have y1_3 : w13.cell? ⟨w.heap.size, 3, none⟩ = some (.int .i64 cn1) := q1.cell 3
  have y1_4 : w13.cell? ⟨w.heap.size, 4, none⟩ = some (.int .i64 un1) := q1.cell 4
  have y1_5 : w13.cell? ⟨w.heap.size, 5, none⟩ = some (.slice a11 n11 c11) := q1.cell 5
  have y1_6 : w13.cell? ⟨w.heap.size, 6, none⟩ = some (.slice a12 n12 c12) := q1.cell 6
  have y1_7 : w13.cell? ⟨w.heap.size, 7, none⟩ = some (.slice a13 n13 c13) := q1.cell 7
  have y2_0 : w13.cell? ⟨(w.heap.size + 1), 0, none⟩ = some (.int .i64 u2) := q2.cell 0
  have y2_1 : w13.cell? ⟨(w.heap.size + 1), 1, none⟩ = some (.int .i64 ev2) := q2.cell 1
  have y2_2 : w13.cell? ⟨(w.heap.size + 1), 2, none⟩ = some (.int .i64 f2) := q2.cell 2
  have y2_3 : w13.cell? ⟨(w.heap.size + 1), 3, none⟩ = some (.int .i64 cn2) := q2.cell 3
  have y2_4 : w13.cell? ⟨(w.heap.size + 1), 4, none⟩ = some (.int .i64 un2) := q2.cell 4
  have y2_5 : w13.cell? ⟨(w.heap.size + 1), 5, none⟩ = some (.slice a21 n21 c21) := q2.cell 5
  have y2_6 : w13.cell? ⟨(w.heap.size + 1), 6, none⟩ = some (.slice a22 n22 c22) := q2.cell 6
  have y2_7 : w13.cell? ⟨(w.heap.size + 1), 7, none⟩ = some (.slice a23 n23 c23) := q2.cell 7
  clear q1 q2
  go_wp2_with fail
  refine (recur_Days w13 u1 ev1 f1 cn1 un1 a11 a12 a13 n11 n12 n13 c11 c12 c13 ws1 ms1 ns1 (H11.out.far B13.out (Below.refl _ _)) (H12.out.far B13.out (Below.refl _ _)) (H13.out.far B13.out (Below.refl _ _)) k11 k12 k13 m11 m12 m13 A Bd).mono ?_
  rintro e w14 hd
  rcases hd with ⟨hn, _⟩ | ⟨_, s1, t1, v1, rfl, hv1, hw1, hI, hb⟩
  · exact absurd DE1.out hn
  rw [← HXS.out] at hI
  have J1 := Lib.hid hI
  have B14 := Lib.hid (below_then B13.out hb)
  have R14 := Lib.hid (R13.out.trans (hb.mono R13.out.size))
  have D14 := Lib.hid (D13.out.trans (hb.mono D13.out.size))
  clear hI hb y1_0 y1_1 y1_2 y1_3 y1_4 y1_5 y1_6 y1_7 y2_0 y2_1 y2_2 y2_3 y2_4 y2_5 y2_6 y2_7
  obtain ⟨q1, q2⟩ := K.out w14 R14.out
  have y1_0 : w14.cell? ⟨w.heap.size, 0, none⟩ = some (.int .i64 u1) := q1.cell 0
  have y1_1 : w14.cell? ⟨w.heap.size, 1, none⟩ = some (.int .i64 ev1) := q1.cell 1
  have y1_2 : w14.cell? ⟨w.heap.size, 2, none⟩ = some (.int .i64 f1) := q1.cell 2
  have y1_3 : w14.cell? ⟨w.heap.size, 3, none⟩ = some (.int .i64 cn1) := q1.cell 3
  have y1_4 : w14.cell? ⟨w.heap.size, 4, none⟩ = some (.int .i64 un1) := q1.cell 4
  have y1_5 : w14.cell? ⟨w.heap.size, 5, none⟩ = some (.slice a11 n11 c11) := q1.cell 5
  have y1_6 : w14.cell? ⟨w.heap.size, 6, none⟩ = some (.slice a12 n12 c12) := q1.cell 6
  have y1_7 : w14.cell? ⟨w.heap.size, 7, none⟩ = some (.slice a13 n13 c13) := q1.cell 7
  have y2_0 : w14.cell? ⟨(w.heap.size + 1), 0, none⟩ = some (.int .i64 u2) := q2.cell 0
  have y2_1 : w14.cell? ⟨(w.heap.size + 1), 1, none⟩ = some (.int .i64 ev2) := q2.cell 1
  have y2_2 : w14.cell? ⟨(w.heap.size + 1), 2, none⟩ = some (.int .i64 f2) := q2.cell 2
  have y2_3 : w14.cell? ⟨(w.heap.size + 1), 3, none⟩ = some (.int .i64 cn2) := q2.cell 3
  have y2_4 : w14.cell? ⟨(w.heap.size + 1), 4, none⟩ = some (.int .i64 un2) := q2.cell 4
  have y2_5 : w14.cell? ⟨(w.heap.size + 1), 5, none⟩ = some (.slice a21 n21 c21) := q2.cell 5
  have y2_6 : w14.cell? ⟨(w.heap.size + 1), 6, none⟩ = some (.slice a22 n22 c22) := q2.cell 6
  have y2_7 : w14.cell? ⟨(w.heap.size + 1), 7, none⟩ = some (.slice a23 n23 c23) := q2.cell 7
  clear q1 q2
  go_wp2_with fail
  refine (recur_Days w14 u2 ev2 f2 cn2 un2 a21 a22 a23 n21 n22 n23 c21 c22 c23 ws2 ms2 ns2 (H21.out.far B14.out (Below.refl _ _)) (H22.out.far B14.out (Below.refl _ _)) (H23.out.far B14.out (Below.refl _ _)) k21 k22 k23 m21 m22 m23 A Bd).mono ?_
  rintro e w15 hd
  rcases hd with ⟨hn, _⟩ | ⟨_, s2, t2, v2, rfl, hv2, hw2, hI, hb⟩
  · exact absurd DE2.out hn
  rw [← HYS.out] at hI
  have J2 := Lib.hid hI
  have B15 := Lib.hid (below_then B14.out hb)
  have R15 := Lib.hid (R14.out.trans (hb.mono R14.out.size))
  have D15 := Lib.hid (D14.out.trans (hb.mono D14.out.size))
  have J11 := Lib.hid (J1.out.far (Below.refl _ _) hb)
  clear hI hb y1_0 y1_1 y1_2 y1_3 y1_4 y1_5 y1_6 y1_7 y2_0 y2_1 y2_2 y2_3 y2_4 y2_5 y2_6 y2_7
  obtain ⟨q1, q2⟩ := K.out w15 R15.out
  have y1_0 : w15.cell? ⟨w.heap.size, 0, none⟩ = some (.int .i64 u1) := q1.cell 0
  have y1_1 : w15.cell? ⟨w.heap.size, 1, none⟩ = some (.int .i64 ev1) := q1.cell 1
  have y1_2 : w15.cell? ⟨w.heap.size, 2, none⟩ = some (.int .i64 f1) := q1.cell 2
  have y1_3 : w15.cell? ⟨w.heap.size, 3, none⟩ = some (.int .i64 cn1) := q1.cell 3
  have y1_4 : w15.cell? ⟨w.heap.size, 4, none⟩ = some (.int .i64 un1) := q1.cell 4
  have y1_5 : w15.cell? ⟨w.heap.size, 5, none⟩ = some (.slice a11 n11 c11) := q1.cell 5
  have y1_6 : w15.cell? ⟨w.heap.size, 6, none⟩ = some (.slice a12 n12 c12) := q1.cell 6
  have y1_7 : w15.cell? ⟨w.heap.size, 7, none⟩ = some (.slice a13 n13 c13) := q1.cell 7
  have y2_0 : w15.cell? ⟨(w.heap.size + 1), 0, none⟩ = some (.int .i64 u2) := q2.cell 0
  have y2_1 : w15.cell? ⟨(w.heap.size + 1), 1, none⟩ = some (.int .i64 ev2) := q2.cell 1
  have y2_2 : w15.cell? ⟨(w.heap.size + 1), 2, none⟩ = some (.int .i64 f2) := q2.cell 2
  have y2_3 : w15.cell? ⟨(w.heap.size + 1), 3, none⟩ = some (.int .i64 cn2) := q2.cell 3
  have y2_4 : w15.cell? ⟨(w.heap.size + 1), 4, none⟩ = some (.int .i64 un2) := q2.cell 4
  have y2_5 : w15.cell? ⟨(w.heap.size + 1), 5, none⟩ = some (.slice a21 n21 c21) := q2.cell 5
  have y2_6 : w15.cell? ⟨(w.heap.size + 1), 6, none⟩ = some (.slice a22 n22 c22) := q2.cell 6
  have y2_7 : w15.cell? ⟨(w.heap.size + 1), 7, none⟩ = some (.slice a23 n23 c23) := q2.cell 7
  clear q1 q2
  have LX : XS.length = t1 := J1.out.1
  have LY : YS.length = t2 := J2.out.1
  clear y1_0 y1_1 y1_2 y1_3 y1_4 y1_5 y1_6 y1_7 y2_0 y2_1 y2_2 y2_3 y2_4 y2_5 y2_6 y2_7
  have HLX := Lib.hid LX; have HLY := Lib.hid LY
  have tle1 : t1 ≤ 100000 := by omega
  have tle2 : t2 ≤ 100000 := by omega
  clear LX LY l1 l2
  go_wp2_with fail
  go_loopw [22, 25, 118] (fun v _ tv wr => ∃ k m : Nat, tv = .int .i64 k ∧ k ≤ t1 ∧ m ≤ k ∧ (rest (XS.take k) YS).length = m ∧ wr.ownsRow w15.heap.size 3 1 v m ((rest (XS.take k) YS).map (Value.int .i64)) ∧ Below w15.heap.size w15 wr) (fun _ _ tv _ => t1 - (intOf tv).toNat)
  case atStart => exact ⟨0, 0, rfl, by omega, by omega, rfl, World.ownsRow_nil _ _ _ _, Below.refl _ _⟩
  case round =>
    obtain ⟨k, m, rfl, hk, hmk, hlen, hown, bw⟩ := hrel
    have OWN := Lib.hid hown; have LEN := Lib.hid hlen; have BW := Lib.hid bw
    have hs0 : w15.heap.size ≤ wr.heap.size := bw.size
    clear hown hlen bw
    by_cases hlt : k < t1
    · obtain ⟨b1, o1, x, rfl, hb1, hc1, hx, x1, x2⟩ := (J11.out.far (Below.refl _ _) BW.out).at_ hlt
      have RS := Lib.hid (rest_snoc (ys := YS) hx)
      clear hx
      go_wp2_with fail
      refine (slices_Contains wr _ _ _ YS x _ (J2.out.far (Below.refl _ _) BW.out)).mono ?_
      obtain ⟨bb, hbb⟩ : ∃ bb, bb = hasB x YS := ⟨_, rfl⟩
      rw [← hbb]
      rintro e w20 ⟨rfl, rfl⟩
      have hrs := RS.out
      rw [← hbb] at hrs
      cases bb with
      | true =>
        have RS2 := Lib.hid (show rest (XS.take (k + 1)) YS = rest (XS.take k) YS by rw [hrs]; simp)
        clear hrs hbb
        go_wp2_with fail
        go_roundw
        case rel => exact ⟨k + 1, m, by go_num, by omega, by omega, by rw [RS2.out]; exact LEN.out, by rw [RS2.out]; exact OWN.out, BW.out⟩
        case measure => simp [intOf]; omega
      | false =>
        have RS2 := Lib.hid (show rest (XS.take (k + 1)) YS = rest (XS.take k) YS ++ [x] by rw [hrs]; simp)
        clear hrs hbb
        go_wp2_with (at_builtin; refine wpList_append_own _ rfl _ _ 22 rfl (w15.heap.size) 3 i0 (.int .i64 0) 1 8 Try.underlying22 hi hz0 hz1 hz2 rfl (by decide) _ _ _ rfl (OWN.out.alloc _) ⟨wr.heap.size, 0, none⟩ 1 1 [.int .i64 x] rfl rfl (World.news_of_block (cs := #[.int .i64 x]) (t := 3) (fr := (0, 0)) (heap_alloc_new wr _)) (by simp [Value.oneCell']) (by unfold maxLen; omega) (by omega) (by first | omega | (simp; omega)) ?_; intro v' w4 hown' hgrow _)
        have bw4 : Below w15.heap.size w15 w4 := ((BW.out.alloc hs0 (.cells #[.int .i64 x] 3))).grown hgrow (by simp; omega) (fun q hq => by
          rcases Nat.lt_or_ge q w15.heap.size with h | h
          · exact absurd hq.symm (own_above OWN.out h)
          · omega)
        have OWN' := Lib.hid hown'
        clear hown' hgrow
        go_wp2_with fail
        go_roundw
        case rel => exact ⟨k + 1, m + 1, by go_num, by omega, by omega, by rw [RS2.out, List.length_append, LEN.out]; rfl, by rw [RS2.out, List.map_append]; exact OWN'.out, bw4⟩
        case measure => simp [intOf]; omega
    · obtain rfl : k = t1 := by omega
      have hfull : XS.take k = XS := List.take_of_length_le (by rw [J11.out.1]; exact Nat.le_refl _)
      have hown := OWN.out; have hlen := LEN.out
      rw [hfull] at hown hlen
      have OW1 := Lib.hid hown; have LE1 := Lib.hid hlen
      clear hown hlen hfull hlt OWN LEN
      go_wp2_with fail
      obtain ⟨wA, hwA⟩ : ∃ W, W = wr := ⟨_, rfl⟩
      rw [← hwA] at BW OW1 hs0 ⊢
      have J2B := Lib.hid (J2.out.far (Below.refl _ _) BW.out); have J1B := Lib.hid (J11.out.far (Below.refl _ _) BW.out)
      have B16 := Lib.hid (below_then B15.out BW.out); have D16 := Lib.hid (D15.out.trans (BW.out.mono D15.out.size))
      have hs1 := hs0
      clear hwA BW hs0
      go_loopw [23, 27, 133] (fun v _ tv wr => ∃ k m : Nat, tv = .int .i64 k ∧ k ≤ t2 ∧ m ≤ k ∧ (rest (YS.take k) XS).length = m ∧ wr.ownsRow wA.heap.size 3 1 v m ((rest (YS.take k) XS).map (Value.int .i64)) ∧ Below wA.heap.size wA wr) (fun _ _ tv _ => t2 - (intOf tv).toNat)
      case atStart => exact ⟨0, 0, rfl, by omega, by omega, rfl, World.ownsRow_nil _ _ _ _, Below.refl _ _⟩
      case round =>
        obtain ⟨k, m, rfl, hk, hmk, hlen, hown, bw⟩ := hrel
        have OWN := Lib.hid hown; have LEN := Lib.hid hlen; have BW := Lib.hid bw
        have hs0 : wA.heap.size ≤ wr.heap.size := bw.size
        clear hown hlen bw
        by_cases hlt : k < t2
        · obtain ⟨b1, o1, x, rfl, hb1, hc1, hx, x1, x2⟩ := (J2B.out.far (Below.refl _ _) BW.out).at_ hlt
          have RS := Lib.hid (rest_snoc (ys := XS) hx)
          clear hx
          go_wp2_with fail
          refine (slices_Contains wr _ _ _ XS x _ (J1B.out.far (Below.refl _ _) BW.out)).mono ?_
          obtain ⟨bb, hbb⟩ : ∃ bb, bb = hasB x XS := ⟨_, rfl⟩
          rw [← hbb]
          rintro e w20 ⟨rfl, rfl⟩
          have hrs := RS.out
          rw [← hbb] at hrs
          cases bb with
          | true =>
            have RS2 := Lib.hid (show rest (YS.take (k + 1)) XS = rest (YS.take k) XS by rw [hrs]; simp)
            clear hrs hbb
            go_wp2_with fail
            go_roundw
            case rel => exact ⟨k + 1, m, by go_num, by omega, by omega, by rw [RS2.out]; exact LEN.out, by rw [RS2.out]; exact OWN.out, BW.out⟩
            case measure => simp [intOf]; omega
          | false =>
            have RS2 := Lib.hid (show rest (YS.take (k + 1)) XS = rest (YS.take k) XS ++ [x] by rw [hrs]; simp)
            clear hrs hbb
            go_wp2_with (at_builtin; refine wpList_append_own _ rfl _ _ 22 rfl (wA.heap.size) 3 i0 (.int .i64 0) 1 8 Try.underlying22 hi hz0 hz1 hz2 rfl (by decide) _ _ _ rfl (OWN.out.alloc _) ⟨wr.heap.size, 0, none⟩ 1 1 [.int .i64 x] rfl rfl (World.news_of_block (cs := #[.int .i64 x]) (t := 3) (fr := (0, 0)) (heap_alloc_new wr _)) (by simp [Value.oneCell']) (by unfold maxLen; omega) (by omega) (by first | omega | (simp; omega)) ?_; intro v' w4 hown' hgrow _)
            have bw4 : Below wA.heap.size wA w4 := ((BW.out.alloc hs0 (.cells #[.int .i64 x] 3))).grown hgrow (by simp; omega) (fun q hq => by
              rcases Nat.lt_or_ge q wA.heap.size with h | h
              · exact absurd hq.symm (own_above OWN.out h)
              · omega)
            have OWN' := Lib.hid hown'
            clear hown' hgrow
            go_wp2_with fail
            go_roundw
            case rel => exact ⟨k + 1, m + 1, by go_num, by omega, by omega, by rw [RS2.out, List.length_append, LEN.out]; rfl, by rw [RS2.out, List.map_append]; exact OWN'.out, bw4⟩
            case measure => simp [intOf]; omega
        · obtain rfl : k = t2 := by omega
          have hfull : YS.take k = YS := List.take_of_length_le (by rw [J2B.out.1]; exact Nat.le_refl _)
          have hown := OWN.out; have hlen := LEN.out
          rw [hfull] at hown hlen
          have OW2 := Lib.hid hown; have LE2 := Lib.hid hlen
          clear hown hlen hfull hlt OWN LEN
          go_wp2_with fail
          have O1 := own_thenR (base := w15.heap.size) OW1.out BW.out
          have hIb : ∀ X Y : List Int, (∀ z ∈ X, I64 z) → ∀ z ∈ rest X Y, I64 z := fun X Y h z hz => h z (List.mem_filter.1 hz).1
          obtain ⟨a7, c7, rfl, _, _, hI7⟩ := own_ints O1 (hIb _ _ J1.out.2.2.1) LE1.out
          obtain ⟨a8, c8, rfl, _, _, hI8⟩ := own_ints OW2.out (hIb _ _ J2.out.2.2.1) LE2.out
          have D17 := Lib.hid (D16.out.trans (BW.out.mono D16.out.size)); have B17 := Lib.hid (below_then B16.out BW.out)
          have I7 := Lib.hid hI7; have I8 := Lib.hid hI8
          clear hI7 hI8 O1 hIb
          refine (ref_SameInts _ _ _ _ _ _ _ _ _ (I1.out.far (Below.refl _ _) D17.out) I7.out).mono ?_
          rw [show (rest XS YS == rest XS YS) = true by simp]
          rintro e w21 ⟨rfl, hdr⟩
          have hb : Below wr.heap.size wr w21 := below_drawn (Below.refl _ _) hdr
          have D18 := Lib.hid (D17.out.trans (hb.mono D17.out.size)); have B18 := Lib.hid (below_then B17.out hb); have I9 := Lib.hid (I8.out.far (Below.refl _ _) hb)
          clear hb hdr
          go_wp2_with fail
          refine (ref_SameInts _ _ _ _ _ _ _ _ _ (I2.out.far (Below.refl _ _) D18.out) I9.out).mono ?_
          rw [show (rest YS XS == rest YS XS) = true by simp]
          rintro e w22 ⟨rfl, hdr⟩
          go_wp2_with fail
          go_ret
          exact ⟨rfl, below_drawn B18.out hdr⟩
theorem walk {H : Type} {enc : TypeId × Value → H} {v0 v1 v2 v3 : Value} {d0 d1 d2 d3 : DataW H} {p0 p1 p2 p3 : List MemPlace} {base : Nat} (W : World)
    (o0 : Value.okWide Try.prog W .any base 24 v0) (h0 : DataW.Trod enc Try.prog W 0 (fun _ => true) true 24 v0 d0 p0)
    (o1 : Value.okWide Try.prog W .any base 24 v1) (h1 : DataW.Trod enc Try.prog W 0 (fun _ => true) true 24 v1 d1 p1)
    (o2 : Value.okWide Try.prog W .any base 3 v2) (h2 : DataW.Trod enc Try.prog W 0 (fun _ => true) true 3 v2 d2 p2) (o3 : Value.okWide Try.prog W .any base 3 v3) (h3 : DataW.Trod enc Try.prog W 0 (fun _ => true) true 3 v3 d3 p3) :
    Calls Try.prog 4 #[v0, v1, v2, v3] W fun e w' => e = .returned (.bool true) ∧ Below W.heap.size W w' := by
  obtain ⟨x6, rfl, rfl, rfl, w6⟩ := open_int Try.underlying3 o2 h2
  obtain ⟨x7, rfl, rfl, rfl, w7⟩ := open_int Try.underlying3 o3 h3
  have hop : ∀ (v : Value) (d : DataW H) (p : List MemPlace), Value.okWide Try.prog W .any base 24 v → DataW.Trod enc Try.prog W 0 (fun _ => true) true 24 v d p →
      ∃ (x0 x1 x2 x3 x4 : Int) (a1 a2 a3 : Option Addr) (n1 n2 n3 c1 c2 c3 : Nat) (ws ms ns : List Int), v = .agg #[.int .i64 x0, .int .i64 x1, .int .i64 x2, .int .i64 x3, .int .i64 x4, .slice a1 n1 c1, .slice a2 n2 c2, .slice a3 n3 c3] ∧
        Ints W W.heap.size a1 n1 ws ∧ Ints W W.heap.size a2 n2 ms ∧ Ints W W.heap.size a3 n3 ns ∧ n1 ≤ c1 ∧ c1 ≤ 9223372036854775807 ∧ n2 ≤ c2 ∧ c2 ≤ 9223372036854775807 ∧ n3 ≤ c3 ∧ c3 ≤ 9223372036854775807 := by
    intro v d p o0 h0
    obtain ⟨cs, n, rfl, hl, hf⟩ := open_agg Try.underlying24 (by kernel_rfl) (by kernel_rfl) o0 h0
    match cs, hl with
    | [v0, v1, v2, v3, v4, v5, v6, v7], _ =>
      obtain ⟨_, _, e0, t0⟩ := hf 0 _ rfl
      obtain ⟨_, _, e1, t1⟩ := hf 1 _ rfl
      obtain ⟨_, _, e2, t2⟩ := hf 2 _ rfl
      obtain ⟨_, _, e3, t3⟩ := hf 3 _ rfl
      obtain ⟨_, _, e4, t4⟩ := hf 4 _ rfl
      obtain ⟨_, _, e5, t5⟩ := hf 5 _ rfl
      obtain ⟨_, _, e6, t6⟩ := hf 6 _ rfl
      obtain ⟨_, _, e7, t7⟩ := hf 7 _ rfl
      obtain ⟨x0, rfl, _⟩ := open_num t0
      obtain ⟨x1, rfl, _⟩ := open_num t1
      obtain ⟨x2, rfl, _⟩ := open_num t2
      obtain ⟨x3, rfl, _⟩ := open_num t3
      obtain ⟨x4, rfl, _⟩ := open_num t4
      obtain ⟨a1, n1, c1, ws, rfl, k1, m1, h1⟩ := open_Ints t5
      obtain ⟨a2, n2, c2, ms, rfl, k2, m2, h2⟩ := open_Ints t6
      obtain ⟨a3, n3, c3, ns, rfl, k3, m3, h3⟩ := open_Ints t7
      simp at e0 e1 e2 e3 e4 e5 e6 e7
      subst e0 e1 e2 e3 e4 e5 e6 e7
      exact ⟨x0, x1, x2, x3, x4, a1, a2, a3, n1, n2, n3, c1, c2, c3, ws, ms, ns, rfl, h1, h2, h3, k1, m1, k2, m2, k3, m3⟩
  obtain ⟨x0, x1, x2, x3, x4, a1, a2, a3, n1, n2, n3, c1, c2, c3, ws, ms, ns, rfl, g1, g2, g3, k1, m1, k2, m2, k3, m3⟩ := hop _ _ _ o0 h0
  obtain ⟨y0, y1, y2, y3, y4, a4, a5, a6, n4, n5, n6, c4, c5, c6, vs, ls, qs, rfl, g4, g5, g6, k4, m4, k5, m5, k6, m6⟩ := hop _ _ _ o1 h1
  exact core W x0 x1 x2 x3 x4 a1 a2 a3 n1 n2 n3 c1 c2 c3 ws ms ns y0 y1 y2 y3 y4 a4 a5 a6 n4 n5 n6 c4 c5 c6 vs ls qs g1 g2 g3 k1 m1 k2 m2 k3 m3 g4 g5 g6 k4 m4 k5 m5 k6 m6 x6 x7
end Go.Proofs.Ythejjpnljdphnaa.recurDiffsLaw
