/- Contract of recur.Diff. -/
import Derived.Test.YtdmkghgachapaaaGreatDoorRec9
namespace Go.Proofs.YtdmkghgachapaaaGreatDoor
set_option linter.unusedVariables false
set_option maxRecDepth 100000
open Go.RowKit

theorem lastN_df {P0 P1 P2 P3 P4 P5 P6 P7 P8 P9 P10 P11 P12 P13 P14 P15 R : Prop} (h : P0 ∧ P1 ∧ P2 ∧ P3 ∧ P4 ∧ P5 ∧ P6 ∧ P7 ∧ P8 ∧ P9 ∧ P10 ∧ P11 ∧ P12 ∧ P13 ∧ P14 ∧ P15 ∧ R) : R := h.2.2.2.2.2.2.2.2.2.2.2.2.2.2.2.2
theorem listP_sorted (fit : Int → Bool) (cn a : Int) : ∀ (n : Nat) (x c : Int), (listP fit cn a n x c).Pairwise (· < ·)
  | 0, _, _ => .nil
  | n + 1, x, c => by
    rw [listP]
    split
    · exact listP_sorted fit cn a n _ _
    · split
      · exact .nil
      · rw [List.pairwise_append]
        refine ⟨by split <;> simp, listP_sorted fit cn a n _ _, fun y hy z hz => ?_⟩
        have := listP_in fit cn a n _ _ z hz
        split at hy
        · simp at hy; omega
        · simp at hy
theorem listP_len (fit : Int → Bool) (cn a : Int) : ∀ (n : Nat) (x c : Int), (listP fit cn a n x c).length ≤ n
  | 0, _, _ => by simp [listP]
  | n + 1, x, c => by
    rw [listP]
    split
    · have := listP_len fit cn a n (x + 1) c; omega
    · split
      · simp
      · have := listP_len fit cn a n (x + 1) (c + 1)
        rw [List.length_append]
        split <;> simp <;> omega
theorem daysL_sorted (u ev f cn un : Int) (ws ms ns : List Int) (a b : Int) : (daysL u ev f cn un ws ms ns a b).Pairwise (· ≤ ·) := (listP_sorted _ _ _ _ _ _).imp (fun h => Int.le_of_lt h)
theorem daysL_len (u ev f cn un : Int) (ws ms ns : List Int) (a b : Int) (h : b ≤ f + 40000) : (daysL u ev f cn un ws ms ns a b).length ≤ 100000 := by
  refine Nat.le_trans (listP_len _ _ _ _ _ _) ?_
  have h1 : minI b un ≤ b := by unfold minI; split <;> omega
  have h2 : f ≤ lowOf f cn a := by unfold lowOf; split <;> (try split) <;> omega
  omega
def rest (xs ys : List Int) : List Int := xs.filter fun x => !hasB x ys
def diffErr (e1 e2 r1 r2 : Int) : Int := if e1 ≠ 0 then e1 else if e2 ≠ 0 then e2 else if r1 ≠ 0 then r1 else r2
/-- What recur.Diff leaves. -/
def DiffOut (E : Int) (xs ys : List Int) (w : World) (e : Ending) (w' : World) : Prop :=
  (E ≠ 0 ∧ e = .returned (.tuple #[.slice none 0 0, .slice none 0 0, .int .i64 E]) ∧ Below w.heap.size w w') ∨
  (E = 0 ∧ ∃ p1 m1 q1 p2 m2 q2, e = .returned (.tuple #[.slice p1 m1 q1, .slice p2 m2 q2, .int .i64 0]) ∧ Ints w' w'.heap.size p1 m1 (rest xs ys) ∧ Ints w' w'.heap.size p2 m2 (rest ys xs) ∧ Below w.heap.size w w')
theorem idxA (x0 x1 x2 x3 x4 x5 x6 x7 y0 y1 y2 y3 y4 y5 y6 y7 : Value) (W : World) : (Instr.index 59 (.agg #[x0, x1, x2, x3, x4, x5, x6, x7, y0, y1, y2, y3, y4, y5, y6, y7]) (.int .i64 0)).run Tryz.prog W = .ok (.agg #[x0, x1, x2, x3, x4, x5, x6, x7]) W := by kernel_rfl
theorem idxB (x0 x1 x2 x3 x4 x5 x6 x7 y0 y1 y2 y3 y4 y5 y6 y7 : Value) (W : World) : (Instr.index 59 (.agg #[x0, x1, x2, x3, x4, x5, x6, x7, y0, y1, y2, y3, y4, y5, y6, y7]) (.int .i64 1)).run Tryz.prog W = .ok (.agg #[y0, y1, y2, y3, y4, y5, y6, y7]) W := by kernel_rfl
set_option maxHeartbeats 4000000 in
theorem recur_Diff (w : World) (u1 ev1 f1 cn1 un1 : Int) (a11 a12 a13 : Option Addr) (n11 n12 n13 c11 c12 c13 : Nat) (ws1 ms1 ns1 : List Int) (u2 ev2 f2 cn2 un2 : Int) (a21 a22 a23 : Option Addr) (n21 n22 n23 c21 c22 c23 : Nat) (ws2 ms2 ns2 : List Int)
    (h11 : Ints w w.heap.size a11 n11 ws1) (h12 : Ints w w.heap.size a12 n12 ms1) (h13 : Ints w w.heap.size a13 n13 ns1) (k11 : n11 ≤ c11) (m11 : c11 ≤ 9223372036854775807) (k12 : n12 ≤ c12) (m12 : c12 ≤ 9223372036854775807) (k13 : n13 ≤ c13) (m13 : c13 ≤ 9223372036854775807) (h21 : Ints w w.heap.size a21 n21 ws2) (h22 : Ints w w.heap.size a22 n22 ms2) (h23 : Ints w w.heap.size a23 n23 ns2) (k21 : n21 ≤ c21) (m21 : c21 ≤ 9223372036854775807) (k22 : n22 ≤ c22) (m22 : c22 ≤ 9223372036854775807) (k23 : n23 ≤ c23) (m23 : c23 ≤ 9223372036854775807) (a b : Int) :
    Calls Tryz.prog 8 #[.agg #[.int .i64 u1, .int .i64 ev1, .int .i64 f1, .int .i64 cn1, .int .i64 un1, .slice a11 n11 c11, .slice a12 n12 c12, .slice a13 n13 c13], .agg #[.int .i64 u2, .int .i64 ev2, .int .i64 f2, .int .i64 cn2, .int .i64 un2, .slice a21 n21 c21, .slice a22 n22 c22, .slice a23 n23 c23], .int .i64 a, .int .i64 b] w (DiffOut (diffErr (recurErr u1 ev1 f1 cn1 un1 ws1 ms1 ns1) (recurErr u2 ev2 f2 cn2 un2 ws2 ms2 ns2) (rangeErr f1 a b) (rangeErr f2 a b)) (daysL u1 ev1 f1 cn1 un1 ws1 ms1 ns1 a b) (daysL u2 ev2 f2 cn2 un2 ws2 ms2 ns2 a b) w) := by
  obtain ⟨E1, hE1⟩ : ∃ E, E = recurErr u1 ev1 f1 cn1 un1 ws1 ms1 ns1 := ⟨_, rfl⟩
  obtain ⟨E2, hE2⟩ : ∃ E, E = recurErr u2 ev2 f2 cn2 un2 ws2 ms2 ns2 := ⟨_, rfl⟩
  obtain ⟨R1, hR1⟩ : ∃ E, E = rangeErr f1 a b := ⟨_, rfl⟩
  obtain ⟨R2, hR2⟩ : ∃ E, E = rangeErr f2 a b := ⟨_, rfl⟩
  rw [← hE1, ← hE2, ← hR1, ← hR2]
  have XE1 := Lib.hid hE1; have XE2 := Lib.hid hE2; have XR1 := Lib.hid hR1; have XR2 := Lib.hid hR2
  clear hE1 hE2 hR1 hR2
  have H11 := Lib.hid h11; clear h11
  have H12 := Lib.hid h12; clear h12
  have H13 := Lib.hid h13; clear h13
  have H21 := Lib.hid h21; clear h21
  have H22 := Lib.hid h22; clear h22
  have H23 := Lib.hid h23; clear h23
  go_enter Tryz.func8, Tryz.ntmps8
  go_wp2_with fail
  have q1 := (At.new w (.cells #[.int .i64 u1, .int .i64 ev1, .int .i64 f1, .int .i64 cn1, .int .i64 un1, .slice a11 n11 c11, .slice a12 n12 c12, .slice a13 n13 c13] 24)).alloc (.cells #[.int .i64 u2, .int .i64 ev2, .int .i64 f2, .int .i64 cn2, .int .i64 un2, .slice a21 n21 c21, .slice a22 n22 c22, .slice a23 n23 c23] 24)
  have q2 := At.new1 w (.cells #[.int .i64 u1, .int .i64 ev1, .int .i64 f1, .int .i64 cn1, .int .i64 un1, .slice a11 n11 c11, .slice a12 n12 c12, .slice a13 n13 c13] 24) (.cells #[.int .i64 u2, .int .i64 ev2, .int .i64 f2, .int .i64 cn2, .int .i64 un2, .slice a21 n21 c21, .slice a22 n22 c22, .slice a23 n23 c23] 24)
  have b0 := below_new (below_new (Below.refl w.heap.size w) (.cells #[.int .i64 u1, .int .i64 ev1, .int .i64 f1, .int .i64 cn1, .int .i64 un1, .slice a11 n11 c11, .slice a12 n12 c12, .slice a13 n13 c13] 24)) (.cells #[.int .i64 u2, .int .i64 ev2, .int .i64 f2, .int .i64 cn2, .int .i64 un2, .slice a21 n21 c21, .slice a22 n22 c22, .slice a23 n23 c23] 24)
  generalize World.alloc (World.alloc w _) _ = W0 at q1 q2 b0 ⊢
  have K := Lib.hid (show ∀ W, Below W0.heap.size W0 W → At W w.heap.size (.cells #[.int .i64 u1, .int .i64 ev1, .int .i64 f1, .int .i64 cn1, .int .i64 un1, .slice a11 n11 c11, .slice a12 n12 c12, .slice a13 n13 c13] 24) ∧ At W (w.heap.size + 1) (.cells #[.int .i64 u2, .int .i64 ev2, .int .i64 f2, .int .i64 cn2, .int .i64 un2, .slice a21 n21 c21, .slice a22 n22 c22, .slice a23 n23 c23] 24) from fun W h => ⟨q1.then_ h, q2.then_ h⟩)
  have B0 := Lib.hid b0
  have hl2 := q2.lt
  have y1_0 : W0.cell? ⟨w.heap.size, 0, none⟩ = some (.int .i64 u1) := q1.cell 0
  have y1_1 : W0.cell? ⟨w.heap.size, 1, none⟩ = some (.int .i64 ev1) := q1.cell 1
  have y1_2 : W0.cell? ⟨w.heap.size, 2, none⟩ = some (.int .i64 f1) := q1.cell 2
  have y1_3 : W0.cell? ⟨w.heap.size, 3, none⟩ = some (.int .i64 cn1) := q1.cell 3
  have y1_4 : W0.cell? ⟨w.heap.size, 4, none⟩ = some (.int .i64 un1) := q1.cell 4
  have y1_5 : W0.cell? ⟨w.heap.size, 5, none⟩ = some (.slice a11 n11 c11) := q1.cell 5
  have y1_6 : W0.cell? ⟨w.heap.size, 6, none⟩ = some (.slice a12 n12 c12) := q1.cell 6
  have y1_7 : W0.cell? ⟨w.heap.size, 7, none⟩ = some (.slice a13 n13 c13) := q1.cell 7
  have y2_0 : W0.cell? ⟨(w.heap.size + 1), 0, none⟩ = some (.int .i64 u2) := q2.cell 0
  have y2_1 : W0.cell? ⟨(w.heap.size + 1), 1, none⟩ = some (.int .i64 ev2) := q2.cell 1
  have y2_2 : W0.cell? ⟨(w.heap.size + 1), 2, none⟩ = some (.int .i64 f2) := q2.cell 2
  have y2_3 : W0.cell? ⟨(w.heap.size + 1), 3, none⟩ = some (.int .i64 cn2) := q2.cell 3
  have y2_4 : W0.cell? ⟨(w.heap.size + 1), 4, none⟩ = some (.int .i64 un2) := q2.cell 4
  have y2_5 : W0.cell? ⟨(w.heap.size + 1), 5, none⟩ = some (.slice a21 n21 c21) := q2.cell 5
  have y2_6 : W0.cell? ⟨(w.heap.size + 1), 6, none⟩ = some (.slice a22 n22 c22) := q2.cell 6
  have y2_7 : W0.cell? ⟨(w.heap.size + 1), 7, none⟩ = some (.slice a23 n23 c23) := q2.cell 7
  clear b0 q1 q2
  go_wp2_with fail
  go_loopw [12, 13, 22] (fun _ _ tv wr => ∃ k : Nat, tv = .int .i64 k ∧ k ≤ 2 ∧ (1 ≤ k → E1 = 0) ∧ (k = 2 → E2 = 0) ∧ Below W0.heap.size W0 wr) (fun _ _ tv _ => 2 - (intOf tv).toNat)
  case atStart => exact ⟨0, rfl, by omega, by omega, by omega, Below.refl _ _⟩
  case round =>
    obtain ⟨k, rfl, hk, he1, he2, bw⟩ := hrel
    clear y1_0 y1_1 y1_2 y1_3 y1_4 y1_5 y1_6 y1_7 y2_0 y2_1 y2_2 y2_3 y2_4 y2_5 y2_6 y2_7
    rcases (show k = 0 ∨ k = 1 ∨ k = 2 by omega) with rfl | rfl | rfl
    · have ix := idxA (.int .i64 u1) (.int .i64 ev1) (.int .i64 f1) (.int .i64 cn1) (.int .i64 un1) (.slice a11 n11 c11) (.slice a12 n12 c12) (.slice a13 n13 c13) (.int .i64 u2) (.int .i64 ev2) (.int .i64 f2) (.int .i64 cn2) (.int .i64 un2) (.slice a21 n21 c21) (.slice a22 n22 c22) (.slice a23 n23 c23)
      go_wp2_with fail
      have bA := below_new bw (.cells #[.int .i64 u1, .int .i64 ev1, .int .i64 f1, .int .i64 cn1, .int .i64 un1, .slice a11 n11 c11, .slice a12 n12 c12, .slice a13 n13 c13] 24)
      generalize World.alloc wr _ = W3 at bA ⊢
      refine (recur_Check _ _ _ _ _ _ _ _ _ _ _ _ _ _ _ ws1 ms1 ns1 (H11.out.far B0.out bA) (H12.out.far B0.out bA) (H13.out.far B0.out bA) k11 k12 k13 m11 m12 m13).mono ?_
      rw [← XE1.out]
      rintro e w4 ⟨rfl, hb⟩
      have bB := Lib.hid (below_then bA hb)
      clear hb ix
      by_cases hz : E1 = 0
      · have HZ := Lib.hid hz
        rw [hz]
        clear hz
        go_wp2_with fail
        go_roundw
        case rel => exact ⟨1, rfl, by omega, fun _ => HZ.out, by omega, bB.out⟩
        case measure => simp [intOf]
      · have hz' : (E1 == 0) = false := by simpa using hz
        have HZ := Lib.hid hz
        clear hz
        go_wp2_with fail
        go_ret3
        exact .inl ⟨by rw [diffErr, if_pos HZ.out]; exact HZ.out, by rw [diffErr, if_pos HZ.out]; rfl, below_then B0.out bB.out⟩
    · have HZ1 := Lib.hid (he1 (by omega))
      have ix := idxB (.int .i64 u1) (.int .i64 ev1) (.int .i64 f1) (.int .i64 cn1) (.int .i64 un1) (.slice a11 n11 c11) (.slice a12 n12 c12) (.slice a13 n13 c13) (.int .i64 u2) (.int .i64 ev2) (.int .i64 f2) (.int .i64 cn2) (.int .i64 un2) (.slice a21 n21 c21) (.slice a22 n22 c22) (.slice a23 n23 c23)
      clear he1 he2
      go_wp2_with fail
      have bA := below_new bw (.cells #[.int .i64 u2, .int .i64 ev2, .int .i64 f2, .int .i64 cn2, .int .i64 un2, .slice a21 n21 c21, .slice a22 n22 c22, .slice a23 n23 c23] 24)
      generalize World.alloc wr _ = W3 at bA ⊢
      refine (recur_Check _ _ _ _ _ _ _ _ _ _ _ _ _ _ _ ws2 ms2 ns2 (H21.out.far B0.out bA) (H22.out.far B0.out bA) (H23.out.far B0.out bA) k21 k22 k23 m21 m22 m23).mono ?_
      rw [← XE2.out]
      rintro e w4 ⟨rfl, hb⟩
      have bB := Lib.hid (below_then bA hb)
      clear hb ix
      by_cases hz : E2 = 0
      · have HZ := Lib.hid hz
        rw [hz]
        clear hz
        go_wp2_with fail
        go_roundw
        case rel => exact ⟨2, rfl, by omega, fun _ => HZ1.out, fun _ => HZ.out, bB.out⟩
        case measure => simp [intOf]
      · have hz' : (E2 == 0) = false := by simpa using hz
        have HZ := Lib.hid hz
        clear hz
        go_wp2_with fail
        go_ret3
        exact .inl ⟨by rw [diffErr, if_neg (by rw [HZ1.out]; simp), if_pos HZ.out]; exact HZ.out, by rw [diffErr, if_neg (by rw [HZ1.out]; simp), if_pos HZ.out]; rfl, below_then B0.out bB.out⟩
    · have hz1 := he1 (by omega)
      have hz2 := he2 rfl
      have ok1 := recOk_of (XE1.out.symm.trans hz1)
      have ok2 := recOk_of (XE2.out.symm.trans hz2)
      have hde := Lib.hid (show diffErr E1 E2 R1 R2 = if R1 ≠ 0 then R1 else R2 by rw [diffErr, if_neg (by rw [hz1]; simp), if_neg (by rw [hz2]; simp)])
      clear he1 he2 hz1 hz2
      obtain ⟨q1, q2⟩ := K.out wr bw
      have y1_0 : wr.cell? ⟨w.heap.size, 0, none⟩ = some (.int .i64 u1) := q1.cell 0
      have y1_1 : wr.cell? ⟨w.heap.size, 1, none⟩ = some (.int .i64 ev1) := q1.cell 1
      have y1_2 : wr.cell? ⟨w.heap.size, 2, none⟩ = some (.int .i64 f1) := q1.cell 2
      have y1_3 : wr.cell? ⟨w.heap.size, 3, none⟩ = some (.int .i64 cn1) := q1.cell 3
      have y1_4 : wr.cell? ⟨w.heap.size, 4, none⟩ = some (.int .i64 un1) := q1.cell 4
      have y1_5 : wr.cell? ⟨w.heap.size, 5, none⟩ = some (.slice a11 n11 c11) := q1.cell 5
      have y1_6 : wr.cell? ⟨w.heap.size, 6, none⟩ = some (.slice a12 n12 c12) := q1.cell 6
      have y1_7 : wr.cell? ⟨w.heap.size, 7, none⟩ = some (.slice a13 n13 c13) := q1.cell 7
      have y2_0 : wr.cell? ⟨(w.heap.size + 1), 0, none⟩ = some (.int .i64 u2) := q2.cell 0
      have y2_1 : wr.cell? ⟨(w.heap.size + 1), 1, none⟩ = some (.int .i64 ev2) := q2.cell 1
      have y2_2 : wr.cell? ⟨(w.heap.size + 1), 2, none⟩ = some (.int .i64 f2) := q2.cell 2
      have y2_3 : wr.cell? ⟨(w.heap.size + 1), 3, none⟩ = some (.int .i64 cn2) := q2.cell 3
      have y2_4 : wr.cell? ⟨(w.heap.size + 1), 4, none⟩ = some (.int .i64 un2) := q2.cell 4
      have y2_5 : wr.cell? ⟨(w.heap.size + 1), 5, none⟩ = some (.slice a21 n21 c21) := q2.cell 5
      have y2_6 : wr.cell? ⟨(w.heap.size + 1), 6, none⟩ = some (.slice a22 n22 c22) := q2.cell 6
      have y2_7 : wr.cell? ⟨(w.heap.size + 1), 7, none⟩ = some (.slice a23 n23 c23) := q2.cell 7
      clear q1 q2
      have BR := Lib.hid bw
      clear bw
      have OK1 := Lib.hid ok1; have OK2 := Lib.hid ok2
      clear ok1 ok2
      go_wp2_with fail
      go_loopw [8, 9, 10, 15, 16, 34] (fun _ _ _ _ _ tv wr => ∃ k : Nat, tv = .int .i64 k ∧ k ≤ 2 ∧ (1 ≤ k → R1 = 0) ∧ (k = 2 → R2 = 0) ∧ Below W0.heap.size W0 wr) (fun _ _ _ _ _ tv _ => 2 - (intOf tv).toNat)
      case atStart => exact ⟨0, rfl, by omega, by omega, by omega, BR.out⟩
      case round =>
        clear BR y1_0 y1_1 y1_2 y1_3 y1_4 y1_5 y1_6 y1_7 y2_0 y2_1 y2_2 y2_3 y2_4 y2_5 y2_6 y2_7
        obtain ⟨k, rfl, hk, he1, he2, bw⟩ := hrel
        rcases (show k = 0 ∨ k = 1 ∨ k = 2 by omega) with rfl | rfl | rfl
        · have ix := idxA (.int .i64 u1) (.int .i64 ev1) (.int .i64 f1) (.int .i64 cn1) (.int .i64 un1) (.slice a11 n11 c11) (.slice a12 n12 c12) (.slice a13 n13 c13) (.int .i64 u2) (.int .i64 ev2) (.int .i64 f2) (.int .i64 cn2) (.int .i64 un2) (.slice a21 n21 c21) (.slice a22 n22 c22) (.slice a23 n23 c23)
          go_wp2_with fail
          have bA := below_new bw (.cells #[.int .i64 u1, .int .i64 ev1, .int .i64 f1, .int .i64 cn1, .int .i64 un1, .slice a11 n11 c11, .slice a12 n12 c12, .slice a13 n13 c13] 24)
          generalize World.alloc wr _ = W3 at bA ⊢
          refine (recur_checkRange W3 u1 ev1 f1 cn1 un1 a11 a12 a13 n11 n12 n13 c11 c12 c13 a b OK1.out.f1 OK1.out.f2).mono ?_
          rw [← XR1.out]
          rintro e w4 ⟨rfl, hb⟩
          have bB := Lib.hid (below_then bA hb)
          clear hb ix
          by_cases hz : R1 = 0
          · have HZ := Lib.hid hz
            rw [hz]
            clear hz
            go_wp2_with fail
            go_roundw
            case rel => exact ⟨_, _, _, _, _, .int .i64 1, _, _, _, _, _, _, _, _, _, _, ⟨1, rfl, by omega, fun _ => HZ.out, by omega, bB.out⟩, rfl⟩
            case measure => simp [intOf]
          · have hz' : (R1 == 0) = false := by simpa using hz
            have HZ := Lib.hid hz
            clear hz
            go_wp2_with fail
            go_ret3
            exact .inl ⟨by rw [hde.out, if_pos HZ.out]; exact HZ.out, by rw [hde.out, if_pos HZ.out]; rfl, below_then B0.out bB.out⟩
        · have HZ1 := Lib.hid (he1 (by omega))
          have ix := idxB (.int .i64 u1) (.int .i64 ev1) (.int .i64 f1) (.int .i64 cn1) (.int .i64 un1) (.slice a11 n11 c11) (.slice a12 n12 c12) (.slice a13 n13 c13) (.int .i64 u2) (.int .i64 ev2) (.int .i64 f2) (.int .i64 cn2) (.int .i64 un2) (.slice a21 n21 c21) (.slice a22 n22 c22) (.slice a23 n23 c23)
          clear he1 he2
          go_wp2_with fail
          have bA := below_new bw (.cells #[.int .i64 u2, .int .i64 ev2, .int .i64 f2, .int .i64 cn2, .int .i64 un2, .slice a21 n21 c21, .slice a22 n22 c22, .slice a23 n23 c23] 24)
          generalize World.alloc wr _ = W3 at bA ⊢
          refine (recur_checkRange W3 u2 ev2 f2 cn2 un2 a21 a22 a23 n21 n22 n23 c21 c22 c23 a b OK2.out.f1 OK2.out.f2).mono ?_
          rw [← XR2.out]
          rintro e w4 ⟨rfl, hb⟩
          have bB := Lib.hid (below_then bA hb)
          clear hb ix
          by_cases hz : R2 = 0
          · have HZ := Lib.hid hz
            rw [hz]
            clear hz
            go_wp2_with fail
            go_roundw
            case rel => exact ⟨_, _, _, _, _, .int .i64 2, _, _, _, _, _, _, _, _, _, _, ⟨2, rfl, by omega, fun _ => HZ1.out, fun _ => HZ.out, bB.out⟩, rfl⟩
            case measure => simp [intOf]
          · have hz' : (R2 == 0) = false := by simpa using hz
            have HZ := Lib.hid hz
            clear hz
            go_wp2_with fail
            go_ret3
            exact .inl ⟨by rw [hde.out, if_neg (by rw [HZ1.out]; simp)]; exact HZ.out, by rw [hde.out, if_neg (by rw [HZ1.out]; simp)]; rfl, below_then B0.out bB.out⟩
        · have hz1 := he1 (by omega)
          have hz2 := he2 rfl
          obtain ⟨r1, r2, r3, r4, r5, r6, r7⟩ := rangeErr_zero (XR1.out.symm.trans hz1)
          obtain ⟨_, _, _, _, _, r8, _⟩ := rangeErr_zero (XR2.out.symm.trans hz2)
          have hdz := Lib.hid (show diffErr E1 E2 R1 R2 = 0 by rw [hde.out, hz1, hz2]; rfl)
          have L1 := daysL_len u1 ev1 f1 cn1 un1 ws1 ms1 ns1 a b r6
          have L2 := daysL_len u2 ev2 f2 cn2 un2 ws2 ms2 ns2 a b r8
          have S1 := Lib.hid (daysL_sorted u1 ev1 f1 cn1 un1 ws1 ms1 ns1 a b)
          have S2 := Lib.hid (daysL_sorted u2 ev2 f2 cn2 un2 ws2 ms2 ns2 a b)
          obtain ⟨XS, hXS⟩ : ∃ X, X = daysL u1 ev1 f1 cn1 un1 ws1 ms1 ns1 a b := ⟨_, rfl⟩
          obtain ⟨YS, hYS⟩ : ∃ X, X = daysL u2 ev2 f2 cn2 un2 ws2 ms2 ns2 a b := ⟨_, rfl⟩
          rw [← hXS] at L1 S1 ⊢
          rw [← hYS] at L2 S2 ⊢
          have HXS := Lib.hid hXS; have HYS := Lib.hid hYS
          clear he1 he2 hz1 hz2 hXS hYS
          obtain ⟨q1, q2⟩ := K.out wr bw
          have bD := below_then B0.out bw
          have B1 := Lib.hid bD
          clear bw bD
          have lt1 := q1.lt; have lt2 := q2.lt
          have KS : ∀ W : World, Below wr.heap.size wr W → W.cell? ⟨w.heap.size, 0, none⟩ = some (.int .i64 u1) ∧ W.cell? ⟨w.heap.size, 1, none⟩ = some (.int .i64 ev1) ∧ W.cell? ⟨w.heap.size, 2, none⟩ = some (.int .i64 f1) ∧ W.cell? ⟨w.heap.size, 3, none⟩ = some (.int .i64 cn1) ∧ W.cell? ⟨w.heap.size, 4, none⟩ = some (.int .i64 un1) ∧ W.cell? ⟨w.heap.size, 5, none⟩ = some (.slice a11 n11 c11) ∧ W.cell? ⟨w.heap.size, 6, none⟩ = some (.slice a12 n12 c12) ∧ W.cell? ⟨w.heap.size, 7, none⟩ = some (.slice a13 n13 c13) ∧ W.cell? ⟨(w.heap.size + 1), 0, none⟩ = some (.int .i64 u2) ∧ W.cell? ⟨(w.heap.size + 1), 1, none⟩ = some (.int .i64 ev2) ∧ W.cell? ⟨(w.heap.size + 1), 2, none⟩ = some (.int .i64 f2) ∧ W.cell? ⟨(w.heap.size + 1), 3, none⟩ = some (.int .i64 cn2) ∧ W.cell? ⟨(w.heap.size + 1), 4, none⟩ = some (.int .i64 un2) ∧ W.cell? ⟨(w.heap.size + 1), 5, none⟩ = some (.slice a21 n21 c21) ∧ W.cell? ⟨(w.heap.size + 1), 6, none⟩ = some (.slice a22 n22 c22) ∧ W.cell? ⟨(w.heap.size + 1), 7, none⟩ = some (.slice a23 n23 c23) ∧ Below wr.heap.size wr W := fun W hb => by
            have z1 := q1.then_ hb; have z2 := q2.then_ hb
            exact ⟨z1.cell 0, z1.cell 1, z1.cell 2, z1.cell 3, z1.cell 4, z1.cell 5, z1.cell 6, z1.cell 7, z2.cell 0, z2.cell 1, z2.cell 2, z2.cell 3, z2.cell 4, z2.cell 5, z2.cell 6, z2.cell 7, hb⟩
          have KW := Lib.hid KS; clear KS q1 q2
          have ll11 := H11.out.1; have ll12 := H12.out.1; have ll13 := H13.out.1
          have ll21 := H21.out.1; have ll22 := H22.out.1; have ll23 := H23.out.1
          have ok1 := OK1.out; have ok2 := OK2.out
          obtain ⟨o1, o2, o3, o4, o5, o6, o7, o8, o9, o10, o11, o12, o13, o14⟩ := ok1
          obtain ⟨v1, v2, v3, v4, v5, v6, v7, v8, v9, v10, v11, v12, v13, v14⟩ := ok2
          go_upto_region 15 with fail
          refine wp_region_held_drew (S := (fun w' => w'.cell? ⟨w.heap.size, 0, none⟩ = some (.int .i64 u1) ∧ w'.cell? ⟨w.heap.size, 1, none⟩ = some (.int .i64 ev1) ∧ w'.cell? ⟨w.heap.size, 2, none⟩ = some (.int .i64 f1) ∧ w'.cell? ⟨w.heap.size, 3, none⟩ = some (.int .i64 cn1) ∧ w'.cell? ⟨w.heap.size, 4, none⟩ = some (.int .i64 un1) ∧ w'.cell? ⟨w.heap.size, 5, none⟩ = some (.slice a11 n11 c11) ∧ w'.cell? ⟨w.heap.size, 6, none⟩ = some (.slice a12 n12 c12) ∧ w'.cell? ⟨w.heap.size, 7, none⟩ = some (.slice a13 n13 c13) ∧ w'.cell? ⟨(w.heap.size + 1), 0, none⟩ = some (.int .i64 u2) ∧ w'.cell? ⟨(w.heap.size + 1), 1, none⟩ = some (.int .i64 ev2) ∧ w'.cell? ⟨(w.heap.size + 1), 2, none⟩ = some (.int .i64 f2) ∧ w'.cell? ⟨(w.heap.size + 1), 3, none⟩ = some (.int .i64 cn2) ∧ w'.cell? ⟨(w.heap.size + 1), 4, none⟩ = some (.int .i64 un2) ∧ w'.cell? ⟨(w.heap.size + 1), 5, none⟩ = some (.slice a21 n21 c21) ∧ w'.cell? ⟨(w.heap.size + 1), 6, none⟩ = some (.slice a22 n22 c22) ∧ w'.cell? ⟨(w.heap.size + 1), 7, none⟩ = some (.slice a23 n23 c23) ∧ Below wr.heap.size wr w')) (by kernel_rfl) ?_ (fun hHeld => ?_)
          · (try dsimp only); first | exact KW.out _ (Below.refl _ _).drew | exact KW.out _ (below_then (lastN_df (by assumption)) (by assumption))
          refine lex_take (i := 0) (v := ?_) rfl (by kernel_rfl) (by kernel_rfl) (by kernel_rfl) (fun _ _ _ h => h) (by rfl) ?_ (by assumption) ?_
          rotate_left
          · (intro w hSw; (try dsimp only at hSw); go_simp; try with_reducible rfl)
          try simp only [Act.put, List.setIfInBounds_toArray, List.set_cons_zero, List.set_cons_succ]
          refine lex_take (i := 1) (v := ?_) rfl (by kernel_rfl) (by kernel_rfl) (by kernel_rfl) (fun _ _ _ h => h) (by rfl) ?_ (by assumption) ?_
          rotate_left
          · (intro w hSw; (try dsimp only at hSw); go_simp; try with_reducible rfl)
          try simp only [Act.put, List.setIfInBounds_toArray, List.set_cons_zero, List.set_cons_succ]
          refine lex_take (i := 2) (v := ?_) rfl (by kernel_rfl) (by kernel_rfl) (by kernel_rfl) (fun _ _ _ h => h) (by rfl) ?_ (by assumption) ?_
          rotate_left
          · (intro w hSw; (try dsimp only at hSw); go_simp; try with_reducible rfl)
          try simp only [Act.put, List.setIfInBounds_toArray, List.set_cons_zero, List.set_cons_succ]
          refine lex_take (i := 4) (v := ?_) rfl (by kernel_rfl) (by kernel_rfl) (by kernel_rfl) (fun _ _ _ h => h) (by rfl) ?_ (by assumption) ?_
          rotate_left
          · (intro w hSw; (try dsimp only at hSw); go_simp; try with_reducible rfl)
          try simp only [Act.put, List.setIfInBounds_toArray, List.set_cons_zero, List.set_cons_succ]
          refine lex_take (i := 5) (v := ?_) rfl (by kernel_rfl) (by kernel_rfl) (by kernel_rfl) (fun _ _ _ h => h) (by rfl) ?_ (by assumption) ?_
          rotate_left
          · (intro w hSw; (try dsimp only at hSw); go_simp; try with_reducible rfl)
          try simp only [Act.put, List.setIfInBounds_toArray, List.set_cons_zero, List.set_cons_succ]
          refine lex_take (i := 6) (v := ?_) rfl (by kernel_rfl) (by kernel_rfl) (by kernel_rfl) (fun _ _ _ h => h) (by rfl) ?_ (by assumption) ?_
          rotate_left
          · (intro w hSw; (try dsimp only at hSw); go_simp; try with_reducible rfl)
          try simp only [Act.put, List.setIfInBounds_toArray, List.set_cons_zero, List.set_cons_succ]
          refine lex_step (i := 3) rfl (by kernel_rfl) (by rfl) (fun Kx hKx => ?_)
          go_simp
          go_at_call 22; (with_reducible refine (recur_days _ u1 ev1 f1 cn1 un1 a11 a12 a13 n11 n12 n13 c11 c12 c13 ws1 ms1 ns1 (H11.out.far B1.out (lastN_df (by assumption))) (H12.out.far B1.out (lastN_df (by assumption))) (H13.out.far B1.out (lastN_df (by assumption)))  (by omega) (by omega) (by omega) o3 o4 o5 o6 o7 o8 o10 o11 a b r1 r2 r3 r4).mono ?_); rintro e wA ⟨p1, m1, q1, rfl, hn1, hq1, hI1, hb⟩
          have HJ1 := Lib.hid hI1; have HB1 := Lib.hid hb
          clear hI1
          try go_wp2_with fail
          refine hKx.out _ _ ?_ (fun hHeld => ?_)
          · (try dsimp only); first | exact KW.out _ (Below.refl _ _).drew | exact KW.out _ (below_then (lastN_df (by assumption)) (by assumption))
          clear hKx Kx
          try simp only [Act.put, List.setIfInBounds_toArray, List.set_cons_zero, List.set_cons_succ]
          refine lex_step (i := 7) rfl (by kernel_rfl) (by rfl) (fun Kx hKx => ?_)
          go_simp
          go_at_call 22; (with_reducible refine (recur_days _ u2 ev2 f2 cn2 un2 a21 a22 a23 n21 n22 n23 c21 c22 c23 ws2 ms2 ns2 (H21.out.far B1.out (lastN_df (by assumption))) (H22.out.far B1.out (lastN_df (by assumption))) (H23.out.far B1.out (lastN_df (by assumption)))  (by omega) (by omega) (by omega) v3 v4 v5 v6 v7 v8 v10 v11 a b r1 r2 r3 r4).mono ?_); rintro e wB ⟨p2, m2, q2, rfl, hn2, hq2, hI2, hb⟩
          have HJ2 := Lib.hid hI2; have HB2 := Lib.hid hb
          clear hI2
          try go_wp2_with fail
          refine hKx.out _ _ ?_ (fun hHeld => ?_)
          · (try dsimp only); first | exact KW.out _ (Below.refl _ _).drew | exact KW.out _ (below_then (lastN_df (by assumption)) (by assumption))
          clear hKx Kx
          try simp only [Act.put, List.setIfInBounds_toArray, List.set_cons_zero, List.set_cons_succ]
          refine lex_take (i := 8) (v := ?_) rfl (by kernel_rfl) (by kernel_rfl) (by kernel_rfl) (fun _ _ _ h => h) (by rfl) ?_ (by assumption) ?_
          rotate_left
          · (intro w hSw; (try dsimp only at hSw); go_simp; try with_reducible rfl)
          try simp only [Act.put, List.setIfInBounds_toArray, List.set_cons_zero, List.set_cons_succ]
          refine lex_take (i := 9) (v := ?_) rfl (by kernel_rfl) (by kernel_rfl) (by kernel_rfl) (fun _ _ _ h => h) (by rfl) ?_ (by assumption) ?_
          rotate_left
          · (intro w hSw; (try dsimp only at hSw); go_simp; try with_reducible rfl)
          try simp only [Act.put, List.setIfInBounds_toArray, List.set_cons_zero, List.set_cons_succ]
          refine wpAnyH_done (by kernel_rfl) ?_ _
          have WA := Lib.hid (recur_without wB p1 p2 m1 q1 m2 q2 XS YS (by rw [HXS.out]; exact HJ1.out.far (Below.refl _ _) HB2.out) (by rw [HYS.out]; exact HJ2.out) S2.out (by have := HJ1.out.1; rw [← HXS.out] at this; omega) (by have := HJ2.out.1; rw [← HYS.out] at this; omega))
          go_wp2_with fail
          refine WA.out.mono ?_
          rintro e wC ⟨s1, t1, z1, rfl, hI3, hb3⟩
          have WB := Lib.hid (recur_without wC p2 p1 m2 q2 m1 q1 YS XS (by rw [HYS.out]; exact HJ2.out.far (Below.refl _ _) hb3) (by rw [HXS.out]; exact (HJ1.out.far (Below.refl _ _) HB2.out).far (Below.refl _ _) hb3) S1.out (by have := HJ2.out.1; rw [← HYS.out] at this; omega) (by have := HJ1.out.1; rw [← HXS.out] at this; omega))
          have I3 := Lib.hid hI3; have B3 := Lib.hid hb3
          clear hI3 hb3
          go_wp2_with fail
          refine WB.out.mono ?_
          rintro e wD ⟨s2, t2, z2, rfl, hI4, hb4⟩
          have I4 := Lib.hid hI4; have B4 := Lib.hid hb4
          clear hI4 hb4
          go_wp2_with fail
          go_ret3
          refine .inr ⟨hdz.out, s1, t1, z1, s2, t2, z2, rfl, by have h := I3.out.far (Below.refl _ _) B4.out; rw [HXS.out, HYS.out] at h; exact h, by have h := I4.out; rw [HXS.out, HYS.out] at h; exact h, ?_⟩
          have hL := lastN_df hHeld
          exact below_then (below_then (below_then B1.out hL) B3.out) B4.out
end Go.Proofs.YtdmkghgachapaaaGreatDoor
