/- Contract of recur.fits. -/
import Derived.Test.YtdmkghgachapaaaGreatDoorRec1
import Derived.Test.YtdmkghgachapaaaGreatDoorMgR
import Derived.Test.YtdmkghgachapaaaGreatDoorMgA
import Derived.Deep.Cut
import Derived.Deep.CutRange
namespace Go.Proofs.YtdmkghgachapaaaGreatDoor
set_option linter.unusedVariables false
set_option maxRecDepth 100000
open Go.RowKit

/-- The last part of the definition of a fitting day. -/
def fitsEnd (u : Int) (ws ms ns : List Int) (k0 m0 d0 k m d : Int) : Bool :=
  if 0 < ws.length + ms.length then true else if u = 2 then k == k0 else if u = 3 then d == d0 else if u = 4 then (d == d0) && (decide (0 < ns.length) || (m == m0)) else true
/-- Whether a day fits, apart from its range. -/
def fitsB (u ev : Int) (ws ms ns : List Int) (x0 k0 y0 m0 d0 x k y m d l : Int) : Bool :=
  !((unitOf u x y m - unitOf u x0 y0 m0).tmod ev != 0) && (listedB ns [m] && (listedB ws [k] && (listedB ms [d, d - l - 1] && fitsEnd u ws ms ns k0 m0 d0 k m d)))
theorem unitOf_in {u x y m : Int} (h1 : -4000000 ≤ x) (h2 : x ≤ 4000000) (y1 : -20000 ≤ y) (y2 : y ≤ 20000) (m1 : 1 ≤ m) (m2 : m ≤ 12) : -5000000 ≤ unitOf u x y m ∧ unitOf u x y m ≤ 5000000 := by
  unfold unitOf
  split
  · omega
  · split
    · omega
    · split <;> omega
theorem last17S {P0 P1 P2 P3 P4 P5 P6 P7 P8 P9 P10 P11 P12 P13 P14 P15 P16 R : Prop} (h : P0 ∧ P1 ∧ P2 ∧ P3 ∧ P4 ∧ P5 ∧ P6 ∧ P7 ∧ P8 ∧ P9 ∧ P10 ∧ P11 ∧ P12 ∧ P13 ∧ P14 ∧ P15 ∧ P16 ∧ R) : R := h.2.2.2.2.2.2.2.2.2.2.2.2.2.2.2.2.2
set_option maxHeartbeats 8000000 in
theorem recur_fits (w : World) (u ev f cn un : Int) (a1 a2 a3 : Option Addr) (n1 n2 n3 c1 c2 c3 : Nat) (ws ms ns : List Int)
    (h1 : Ints w w.heap.size a1 n1 ws) (h2 : Ints w w.heap.size a2 n2 ms) (h3 : Ints w w.heap.size a3 n3 ns) (L1 : n1 ≤ 31) (L2 : n2 ≤ 31) (L3 : n3 ≤ 31) (e1 : 1 ≤ ev) (e2 : ev ≤ 1000)
    (x0 k0 y0 m0 d0 l0 x k y m d l : Int) (p1 : -4000000 ≤ x0) (p2 : x0 ≤ 4000000) (p3 : -20000 ≤ y0) (p4 : y0 ≤ 20000) (p5 : 1 ≤ m0) (p6 : m0 ≤ 12)
    (q1 : -4000000 ≤ x) (q2 : x ≤ 4000000) (q3 : -20000 ≤ y) (q4 : y ≤ 20000) (q5 : 1 ≤ m) (q6 : m ≤ 12) (q7 : 1 ≤ d) (q8 : d ≤ 31) (q9 : 28 ≤ l) (q10 : l ≤ 31) (q11 : 0 ≤ k) (q12 : k ≤ 6) :
    Calls Tryz.prog 40 #[.agg #[.int .i64 u, .int .i64 ev, .int .i64 f, .int .i64 cn, .int .i64 un, .slice a1 n1 c1, .slice a2 n2 c2, .slice a3 n3 c3], .agg #[.int .i64 x0, .int .i64 k0, .int .i64 y0, .int .i64 m0, .int .i64 d0, .int .i64 l0], .agg #[.int .i64 x, .int .i64 k, .int .i64 y, .int .i64 m, .int .i64 d, .int .i64 l]] w fun e w' => e = .returned (.bool (fitsB u ev ws ms ns x0 k0 y0 m0 d0 x k y m d l)) ∧ Below w.heap.size w w' := by
  have I1 := h1.1; have I2 := h2.1; have I3 := h3.1
  have H1 := Lib.hid h1; have H2 := Lib.hid h2; have H3 := Lib.hid h3; clear h1 h2 h3
  obtain ⟨U, hU⟩ : ∃ U, U = unitOf u x y m := ⟨_, rfl⟩
  obtain ⟨V, hV⟩ : ∃ V, V = unitOf u x0 y0 m0 := ⟨_, rfl⟩
  have hU1 := unitOf_in (u := u) q1 q2 q3 q4 q5 q6
  have hV1 := unitOf_in (u := u) p1 p2 p3 p4 p5 p6
  rw [← hU] at hU1
  rw [← hV] at hV1
  obtain ⟨hU1, hU2⟩ := hU1
  obtain ⟨hV1, hV2⟩ := hV1
  have CU : ∀ W : World, Calls Tryz.prog 65 #[.agg #[.int .i64 x, .int .i64 k, .int .i64 y, .int .i64 m, .int .i64 d, .int .i64 l], .int .i64 u] W fun e w' => e = .returned (.int .i64 U) ∧ Below W.heap.size W w' := by
    intro W; rw [hU]; exact moment_unit W u x k y m d l q1 q2 q3 q4 q5 q6
  have CV : ∀ W : World, Calls Tryz.prog 65 #[.agg #[.int .i64 x0, .int .i64 k0, .int .i64 y0, .int .i64 m0, .int .i64 d0, .int .i64 l0], .int .i64 u] W fun e w' => e = .returned (.int .i64 V) ∧ Below W.heap.size W w' := by
    intro W; rw [hV]; exact moment_unit W u x0 k0 y0 m0 d0 l0 p1 p2 p3 p4 p5 p6
  have hd1 : IntKind.i64.wrap (U - V) = U - V := IntWalk.i64_in _ (by omega)
  have hd2 : IntKind.i64.wrap (d - l) = d - l := IntWalk.i64_in _ (by omega)
  have hd3 : IntKind.i64.wrap (d - l - 1) = d - l - 1 := IntWalk.i64_in _ (by omega)
  have hev : ¬ ev = 0 := by omega
  have A3 := ((At.new w (.cells #[.int .i64 u, .int .i64 ev, .int .i64 f, .int .i64 cn, .int .i64 un, .slice a1 n1 c1, .slice a2 n2 c2, .slice a3 n3 c3] 24)).alloc (.cells #[.int .i64 x0, .int .i64 k0, .int .i64 y0, .int .i64 m0, .int .i64 d0, .int .i64 l0] 54)).alloc (.cells #[.int .i64 x, .int .i64 k, .int .i64 y, .int .i64 m, .int .i64 d, .int .i64 l] 54)
  have A4 := (At.new1 w (.cells #[.int .i64 u, .int .i64 ev, .int .i64 f, .int .i64 cn, .int .i64 un, .slice a1 n1 c1, .slice a2 n2 c2, .slice a3 n3 c3] 24) (.cells #[.int .i64 x0, .int .i64 k0, .int .i64 y0, .int .i64 m0, .int .i64 d0, .int .i64 l0] 54)).alloc (.cells #[.int .i64 x, .int .i64 k, .int .i64 y, .int .i64 m, .int .i64 d, .int .i64 l] 54)
  have A5 := At.new2 w (.cells #[.int .i64 u, .int .i64 ev, .int .i64 f, .int .i64 cn, .int .i64 un, .slice a1 n1 c1, .slice a2 n2 c2, .slice a3 n3 c3] 24) (.cells #[.int .i64 x0, .int .i64 k0, .int .i64 y0, .int .i64 m0, .int .i64 d0, .int .i64 l0] 54) (.cells #[.int .i64 x, .int .i64 k, .int .i64 y, .int .i64 m, .int .i64 d, .int .i64 l] 54)
  have b0 := below_new (below_new (below_new (Below.refl w.heap.size w) (.cells #[.int .i64 u, .int .i64 ev, .int .i64 f, .int .i64 cn, .int .i64 un, .slice a1 n1 c1, .slice a2 n2 c2, .slice a3 n3 c3] 24)) (.cells #[.int .i64 x0, .int .i64 k0, .int .i64 y0, .int .i64 m0, .int .i64 d0, .int .i64 l0] 54)) (.cells #[.int .i64 x, .int .i64 k, .int .i64 y, .int .i64 m, .int .i64 d, .int .i64 l] 54)
  have hI1 : ∀ x ∈ [m], I64 x := by intro x hx; simp at hx; unfold I64; omega
  have hI2 : ∀ x ∈ [k], I64 x := by intro x hx; simp at hx; unfold I64; omega
  have hI3 : ∀ x ∈ [d, d - l - 1], I64 x := by intro x hx; simp at hx; unfold I64; omega
  have HI1 := Lib.hid hI1; have HI2 := Lib.hid hI2; have HI3 := Lib.hid hI3
  have hres : fitsB u ev ws ms ns x0 k0 y0 m0 d0 x k y m d l = (!((U - V).tmod ev != 0) && (listedB ns [m] && (listedB ws [k] && (listedB ms [d, d - l - 1] && fitsEnd u ws ms ns k0 m0 d0 k m d)))) := by
    unfold fitsB; rw [hU, hV]
  have HRES := Lib.hid hres
  clear hI1 hI2 hI3 hU hV hres
  obtain ⟨t1, ht1⟩ : ∃ t, t = ((U - V).tmod ev != 0) := ⟨_, rfl⟩
  obtain ⟨t2, ht2⟩ : ∃ t, t = listedB ns [m] := ⟨_, rfl⟩
  obtain ⟨t3, ht3⟩ : ∃ t, t = listedB ws [k] := ⟨_, rfl⟩
  obtain ⟨t4, ht4⟩ : ∃ t, t = listedB ms [d, d - l - 1] := ⟨_, rfl⟩
  have T1 := ht1.symm
  have T2 := Lib.hid ht2; have T3 := Lib.hid ht3; have T4 := Lib.hid ht4
  obtain ⟨E, hE⟩ : ∃ E, E = fitsB u ev ws ms ns x0 k0 y0 m0 d0 x k y m d l := ⟨_, rfl⟩
  rw [← hE]
  rw [HRES.out, T1, ← T2.out, ← T3.out, ← T4.out] at hE
  have HE := Lib.hid hE
  clear ht1 ht2 ht3 ht4 HRES hE
  go_enter Tryz.func40, Tryz.ntmps40
  go_upto_region 2 with fail
  generalize World.alloc (World.alloc (World.alloc w _) _) _ = W0 at A3 A4 A5 b0 ⊢
  have KS : ∀ W : World, Below W0.heap.size W0 W → W.cell? ⟨w.heap.size, 0, none⟩ = some (.int .i64 u) ∧ W.cell? ⟨w.heap.size, 1, none⟩ = some (.int .i64 ev) ∧ W.cell? ⟨w.heap.size, 5, none⟩ = some (.slice a1 n1 c1) ∧ W.cell? ⟨w.heap.size, 6, none⟩ = some (.slice a2 n2 c2) ∧ W.cell? ⟨w.heap.size, 7, none⟩ = some (.slice a3 n3 c3) ∧ W.cell? ⟨w.heap.size + 1, 0, none⟩ = some (.int .i64 x0) ∧ W.cell? ⟨w.heap.size + 1, 1, none⟩ = some (.int .i64 k0) ∧ W.cell? ⟨w.heap.size + 1, 2, none⟩ = some (.int .i64 y0) ∧ W.cell? ⟨w.heap.size + 1, 3, none⟩ = some (.int .i64 m0) ∧ W.cell? ⟨w.heap.size + 1, 4, none⟩ = some (.int .i64 d0) ∧ W.cell? ⟨w.heap.size + 1, 5, none⟩ = some (.int .i64 l0) ∧ W.cell? ⟨w.heap.size + 1 + 1, 0, none⟩ = some (.int .i64 x) ∧ W.cell? ⟨w.heap.size + 1 + 1, 1, none⟩ = some (.int .i64 k) ∧ W.cell? ⟨w.heap.size + 1 + 1, 2, none⟩ = some (.int .i64 y) ∧ W.cell? ⟨w.heap.size + 1 + 1, 3, none⟩ = some (.int .i64 m) ∧ W.cell? ⟨w.heap.size + 1 + 1, 4, none⟩ = some (.int .i64 d) ∧ W.cell? ⟨w.heap.size + 1 + 1, 5, none⟩ = some (.int .i64 l) ∧ Below W0.heap.size W0 W := fun W hb => ⟨(A3.then_ hb).cell 0, (A3.then_ hb).cell 1, (A3.then_ hb).cell 5, (A3.then_ hb).cell 6, (A3.then_ hb).cell 7, (A4.then_ hb).cell 0, (A4.then_ hb).cell 1, (A4.then_ hb).cell 2, (A4.then_ hb).cell 3, (A4.then_ hb).cell 4, (A4.then_ hb).cell 5, (A5.then_ hb).cell 0, (A5.then_ hb).cell 1, (A5.then_ hb).cell 2, (A5.then_ hb).cell 3, (A5.then_ hb).cell 4, (A5.then_ hb).cell 5, hb⟩
  have K := Lib.hid KS; clear KS
  have B0 := Lib.hid b0
  go_upto_if 55 with fail
  go_cut [55] from 11 (fun v wx => v = .bool (t1 || (!t2 || (!t3 || !t4))) ∧ Below W0.heap.size W0 wx)
  case first =>
    refine wp_region_held_drew (S := (fun w' => w'.cell? ⟨w.heap.size, 0, none⟩ = some (.int .i64 u) ∧ w'.cell? ⟨w.heap.size, 1, none⟩ = some (.int .i64 ev) ∧ w'.cell? ⟨w.heap.size, 5, none⟩ = some (.slice a1 n1 c1) ∧ w'.cell? ⟨w.heap.size, 6, none⟩ = some (.slice a2 n2 c2) ∧ w'.cell? ⟨w.heap.size, 7, none⟩ = some (.slice a3 n3 c3) ∧ w'.cell? ⟨w.heap.size + 1, 0, none⟩ = some (.int .i64 x0) ∧ w'.cell? ⟨w.heap.size + 1, 1, none⟩ = some (.int .i64 k0) ∧ w'.cell? ⟨w.heap.size + 1, 2, none⟩ = some (.int .i64 y0) ∧ w'.cell? ⟨w.heap.size + 1, 3, none⟩ = some (.int .i64 m0) ∧ w'.cell? ⟨w.heap.size + 1, 4, none⟩ = some (.int .i64 d0) ∧ w'.cell? ⟨w.heap.size + 1, 5, none⟩ = some (.int .i64 l0) ∧ w'.cell? ⟨w.heap.size + 1 + 1, 0, none⟩ = some (.int .i64 x) ∧ w'.cell? ⟨w.heap.size + 1 + 1, 1, none⟩ = some (.int .i64 k) ∧ w'.cell? ⟨w.heap.size + 1 + 1, 2, none⟩ = some (.int .i64 y) ∧ w'.cell? ⟨w.heap.size + 1 + 1, 3, none⟩ = some (.int .i64 m) ∧ w'.cell? ⟨w.heap.size + 1 + 1, 4, none⟩ = some (.int .i64 d) ∧ w'.cell? ⟨w.heap.size + 1 + 1, 5, none⟩ = some (.int .i64 l) ∧ Below W0.heap.size W0 w')) (by kernel_rfl) ?_ (fun hHeld => ?_)
    · (try dsimp only); first | exact K.out _ (Below.refl _ _).drew | exact K.out _ (below_then (last17S (by assumption)) (by assumption)) | exact K.out _ (below_new (last17S (by assumption)) _)
    refine lex_take (i := 0) (v := ?_) rfl (by kernel_rfl) (by kernel_rfl) (by kernel_rfl) (fun _ _ _ h => h) (by rfl) ?_ (by assumption) ?_
    rotate_left
    · (intro w hSw; (try dsimp only at hSw); go_simp; try with_reducible rfl)
    try simp only [Act.put, List.setIfInBounds_toArray, List.set_cons_zero, List.set_cons_succ]
    refine lex_take (i := 1) (v := ?_) rfl (by kernel_rfl) (by kernel_rfl) (by kernel_rfl) (fun _ _ _ h => h) (by rfl) ?_ (by assumption) ?_
    rotate_left
    · (intro w hSw; (try dsimp only at hSw); go_simp; try with_reducible rfl)
    try simp only [Act.put, List.setIfInBounds_toArray, List.set_cons_zero, List.set_cons_succ]
    refine lex_take (i := 2) (v := ?_) rfl (by kernel_rfl) (by kernel_rfl) (by kernel_rfl) (fun _ _ _ h => h) (by rfl) ?_ (by assumption) ?_
    rotate_left
    · (intro w hSw; (try dsimp only at hSw); go_simp; try with_reducible rfl)
    try simp only [Act.put, List.setIfInBounds_toArray, List.set_cons_zero, List.set_cons_succ]
    refine lex_take (i := 4) (v := ?_) rfl (by kernel_rfl) (by kernel_rfl) (by kernel_rfl) (fun _ _ _ h => h) (by rfl) ?_ (by assumption) ?_
    rotate_left
    · (intro w hSw; (try dsimp only at hSw); go_simp; try with_reducible rfl)
    try simp only [Act.put, List.setIfInBounds_toArray, List.set_cons_zero, List.set_cons_succ]
    refine lex_take (i := 5) (v := ?_) rfl (by kernel_rfl) (by kernel_rfl) (by kernel_rfl) (fun _ _ _ h => h) (by rfl) ?_ (by assumption) ?_
    rotate_left
    · (intro w hSw; (try dsimp only at hSw); go_simp; try with_reducible rfl)
    try simp only [Act.put, List.setIfInBounds_toArray, List.set_cons_zero, List.set_cons_succ]
    refine lex_take (i := 6) (v := ?_) rfl (by kernel_rfl) (by kernel_rfl) (by kernel_rfl) (fun _ _ _ h => h) (by rfl) ?_ (by assumption) ?_
    rotate_left
    · (intro w hSw; (try dsimp only at hSw); go_simp; try with_reducible rfl)
    try simp only [Act.put, List.setIfInBounds_toArray, List.set_cons_zero, List.set_cons_succ]
    refine lex_take (i := 9) (v := ?_) rfl (by kernel_rfl) (by kernel_rfl) (by kernel_rfl) (fun _ _ _ h => h) (by rfl) ?_ (by assumption) ?_
    rotate_left
    · (intro w hSw; (try dsimp only at hSw); go_simp; try with_reducible rfl)
    try simp only [Act.put, List.setIfInBounds_toArray, List.set_cons_zero, List.set_cons_succ]
    refine lex_take (i := 10) (v := ?_) rfl (by kernel_rfl) (by kernel_rfl) (by kernel_rfl) (fun _ _ _ h => h) (by rfl) ?_ (by assumption) ?_
    rotate_left
    · (intro w hSw; (try dsimp only at hSw); go_simp; try with_reducible rfl)
    try simp only [Act.put, List.setIfInBounds_toArray, List.set_cons_zero, List.set_cons_succ]
    refine lex_step (i := 3) rfl (by kernel_rfl) (by rfl) (fun Kx hKx => ?_)
    go_simp
    go_at_call 65; (with_reducible refine (CU _).mono ?_); rintro e w' ⟨rfl, hb⟩
    try go_wp2_with fail
    refine hKx.out _ _ ?_ (fun hHeld => ?_)
    · (try dsimp only); first | exact K.out _ (Below.refl _ _).drew | exact K.out _ (below_then (last17S (by assumption)) (by assumption)) | exact K.out _ (below_new (last17S (by assumption)) _)
    clear hKx Kx
    try simp only [Act.put, List.setIfInBounds_toArray, List.set_cons_zero, List.set_cons_succ]
    refine lex_step (i := 7) rfl (by kernel_rfl) (by rfl) (fun Kx hKx => ?_)
    go_simp
    go_at_call 65; (with_reducible refine (CV _).mono ?_); rintro e w' ⟨rfl, hb⟩
    try go_wp2_with fail
    refine hKx.out _ _ ?_ (fun hHeld => ?_)
    · (try dsimp only); first | exact K.out _ (Below.refl _ _).drew | exact K.out _ (below_then (last17S (by assumption)) (by assumption)) | exact K.out _ (below_new (last17S (by assumption)) _)
    clear hKx Kx
    try simp only [Act.put, List.setIfInBounds_toArray, List.set_cons_zero, List.set_cons_succ]
    refine lex_take (i := 8) (v := ?_) rfl (by kernel_rfl) (by kernel_rfl) (by kernel_rfl) (fun _ _ _ h => h) (by rfl) ?_ (by assumption) ?_
    rotate_left
    · (intro w hSw; (try dsimp only at hSw); go_simp; try with_reducible rfl)
    try simp only [Act.put, List.setIfInBounds_toArray, List.set_cons_zero, List.set_cons_succ]
    refine lex_take (i := 11) (v := ?_) rfl (by kernel_rfl) (by kernel_rfl) (by kernel_rfl) (fun _ _ _ h => h) (by rfl) ?_ (by assumption) ?_
    rotate_left
    · (intro w hSw; (try dsimp only at hSw); go_simp; try with_reducible rfl)
    try simp only [Act.put, List.setIfInBounds_toArray, List.set_cons_zero, List.set_cons_succ]
    refine lex_take (i := 12) (v := ?_) rfl (by kernel_rfl) (by kernel_rfl) (by kernel_rfl) (fun _ _ _ h => h) (by rfl) ?_ (by assumption) ?_
    rotate_left
    · (intro w hSw; (try dsimp only at hSw); go_simp; try with_reducible rfl)
    try simp only [Act.put, List.setIfInBounds_toArray, List.set_cons_zero, List.set_cons_succ]
    refine lex_take (i := 13) (v := ?_) rfl (by kernel_rfl) (by kernel_rfl) (by kernel_rfl) (fun _ _ _ h => h) (by rfl) ?_ (by assumption) ?_
    rotate_left
    · (intro w hSw; (try dsimp only at hSw); go_simp; try with_reducible rfl)
    try simp only [Act.put, List.setIfInBounds_toArray, List.set_cons_zero, List.set_cons_succ]
    cases t1 with
    | true =>
      refine lex_skip (i := 14) rfl (by kernel_rfl) (by kernel_rfl) (by kernel_rfl) (fun _ _ _ h => h) (by rfl) (by assumption) ?_
      try simp only [Act.put, List.setIfInBounds_toArray, List.set_cons_zero, List.set_cons_succ]
      refine lex_skip (i := 15) rfl (by kernel_rfl) (by kernel_rfl) (by kernel_rfl) (fun _ _ _ h => h) (by rfl) (by assumption) ?_
      try simp only [Act.put, List.setIfInBounds_toArray, List.set_cons_zero, List.set_cons_succ]
      refine lex_skip (i := 16) rfl (by kernel_rfl) (by kernel_rfl) (by kernel_rfl) (fun _ _ _ h => h) (by rfl) (by assumption) ?_
      try simp only [Act.put, List.setIfInBounds_toArray, List.set_cons_zero, List.set_cons_succ]
      refine lex_skip (i := 17) rfl (by kernel_rfl) (by kernel_rfl) (by kernel_rfl) (fun _ _ _ h => h) (by rfl) (by assumption) ?_
      try simp only [Act.put, List.setIfInBounds_toArray, List.set_cons_zero, List.set_cons_succ]
      refine lex_skip (i := 18) rfl (by kernel_rfl) (by kernel_rfl) (by kernel_rfl) (fun _ _ _ h => h) (by rfl) (by assumption) ?_
      try simp only [Act.put, List.setIfInBounds_toArray, List.set_cons_zero, List.set_cons_succ]
      refine lex_skip (i := 19) rfl (by kernel_rfl) (by kernel_rfl) (by kernel_rfl) (fun _ _ _ h => h) (by rfl) (by assumption) ?_
      try simp only [Act.put, List.setIfInBounds_toArray, List.set_cons_zero, List.set_cons_succ]
      refine lex_skip (i := 20) rfl (by kernel_rfl) (by kernel_rfl) (by kernel_rfl) (fun _ _ _ h => h) (by rfl) (by assumption) ?_
      try simp only [Act.put, List.setIfInBounds_toArray, List.set_cons_zero, List.set_cons_succ]
      refine lex_skip (i := 21) rfl (by kernel_rfl) (by kernel_rfl) (by kernel_rfl) (fun _ _ _ h => h) (by rfl) (by assumption) ?_
      try simp only [Act.put, List.setIfInBounds_toArray, List.set_cons_zero, List.set_cons_succ]
      refine lex_take (i := 22) (v := ?_) rfl (by kernel_rfl) (by kernel_rfl) (by kernel_rfl) (fun _ _ _ h => h) (by rfl) ?_ (by assumption) ?_
      rotate_left
      · (intro w hSw; (try dsimp only at hSw); go_simp; try with_reducible rfl)
      try simp only [Act.put, List.setIfInBounds_toArray, List.set_cons_zero, List.set_cons_succ]
      refine lex_take (i := 23) (v := ?_) rfl (by kernel_rfl) (by kernel_rfl) (by kernel_rfl) (fun _ _ _ h => h) (by rfl) ?_ (by assumption) ?_
      rotate_left
      · (intro w hSw; (try dsimp only at hSw); go_simp; try with_reducible rfl)
      try simp only [Act.put, List.setIfInBounds_toArray, List.set_cons_zero, List.set_cons_succ]
      refine lex_skip (i := 24) rfl (by kernel_rfl) (by kernel_rfl) (by kernel_rfl) (fun _ _ _ h => h) (by rfl) (by assumption) ?_
      try simp only [Act.put, List.setIfInBounds_toArray, List.set_cons_zero, List.set_cons_succ]
      refine lex_skip (i := 25) rfl (by kernel_rfl) (by kernel_rfl) (by kernel_rfl) (fun _ _ _ h => h) (by rfl) (by assumption) ?_
      try simp only [Act.put, List.setIfInBounds_toArray, List.set_cons_zero, List.set_cons_succ]
      refine lex_skip (i := 26) rfl (by kernel_rfl) (by kernel_rfl) (by kernel_rfl) (fun _ _ _ h => h) (by rfl) (by assumption) ?_
      try simp only [Act.put, List.setIfInBounds_toArray, List.set_cons_zero, List.set_cons_succ]
      refine lex_skip (i := 27) rfl (by kernel_rfl) (by kernel_rfl) (by kernel_rfl) (fun _ _ _ h => h) (by rfl) (by assumption) ?_
      try simp only [Act.put, List.setIfInBounds_toArray, List.set_cons_zero, List.set_cons_succ]
      refine lex_skip (i := 28) rfl (by kernel_rfl) (by kernel_rfl) (by kernel_rfl) (fun _ _ _ h => h) (by rfl) (by assumption) ?_
      try simp only [Act.put, List.setIfInBounds_toArray, List.set_cons_zero, List.set_cons_succ]
      refine lex_skip (i := 29) rfl (by kernel_rfl) (by kernel_rfl) (by kernel_rfl) (fun _ _ _ h => h) (by rfl) (by assumption) ?_
      try simp only [Act.put, List.setIfInBounds_toArray, List.set_cons_zero, List.set_cons_succ]
      refine lex_skip (i := 30) rfl (by kernel_rfl) (by kernel_rfl) (by kernel_rfl) (fun _ _ _ h => h) (by rfl) (by assumption) ?_
      try simp only [Act.put, List.setIfInBounds_toArray, List.set_cons_zero, List.set_cons_succ]
      refine lex_take (i := 31) (v := ?_) rfl (by kernel_rfl) (by kernel_rfl) (by kernel_rfl) (fun _ _ _ h => h) (by rfl) ?_ (by assumption) ?_
      rotate_left
      · (intro w hSw; (try dsimp only at hSw); go_simp; try with_reducible rfl)
      try simp only [Act.put, List.setIfInBounds_toArray, List.set_cons_zero, List.set_cons_succ]
      refine lex_take (i := 32) (v := ?_) rfl (by kernel_rfl) (by kernel_rfl) (by kernel_rfl) (fun _ _ _ h => h) (by rfl) ?_ (by assumption) ?_
      rotate_left
      · (intro w hSw; (try dsimp only at hSw); go_simp; try with_reducible rfl)
      try simp only [Act.put, List.setIfInBounds_toArray, List.set_cons_zero, List.set_cons_succ]
      refine lex_skip (i := 33) rfl (by kernel_rfl) (by kernel_rfl) (by kernel_rfl) (fun _ _ _ h => h) (by rfl) (by assumption) ?_
      try simp only [Act.put, List.setIfInBounds_toArray, List.set_cons_zero, List.set_cons_succ]
      refine lex_skip (i := 34) rfl (by kernel_rfl) (by kernel_rfl) (by kernel_rfl) (fun _ _ _ h => h) (by rfl) (by assumption) ?_
      try simp only [Act.put, List.setIfInBounds_toArray, List.set_cons_zero, List.set_cons_succ]
      refine lex_skip (i := 35) rfl (by kernel_rfl) (by kernel_rfl) (by kernel_rfl) (fun _ _ _ h => h) (by rfl) (by assumption) ?_
      try simp only [Act.put, List.setIfInBounds_toArray, List.set_cons_zero, List.set_cons_succ]
      refine lex_skip (i := 36) rfl (by kernel_rfl) (by kernel_rfl) (by kernel_rfl) (fun _ _ _ h => h) (by rfl) (by assumption) ?_
      try simp only [Act.put, List.setIfInBounds_toArray, List.set_cons_zero, List.set_cons_succ]
      refine lex_skip (i := 37) rfl (by kernel_rfl) (by kernel_rfl) (by kernel_rfl) (fun _ _ _ h => h) (by rfl) (by assumption) ?_
      try simp only [Act.put, List.setIfInBounds_toArray, List.set_cons_zero, List.set_cons_succ]
      refine lex_skip (i := 38) rfl (by kernel_rfl) (by kernel_rfl) (by kernel_rfl) (fun _ _ _ h => h) (by rfl) (by assumption) ?_
      try simp only [Act.put, List.setIfInBounds_toArray, List.set_cons_zero, List.set_cons_succ]
      refine lex_skip (i := 39) rfl (by kernel_rfl) (by kernel_rfl) (by kernel_rfl) (fun _ _ _ h => h) (by rfl) (by assumption) ?_
      try simp only [Act.put, List.setIfInBounds_toArray, List.set_cons_zero, List.set_cons_succ]
      refine lex_skip (i := 40) rfl (by kernel_rfl) (by kernel_rfl) (by kernel_rfl) (fun _ _ _ h => h) (by rfl) (by assumption) ?_
      try simp only [Act.put, List.setIfInBounds_toArray, List.set_cons_zero, List.set_cons_succ]
      refine lex_skip (i := 41) rfl (by kernel_rfl) (by kernel_rfl) (by kernel_rfl) (fun _ _ _ h => h) (by rfl) (by assumption) ?_
      try simp only [Act.put, List.setIfInBounds_toArray, List.set_cons_zero, List.set_cons_succ]
      refine lex_skip (i := 42) rfl (by kernel_rfl) (by kernel_rfl) (by kernel_rfl) (fun _ _ _ h => h) (by rfl) (by assumption) ?_
      try simp only [Act.put, List.setIfInBounds_toArray, List.set_cons_zero, List.set_cons_succ]
      refine lex_skip (i := 43) rfl (by kernel_rfl) (by kernel_rfl) (by kernel_rfl) (fun _ _ _ h => h) (by rfl) (by assumption) ?_
      try simp only [Act.put, List.setIfInBounds_toArray, List.set_cons_zero, List.set_cons_succ]
      refine lex_take (i := 44) (v := ?_) rfl (by kernel_rfl) (by kernel_rfl) (by kernel_rfl) (fun _ _ _ h => h) (by rfl) ?_ (by assumption) ?_
      rotate_left
      · (intro w hSw; (try dsimp only at hSw); go_simp; try with_reducible rfl)
      try simp only [Act.put, List.setIfInBounds_toArray, List.set_cons_zero, List.set_cons_succ]
      refine wpAnyH_done (by kernel_rfl) ?_ _
      go_wp2_with fail
      go_meet
      case rel => exact ⟨rfl, last17S (by assumption)⟩
    | false =>
      refine lex_take (i := 14) (v := ?_) rfl (by kernel_rfl) (by kernel_rfl) (by kernel_rfl) (fun _ _ _ h => h) (by rfl) ?_ (by assumption) ?_
      rotate_left
      · (intro w hSw; (try dsimp only at hSw); go_simp; try with_reducible rfl)
      try simp only [Act.put, List.setIfInBounds_toArray, List.set_cons_zero, List.set_cons_succ]
      refine lex_take (i := 15) (v := ?_) rfl (by kernel_rfl) (by kernel_rfl) (by kernel_rfl) (fun _ _ _ h => h) (by rfl) ?_ (by assumption) ?_
      rotate_left
      · (intro w hSw; (try dsimp only at hSw); go_simp; try with_reducible rfl)
      try simp only [Act.put, List.setIfInBounds_toArray, List.set_cons_zero, List.set_cons_succ]
      refine lex_take (i := 16) (v := ?_) rfl (by kernel_rfl) (by kernel_rfl) (by kernel_rfl) (fun _ _ _ h => h) (by rfl) ?_ (by assumption) ?_
      rotate_left
      · (intro w hSw; (try dsimp only at hSw); go_simp; try with_reducible rfl)
      try simp only [Act.put, List.setIfInBounds_toArray, List.set_cons_zero, List.set_cons_succ]
      refine lex_take (i := 17) (v := ?_) rfl (by kernel_rfl) (by kernel_rfl) (by kernel_rfl) (fun _ _ _ h => h) (by rfl) ?_ (by assumption) ?_
      rotate_left
      · (intro w hSw; (try dsimp only at hSw); go_simp; try with_reducible rfl)
      try simp only [Act.put, List.setIfInBounds_toArray, List.set_cons_zero, List.set_cons_succ]
      refine lex_take (i := 18) (v := ?_) rfl (by kernel_rfl) (by kernel_rfl) (by kernel_rfl) (fun _ _ _ h => h) (by rfl) ?_ (by assumption) ?_
      rotate_left
      · (intro w hSw; (try dsimp only at hSw); go_simp; try with_reducible rfl)
      try simp only [Act.put, List.setIfInBounds_toArray, List.set_cons_zero, List.set_cons_succ]
      refine lex_step (i := 19) rfl (by kernel_rfl) (by rfl) (fun Kx hKx => ?_)
      go_simp
      refine hKx.out _ _ ?_ (fun hHeld => ?_)
      · (try dsimp only); first | exact K.out _ (Below.refl _ _).drew | exact K.out _ (below_then (last17S (by assumption)) (by assumption)) | exact K.out _ (below_new (last17S (by assumption)) _)
      clear hKx Kx
      try simp only [Act.put, List.setIfInBounds_toArray, List.set_cons_zero, List.set_cons_succ]
      refine lex_step (i := 20) rfl (by kernel_rfl) (by rfl) (fun Kx hKx => ?_)
      go_simp
      go_at_call 18; (with_reducible refine (recur_listed _ _ a3 1 1 n3 c3 [m] ns ?_ ?_).mono ?_); (exact At.ints [m] (At.new _ _) HI1.out (by simp)); (exact (H3.out.far B0.out (below_new (last17S (by assumption)) _))); rw [← T2.out]; rintro e w' ⟨rfl, hb⟩
      try go_wp2_with fail
      refine hKx.out _ _ ?_ (fun hHeld => ?_)
      · (try dsimp only); first | exact K.out _ (Below.refl _ _).drew | exact K.out _ (below_then (last17S (by assumption)) (by assumption)) | exact K.out _ (below_new (last17S (by assumption)) _)
      clear hKx Kx
      try simp only [Act.put, List.setIfInBounds_toArray, List.set_cons_zero, List.set_cons_succ]
      refine lex_take (i := 21) (v := ?_) rfl (by kernel_rfl) (by kernel_rfl) (by kernel_rfl) (fun _ _ _ h => h) (by rfl) ?_ (by assumption) ?_
      rotate_left
      · (intro w hSw; (try dsimp only at hSw); go_simp; try with_reducible rfl)
      try simp only [Act.put, List.setIfInBounds_toArray, List.set_cons_zero, List.set_cons_succ]
      refine lex_take (i := 22) (v := ?_) rfl (by kernel_rfl) (by kernel_rfl) (by kernel_rfl) (fun _ _ _ h => h) (by rfl) ?_ (by assumption) ?_
      rotate_left
      · (intro w hSw; (try dsimp only at hSw); go_simp; try with_reducible rfl)
      try simp only [Act.put, List.setIfInBounds_toArray, List.set_cons_zero, List.set_cons_succ]
      refine lex_take (i := 23) (v := ?_) rfl (by kernel_rfl) (by kernel_rfl) (by kernel_rfl) (fun _ _ _ h => h) (by rfl) ?_ (by assumption) ?_
      rotate_left
      · (intro w hSw; (try dsimp only at hSw); go_simp; try with_reducible rfl)
      try simp only [Act.put, List.setIfInBounds_toArray, List.set_cons_zero, List.set_cons_succ]
      cases t2 with
      | false =>
        refine lex_skip (i := 24) rfl (by kernel_rfl) (by kernel_rfl) (by kernel_rfl) (fun _ _ _ h => h) (by rfl) (by assumption) ?_
        try simp only [Act.put, List.setIfInBounds_toArray, List.set_cons_zero, List.set_cons_succ]
        refine lex_skip (i := 25) rfl (by kernel_rfl) (by kernel_rfl) (by kernel_rfl) (fun _ _ _ h => h) (by rfl) (by assumption) ?_
        try simp only [Act.put, List.setIfInBounds_toArray, List.set_cons_zero, List.set_cons_succ]
        refine lex_skip (i := 26) rfl (by kernel_rfl) (by kernel_rfl) (by kernel_rfl) (fun _ _ _ h => h) (by rfl) (by assumption) ?_
        try simp only [Act.put, List.setIfInBounds_toArray, List.set_cons_zero, List.set_cons_succ]
        refine lex_skip (i := 27) rfl (by kernel_rfl) (by kernel_rfl) (by kernel_rfl) (fun _ _ _ h => h) (by rfl) (by assumption) ?_
        try simp only [Act.put, List.setIfInBounds_toArray, List.set_cons_zero, List.set_cons_succ]
        refine lex_skip (i := 28) rfl (by kernel_rfl) (by kernel_rfl) (by kernel_rfl) (fun _ _ _ h => h) (by rfl) (by assumption) ?_
        try simp only [Act.put, List.setIfInBounds_toArray, List.set_cons_zero, List.set_cons_succ]
        refine lex_skip (i := 29) rfl (by kernel_rfl) (by kernel_rfl) (by kernel_rfl) (fun _ _ _ h => h) (by rfl) (by assumption) ?_
        try simp only [Act.put, List.setIfInBounds_toArray, List.set_cons_zero, List.set_cons_succ]
        refine lex_skip (i := 30) rfl (by kernel_rfl) (by kernel_rfl) (by kernel_rfl) (fun _ _ _ h => h) (by rfl) (by assumption) ?_
        try simp only [Act.put, List.setIfInBounds_toArray, List.set_cons_zero, List.set_cons_succ]
        refine lex_take (i := 31) (v := ?_) rfl (by kernel_rfl) (by kernel_rfl) (by kernel_rfl) (fun _ _ _ h => h) (by rfl) ?_ (by assumption) ?_
        rotate_left
        · (intro w hSw; (try dsimp only at hSw); go_simp; try with_reducible rfl)
        try simp only [Act.put, List.setIfInBounds_toArray, List.set_cons_zero, List.set_cons_succ]
        refine lex_take (i := 32) (v := ?_) rfl (by kernel_rfl) (by kernel_rfl) (by kernel_rfl) (fun _ _ _ h => h) (by rfl) ?_ (by assumption) ?_
        rotate_left
        · (intro w hSw; (try dsimp only at hSw); go_simp; try with_reducible rfl)
        try simp only [Act.put, List.setIfInBounds_toArray, List.set_cons_zero, List.set_cons_succ]
        refine lex_skip (i := 33) rfl (by kernel_rfl) (by kernel_rfl) (by kernel_rfl) (fun _ _ _ h => h) (by rfl) (by assumption) ?_
        try simp only [Act.put, List.setIfInBounds_toArray, List.set_cons_zero, List.set_cons_succ]
        refine lex_skip (i := 34) rfl (by kernel_rfl) (by kernel_rfl) (by kernel_rfl) (fun _ _ _ h => h) (by rfl) (by assumption) ?_
        try simp only [Act.put, List.setIfInBounds_toArray, List.set_cons_zero, List.set_cons_succ]
        refine lex_skip (i := 35) rfl (by kernel_rfl) (by kernel_rfl) (by kernel_rfl) (fun _ _ _ h => h) (by rfl) (by assumption) ?_
        try simp only [Act.put, List.setIfInBounds_toArray, List.set_cons_zero, List.set_cons_succ]
        refine lex_skip (i := 36) rfl (by kernel_rfl) (by kernel_rfl) (by kernel_rfl) (fun _ _ _ h => h) (by rfl) (by assumption) ?_
        try simp only [Act.put, List.setIfInBounds_toArray, List.set_cons_zero, List.set_cons_succ]
        refine lex_skip (i := 37) rfl (by kernel_rfl) (by kernel_rfl) (by kernel_rfl) (fun _ _ _ h => h) (by rfl) (by assumption) ?_
        try simp only [Act.put, List.setIfInBounds_toArray, List.set_cons_zero, List.set_cons_succ]
        refine lex_skip (i := 38) rfl (by kernel_rfl) (by kernel_rfl) (by kernel_rfl) (fun _ _ _ h => h) (by rfl) (by assumption) ?_
        try simp only [Act.put, List.setIfInBounds_toArray, List.set_cons_zero, List.set_cons_succ]
        refine lex_skip (i := 39) rfl (by kernel_rfl) (by kernel_rfl) (by kernel_rfl) (fun _ _ _ h => h) (by rfl) (by assumption) ?_
        try simp only [Act.put, List.setIfInBounds_toArray, List.set_cons_zero, List.set_cons_succ]
        refine lex_skip (i := 40) rfl (by kernel_rfl) (by kernel_rfl) (by kernel_rfl) (fun _ _ _ h => h) (by rfl) (by assumption) ?_
        try simp only [Act.put, List.setIfInBounds_toArray, List.set_cons_zero, List.set_cons_succ]
        refine lex_skip (i := 41) rfl (by kernel_rfl) (by kernel_rfl) (by kernel_rfl) (fun _ _ _ h => h) (by rfl) (by assumption) ?_
        try simp only [Act.put, List.setIfInBounds_toArray, List.set_cons_zero, List.set_cons_succ]
        refine lex_skip (i := 42) rfl (by kernel_rfl) (by kernel_rfl) (by kernel_rfl) (fun _ _ _ h => h) (by rfl) (by assumption) ?_
        try simp only [Act.put, List.setIfInBounds_toArray, List.set_cons_zero, List.set_cons_succ]
        refine lex_skip (i := 43) rfl (by kernel_rfl) (by kernel_rfl) (by kernel_rfl) (fun _ _ _ h => h) (by rfl) (by assumption) ?_
        try simp only [Act.put, List.setIfInBounds_toArray, List.set_cons_zero, List.set_cons_succ]
        refine lex_take (i := 44) (v := ?_) rfl (by kernel_rfl) (by kernel_rfl) (by kernel_rfl) (fun _ _ _ h => h) (by rfl) ?_ (by assumption) ?_
        rotate_left
        · (intro w hSw; (try dsimp only at hSw); go_simp; try with_reducible rfl)
        try simp only [Act.put, List.setIfInBounds_toArray, List.set_cons_zero, List.set_cons_succ]
        refine wpAnyH_done (by kernel_rfl) ?_ _
        go_wp2_with fail
        go_meet
        case rel => exact ⟨rfl, last17S (by assumption)⟩
      | true =>
        refine lex_take (i := 24) (v := ?_) rfl (by kernel_rfl) (by kernel_rfl) (by kernel_rfl) (fun _ _ _ h => h) (by rfl) ?_ (by assumption) ?_
        rotate_left
        · (intro w hSw; (try dsimp only at hSw); go_simp; try with_reducible rfl)
        try simp only [Act.put, List.setIfInBounds_toArray, List.set_cons_zero, List.set_cons_succ]
        refine lex_take (i := 25) (v := ?_) rfl (by kernel_rfl) (by kernel_rfl) (by kernel_rfl) (fun _ _ _ h => h) (by rfl) ?_ (by assumption) ?_
        rotate_left
        · (intro w hSw; (try dsimp only at hSw); go_simp; try with_reducible rfl)
        try simp only [Act.put, List.setIfInBounds_toArray, List.set_cons_zero, List.set_cons_succ]
        refine lex_take (i := 26) (v := ?_) rfl (by kernel_rfl) (by kernel_rfl) (by kernel_rfl) (fun _ _ _ h => h) (by rfl) ?_ (by assumption) ?_
        rotate_left
        · (intro w hSw; (try dsimp only at hSw); go_simp; try with_reducible rfl)
        try simp only [Act.put, List.setIfInBounds_toArray, List.set_cons_zero, List.set_cons_succ]
        refine lex_take (i := 27) (v := ?_) rfl (by kernel_rfl) (by kernel_rfl) (by kernel_rfl) (fun _ _ _ h => h) (by rfl) ?_ (by assumption) ?_
        rotate_left
        · (intro w hSw; (try dsimp only at hSw); go_simp; try with_reducible rfl)
        try simp only [Act.put, List.setIfInBounds_toArray, List.set_cons_zero, List.set_cons_succ]
        refine lex_step (i := 28) rfl (by kernel_rfl) (by rfl) (fun Kx hKx => ?_)
        go_simp
        refine hKx.out _ _ ?_ (fun hHeld => ?_)
        · (try dsimp only); first | exact K.out _ (Below.refl _ _).drew | exact K.out _ (below_then (last17S (by assumption)) (by assumption)) | exact K.out _ (below_new (last17S (by assumption)) _)
        clear hKx Kx
        try simp only [Act.put, List.setIfInBounds_toArray, List.set_cons_zero, List.set_cons_succ]
        refine lex_step (i := 29) rfl (by kernel_rfl) (by rfl) (fun Kx hKx => ?_)
        go_simp
        go_at_call 18; (with_reducible refine (recur_listed _ _ a1 1 1 n1 c1 [k] ws ?_ ?_).mono ?_); (exact At.ints [k] (At.new _ _) HI2.out (by simp)); (exact (H1.out.far B0.out (below_new (last17S (by assumption)) _))); rw [← T3.out]; rintro e w' ⟨rfl, hb⟩
        try go_wp2_with fail
        refine hKx.out _ _ ?_ (fun hHeld => ?_)
        · (try dsimp only); first | exact K.out _ (Below.refl _ _).drew | exact K.out _ (below_then (last17S (by assumption)) (by assumption)) | exact K.out _ (below_new (last17S (by assumption)) _)
        clear hKx Kx
        try simp only [Act.put, List.setIfInBounds_toArray, List.set_cons_zero, List.set_cons_succ]
        refine lex_take (i := 30) (v := ?_) rfl (by kernel_rfl) (by kernel_rfl) (by kernel_rfl) (fun _ _ _ h => h) (by rfl) ?_ (by assumption) ?_
        rotate_left
        · (intro w hSw; (try dsimp only at hSw); go_simp; try with_reducible rfl)
        try simp only [Act.put, List.setIfInBounds_toArray, List.set_cons_zero, List.set_cons_succ]
        refine lex_take (i := 31) (v := ?_) rfl (by kernel_rfl) (by kernel_rfl) (by kernel_rfl) (fun _ _ _ h => h) (by rfl) ?_ (by assumption) ?_
        rotate_left
        · (intro w hSw; (try dsimp only at hSw); go_simp; try with_reducible rfl)
        try simp only [Act.put, List.setIfInBounds_toArray, List.set_cons_zero, List.set_cons_succ]
        refine lex_take (i := 32) (v := ?_) rfl (by kernel_rfl) (by kernel_rfl) (by kernel_rfl) (fun _ _ _ h => h) (by rfl) ?_ (by assumption) ?_
        rotate_left
        · (intro w hSw; (try dsimp only at hSw); go_simp; try with_reducible rfl)
        try simp only [Act.put, List.setIfInBounds_toArray, List.set_cons_zero, List.set_cons_succ]
        cases t3 with
        | false =>
          refine lex_skip (i := 33) rfl (by kernel_rfl) (by kernel_rfl) (by kernel_rfl) (fun _ _ _ h => h) (by rfl) (by assumption) ?_
          try simp only [Act.put, List.setIfInBounds_toArray, List.set_cons_zero, List.set_cons_succ]
          refine lex_skip (i := 34) rfl (by kernel_rfl) (by kernel_rfl) (by kernel_rfl) (fun _ _ _ h => h) (by rfl) (by assumption) ?_
          try simp only [Act.put, List.setIfInBounds_toArray, List.set_cons_zero, List.set_cons_succ]
          refine lex_skip (i := 35) rfl (by kernel_rfl) (by kernel_rfl) (by kernel_rfl) (fun _ _ _ h => h) (by rfl) (by assumption) ?_
          try simp only [Act.put, List.setIfInBounds_toArray, List.set_cons_zero, List.set_cons_succ]
          refine lex_skip (i := 36) rfl (by kernel_rfl) (by kernel_rfl) (by kernel_rfl) (fun _ _ _ h => h) (by rfl) (by assumption) ?_
          try simp only [Act.put, List.setIfInBounds_toArray, List.set_cons_zero, List.set_cons_succ]
          refine lex_skip (i := 37) rfl (by kernel_rfl) (by kernel_rfl) (by kernel_rfl) (fun _ _ _ h => h) (by rfl) (by assumption) ?_
          try simp only [Act.put, List.setIfInBounds_toArray, List.set_cons_zero, List.set_cons_succ]
          refine lex_skip (i := 38) rfl (by kernel_rfl) (by kernel_rfl) (by kernel_rfl) (fun _ _ _ h => h) (by rfl) (by assumption) ?_
          try simp only [Act.put, List.setIfInBounds_toArray, List.set_cons_zero, List.set_cons_succ]
          refine lex_skip (i := 39) rfl (by kernel_rfl) (by kernel_rfl) (by kernel_rfl) (fun _ _ _ h => h) (by rfl) (by assumption) ?_
          try simp only [Act.put, List.setIfInBounds_toArray, List.set_cons_zero, List.set_cons_succ]
          refine lex_skip (i := 40) rfl (by kernel_rfl) (by kernel_rfl) (by kernel_rfl) (fun _ _ _ h => h) (by rfl) (by assumption) ?_
          try simp only [Act.put, List.setIfInBounds_toArray, List.set_cons_zero, List.set_cons_succ]
          refine lex_skip (i := 41) rfl (by kernel_rfl) (by kernel_rfl) (by kernel_rfl) (fun _ _ _ h => h) (by rfl) (by assumption) ?_
          try simp only [Act.put, List.setIfInBounds_toArray, List.set_cons_zero, List.set_cons_succ]
          refine lex_skip (i := 42) rfl (by kernel_rfl) (by kernel_rfl) (by kernel_rfl) (fun _ _ _ h => h) (by rfl) (by assumption) ?_
          try simp only [Act.put, List.setIfInBounds_toArray, List.set_cons_zero, List.set_cons_succ]
          refine lex_skip (i := 43) rfl (by kernel_rfl) (by kernel_rfl) (by kernel_rfl) (fun _ _ _ h => h) (by rfl) (by assumption) ?_
          try simp only [Act.put, List.setIfInBounds_toArray, List.set_cons_zero, List.set_cons_succ]
          refine lex_take (i := 44) (v := ?_) rfl (by kernel_rfl) (by kernel_rfl) (by kernel_rfl) (fun _ _ _ h => h) (by rfl) ?_ (by assumption) ?_
          rotate_left
          · (intro w hSw; (try dsimp only at hSw); go_simp; try with_reducible rfl)
          try simp only [Act.put, List.setIfInBounds_toArray, List.set_cons_zero, List.set_cons_succ]
          refine wpAnyH_done (by kernel_rfl) ?_ _
          go_wp2_with fail
          go_meet
          case rel => exact ⟨rfl, last17S (by assumption)⟩
        | true =>
          refine lex_take (i := 33) (v := ?_) rfl (by kernel_rfl) (by kernel_rfl) (by kernel_rfl) (fun _ _ _ h => h) (by rfl) ?_ (by assumption) ?_
          rotate_left
          · (intro w hSw; (try dsimp only at hSw); go_simp; try with_reducible rfl)
          try simp only [Act.put, List.setIfInBounds_toArray, List.set_cons_zero, List.set_cons_succ]
          refine lex_take (i := 34) (v := ?_) rfl (by kernel_rfl) (by kernel_rfl) (by kernel_rfl) (fun _ _ _ h => h) (by rfl) ?_ (by assumption) ?_
          rotate_left
          · (intro w hSw; (try dsimp only at hSw); go_simp; try with_reducible rfl)
          try simp only [Act.put, List.setIfInBounds_toArray, List.set_cons_zero, List.set_cons_succ]
          refine lex_take (i := 35) (v := ?_) rfl (by kernel_rfl) (by kernel_rfl) (by kernel_rfl) (fun _ _ _ h => h) (by rfl) ?_ (by assumption) ?_
          rotate_left
          · (intro w hSw; (try dsimp only at hSw); go_simp; try with_reducible rfl)
          try simp only [Act.put, List.setIfInBounds_toArray, List.set_cons_zero, List.set_cons_succ]
          refine lex_take (i := 36) (v := ?_) rfl (by kernel_rfl) (by kernel_rfl) (by kernel_rfl) (fun _ _ _ h => h) (by rfl) ?_ (by assumption) ?_
          rotate_left
          · (intro w hSw; (try dsimp only at hSw); go_simp; try with_reducible rfl)
          try simp only [Act.put, List.setIfInBounds_toArray, List.set_cons_zero, List.set_cons_succ]
          refine lex_take (i := 37) (v := ?_) rfl (by kernel_rfl) (by kernel_rfl) (by kernel_rfl) (fun _ _ _ h => h) (by rfl) ?_ (by assumption) ?_
          rotate_left
          · (intro w hSw; (try dsimp only at hSw); go_simp; try with_reducible rfl)
          try simp only [Act.put, List.setIfInBounds_toArray, List.set_cons_zero, List.set_cons_succ]
          refine lex_take (i := 38) (v := ?_) rfl (by kernel_rfl) (by kernel_rfl) (by kernel_rfl) (fun _ _ _ h => h) (by rfl) ?_ (by assumption) ?_
          rotate_left
          · (intro w hSw; (try dsimp only at hSw); go_simp; try with_reducible rfl)
          try simp only [Act.put, List.setIfInBounds_toArray, List.set_cons_zero, List.set_cons_succ]
          refine lex_take (i := 39) (v := ?_) rfl (by kernel_rfl) (by kernel_rfl) (by kernel_rfl) (fun _ _ _ h => h) (by rfl) ?_ (by assumption) ?_
          rotate_left
          · (intro w hSw; (try dsimp only at hSw); go_simp; try with_reducible rfl)
          try simp only [Act.put, List.setIfInBounds_toArray, List.set_cons_zero, List.set_cons_succ]
          refine lex_take (i := 40) (v := ?_) rfl (by kernel_rfl) (by kernel_rfl) (by kernel_rfl) (fun _ _ _ h => h) (by rfl) ?_ (by assumption) ?_
          rotate_left
          · (intro w hSw; (try dsimp only at hSw); go_simp; try with_reducible rfl)
          try simp only [Act.put, List.setIfInBounds_toArray, List.set_cons_zero, List.set_cons_succ]
          refine lex_step (i := 41) rfl (by kernel_rfl) (by rfl) (fun Kx hKx => ?_)
          go_simp
          refine hKx.out _ _ ?_ (fun hHeld => ?_)
          · (try dsimp only); first | exact K.out _ (Below.refl _ _).drew | exact K.out _ (below_then (last17S (by assumption)) (by assumption)) | exact K.out _ (below_new (last17S (by assumption)) _)
          clear hKx Kx
          try simp only [Act.put, List.setIfInBounds_toArray, List.set_cons_zero, List.set_cons_succ]
          refine lex_step (i := 42) rfl (by kernel_rfl) (by rfl) (fun Kx hKx => ?_)
          go_simp
          go_at_call 18; (with_reducible refine (recur_listed _ _ a2 2 2 n2 c2 [d, d - l - 1] ms ?_ ?_).mono ?_); (exact At.ints [d, d - l - 1] (At.new _ _) HI3.out (by simp)); (exact (H2.out.far B0.out (below_new (last17S (by assumption)) _))); rw [← T4.out]; rintro e w' ⟨rfl, hb⟩
          try go_wp2_with fail
          refine hKx.out _ _ ?_ (fun hHeld => ?_)
          · (try dsimp only); first | exact K.out _ (Below.refl _ _).drew | exact K.out _ (below_then (last17S (by assumption)) (by assumption)) | exact K.out _ (below_new (last17S (by assumption)) _)
          clear hKx Kx
          try simp only [Act.put, List.setIfInBounds_toArray, List.set_cons_zero, List.set_cons_succ]
          refine lex_take (i := 43) (v := ?_) rfl (by kernel_rfl) (by kernel_rfl) (by kernel_rfl) (fun _ _ _ h => h) (by rfl) ?_ (by assumption) ?_
          rotate_left
          · (intro w hSw; (try dsimp only at hSw); go_simp; try with_reducible rfl)
          try simp only [Act.put, List.setIfInBounds_toArray, List.set_cons_zero, List.set_cons_succ]
          refine lex_take (i := 44) (v := ?_) rfl (by kernel_rfl) (by kernel_rfl) (by kernel_rfl) (fun _ _ _ h => h) (by rfl) ?_ (by assumption) ?_
          rotate_left
          · (intro w hSw; (try dsimp only at hSw); go_simp; try with_reducible rfl)
          try simp only [Act.put, List.setIfInBounds_toArray, List.set_cons_zero, List.set_cons_succ]
          refine wpAnyH_done (by kernel_rfl) ?_ _
          go_wp2_with fail
          go_meet
          case rel => exact ⟨rfl, last17S (by assumption)⟩
  case rest =>
  obtain ⟨rfl, hbc⟩ := hcut
  have B1 := below_then b0 hbc
  have E3 := A3.then_ hbc; have E4 := A4.then_ hbc; have E5 := A5.then_ hbc
  have hd0 : wc.cell? ⟨w.heap.size, 0, none⟩ = some (.int .i64 u) := E3.cell 0
  have hd1 : wc.cell? ⟨w.heap.size, 1, none⟩ = some (.int .i64 ev) := E3.cell 1
  have hd2 : wc.cell? ⟨w.heap.size, 5, none⟩ = some (.slice a1 n1 c1) := E3.cell 5
  have hd3 : wc.cell? ⟨w.heap.size, 6, none⟩ = some (.slice a2 n2 c2) := E3.cell 6
  have hd4 : wc.cell? ⟨w.heap.size, 7, none⟩ = some (.slice a3 n3 c3) := E3.cell 7
  have hd5 : wc.cell? ⟨w.heap.size + 1, 0, none⟩ = some (.int .i64 x0) := E4.cell 0
  have hd6 : wc.cell? ⟨w.heap.size + 1, 1, none⟩ = some (.int .i64 k0) := E4.cell 1
  have hd7 : wc.cell? ⟨w.heap.size + 1, 2, none⟩ = some (.int .i64 y0) := E4.cell 2
  have hd8 : wc.cell? ⟨w.heap.size + 1, 3, none⟩ = some (.int .i64 m0) := E4.cell 3
  have hd9 : wc.cell? ⟨w.heap.size + 1, 4, none⟩ = some (.int .i64 d0) := E4.cell 4
  have hd10 : wc.cell? ⟨w.heap.size + 1, 5, none⟩ = some (.int .i64 l0) := E4.cell 5
  have hd11 : wc.cell? ⟨w.heap.size + 1 + 1, 0, none⟩ = some (.int .i64 x) := E5.cell 0
  have hd12 : wc.cell? ⟨w.heap.size + 1 + 1, 1, none⟩ = some (.int .i64 k) := E5.cell 1
  have hd13 : wc.cell? ⟨w.heap.size + 1 + 1, 2, none⟩ = some (.int .i64 y) := E5.cell 2
  have hd14 : wc.cell? ⟨w.heap.size + 1 + 1, 3, none⟩ = some (.int .i64 m) := E5.cell 3
  have hd15 : wc.cell? ⟨w.heap.size + 1 + 1, 4, none⟩ = some (.int .i64 d) := E5.cell 4
  have hd16 : wc.cell? ⟨w.heap.size + 1 + 1, 5, none⟩ = some (.int .i64 l) := E5.cell 5
  clear A3 A4 A5 b0 hbc E3 E4 E5 CU CV
  by_cases hD : (t1 || (!t2 || (!t3 || !t4))) = true
  · have hR : E = false := by
      have h := HE.out
      revert hD h
      cases t1 <;> cases t2 <;> cases t3 <;> cases t4 <;> simp
    have HR := Lib.hid hR
    rw [hD]
    clear hR hD
    go_wp2_with fail
    go_ret
    exact ⟨ret_bool HR.out.symm, B1⟩
  · replace hD : (t1 || (!t2 || (!t3 || !t4))) = false := by simpa using hD
    have hR : E = fitsEnd u ws ms ns k0 m0 d0 k m d := by
      have h := HE.out
      revert hD h
      cases t1 <;> cases t2 <;> cases t3 <;> cases t4 <;> simp
    rw [hD]
    clear hD
    by_cases g0 : 0 < n1 + n2
    · have HR := Lib.hid (show E = true by rw [hR, fitsEnd, if_pos (by omega)])
      have g1 : (0 : Int) < (n1 : Int) + (n2 : Int) := by omega
      clear I1 I2 I3 g0 hR
      go_wp2_with fail
      go_ret
      exact ⟨ret_bool HR.out.symm, B1⟩
    · replace hR := hR.trans (show fitsEnd u ws ms ns k0 m0 d0 k m d = if u = 2 then k == k0 else if u = 3 then d == d0 else if u = 4 then (d == d0) && (decide (0 < ns.length) || (m == m0)) else true by rw [fitsEnd, if_neg (by omega)])
      have g1 : ¬ (0 : Int) < (n1 : Int) + (n2 : Int) := by omega
      clear g0
      by_cases v2 : u = 2
      · subst v2
        rw [if_pos rfl] at hR
        have HR := Lib.hid hR
        clear I1 I2 I3 hR
        go_wp2_with fail
        go_ret
        exact ⟨ret_bool HR.out.symm, B1⟩
      have v2' : (u == 2) = false := by simpa using v2
      rw [if_neg v2] at hR
      by_cases v3 : u = 3
      · subst v3
        rw [if_pos rfl] at hR
        have HR := Lib.hid hR
        clear I1 I2 I3 hR
        go_wp2_with fail
        go_ret
        exact ⟨ret_bool HR.out.symm, B1⟩
      have v3' : (u == 3) = false := by simpa using v3
      rw [if_neg v3] at hR
      by_cases v4 : u = 4
      · subst v4
        rw [if_pos rfl] at hR
        cases h5 : (d == d0) with
        | false =>
          rw [h5, Bool.false_and] at hR
          have HR := Lib.hid hR
          clear I1 I2 I3 hR
          go_wp2_with fail
          go_ret
          exact ⟨ret_bool HR.out.symm, B1⟩
        | true =>
          rw [h5, Bool.true_and] at hR
          by_cases h6 : 0 < n3
          · rw [show decide (0 < ns.length) = true from decide_eq_true (by omega), Bool.true_or] at hR
            have h6' : (0 : Int) < (n3 : Int) := by omega
            have HR := Lib.hid hR
            clear I1 I2 I3 hR
            go_wp2_with fail
            go_ret
            exact ⟨ret_bool HR.out.symm, B1⟩
          · rw [show decide (0 < ns.length) = false from decide_eq_false (by omega), Bool.false_or] at hR
            have h6' : ¬ (0 : Int) < (n3 : Int) := by omega
            have HR := Lib.hid hR
            clear I1 I2 I3 hR
            go_wp2_with fail
            go_ret
            exact ⟨ret_bool HR.out.symm, B1⟩
      have v4' : (u == 4) = false := by simpa using v4
      rw [if_neg v4] at hR
      have HR := Lib.hid hR
      clear I1 I2 I3 v2 v3 v4 hR
      go_wp2_with fail
      go_ret
      exact ⟨ret_bool HR.out.symm, B1⟩
end Go.Proofs.YtdmkghgachapaaaGreatDoor
