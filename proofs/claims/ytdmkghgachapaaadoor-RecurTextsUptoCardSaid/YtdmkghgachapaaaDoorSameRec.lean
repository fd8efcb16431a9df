/- The reference's SameRecur at two recurrences that read alike. -/
import Derived.Test.YtdmkghgachapaaaDoorCycle2
import Derived.Test.YtdmkghgachapaaaDoorRows2
namespace Go.Proofs.YtdmkghgachapaaaDoor
set_option linter.unusedVariables false
set_option linter.unusedSimpArgs false
set_option maxRecDepth 100000
open Go.RowKit

set_option maxHeartbeats 4000000 in
theorem ref_SameRecur (w : World) (u ev f cn un : Int) (a1 a2 a3 b1 b2 b3 : Option Addr) (n1 n2 n3 c1 c2 c3 m1 m2 m3 d1 d2 d3 : Nat) (xs ys zs : List Int)
    (h1 : Ints w w.heap.size a1 n1 xs) (h2 : Ints w w.heap.size a2 n2 ys) (h3 : Ints w w.heap.size a3 n3 zs) (g1 : Ints w w.heap.size b1 m1 xs) (g2 : Ints w w.heap.size b2 m2 ys) (g3 : Ints w w.heap.size b3 m3 zs) :
    Calls Tryd.prog 5 #[.agg #[.int .i64 u, .int .i64 ev, .int .i64 f, .int .i64 cn, .int .i64 un, .slice a1 n1 c1, .slice a2 n2 c2, .slice a3 n3 c3], .agg #[.int .i64 u, .int .i64 ev, .int .i64 f, .int .i64 cn, .int .i64 un, .slice b1 m1 d1, .slice b2 m2 d2, .slice b3 m3 d3]] w fun e w' => e = .returned (.bool true) ∧ Below w.heap.size w w' := by
  have H1 := Lib.hid h1; have H2 := Lib.hid h2; have H3 := Lib.hid h3; have G1 := Lib.hid g1; have G2 := Lib.hid g2; have G3 := Lib.hid g3
  clear h1 h2 h3 g1 g2 g3
  go_enter Tryd.func5, Tryd.ntmps5
  go_wp2_with fail
  have t0 := (At.new w (.cells #[.int .i64 u, .int .i64 ev, .int .i64 f, .int .i64 cn, .int .i64 un, .slice a1 n1 c1, .slice a2 n2 c2, .slice a3 n3 c3] 24)).alloc (.cells #[.int .i64 u, .int .i64 ev, .int .i64 f, .int .i64 cn, .int .i64 un, .slice b1 m1 d1, .slice b2 m2 d2, .slice b3 m3 d3] 24)
  have t1 := At.new1 w (.cells #[.int .i64 u, .int .i64 ev, .int .i64 f, .int .i64 cn, .int .i64 un, .slice a1 n1 c1, .slice a2 n2 c2, .slice a3 n3 c3] 24) (.cells #[.int .i64 u, .int .i64 ev, .int .i64 f, .int .i64 cn, .int .i64 un, .slice b1 m1 d1, .slice b2 m2 d2, .slice b3 m3 d3] 24)
  have b0 := below_new (below_new (Below.refl w.heap.size w) (.cells #[.int .i64 u, .int .i64 ev, .int .i64 f, .int .i64 cn, .int .i64 un, .slice a1 n1 c1, .slice a2 n2 c2, .slice a3 n3 c3] 24)) (.cells #[.int .i64 u, .int .i64 ev, .int .i64 f, .int .i64 cn, .int .i64 un, .slice b1 m1 d1, .slice b2 m2 d2, .slice b3 m3 d3] 24)
  generalize World.alloc (World.alloc w _) _ = W0 at t0 t1 b0 ⊢
  have B0 := Lib.hid b0; have T0 := Lib.hid t0; have T1 := Lib.hid t1
  have y0 : W0.cell? ⟨w.heap.size, 0, none⟩ = some (.int .i64 u) := (t0).cell 0
  have y1 : W0.cell? ⟨w.heap.size, 1, none⟩ = some (.int .i64 ev) := (t0).cell 1
  have y2 : W0.cell? ⟨w.heap.size, 2, none⟩ = some (.int .i64 f) := (t0).cell 2
  have y3 : W0.cell? ⟨w.heap.size, 3, none⟩ = some (.int .i64 cn) := (t0).cell 3
  have y4 : W0.cell? ⟨w.heap.size, 4, none⟩ = some (.int .i64 un) := (t0).cell 4
  have y5 : W0.cell? ⟨w.heap.size, 5, none⟩ = some (.slice a1 n1 c1) := (t0).cell 5
  have y6 : W0.cell? ⟨w.heap.size, 6, none⟩ = some (.slice a2 n2 c2) := (t0).cell 6
  have y7 : W0.cell? ⟨w.heap.size, 7, none⟩ = some (.slice a3 n3 c3) := (t0).cell 7
  have x0 : W0.cell? ⟨(w.heap.size + 1), 0, none⟩ = some (.int .i64 u) := (t1).cell 0
  have x1 : W0.cell? ⟨(w.heap.size + 1), 1, none⟩ = some (.int .i64 ev) := (t1).cell 1
  have x2 : W0.cell? ⟨(w.heap.size + 1), 2, none⟩ = some (.int .i64 f) := (t1).cell 2
  have x3 : W0.cell? ⟨(w.heap.size + 1), 3, none⟩ = some (.int .i64 cn) := (t1).cell 3
  have x4 : W0.cell? ⟨(w.heap.size + 1), 4, none⟩ = some (.int .i64 un) := (t1).cell 4
  have x5 : W0.cell? ⟨(w.heap.size + 1), 5, none⟩ = some (.slice b1 m1 d1) := (t1).cell 5
  have x6 : W0.cell? ⟨(w.heap.size + 1), 6, none⟩ = some (.slice b2 m2 d2) := (t1).cell 6
  have x7 : W0.cell? ⟨(w.heap.size + 1), 7, none⟩ = some (.slice b3 m3 d3) := (t1).cell 7
  clear t0 t1 b0
  refine (ref_SameInts _ _ _ _ _ _ _ xs xs (H1.out.far B0.out (Below.refl _ _)) (G1.out.far B0.out (Below.refl _ _))).mono ?_
  rw [show (xs == xs) = true by simp]
  rintro e w1 ⟨rfl, hd1⟩
  have B1 := Lib.hid (below_drawn B0.out hd1)
  have t0 := T0.out.drawn hd1; have t1 := T1.out.drawn hd1
  clear y0 x0 y1 x1 y2 x2 y3 x3 y4 x4 y5 x5 y6 x6 y7 x7
  have y0 : w1.cell? ⟨w.heap.size, 0, none⟩ = some (.int .i64 u) := (t0).cell 0
  have y1 : w1.cell? ⟨w.heap.size, 1, none⟩ = some (.int .i64 ev) := (t0).cell 1
  have y2 : w1.cell? ⟨w.heap.size, 2, none⟩ = some (.int .i64 f) := (t0).cell 2
  have y3 : w1.cell? ⟨w.heap.size, 3, none⟩ = some (.int .i64 cn) := (t0).cell 3
  have y4 : w1.cell? ⟨w.heap.size, 4, none⟩ = some (.int .i64 un) := (t0).cell 4
  have y5 : w1.cell? ⟨w.heap.size, 5, none⟩ = some (.slice a1 n1 c1) := (t0).cell 5
  have y6 : w1.cell? ⟨w.heap.size, 6, none⟩ = some (.slice a2 n2 c2) := (t0).cell 6
  have y7 : w1.cell? ⟨w.heap.size, 7, none⟩ = some (.slice a3 n3 c3) := (t0).cell 7
  have x0 : w1.cell? ⟨(w.heap.size + 1), 0, none⟩ = some (.int .i64 u) := (t1).cell 0
  have x1 : w1.cell? ⟨(w.heap.size + 1), 1, none⟩ = some (.int .i64 ev) := (t1).cell 1
  have x2 : w1.cell? ⟨(w.heap.size + 1), 2, none⟩ = some (.int .i64 f) := (t1).cell 2
  have x3 : w1.cell? ⟨(w.heap.size + 1), 3, none⟩ = some (.int .i64 cn) := (t1).cell 3
  have x4 : w1.cell? ⟨(w.heap.size + 1), 4, none⟩ = some (.int .i64 un) := (t1).cell 4
  have x5 : w1.cell? ⟨(w.heap.size + 1), 5, none⟩ = some (.slice b1 m1 d1) := (t1).cell 5
  have x6 : w1.cell? ⟨(w.heap.size + 1), 6, none⟩ = some (.slice b2 m2 d2) := (t1).cell 6
  have x7 : w1.cell? ⟨(w.heap.size + 1), 7, none⟩ = some (.slice b3 m3 d3) := (t1).cell 7
  clear t0 t1
  go_wp2_with fail
  refine (ref_SameInts _ _ _ _ _ _ _ ys ys (H2.out.far B1.out (Below.refl _ _)) (G2.out.far B1.out (Below.refl _ _))).mono ?_
  rw [show (ys == ys) = true by simp]
  rintro e w2 ⟨rfl, hd2⟩
  have B2 := Lib.hid (below_drawn B1.out hd2)
  have t0 := (T0.out.drawn hd1).drawn hd2; have t1 := (T1.out.drawn hd1).drawn hd2
  clear y0 x0 y1 x1 y2 x2 y3 x3 y4 x4 y5 x5 y6 x6 y7 x7
  have y0 : w2.cell? ⟨w.heap.size, 0, none⟩ = some (.int .i64 u) := (t0).cell 0
  have y1 : w2.cell? ⟨w.heap.size, 1, none⟩ = some (.int .i64 ev) := (t0).cell 1
  have y2 : w2.cell? ⟨w.heap.size, 2, none⟩ = some (.int .i64 f) := (t0).cell 2
  have y3 : w2.cell? ⟨w.heap.size, 3, none⟩ = some (.int .i64 cn) := (t0).cell 3
  have y4 : w2.cell? ⟨w.heap.size, 4, none⟩ = some (.int .i64 un) := (t0).cell 4
  have y5 : w2.cell? ⟨w.heap.size, 5, none⟩ = some (.slice a1 n1 c1) := (t0).cell 5
  have y6 : w2.cell? ⟨w.heap.size, 6, none⟩ = some (.slice a2 n2 c2) := (t0).cell 6
  have y7 : w2.cell? ⟨w.heap.size, 7, none⟩ = some (.slice a3 n3 c3) := (t0).cell 7
  have x0 : w2.cell? ⟨(w.heap.size + 1), 0, none⟩ = some (.int .i64 u) := (t1).cell 0
  have x1 : w2.cell? ⟨(w.heap.size + 1), 1, none⟩ = some (.int .i64 ev) := (t1).cell 1
  have x2 : w2.cell? ⟨(w.heap.size + 1), 2, none⟩ = some (.int .i64 f) := (t1).cell 2
  have x3 : w2.cell? ⟨(w.heap.size + 1), 3, none⟩ = some (.int .i64 cn) := (t1).cell 3
  have x4 : w2.cell? ⟨(w.heap.size + 1), 4, none⟩ = some (.int .i64 un) := (t1).cell 4
  have x5 : w2.cell? ⟨(w.heap.size + 1), 5, none⟩ = some (.slice b1 m1 d1) := (t1).cell 5
  have x6 : w2.cell? ⟨(w.heap.size + 1), 6, none⟩ = some (.slice b2 m2 d2) := (t1).cell 6
  have x7 : w2.cell? ⟨(w.heap.size + 1), 7, none⟩ = some (.slice b3 m3 d3) := (t1).cell 7
  clear t0 t1
  go_wp2_with fail
  refine (ref_SameInts _ _ _ _ _ _ _ zs zs (H3.out.far B2.out (Below.refl _ _)) (G3.out.far B2.out (Below.refl _ _))).mono ?_
  rw [show (zs == zs) = true by simp]
  rintro e w3 ⟨rfl, hd3⟩
  have b3 := below_drawn B2.out hd3
  go_wp2_with fail
  go_ret
  exact ⟨rfl, b3⟩
end Go.Proofs.YtdmkghgachapaaaDoor
