/- RecurNormals: the Go text returns true at every input, and writes nothing that was there. -/
import Derived.Test.YtjjmbnflhldoeaaWant
import Derived.Test.YtjjmbnflhldoeaaRows2
namespace Go.Proofs.Ytjjmbnflhldoeaa.recurNormalsLaw
set_option linter.unusedVariables false
set_option maxRecDepth 100000
open Go.RowKit Go.ChangeShapes Go.WideShapes greg

theorem below_new' {B : Nat} {a w : World} (h : Below B a w) (hB : B ≤ w.heap.size) (o : Obj) : Below B a (w.alloc o) := h.alloc hB o
theorem nilInts (w : World) (B : Nat) : Ints w B none 0 [] := ⟨rfl, by omega, by simp, fun h => absurd h (by omega)⟩
set_option maxHeartbeats 4000000 in
theorem ref_SameRecur (w : World) (u ev f cn un : Int) (a1 a2 a3 b1 b2 b3 : Option Addr) (n1 n2 n3 c1 c2 c3 m1 m2 m3 d1 d2 d3 : Nat) (xs ys zs : List Int)
    (h1 : Ints w w.heap.size a1 n1 xs) (h2 : Ints w w.heap.size a2 n2 ys) (h3 : Ints w w.heap.size a3 n3 zs) (g1 : Ints w w.heap.size b1 m1 xs) (g2 : Ints w w.heap.size b2 m2 ys) (g3 : Ints w w.heap.size b3 m3 zs) :
    Calls Try.prog 9 #[.agg #[.int .i64 u, .int .i64 ev, .int .i64 f, .int .i64 cn, .int .i64 un, .slice a1 n1 c1, .slice a2 n2 c2, .slice a3 n3 c3], .agg #[.int .i64 u, .int .i64 ev, .int .i64 f, .int .i64 cn, .int .i64 un, .slice b1 m1 d1, .slice b2 m2 d2, .slice b3 m3 d3]] w fun e w' => e = .returned (.bool true) ∧ Below w.heap.size w w' := by
  have H1 := Lib.hid h1; have H2 := Lib.hid h2; have H3 := Lib.hid h3; have G1 := Lib.hid g1; have G2 := Lib.hid g2; have G3 := Lib.hid g3
  clear h1 h2 h3 g1 g2 g3
  go_enter Try.func9, Try.ntmps9
  go_wp2_with fail
  have t0 := (At.new w (.cells #[.int .i64 u, .int .i64 ev, .int .i64 f, .int .i64 cn, .int .i64 un, .slice a1 n1 c1, .slice a2 n2 c2, .slice a3 n3 c3] 24)).alloc (.cells #[.int .i64 u, .int .i64 ev, .int .i64 f, .int .i64 cn, .int .i64 un, .slice b1 m1 d1, .slice b2 m2 d2, .slice b3 m3 d3] 24)
  have t1 := At.new1 w (.cells #[.int .i64 u, .int .i64 ev, .int .i64 f, .int .i64 cn, .int .i64 un, .slice a1 n1 c1, .slice a2 n2 c2, .slice a3 n3 c3] 24) (.cells #[.int .i64 u, .int .i64 ev, .int .i64 f, .int .i64 cn, .int .i64 un, .slice b1 m1 d1, .slice b2 m2 d2, .slice b3 m3 d3] 24)
  have b0 := below_new (below_new (Below.refl w.heap.size w) (.cells #[.int .i64 u, .int .i64 ev, .int .i64 f, .int .i64 cn, .int .i64 un, .slice a1 n1 c1, .slice a2 n2 c2, .slice a3 n3 c3] 24)) (.cells #[.int .i64 u, .int .i64 ev, .int .i64 f, .int .i64 cn, .int .i64 un, .slice b1 m1 d1, .slice b2 m2 d2, .slice b3 m3 d3] 24)
  generalize World.alloc (World.alloc w _) _ = W0 at t0 t1 b0 ⊢
  have B0 := Lib.hid b0; have T0 := Lib.hid t0; have T1 := Lib.hid t1
  have y0 : W0.cell? ⟨w.heap.size, 0, none⟩ = some (.int .i64 u) := (t0).cell 0
  have y1 : W0.cell? ⟨w.heap.size, 1, none⟩ = some (.int .i64 ev) := (t0).cell 1
  have y2 : W0.cell? ⟨w.heap.size, 2, none⟩ = some (.int .i64 f) := (t0).cell 2
  have y3 : W0.cell? ⟨w.heap.size, 3, none⟩ = some (.int .i64 cn) := (t0).cell 3
  have y4 : W0.cell? ⟨w.heap.size, 4, none⟩ = some (.int .i64 un) := (t0).cell 4
  have y5 : W0.cell? ⟨w.heap.size, 5, none⟩ = some (.slice a1 n1 c1) := (t0).cell 5
  have y6 : W0.cell? ⟨w.heap.size, 6, none⟩ = some (.slice a2 n2 c2) := (t0).cell 6
  have y7 : W0.cell? ⟨w.heap.size, 7, none⟩ = some (.slice a3 n3 c3) := (t0).cell 7
  have x0 : W0.cell? ⟨(w.heap.size + 1), 0, none⟩ = some (.int .i64 u) := (t1).cell 0
  have x1 : W0.cell? ⟨(w.heap.size + 1), 1, none⟩ = some (.int .i64 ev) := (t1).cell 1
  have x2 : W0.cell? ⟨(w.heap.size + 1), 2, none⟩ = some (.int .i64 f) := (t1).cell 2
  have x3 : W0.cell? ⟨(w.heap.size + 1), 3, none⟩ = some (.int .i64 cn) := (t1).cell 3
  have x4 : W0.cell? ⟨(w.heap.size + 1), 4, none⟩ = some (.int .i64 un) := (t1).cell 4
  have x5 : W0.cell? ⟨(w.heap.size + 1), 5, none⟩ = some (.slice b1 m1 d1) := (t1).cell 5
  have x6 : W0.cell? ⟨(w.heap.size + 1), 6, none⟩ = some (.slice b2 m2 d2) := (t1).cell 6
  have x7 : W0.cell? ⟨(w.heap.size + 1), 7, none⟩ = some (.slice b3 m3 d3) := (t1).cell 7
  clear t0 t1 b0
  refine (ref_SameInts _ _ _ _ _ _ _ xs xs (H1.out.far B0.out (Below.refl _ _)) (G1.out.far B0.out (Below.refl _ _))).mono ?_
  rw [show (xs == xs) = true by simp]
  rintro e w1 ⟨rfl, hd1⟩
  have B1 := Lib.hid (below_drawn B0.out hd1)
  have t0 := T0.out.drawn hd1; have t1 := T1.out.drawn hd1
  clear y0 x0 y1 x1 y2 x2 y3 x3 y4 x4 y5 x5 y6 x6 y7 x7
  have y0 : w1.cell? ⟨w.heap.size, 0, none⟩ = some (.int .i64 u) := (t0).cell 0
  have y1 : w1.cell? ⟨w.heap.size, 1, none⟩ = some (.int .i64 ev) := (t0).cell 1
  have y2 : w1.cell? ⟨w.heap.size, 2, none⟩ = some (.int .i64 f) := (t0).cell 2
  have y3 : w1.cell? ⟨w.heap.size, 3, none⟩ = some (.int .i64 cn) := (t0).cell 3
  have y4 : w1.cell? ⟨w.heap.size, 4, none⟩ = some (.int .i64 un) := (t0).cell 4
  have y5 : w1.cell? ⟨w.heap.size, 5, none⟩ = some (.slice a1 n1 c1) := (t0).cell 5
  have y6 : w1.cell? ⟨w.heap.size, 6, none⟩ = some (.slice a2 n2 c2) := (t0).cell 6
  have y7 : w1.cell? ⟨w.heap.size, 7, none⟩ = some (.slice a3 n3 c3) := (t0).cell 7
  have x0 : w1.cell? ⟨(w.heap.size + 1), 0, none⟩ = some (.int .i64 u) := (t1).cell 0
  have x1 : w1.cell? ⟨(w.heap.size + 1), 1, none⟩ = some (.int .i64 ev) := (t1).cell 1
  have x2 : w1.cell? ⟨(w.heap.size + 1), 2, none⟩ = some (.int .i64 f) := (t1).cell 2
  have x3 : w1.cell? ⟨(w.heap.size + 1), 3, none⟩ = some (.int .i64 cn) := (t1).cell 3
  have x4 : w1.cell? ⟨(w.heap.size + 1), 4, none⟩ = some (.int .i64 un) := (t1).cell 4
  have x5 : w1.cell? ⟨(w.heap.size + 1), 5, none⟩ = some (.slice b1 m1 d1) := (t1).cell 5
  have x6 : w1.cell? ⟨(w.heap.size + 1), 6, none⟩ = some (.slice b2 m2 d2) := (t1).cell 6
  have x7 : w1.cell? ⟨(w.heap.size + 1), 7, none⟩ = some (.slice b3 m3 d3) := (t1).cell 7
  clear t0 t1
  go_wp2_with fail
  refine (ref_SameInts _ _ _ _ _ _ _ ys ys (H2.out.far B1.out (Below.refl _ _)) (G2.out.far B1.out (Below.refl _ _))).mono ?_
  rw [show (ys == ys) = true by simp]
  rintro e w2 ⟨rfl, hd2⟩
  have B2 := Lib.hid (below_drawn B1.out hd2)
  have t0 := (T0.out.drawn hd1).drawn hd2; have t1 := (T1.out.drawn hd1).drawn hd2
  clear y0 x0 y1 x1 y2 x2 y3 x3 y4 x4 y5 x5 y6 x6 y7 x7
  have y0 : w2.cell? ⟨w.heap.size, 0, none⟩ = some (.int .i64 u) := (t0).cell 0
  have y1 : w2.cell? ⟨w.heap.size, 1, none⟩ = some (.int .i64 ev) := (t0).cell 1
  have y2 : w2.cell? ⟨w.heap.size, 2, none⟩ = some (.int .i64 f) := (t0).cell 2
  have y3 : w2.cell? ⟨w.heap.size, 3, none⟩ = some (.int .i64 cn) := (t0).cell 3
  have y4 : w2.cell? ⟨w.heap.size, 4, none⟩ = some (.int .i64 un) := (t0).cell 4
  have y5 : w2.cell? ⟨w.heap.size, 5, none⟩ = some (.slice a1 n1 c1) := (t0).cell 5
  have y6 : w2.cell? ⟨w.heap.size, 6, none⟩ = some (.slice a2 n2 c2) := (t0).cell 6
  have y7 : w2.cell? ⟨w.heap.size, 7, none⟩ = some (.slice a3 n3 c3) := (t0).cell 7
  have x0 : w2.cell? ⟨(w.heap.size + 1), 0, none⟩ = some (.int .i64 u) := (t1).cell 0
  have x1 : w2.cell? ⟨(w.heap.size + 1), 1, none⟩ = some (.int .i64 ev) := (t1).cell 1
  have x2 : w2.cell? ⟨(w.heap.size + 1), 2, none⟩ = some (.int .i64 f) := (t1).cell 2
  have x3 : w2.cell? ⟨(w.heap.size + 1), 3, none⟩ = some (.int .i64 cn) := (t1).cell 3
  have x4 : w2.cell? ⟨(w.heap.size + 1), 4, none⟩ = some (.int .i64 un) := (t1).cell 4
  have x5 : w2.cell? ⟨(w.heap.size + 1), 5, none⟩ = some (.slice b1 m1 d1) := (t1).cell 5
  have x6 : w2.cell? ⟨(w.heap.size + 1), 6, none⟩ = some (.slice b2 m2 d2) := (t1).cell 6
  have x7 : w2.cell? ⟨(w.heap.size + 1), 7, none⟩ = some (.slice b3 m3 d3) := (t1).cell 7
  clear t0 t1
  go_wp2_with fail
  refine (ref_SameInts _ _ _ _ _ _ _ zs zs (H3.out.far B2.out (Below.refl _ _)) (G3.out.far B2.out (Below.refl _ _))).mono ?_
  rw [show (zs == zs) = true by simp]
  rintro e w3 ⟨rfl, hd3⟩
  have b3 := below_drawn B2.out hd3
  go_wp2_with fail
  go_ret
  exact ⟨rfl, b3⟩
set_option maxHeartbeats 4000000 in
theorem core (w : World) (u ev f cn un : Int) (a1 a2 a3 : Option Addr) (n1 n2 n3 c1 c2 c3 : Nat) (ws ms ns : List Int)
    (h1 : Ints w w.heap.size a1 n1 ws) (h2 : Ints w w.heap.size a2 n2 ms) (h3 : Ints w w.heap.size a3 n3 ns) (k1 : n1 ≤ c1) (k2 : n2 ≤ c2) (k3 : n3 ≤ c3) (m1 : c1 ≤ 9223372036854775807) (m2 : c2 ≤ 9223372036854775807) (m3 : c3 ≤ 9223372036854775807) :
    Calls Try.prog 3 #[.agg #[.int .i64 u, .int .i64 ev, .int .i64 f, .int .i64 cn, .int .i64 un, .slice a1 n1 c1, .slice a2 n2 c2, .slice a3 n3 c3]] w fun e w' => e = .returned (.bool true) ∧ Below w.heap.size w w' := by
  have H1 := Lib.hid h1; have H2 := Lib.hid h2; have H3 := Lib.hid h3; clear h1 h2 h3
  go_enter Try.func3, Try.ntmps3
  go_wp2_with fail
  have t0 := At.new w (.cells #[.int .i64 u, .int .i64 ev, .int .i64 f, .int .i64 cn, .int .i64 un, .slice a1 n1 c1, .slice a2 n2 c2, .slice a3 n3 c3] 24)
  have b0 := below_new (Below.refl w.heap.size w) (.cells #[.int .i64 u, .int .i64 ev, .int .i64 f, .int .i64 cn, .int .i64 un, .slice a1 n1 c1, .slice a2 n2 c2, .slice a3 n3 c3] 24)
  generalize World.alloc w _ = W0 at t0 b0 ⊢
  have B0 := Lib.hid b0; have T0 := Lib.hid t0
  clear t0 b0
  refine (recur_Normal W0 1 14 1 0 100 none none none 0 0 0 0 0 0 [] [] [] (nilInts _ _) (nilInts _ _) (nilInts _ _) (by omega) (by omega) (by omega) (by omega) (by omega) (by omega)).mono ?_
  rw [show recurErr 1 14 1 0 100 [] [] [] = 0 by decide +kernel]
  rintro e w1 hd
  rcases hd with ⟨hn, _⟩ | ⟨_, p1, r1, z1, p2, r2, z2, p3, r3, z3, rfl, hI1, hI2, hI3, hb⟩
  · exact absurd rfl hn
  rw [show sortI (if nC 1 14 1 [] [] = true then [((1 : Int) - 1) % 7] else nW 1 1 [] []) = [0] by decide +kernel] at hI1
  rw [show (if nC 1 14 1 [] [] = true then (2 : Int) else 1) = 2 by decide +kernel, show (if nC 1 14 1 [] [] = true then (14 : Int) / 7 else 14) = 2 by decide +kernel]
  have I1 := Lib.hid hI1
  have B1 := Lib.hid (below_then B0.out hb); have R1 := Lib.hid hb
  clear hI1 hI2 hI3 hb
  go_wp2_with fail
  have j1 := At.newAt (w1.alloc (.cells #[.int .i64 2, .int .i64 2, .int .i64 1, .int .i64 0, .int .i64 100, .slice p1 r1 z1, .slice p2 r2 z2, .slice p3 r3 z3] 24)) (.cells #[.int .i64 0] 3) (w1.heap.size + 1) (by simp)
  have jb := below_new (below_new (Below.refl w1.heap.size w1) (.cells #[.int .i64 2, .int .i64 2, .int .i64 1, .int .i64 0, .int .i64 100, .slice p1 r1 z1, .slice p2 r2 z2, .slice p3 r3 z3] 24)) (.cells #[.int .i64 0] 3)
  have jr := (At.new w1 (.cells #[.int .i64 2, .int .i64 2, .int .i64 1, .int .i64 0, .int .i64 100, .slice p1 r1 z1, .slice p2 r2 z2, .slice p3 r3 z3] 24)).alloc (.cells #[.int .i64 0] 3)
  obtain rfl : r1 = 1 := I1.out.1.symm
  refine (ref_SameInts _ _ _ _ _ _ _ [0] [0] (I1.out.far (Below.refl _ _) jb) (At.ints [0] j1 (by intro x hx; simp at hx; subst hx; unfold I64; omega) (by simp))).mono ?_
  rw [show (([0] : List Int) == [0]) = true by decide]
  rintro e w2 ⟨rfl, hdr⟩
  have hb2 : Below w1.heap.size w1 w2 := below_drawn jb hdr
  have B2 := Lib.hid (below_then B1.out hb2); have R2 := Lib.hid (R1.out.trans (hb2.mono R1.out.size))
  have t0 := T0.out.then_ R2.out
  clear j1 jb jr hdr hb2 I1
  have g0 : w2.cell? ⟨w.heap.size, 0, none⟩ = some (.int .i64 u) := (t0).cell 0
  have g1 : w2.cell? ⟨w.heap.size, 1, none⟩ = some (.int .i64 ev) := (t0).cell 1
  have g2 : w2.cell? ⟨w.heap.size, 2, none⟩ = some (.int .i64 f) := (t0).cell 2
  have g3 : w2.cell? ⟨w.heap.size, 3, none⟩ = some (.int .i64 cn) := (t0).cell 3
  have g4 : w2.cell? ⟨w.heap.size, 4, none⟩ = some (.int .i64 un) := (t0).cell 4
  have g5 : w2.cell? ⟨w.heap.size, 5, none⟩ = some (.slice a1 n1 c1) := (t0).cell 5
  have g6 : w2.cell? ⟨w.heap.size, 6, none⟩ = some (.slice a2 n2 c2) := (t0).cell 6
  have g7 : w2.cell? ⟨w.heap.size, 7, none⟩ = some (.slice a3 n3 c3) := (t0).cell 7
  clear t0
  obtain ⟨E, hE⟩ : ∃ E, E = recurErr u ev f cn un ws ms ns := ⟨_, rfl⟩
  have HE := Lib.hid hE
  clear hE
  go_wp2_with fail
  refine (recur_Normal w2 u ev f cn un a1 a2 a3 n1 n2 n3 c1 c2 c3 ws ms ns (H1.out.far B2.out (Below.refl _ _)) (H2.out.far B2.out (Below.refl _ _)) (H3.out.far B2.out (Below.refl _ _)) k1 k2 k3 m1 m2 m3).mono ?_
  rw [← HE.out]
  rintro e w3 hd
  rcases hd with ⟨hn, rfl, hb⟩ | ⟨h0, s1, l1, y1, s2, l2, y2, s3, l3, y3, rfl, hI1, hI2, hI3, hb⟩
  · have HN := Lib.hid hn
    have hn' : (E == 0) = false := by simpa using hn
    have B3 := Lib.hid (below_then B2.out hb); have R3 := Lib.hid (R2.out.trans (hb.mono R2.out.size))
    have t0 := T0.out.then_ R3.out
    clear hn hb g0 g1 g2 g3 g4 g5 g6 g7
    have g0 : w3.cell? ⟨w.heap.size, 0, none⟩ = some (.int .i64 u) := (t0).cell 0
    have g1 : w3.cell? ⟨w.heap.size, 1, none⟩ = some (.int .i64 ev) := (t0).cell 1
    have g2 : w3.cell? ⟨w.heap.size, 2, none⟩ = some (.int .i64 f) := (t0).cell 2
    have g3 : w3.cell? ⟨w.heap.size, 3, none⟩ = some (.int .i64 cn) := (t0).cell 3
    have g4 : w3.cell? ⟨w.heap.size, 4, none⟩ = some (.int .i64 un) := (t0).cell 4
    have g5 : w3.cell? ⟨w.heap.size, 5, none⟩ = some (.slice a1 n1 c1) := (t0).cell 5
    have g6 : w3.cell? ⟨w.heap.size, 6, none⟩ = some (.slice a2 n2 c2) := (t0).cell 6
    have g7 : w3.cell? ⟨w.heap.size, 7, none⟩ = some (.slice a3 n3 c3) := (t0).cell 7
    have lt3 := t0.lt
    clear t0
    go_wp2_with fail
    have x0 := At.new w3 (.cells #[.int .i64 0, .int .i64 0, .int .i64 0, .int .i64 0, .int .i64 0, .slice none 0 0, .slice none 0 0, .slice none 0 0] 24)
    have B4 := Lib.hid (below_new B3.out (.cells #[.int .i64 0, .int .i64 0, .int .i64 0, .int .i64 0, .int .i64 0, .slice none 0 0, .slice none 0 0, .slice none 0 0] 24)); have R4 := Lib.hid (below_new R3.out (.cells #[.int .i64 0, .int .i64 0, .int .i64 0, .int .i64 0, .int .i64 0, .slice none 0 0, .slice none 0 0, .slice none 0 0] 24))
    generalize World.alloc w3 _ = W4 at x0 B4 R4 ⊢
    have X0 := Lib.hid x0
    refine (ref_RecurError W4 u ev f cn un a1 a2 a3 n1 n2 n3 c1 c2 c3 ws ms ns (H1.out.far B4.out (Below.refl _ _)) (H2.out.far B4.out (Below.refl _ _)) (H3.out.far B4.out (Below.refl _ _)) k1 k2 k3 m1 m2 m3).mono ?_
    rw [← HE.out]
    rintro e w5 ⟨rfl, hb⟩
    have B5 := Lib.hid (below_then B4.out hb)
    have x5 := X0.out.then_ hb
    clear hb x0 g0 g1 g2 g3 g4 g5 g6 g7
    have h0 : w5.cell? ⟨w3.heap.size, 0, none⟩ = some (.int .i64 0) := (x5).cell 0
    have h1 : w5.cell? ⟨w3.heap.size, 1, none⟩ = some (.int .i64 0) := (x5).cell 1
    have h2 : w5.cell? ⟨w3.heap.size, 2, none⟩ = some (.int .i64 0) := (x5).cell 2
    have h3 : w5.cell? ⟨w3.heap.size, 3, none⟩ = some (.int .i64 0) := (x5).cell 3
    have h4 : w5.cell? ⟨w3.heap.size, 4, none⟩ = some (.int .i64 0) := (x5).cell 4
    have h5 : w5.cell? ⟨w3.heap.size, 5, none⟩ = some (.slice none 0 0) := (x5).cell 5
    have h6 : w5.cell? ⟨w3.heap.size, 6, none⟩ = some (.slice none 0 0) := (x5).cell 6
    have h7 : w5.cell? ⟨w3.heap.size, 7, none⟩ = some (.slice none 0 0) := (x5).cell 7
    clear x5
    go_wp2_with fail
    refine (ref_SameRecur w5 0 0 0 0 0 none none none none none none 0 0 0 0 0 0 0 0 0 0 0 0 [] [] [] (nilInts _ _) (nilInts _ _) (nilInts _ _) (nilInts _ _) (nilInts _ _) (nilInts _ _)).mono ?_
    rintro e w6 ⟨rfl, hb⟩
    have B6 := Lib.hid (below_then B5.out hb)
    clear hb
    go_wp2_with fail
    go_ret
    exact ⟨ret_bool (by simp), B6.out⟩
  subst h0
  have ok := recOk_of HE.out.symm
  obtain ⟨o1, o2, o3, o4, o5, o6, o7, o8, o9, o10, o11, o12, o13, o14⟩ := ok
  obtain ⟨U2, hU2⟩ : ∃ x, x = (if nC u ev f ws ms = true then 2 else u) := ⟨_, rfl⟩
  obtain ⟨V2, hV2⟩ : ∃ x, x = (if nC u ev f ws ms = true then ev / 7 else ev) := ⟨_, rfl⟩
  rw [← hU2, ← hV2]
  have HU2 := Lib.hid hU2; have HV2 := Lib.hid hV2
  have J1 := Lib.hid hI1; have J2 := Lib.hid hI2; have J3 := Lib.hid hI3
  have B3 := Lib.hid (below_then B2.out hb); have R3 := Lib.hid (R2.out.trans (hb.mono R2.out.size))
  have t0 := T0.out.then_ R3.out
  clear hU2 hV2 hI1 hI2 hI3 hb g0 g1 g2 g3 g4 g5 g6 g7
  have g0 : w3.cell? ⟨w.heap.size, 0, none⟩ = some (.int .i64 u) := (t0).cell 0
  have g1 : w3.cell? ⟨w.heap.size, 1, none⟩ = some (.int .i64 ev) := (t0).cell 1
  have g2 : w3.cell? ⟨w.heap.size, 2, none⟩ = some (.int .i64 f) := (t0).cell 2
  have g3 : w3.cell? ⟨w.heap.size, 3, none⟩ = some (.int .i64 cn) := (t0).cell 3
  have g4 : w3.cell? ⟨w.heap.size, 4, none⟩ = some (.int .i64 un) := (t0).cell 4
  have g5 : w3.cell? ⟨w.heap.size, 5, none⟩ = some (.slice a1 n1 c1) := (t0).cell 5
  have g6 : w3.cell? ⟨w.heap.size, 6, none⟩ = some (.slice a2 n2 c2) := (t0).cell 6
  have g7 : w3.cell? ⟨w.heap.size, 7, none⟩ = some (.slice a3 n3 c3) := (t0).cell 7
  have lt3 := t0.lt
  clear t0
  go_wp2_with fail
  have x0 := At.new w3 (.cells #[.int .i64 U2, .int .i64 V2, .int .i64 f, .int .i64 cn, .int .i64 un, .slice s1 l1 y1, .slice s2 l2 y2, .slice s3 l3 y3] 24)
  have D4 := Lib.hid (below_new (Below.refl w3.heap.size w3) (.cells #[.int .i64 U2, .int .i64 V2, .int .i64 f, .int .i64 cn, .int .i64 un, .slice s1 l1 y1, .slice s2 l2 y2, .slice s3 l3 y3] 24))
  have B4 := Lib.hid (below_new B3.out (.cells #[.int .i64 U2, .int .i64 V2, .int .i64 f, .int .i64 cn, .int .i64 un, .slice s1 l1 y1, .slice s2 l2 y2, .slice s3 l3 y3] 24)); have R4 := Lib.hid (below_new R3.out (.cells #[.int .i64 U2, .int .i64 V2, .int .i64 f, .int .i64 cn, .int .i64 un, .slice s1 l1 y1, .slice s2 l2 y2, .slice s3 l3 y3] 24))
  generalize World.alloc w3 _ = W4 at x0 B4 R4 D4 ⊢
  have X0 := Lib.hid x0
  refine (ref_RecurError W4 u ev f cn un a1 a2 a3 n1 n2 n3 c1 c2 c3 ws ms ns (H1.out.far B4.out (Below.refl _ _)) (H2.out.far B4.out (Below.refl _ _)) (H3.out.far B4.out (Below.refl _ _)) k1 k2 k3 m1 m2 m3).mono ?_
  rw [← HE.out]
  rintro e w5 ⟨rfl, hb⟩
  have B5 := Lib.hid (below_then B4.out hb); have R5 := Lib.hid (R4.out.trans (hb.mono R4.out.size)); have D5 := Lib.hid (D4.out.trans (hb.mono D4.out.size))
  have X5 := Lib.hid (X0.out.then_ hb)
  have t0 := T0.out.then_ R5.out
  have T5 := Lib.hid t0
  have lx5 := X5.out.lt; have lt5 := t0.lt
  have J51 := Lib.hid (J1.out.far (Below.refl _ _) D5.out); have J52 := Lib.hid (J2.out.far (Below.refl _ _) D5.out); have J53 := Lib.hid (J3.out.far (Below.refl _ _) D5.out)
  clear hb x0 g0 g1 g2 g3 g4 g5 g6 g7
  have g0 : w5.cell? ⟨w.heap.size, 0, none⟩ = some (.int .i64 u) := (t0).cell 0
  have g1 : w5.cell? ⟨w.heap.size, 1, none⟩ = some (.int .i64 ev) := (t0).cell 1
  have g2 : w5.cell? ⟨w.heap.size, 2, none⟩ = some (.int .i64 f) := (t0).cell 2
  have g3 : w5.cell? ⟨w.heap.size, 3, none⟩ = some (.int .i64 cn) := (t0).cell 3
  have g4 : w5.cell? ⟨w.heap.size, 4, none⟩ = some (.int .i64 un) := (t0).cell 4
  have g5 : w5.cell? ⟨w.heap.size, 5, none⟩ = some (.slice a1 n1 c1) := (t0).cell 5
  have g6 : w5.cell? ⟨w.heap.size, 6, none⟩ = some (.slice a2 n2 c2) := (t0).cell 6
  have g7 : w5.cell? ⟨w.heap.size, 7, none⟩ = some (.slice a3 n3 c3) := (t0).cell 7
  clear t0
  have i1 := H1.out.1; have i2 := H2.out.1; have i3 := H3.out.1
  go_upto_region 9 with fail
  have t0 := T5.out.alloc (.cells #[.int .i64 u, .int .i64 ev, .int .i64 f, .int .i64 cn, .int .i64 un, .slice a1 n1 c1, .slice a2 n2 c2, .slice a3 n3 c3] 24)
  have y0 := At.new w5 (.cells #[.int .i64 u, .int .i64 ev, .int .i64 f, .int .i64 cn, .int .i64 un, .slice a1 n1 c1, .slice a2 n2 c2, .slice a3 n3 c3] 24)
  have D6 := Lib.hid (below_new (Below.refl w5.heap.size w5) (.cells #[.int .i64 u, .int .i64 ev, .int .i64 f, .int .i64 cn, .int .i64 un, .slice a1 n1 c1, .slice a2 n2 c2, .slice a3 n3 c3] 24))
  have B6 := Lib.hid (below_new B5.out (.cells #[.int .i64 u, .int .i64 ev, .int .i64 f, .int .i64 cn, .int .i64 un, .slice a1 n1 c1, .slice a2 n2 c2, .slice a3 n3 c3] 24))
  have X6A := X5.out.alloc (.cells #[.int .i64 u, .int .i64 ev, .int .i64 f, .int .i64 cn, .int .i64 un, .slice a1 n1 c1, .slice a2 n2 c2, .slice a3 n3 c3] 24)
  generalize hW6 : World.alloc w5 _ = W6 at t0 y0 D6 B6 X6A ⊢
  have hs6 : W6.heap.size = w5.heap.size + 1 := by rw [← hW6]; simp
  generalize hW8 : w5.heap.size = W8 at *
  have T6 := Lib.hid t0; have Y6 := Lib.hid y0
  have lt6 := t0.lt
  clear g0 g1 g2 g3 g4 g5 g6 g7 hW6
  have g0 : W6.cell? ⟨w.heap.size, 0, none⟩ = some (.int .i64 u) := (t0).cell 0
  have g1 : W6.cell? ⟨w.heap.size, 1, none⟩ = some (.int .i64 ev) := (t0).cell 1
  have g2 : W6.cell? ⟨w.heap.size, 2, none⟩ = some (.int .i64 f) := (t0).cell 2
  have g3 : W6.cell? ⟨w.heap.size, 3, none⟩ = some (.int .i64 cn) := (t0).cell 3
  have g4 : W6.cell? ⟨w.heap.size, 4, none⟩ = some (.int .i64 un) := (t0).cell 4
  have g5 : W6.cell? ⟨w.heap.size, 5, none⟩ = some (.slice a1 n1 c1) := (t0).cell 5
  have g6 : W6.cell? ⟨w.heap.size, 6, none⟩ = some (.slice a2 n2 c2) := (t0).cell 6
  have g7 : W6.cell? ⟨w.heap.size, 7, none⟩ = some (.slice a3 n3 c3) := (t0).cell 7
  have h0 : W6.cell? ⟨W8, 0, none⟩ = some (.int .i64 u) := (y0).cell 0
  have h1 : W6.cell? ⟨W8, 1, none⟩ = some (.int .i64 ev) := (y0).cell 1
  have h2 : W6.cell? ⟨W8, 2, none⟩ = some (.int .i64 f) := (y0).cell 2
  have h3 : W6.cell? ⟨W8, 3, none⟩ = some (.int .i64 cn) := (y0).cell 3
  have h4 : W6.cell? ⟨W8, 4, none⟩ = some (.int .i64 un) := (y0).cell 4
  have h5 : W6.cell? ⟨W8, 5, none⟩ = some (.slice a1 n1 c1) := (y0).cell 5
  have h6 : W6.cell? ⟨W8, 6, none⟩ = some (.slice a2 n2 c2) := (y0).cell 6
  have h7 : W6.cell? ⟨W8, 7, none⟩ = some (.slice a3 n3 c3) := (y0).cell 7
  have hf0 : W6.frozen? ⟨W8, 0, none⟩ = false := (y0).frozen 0
  have hf1 : W6.frozen? ⟨W8, 1, none⟩ = false := (y0).frozen 1
  have hf2 : W6.frozen? ⟨W8, 2, none⟩ = false := (y0).frozen 2
  have hf3 : W6.frozen? ⟨W8, 3, none⟩ = false := (y0).frozen 3
  have hf4 : W6.frozen? ⟨W8, 4, none⟩ = false := (y0).frozen 4
  have hf5 : W6.frozen? ⟨W8, 5, none⟩ = false := (y0).frozen 5
  have hf6 : W6.frozen? ⟨W8, 6, none⟩ = false := (y0).frozen 6
  have hf7 : W6.frozen? ⟨W8, 7, none⟩ = false := (y0).frozen 7
  clear t0 y0
  have KT := Lib.hid (show ∀ W, Below W6.heap.size W6 W → At W w.heap.size (.cells #[.int .i64 u, .int .i64 ev, .int .i64 f, .int .i64 cn, .int .i64 un, .slice a1 n1 c1, .slice a2 n2 c2, .slice a3 n3 c3] 24) ∧ At W W8 (.cells #[.int .i64 u, .int .i64 ev, .int .i64 f, .int .i64 cn, .int .i64 un, .slice a1 n1 c1, .slice a2 n2 c2, .slice a3 n3 c3] 24) from fun W h => ⟨T6.out.then_ h, Y6.out.then_ h⟩)
  have CC1 := Lib.hid (show ∀ W, Below W6.heap.size W6 W → Calls Try.prog 10 #[.slice a1 n1 c1] W (OwnI W n1 ws) from fun W h => clone_ints W a1 n1 c1 ws (H1.out.far B6.out h) (by omega))
  have CC2 := Lib.hid (show ∀ W, Below W6.heap.size W6 W → Calls Try.prog 10 #[.slice a2 n2 c2] W (OwnI W n2 ms) from fun W h => clone_ints W a2 n2 c2 ms (H2.out.far B6.out h) (by omega))
  have CC3 := Lib.hid (show ∀ W, Below W6.heap.size W6 W → Calls Try.prog 10 #[.slice a3 n3 c3] W (OwnI W n3 ns) from fun W h => clone_ints W a3 n3 c3 ns (H3.out.far B6.out h) (by omega))
  have X6 : At W6 w3.heap.size (.cells #[.int .i64 U2, .int .i64 V2, .int .i64 f, .int .i64 cn, .int .i64 un, .slice s1 l1 y1, .slice s2 l2 y2, .slice s3 l3 y3] 24) := X6A
  have XX6 := Lib.hid X6
  clear X6
  go_cut [] from 52 (fun wx => Want wx W8 u ev f cn un ws ms ns ∧ Below W8 W6 wx)
  case first =>
    go_region_law
      (first
        | (rw [if_pos (by rfl)]; go_simp; go_at_call 10; (with_reducible refine Calls.mono (CC1.out _ ?_) ?_); (focus (first | exact (Below.refl _ _).drew | exact cb1 | exact cb2 | assumption)); rintro e w21 ⟨v1, rfl, ho1, hb1⟩; obtain ⟨q1, e1, rfl, hr1⟩ := row_own2 ho1 i1; have cb1 : Below W6.heap.size W6 w21 := (by first | exact below_then (Below.refl _ _).drew hb1 | exact below_then cb1 hb1 | exact below_then cb2 hb1); have ha1 := KT.out _ cb1; have u1_1 : w21.cell? ⟨w.heap.size, 5, none⟩ = some (.slice a1 n1 c1) := ha1.1.cell 5; have u1_2 : w21.cell? ⟨w.heap.size, 6, none⟩ = some (.slice a2 n2 c2) := ha1.1.cell 6; have u1_3 : w21.cell? ⟨w.heap.size, 7, none⟩ = some (.slice a3 n3 c3) := ha1.1.cell 7; have v1_1 : w21.frozen? ⟨W8, 5, none⟩ = false := ha1.2.frozen 5; have v1_2 : w21.frozen? ⟨W8, 6, none⟩ = false := ha1.2.frozen 6; have v1_3 : w21.frozen? ⟨W8, 7, none⟩ = false := ha1.2.frozen 7; have x1_1 : w21.cell? ⟨W8, 5, none⟩ = some (.slice a1 n1 c1) := ha1.2.cell 5; have x1_2 : w21.cell? ⟨W8, 6, none⟩ = some (.slice a2 n2 c2) := ha1.2.cell 6; have x1_3 : w21.cell? ⟨W8, 7, none⟩ = some (.slice a3 n3 c3) := ha1.2.cell 7)
        | (rw [if_pos (by rfl)]; go_simp; go_at_call 10; (with_reducible refine Calls.mono (CC2.out _ ?_) ?_); (focus (first | exact (Below.refl _ _).drew | exact cb1 | exact cb2 | assumption)); rintro e w22 ⟨v2, rfl, ho2, hb2⟩; obtain ⟨q2, e2, rfl, hr2⟩ := row_own2 ho2 i2; have cb2 : Below W6.heap.size W6 w22 := (by first | exact below_then (Below.refl _ _).drew hb2 | exact below_then cb1 hb2 | exact below_then cb2 hb2); have ha2 := KT.out _ cb2; have u2_1 : w22.cell? ⟨w.heap.size, 5, none⟩ = some (.slice a1 n1 c1) := ha2.1.cell 5; have u2_2 : w22.cell? ⟨w.heap.size, 6, none⟩ = some (.slice a2 n2 c2) := ha2.1.cell 6; have u2_3 : w22.cell? ⟨w.heap.size, 7, none⟩ = some (.slice a3 n3 c3) := ha2.1.cell 7; have v2_1 : w22.frozen? ⟨W8, 5, none⟩ = false := ha2.2.frozen 5; have v2_2 : w22.frozen? ⟨W8, 6, none⟩ = false := ha2.2.frozen 6; have v2_3 : w22.frozen? ⟨W8, 7, none⟩ = false := ha2.2.frozen 7; have x2_1 : w22.cell? ⟨W8, 5, none⟩ = some (.slice a1 n1 c1) := ha2.2.cell 5; have x2_2 : w22.cell? ⟨W8, 6, none⟩ = some (.slice a2 n2 c2) := ha2.2.cell 6; have x2_3 : w22.cell? ⟨W8, 7, none⟩ = some (.slice a3 n3 c3) := ha2.2.cell 7)
        | (rw [if_pos (by rfl)]; go_simp; go_at_call 10; (with_reducible refine Calls.mono (CC3.out _ ?_) ?_); (focus (first | exact (Below.refl _ _).drew | exact cb1 | exact cb2 | assumption)); rintro e w23 ⟨v3, rfl, ho3, hb3⟩; obtain ⟨q3, e3, rfl, hr3⟩ := row_own2 ho3 i3; have cb3 : Below W6.heap.size W6 w23 := (by first | exact below_then (Below.refl _ _).drew hb3 | exact below_then cb1 hb3 | exact below_then cb2 hb3); have ha3 := KT.out _ cb3; have u3_1 : w23.cell? ⟨w.heap.size, 5, none⟩ = some (.slice a1 n1 c1) := ha3.1.cell 5; have u3_2 : w23.cell? ⟨w.heap.size, 6, none⟩ = some (.slice a2 n2 c2) := ha3.1.cell 6; have u3_3 : w23.cell? ⟨w.heap.size, 7, none⟩ = some (.slice a3 n3 c3) := ha3.1.cell 7; have v3_1 : w23.frozen? ⟨W8, 5, none⟩ = false := ha3.2.frozen 5; have v3_2 : w23.frozen? ⟨W8, 6, none⟩ = false := ha3.2.frozen 6; have v3_3 : w23.frozen? ⟨W8, 7, none⟩ = false := ha3.2.frozen 7; have x3_1 : w23.cell? ⟨W8, 5, none⟩ = some (.slice a1 n1 c1) := ha3.2.cell 5; have x3_2 : w23.cell? ⟨W8, 6, none⟩ = some (.slice a2 n2 c2) := ha3.2.cell 6; have x3_3 : w23.cell? ⟨W8, 7, none⟩ = some (.slice a3 n3 c3) := ha3.2.cell 7))
    all_goals
      go_wp2_with fail
      go_meet
      case rel =>
        have kx := (((OneKept.refl W8 w23).set 5 (.slice q1 n1 e1)).set 6 (.slice q2 n2 e2)).set 7 (.slice q3 n3 e3)
        have tx := ((ha3.2.store 5 (.slice q1 n1 e1)).store 6 (.slice q2 n2 e2)).store 7 (.slice q3 n3 e3)
        have z1 : W6.heap.size ≤ w21.heap.size := cb1.size
        have z2 : w21.heap.size ≤ w22.heap.size := hb2.size
        have g1 := (hr1.then_ hb2).then_ hb3
        have g2 := hr2.then_ hb3
        have f1 := g1.lower (M := W8 + 1) (by first | omega | (show W8 + 1 ≤ W6.heap.size; omega))
        have f2 := g2.lower (M := W8 + 1) (by omega)
        have f3 := hr3.lower (M := W8 + 1) (by omega)
        refine ⟨⟨q1, n1, e1, q2, n2, e2, q3, n3, e3, tx, f1.kept kx f1.far, f2.kept kx f2.far, f3.kept kx f3.far, fun g h e1 e2 => ?_, fun g h e1 e2 => ?_, fun g h e1 e2 => ?_⟩, kx.below (cb3.mono (by omega)) (Nat.le_refl _) (by have := cb3.size; omega)⟩
        · have a := (hr1.at_ e1).2.lt; have b := (hr2.at_ e2).1; omega
        · have a := (hr1.at_ e1).2.lt; have b := (hr3.at_ e2).1; omega
        · have a := (hr2.at_ e1).2.lt; have b := (hr3.at_ e2).1; omega
  case rest =>
  obtain ⟨hw, hb⟩ := hcut
  have hsW : W6.heap.size ≤ wc.heap.size ∨ True := .inr trivial
  have lw8 : W8 < wc.heap.size := by obtain ⟨_, _, _, _, _, _, _, _, _, ha, _⟩ := hw; exact ha.lt
  have TB := Lib.hid (T6.out.below hb (by omega))
  have HW := Lib.hid hw; have HB := Lib.hid hb
  clear hw hb hsW g0 g1 g2 g3 g4 g5 g6 g7 h0 h1 h2 h3 h4 h5 h6 h7 hf0 hf1 hf2 hf3 hf4 hf5 hf6 hf7 CC1 CC2 CC3 KT
  have g0 : wc.cell? ⟨w.heap.size, 0, none⟩ = some (.int .i64 u) := (TB.out).cell 0
  have g1 : wc.cell? ⟨w.heap.size, 1, none⟩ = some (.int .i64 ev) := (TB.out).cell 1
  have g2 : wc.cell? ⟨w.heap.size, 2, none⟩ = some (.int .i64 f) := (TB.out).cell 2
  have g3 : wc.cell? ⟨w.heap.size, 3, none⟩ = some (.int .i64 cn) := (TB.out).cell 3
  have g4 : wc.cell? ⟨w.heap.size, 4, none⟩ = some (.int .i64 un) := (TB.out).cell 4
  have g5 : wc.cell? ⟨w.heap.size, 5, none⟩ = some (.slice a1 n1 c1) := (TB.out).cell 5
  have g6 : wc.cell? ⟨w.heap.size, 6, none⟩ = some (.slice a2 n2 c2) := (TB.out).cell 6
  have g7 : wc.cell? ⟨w.heap.size, 7, none⟩ = some (.slice a3 n3 c3) := (TB.out).cell 7
  go_wp2_with fail
  refine (ref_Greg f wc (by omega) (by omega)).mono ?_
  rintro e w7 ⟨rfl, hb⟩
  have HB7 := Lib.hid (HB.out.trans (hb.mono (by omega)))
  have HW7 := Lib.hid (HW.out.then_ hb)
  have TB7 := Lib.hid (TB.out.then_ hb)
  have lw7 : W8 < w7.heap.size := Nat.lt_of_lt_of_le lw8 hb.size
  clear hb g0 g1 g2 g3 g4 g5 g6 g7
  go_upto_region 11 with fail
  have d0 := At.new w7 (.cells #[.int .i64 (gY f), .int .i64 (gM f), .int .i64 (gD f)] 33)
  have HB9 := Lib.hid (below_new' HB7.out (by omega) (.cells #[.int .i64 (gY f), .int .i64 (gM f), .int .i64 (gD f)] 33))
  have HW9 := Lib.hid (HW7.out.then_ (below_new (Below.refl _ _) (.cells #[.int .i64 (gY f), .int .i64 (gM f), .int .i64 (gD f)] 33)))
  have TB9 := Lib.hid (TB7.out.alloc (.cells #[.int .i64 (gY f), .int .i64 (gM f), .int .i64 (gD f)] 33))
  have lw9 : W8 < (World.alloc w7 (.cells #[.int .i64 (gY f), .int .i64 (gM f), .int .i64 (gD f)] 33)).heap.size := by simp; omega
  generalize World.alloc w7 _ = W9 at d0 HB9 HW9 TB9 lw9 ⊢
  have hd9 : W8 < w7.heap.size := lw7
  have DT := Lib.hid d0
  have hw := HW9.out
  obtain ⟨q1, m1', e1, q2, m2', e2, q3, m3', e3, ha, hr1, hr2, hr3, _⟩ := hw
  have g0 : W9.cell? ⟨w.heap.size, 0, none⟩ = some (.int .i64 u) := (TB9.out).cell 0
  have g1 : W9.cell? ⟨w.heap.size, 1, none⟩ = some (.int .i64 ev) := (TB9.out).cell 1
  have g2 : W9.cell? ⟨w.heap.size, 2, none⟩ = some (.int .i64 f) := (TB9.out).cell 2
  have g3 : W9.cell? ⟨w.heap.size, 3, none⟩ = some (.int .i64 cn) := (TB9.out).cell 3
  have g4 : W9.cell? ⟨w.heap.size, 4, none⟩ = some (.int .i64 un) := (TB9.out).cell 4
  have g5 : W9.cell? ⟨w.heap.size, 5, none⟩ = some (.slice a1 n1 c1) := (TB9.out).cell 5
  have g6 : W9.cell? ⟨w.heap.size, 6, none⟩ = some (.slice a2 n2 c2) := (TB9.out).cell 6
  have g7 : W9.cell? ⟨w.heap.size, 7, none⟩ = some (.slice a3 n3 c3) := (TB9.out).cell 7
  have h0 : W9.cell? ⟨W8, 0, none⟩ = some (.int .i64 u) := (ha).cell 0
  have h1 : W9.cell? ⟨W8, 1, none⟩ = some (.int .i64 ev) := (ha).cell 1
  have h2 : W9.cell? ⟨W8, 2, none⟩ = some (.int .i64 f) := (ha).cell 2
  have h3 : W9.cell? ⟨W8, 3, none⟩ = some (.int .i64 cn) := (ha).cell 3
  have h4 : W9.cell? ⟨W8, 4, none⟩ = some (.int .i64 un) := (ha).cell 4
  have h5 : W9.cell? ⟨W8, 5, none⟩ = some (.slice q1 m1' e1) := (ha).cell 5
  have h6 : W9.cell? ⟨W8, 6, none⟩ = some (.slice q2 m2' e2) := (ha).cell 6
  have h7 : W9.cell? ⟨W8, 7, none⟩ = some (.slice q3 m3' e3) := (ha).cell 7
  have hf0 : W9.frozen? ⟨W8, 0, none⟩ = false := (ha).frozen 0
  have hf1 : W9.frozen? ⟨W8, 1, none⟩ = false := (ha).frozen 1
  have hf2 : W9.frozen? ⟨W8, 2, none⟩ = false := (ha).frozen 2
  have hf3 : W9.frozen? ⟨W8, 3, none⟩ = false := (ha).frozen 3
  have hf4 : W9.frozen? ⟨W8, 4, none⟩ = false := (ha).frozen 4
  have hf5 : W9.frozen? ⟨W8, 5, none⟩ = false := (ha).frozen 5
  have hf6 : W9.frozen? ⟨W8, 6, none⟩ = false := (ha).frozen 6
  have hf7 : W9.frozen? ⟨W8, 7, none⟩ = false := (ha).frozen 7
  have dd1 : W9.cell? ⟨w7.heap.size, 1, none⟩ = some (.int .i64 (gM f)) := d0.cell 1
  have dd2 : W9.cell? ⟨w7.heap.size, 2, none⟩ = some (.int .i64 (gD f)) := d0.cell 2
  have CK := Lib.hid (show ∀ W, Calls Try.prog 12 #[.int .i64 f] W fun e w' => e = .returned (.int .i64 ((f - 1) % 7)) ∧ W = w' from fun W => by
    have e : (f - 1) % 7 = (f + 6) % 7 := by omega
    rw [e]; exact ref_Week f W (by omega) (by omega))
  have hneA : ¬ W8 = w.heap.size := by omega
  have hneB : ¬ w.heap.size = W8 := by omega
  have hA9 : w.heap.size < W9.heap.size := TB9.out.lt
  have hD9 : w7.heap.size < W9.heap.size := d0.lt
  have hneC : ¬ W8 = w7.heap.size := by omega
  have hneD : ¬ w7.heap.size = W8 := by omega
  clear ha hr1 hr2 hr3 d0
  go_upto_if 74 with fail
  go_cut [] from 67 (fun wx => Want wx W8 u ev f cn un (nW u f ws ms) (nM u f ws ms) (nN u f ws ms ns) ∧ Below W8 W6 wx)
  case first =>
    by_cases hs : n1 + n2 = 0
    · obtain rfl : n1 = 0 := by omega
      obtain rfl : n2 = 0 := by omega
      rcases (show u = 1 ∨ u = 2 ∨ u = 3 ∨ u = 4 by omega) with rfl | rfl | rfl | rfl
      · have x1 := Lib.hid (show nW 1 f ws ms = ws by unfold nW; rw [if_neg (by omega)])
        have x2 := Lib.hid (show nM 1 f ws ms = ms by unfold nM; rw [if_neg (by omega)])
        have x3 := Lib.hid (show nN 1 f ws ms ns = ns by unfold nN; rw [if_neg (by omega)])
        go_wp2_with fail
        go_meet
        case rel => rw [x1.out, x2.out, x3.out]; exact ⟨HW9.out, HB9.out⟩
      · have x1 := Lib.hid (show nW 2 f ws ms = [(f - 1) % 7] by unfold nW; rw [if_pos (by omega)])
        have x2 := Lib.hid (show nM 2 f ws ms = ms by unfold nM; rw [if_neg (by omega)])
        have x3 := Lib.hid (show nN 2 f ws ms ns = ns by unfold nN; rw [if_neg (by omega)])
        go_wp2_with (go_at_call 12; (with_reducible refine (CK.out _).mono ?_); rintro e w' ⟨rfl, rfl⟩)
        go_meet
        case rel => rw [x1.out, x2.out, x3.out]; exact ⟨HW9.out.put1 _, below_new' (below_set HB9.out (p := ⟨W8, 5, none⟩) (Nat.le_refl _) _) (by simp [World.setCell]; omega) _⟩
      · have x1 := Lib.hid (show nW 3 f ws ms = ws by unfold nW; rw [if_neg (by omega)])
        have x2 := Lib.hid (show nM 3 f ws ms = [gD f] by unfold nM; rw [if_pos (by omega)])
        have x3 := Lib.hid (show nN 3 f ws ms ns = ns by unfold nN; rw [if_neg (by omega)])
        go_wp2_with fail
        go_meet
        case rel => rw [x1.out, x2.out, x3.out]; exact ⟨HW9.out.put2 _, below_new' (below_set HB9.out (p := ⟨W8, 6, none⟩) (Nat.le_refl _) _) (by simp [World.setCell]; omega) _⟩
      · have x1 := Lib.hid (show nW 4 f ws ms = ws by unfold nW; rw [if_neg (by omega)])
        have x2 := Lib.hid (show nM 4 f ws ms = [gD f] by unfold nM; rw [if_pos (by omega)])
        rcases Nat.eq_zero_or_pos n3 with rfl | hn3
        · have x3 := Lib.hid (show nN 4 f ws ms ns = [gM f] by unfold nN; rw [if_pos (by omega)])
          go_wp2_with fail
          go_meet
          case rel => rw [x1.out, x2.out, x3.out]; exact ⟨HW9.out.put23 _ _, below_new' (below_new' (below_set (below_set HB9.out (p := ⟨W8, 6, none⟩) (Nat.le_refl _) _) (p := ⟨W8, 7, none⟩) (Nat.le_refl _) _) (by simp [World.setCell]; omega) _) (by simp [World.setCell]; omega) _⟩
        · have x3 := Lib.hid (show nN 4 f ws ms ns = ns by unfold nN; rw [if_neg (by omega)])
          have g3 : decide ((0 : Int) < (n3 : Int)) = true := decide_eq_true (by omega)
          have g3' : ((n3 : Int) == 0) = false := by rw [beq_eq_false_iff_ne]; omega
          go_wp2_with fail
          go_meet
          case rel => rw [x1.out, x2.out, x3.out]; exact ⟨HW9.out.put2 _, below_new' (below_set HB9.out (p := ⟨W8, 6, none⟩) (Nat.le_refl _) _) (by simp [World.setCell]; omega) _⟩
    · have hsum : IntKind.i64.wrap ((n1 : Int) + (n2 : Int)) = (n1 : Int) + (n2 : Int) := IntWalk.i64_in _ (by omega)
      have hsum2 : ((n1 : Int) + (n2 : Int) == 0) = false := by rw [beq_eq_false_iff_ne]; omega
      have x1 := Lib.hid (show nW u f ws ms = ws by unfold nW; rw [if_neg (by omega)])
      have x2 := Lib.hid (show nM u f ws ms = ms by unfold nM; rw [if_neg (by omega)])
      have x3 := Lib.hid (show nN u f ws ms ns = ns by unfold nN; rw [if_neg (by omega)])
      go_wp2_with fail
      go_meet
      case rel => rw [x1.out, x2.out, x3.out]; exact ⟨HW9.out, HB9.out⟩
  case rest =>
  obtain ⟨hw, hb⟩ := hcut
  clear g0 g1 g2 g3 g4 g5 g6 g7 h0 h1 h2 h3 h4 h5 h6 h7 hf0 hf1 hf2 hf3 hf4 hf5 hf6 hf7 dd1 dd2 hA9 hD9 HW HB HB7 HW7 TB TB7 HB9 HW9 TB9 lw9 DT
  have lwc : W8 < wc.heap.size := by obtain ⟨_, _, _, _, _, _, _, _, _, ha, _⟩ := hw; exact ha.lt
  have TB := Lib.hid (T6.out.below hb (by omega))
  have HW := Lib.hid hw; have HB := Lib.hid hb
  clear hw hb
  have g0 : wc.cell? ⟨w.heap.size, 0, none⟩ = some (.int .i64 u) := (TB.out).cell 0
  have g1 : wc.cell? ⟨w.heap.size, 1, none⟩ = some (.int .i64 ev) := (TB.out).cell 1
  have g2 : wc.cell? ⟨w.heap.size, 2, none⟩ = some (.int .i64 f) := (TB.out).cell 2
  have g3 : wc.cell? ⟨w.heap.size, 3, none⟩ = some (.int .i64 cn) := (TB.out).cell 3
  have g4 : wc.cell? ⟨w.heap.size, 4, none⟩ = some (.int .i64 un) := (TB.out).cell 4
  have g5 : wc.cell? ⟨w.heap.size, 5, none⟩ = some (.slice a1 n1 c1) := (TB.out).cell 5
  have g6 : wc.cell? ⟨w.heap.size, 6, none⟩ = some (.slice a2 n2 c2) := (TB.out).cell 6
  have g7 : wc.cell? ⟨w.heap.size, 7, none⟩ = some (.slice a3 n3 c3) := (TB.out).cell 7
  obtain ⟨NC, hNC⟩ : ∃ NC, NC = nC u ev f ws ms := ⟨_, rfl⟩
  have HNC := Lib.hid hNC
  clear hNC
  have CV := Lib.hid (show ∀ n, Calls Try.prog 13 #[.slice a1 n1 c1, .int .i64 ((f - 1) % 7)] (wc.drewN n) fun e w' => e = .returned (.bool (hasB ((f - 1) % 7) ws)) ∧ wc.drewN n = w' from fun n => slices_Contains _ _ _ _ ws _ _ ((H1.out.far (B6.out.trans (HB.out.mono (by omega))) (Below.refl _ _)).drewN n))
  have CKD := Lib.hid (show ∀ n, Calls Try.prog 12 #[.int .i64 f] (wc.drewN n) fun e w' => e = .returned (.int .i64 ((f - 1) % 7)) ∧ wc.drewN n = w' from fun n => CK.out _)
  have htm : ev.tmod 7 = ev % 7 := Int.tmod_eq_emod_of_nonneg (by omega)
  go_upto_region 18 with fail
  go_cut [130] from 108 (fun v wx => v = .bool NC ∧ Below wc.heap.size wc wx)
  case first =>
    by_cases hu : u = 1
    · subst hu
      by_cases hd : ev % 7 = 0
      · have hnc := Lib.hid (show nC 1 ev f ws ms = (decide (ws.length = 0) || hasB ((f - 1) % 7) ws) by
          have : nW 1 f ws ms = ws := by unfold nW; rw [if_neg (by omega)]
          unfold nC listedB anyB; rw [this]; simp [hd])
        rcases Nat.eq_zero_or_pos n1 with rfl | hn1
        · have hl : ws.length = 0 := i1
          have hnc2 := Lib.hid (show nC 1 ev f ws ms = true by rw [hnc.out, hl]; simp)
          clear hl
          go_quiet (fail)
          go_wp2_with fail
          go_meet
          case rel => exact ⟨by rw [HNC.out, hnc2.out], by (repeat' (first | exact Below.refl _ _ | assumption | refine Below.drew ?_ | refine below_drewN ?_ _ | refine below_new ?_ _ | refine below_set ?_ ?_ _ | refine below_then ?_ (by assumption) | refine below_drawn ?_ (by assumption) | exact Nat.le_refl _ | omega | (simp; done) | (simp; omega)))⟩
        · have hl : ¬ ws.length = 0 := by omega
          have hn1' : ((n1 : Int) == 0) = false := by rw [beq_eq_false_iff_ne]; omega
          have hn1'' : decide ((n1 : Int) = 0) = false := by simp; omega
          have hnc2 := Lib.hid (show nC 1 ev f ws ms = hasB ((f - 1) % 7) ws by rw [hnc.out]; simp [hl])
          clear hl hn1
          go_quiet ((first | (go_at_call 13; first | (with_reducible exact quiet_left (CV.out _)) | (with_reducible exact quiet_add_left (CV.out _))) | (go_at_call 12; first | (with_reducible exact quiet_left (CKD.out _)) | (with_reducible exact quiet_add_left (CKD.out _)))))
          go_wp2_with fail
          go_meet
          case rel => exact ⟨by rw [HNC.out, hnc2.out], by (repeat' (first | exact Below.refl _ _ | assumption | refine Below.drew ?_ | refine below_drewN ?_ _ | refine below_new ?_ _ | refine below_set ?_ ?_ _ | refine below_then ?_ (by assumption) | refine below_drawn ?_ (by assumption) | exact Nat.le_refl _ | omega | (simp; done) | (simp; omega)))⟩
      · have hnc := Lib.hid (show nC 1 ev f ws ms = false by unfold nC; simp [hd])
        have hd' : (ev % 7 == 0) = false := by simpa using hd
        clear hd
        go_quiet (fail)
        go_wp2_with fail
        go_meet
        case rel => exact ⟨by rw [HNC.out, hnc.out], by (repeat' (first | exact Below.refl _ _ | assumption | refine Below.drew ?_ | refine below_drewN ?_ _ | refine below_new ?_ _ | refine below_set ?_ ?_ _ | refine below_then ?_ (by assumption) | refine below_drawn ?_ (by assumption) | exact Nat.le_refl _ | omega | (simp; done) | (simp; omega)))⟩
    · have hu' : (u == 1) = false := by simpa using hu
      have hnc := Lib.hid (show nC u ev f ws ms = false by unfold nC; simp [hu])
      clear hu
      go_quiet (fail)
      go_wp2_with fail
      go_meet
      case rel => exact ⟨by rw [HNC.out, hnc.out], by (repeat' (first | exact Below.refl _ _ | assumption | refine Below.drew ?_ | refine below_drewN ?_ _ | refine below_new ?_ _ | refine below_set ?_ ?_ _ | refine below_then ?_ (by assumption) | refine below_drawn ?_ (by assumption) | exact Nat.le_refl _ | omega | (simp; done) | (simp; omega)))⟩
  case rest =>
  obtain ⟨rfl, hb⟩ := hcut
  have HWd := Lib.hid (HW.out.then_ hb)
  have HBd := Lib.hid (HB.out.trans (hb.mono (by omega)))
  clear HW HB TB CV CKD g0 g1 g2 g3 g4 g5 g6 g7 hb
  have TBd := Lib.hid (T6.out.below HBd.out (by omega))
  have hw := HWd.out
  obtain ⟨q1, m1', e1, q2, m2', e2, q3, m3', e3, ha, hr1, hr2, hr3, _⟩ := hw
  have lwd : W8 < wc.heap.size := ha.lt
  have hAd : w.heap.size < wc.heap.size := by omega
  have g0 : wc.cell? ⟨w.heap.size, 0, none⟩ = some (.int .i64 u) := (TBd.out).cell 0
  have g1 : wc.cell? ⟨w.heap.size, 1, none⟩ = some (.int .i64 ev) := (TBd.out).cell 1
  have g2 : wc.cell? ⟨w.heap.size, 2, none⟩ = some (.int .i64 f) := (TBd.out).cell 2
  have g3 : wc.cell? ⟨w.heap.size, 3, none⟩ = some (.int .i64 cn) := (TBd.out).cell 3
  have g4 : wc.cell? ⟨w.heap.size, 4, none⟩ = some (.int .i64 un) := (TBd.out).cell 4
  have g5 : wc.cell? ⟨w.heap.size, 5, none⟩ = some (.slice a1 n1 c1) := (TBd.out).cell 5
  have g6 : wc.cell? ⟨w.heap.size, 6, none⟩ = some (.slice a2 n2 c2) := (TBd.out).cell 6
  have g7 : wc.cell? ⟨w.heap.size, 7, none⟩ = some (.slice a3 n3 c3) := (TBd.out).cell 7
  have h0 : wc.cell? ⟨W8, 0, none⟩ = some (.int .i64 u) := (ha).cell 0
  have h1 : wc.cell? ⟨W8, 1, none⟩ = some (.int .i64 ev) := (ha).cell 1
  have h2 : wc.cell? ⟨W8, 2, none⟩ = some (.int .i64 f) := (ha).cell 2
  have h3 : wc.cell? ⟨W8, 3, none⟩ = some (.int .i64 cn) := (ha).cell 3
  have h4 : wc.cell? ⟨W8, 4, none⟩ = some (.int .i64 un) := (ha).cell 4
  have h5 : wc.cell? ⟨W8, 5, none⟩ = some (.slice q1 m1' e1) := (ha).cell 5
  have h6 : wc.cell? ⟨W8, 6, none⟩ = some (.slice q2 m2' e2) := (ha).cell 6
  have h7 : wc.cell? ⟨W8, 7, none⟩ = some (.slice q3 m3' e3) := (ha).cell 7
  have hf0 : wc.frozen? ⟨W8, 0, none⟩ = false := (ha).frozen 0
  have hf1 : wc.frozen? ⟨W8, 1, none⟩ = false := (ha).frozen 1
  have hf2 : wc.frozen? ⟨W8, 2, none⟩ = false := (ha).frozen 2
  have hf3 : wc.frozen? ⟨W8, 3, none⟩ = false := (ha).frozen 3
  have hf4 : wc.frozen? ⟨W8, 4, none⟩ = false := (ha).frozen 4
  have hf5 : wc.frozen? ⟨W8, 5, none⟩ = false := (ha).frozen 5
  have hf6 : wc.frozen? ⟨W8, 6, none⟩ = false := (ha).frozen 6
  have hf7 : wc.frozen? ⟨W8, 7, none⟩ = false := (ha).frozen 7
  clear ha hr1 hr2 hr3
  go_upto_if 130 with fail
  go_cut [] from 131 (fun wx => Want wx W8 U2 V2 f cn un (if nC u ev f ws ms = true then [(f - 1) % 7] else nW u f ws ms) (nM u f ws ms) (nN u f ws ms ns) ∧ Below W8 W6 wx)
  case first =>
    cases NC with
    | false =>
      go_wp2_with fail
      go_meet
      case rel =>
        rw [HU2.out, HV2.out, ← HNC.out]
        exact ⟨HWd.out, HBd.out⟩
    | true =>
      have htd : ev.tdiv 7 = ev / 7 := Int.tdiv_eq_ediv_of_nonneg (by omega)
      have hwd : IntKind.i64.wrap (ev / 7) = ev / 7 := IntWalk.i64_in _ (by omega)
      go_upto_region 19 with fail
      go_region_law ((rw [if_pos (by rfl)]; go_simp; go_at_call 12; (with_reducible refine Calls.mono (CK.out _) ?_); rintro e w' ⟨rfl, rfl⟩))
      all_goals
        go_wp2_with fail
        go_meet
        case rel =>
          rw [HU2.out, HV2.out, ← HNC.out]
          exact ⟨HWd.out.putC _, (below_new' (below_set (below_set (below_set HBd.out (p := ⟨W8, 0, none⟩) (Nat.le_refl _) _) (p := ⟨W8, 1, none⟩) (Nat.le_refl _) _) (p := ⟨W8, 5, none⟩) (Nat.le_refl _) _) (by simp [World.setCell]; omega) _).drew⟩
  case rest =>
  obtain ⟨hw, hb⟩ := hcut
  clear g0 g1 g2 g3 g4 g5 g6 g7 h0 h1 h2 h3 h4 h5 h6 h7 hf0 hf1 hf2 hf3 hf4 hf5 hf6 hf7 HWd HBd TBd lwd hAd
  obtain ⟨q1, m1', e1, q2, m2', e2, q3, m3', e3, ha, hr1, hr2, hr3, d12, d13, d23⟩ := hw
  have HA := Lib.hid ha; have HB := Lib.hid hb
  have l1' := hr1.len; have l2' := hr2.len; have l3' := hr3.len
  have w1' := J51.out.1; have w2' := J52.out.1; have w3' := J53.out.1
  rw [sortI_len] at w1' w2' w3'
  have lw1 : m1' ≤ 100000 := by
    rw [← l1']
    split
    · simp
    · unfold nW; split <;> (first | omega | simp)
  have lw2 : m2' ≤ 100000 := by rw [← l2']; unfold nM; split <;> (first | omega | simp)
  have lw3 : m3' ≤ 100000 := by rw [← l3']; unfold nN; split <;> (first | omega | simp)
  have lA := ha.lt
  have y5 : wc.cell? ⟨W8, 5, none⟩ = some (.slice q1 m1' e1) := ha.cell 5
  have R1' := Lib.hid hr1; have R2' := Lib.hid hr2; have R3' := Lib.hid hr3
  have D12 := Lib.hid d12; have D13 := Lib.hid d13; have D23 := Lib.hid d23
  clear l1' l2' l3' w1' w2' w3' hr1 hr2 hr3 d12 d13 d23 ha hb
  go_wp2_with fail
  refine (sort_rs wc (W8 + 1) q1 m1' e1 _ R1'.out lw1).mono ?_
  rintro e wa ⟨rfl, hs1, g, hk, hg⟩
  have hgW : W8 < g := by rcases hg with ⟨_, h⟩ | ⟨_, h⟩ <;> omega
  have S1 := Lib.hid hs1
  have S2 := Lib.hid (R2'.out.sorted_far (n := m1') hk hg D12.out); have S3 := Lib.hid (R3'.out.sorted_far (n := m1') hk hg D13.out)
  have HA1 := Lib.hid (HA.out.oneKept hk (by omega))
  have HB1 := Lib.hid (hk.below HB.out (by omega) (by omega))
  have lA1 := HA1.out.lt
  have y6 : wa.cell? ⟨W8, 6, none⟩ = some (.slice q2 m2' e2) := HA1.out.cell 6
  clear hs1 hk hg hgW y5 g
  go_wp2_with fail
  refine (sort_rs wa (W8 + 1) q2 m2' e2 _ S2.out lw2).mono ?_
  rintro e wb ⟨rfl, hs1, g, hk, hg⟩
  have hgW : W8 < g := by rcases hg with ⟨_, h⟩ | ⟨_, h⟩ <;> omega
  have T2 := Lib.hid hs1
  have T1' := Lib.hid (S1.out.sorted_far (n := m2') hk hg D12.out.symm); have T3' := Lib.hid (S3.out.sorted_far (n := m2') hk hg D23.out)
  have HA2 := Lib.hid (HA1.out.oneKept hk (by omega))
  have HB2 := Lib.hid (hk.below HB1.out (by omega) (by omega))
  have lA2 := HA2.out.lt
  have y7 : wb.cell? ⟨W8, 7, none⟩ = some (.slice q3 m3' e3) := HA2.out.cell 7
  clear hs1 hk hg hgW y6 g
  go_wp2_with fail
  refine (sort_rs wb (W8 + 1) q3 m3' e3 _ T3'.out lw3).mono ?_
  rintro e wd ⟨rfl, hs1, g, hk, hg⟩
  have hgW : W8 < g := by rcases hg with ⟨_, h⟩ | ⟨_, h⟩ <;> omega
  have V3 := Lib.hid hs1
  have V1' := Lib.hid (T1'.out.sorted_far (n := m3') hk hg D13.out.symm); have V2' := Lib.hid (T2.out.sorted_far (n := m3') hk hg D23.out.symm)
  have HA3 := Lib.hid (HA2.out.oneKept hk (by omega))
  have HB3 := Lib.hid (hk.below HB2.out (by omega) (by omega))
  clear hs1 hk hg hgW y7 g
  have lA3 := HA3.out.lt
  have xa := XX6.out.below HB3.out (by omega)
  have xc0 : wd.cell? ⟨w3.heap.size, 0, none⟩ = some (.int .i64 U2) := (xa).cell 0
  have xc1 : wd.cell? ⟨w3.heap.size, 1, none⟩ = some (.int .i64 V2) := (xa).cell 1
  have xc2 : wd.cell? ⟨w3.heap.size, 2, none⟩ = some (.int .i64 f) := (xa).cell 2
  have xc3 : wd.cell? ⟨w3.heap.size, 3, none⟩ = some (.int .i64 cn) := (xa).cell 3
  have xc4 : wd.cell? ⟨w3.heap.size, 4, none⟩ = some (.int .i64 un) := (xa).cell 4
  have xc5 : wd.cell? ⟨w3.heap.size, 5, none⟩ = some (.slice s1 l1 y1) := (xa).cell 5
  have xc6 : wd.cell? ⟨w3.heap.size, 6, none⟩ = some (.slice s2 l2 y2) := (xa).cell 6
  have xc7 : wd.cell? ⟨w3.heap.size, 7, none⟩ = some (.slice s3 l3 y3) := (xa).cell 7
  have ac0 : wd.cell? ⟨W8, 0, none⟩ = some (.int .i64 U2) := (HA3.out).cell 0
  have ac1 : wd.cell? ⟨W8, 1, none⟩ = some (.int .i64 V2) := (HA3.out).cell 1
  have ac2 : wd.cell? ⟨W8, 2, none⟩ = some (.int .i64 f) := (HA3.out).cell 2
  have ac3 : wd.cell? ⟨W8, 3, none⟩ = some (.int .i64 cn) := (HA3.out).cell 3
  have ac4 : wd.cell? ⟨W8, 4, none⟩ = some (.int .i64 un) := (HA3.out).cell 4
  have ac5 : wd.cell? ⟨W8, 5, none⟩ = some (.slice q1 m1' e1) := (HA3.out).cell 5
  have ac6 : wd.cell? ⟨W8, 6, none⟩ = some (.slice q2 m2' e2) := (HA3.out).cell 6
  have ac7 : wd.cell? ⟨W8, 7, none⟩ = some (.slice q3 m3' e3) := (HA3.out).cell 7
  have BD := Lib.hid (B6.out.trans (HB3.out.mono (by omega)))
  have DD := D6.out.trans HB3.out
  have K1 := Lib.hid ((J51.out.below DD (Nat.le_refl _)).more (show W8 ≤ wd.heap.size by omega)); have K2 := Lib.hid ((J52.out.below DD (Nat.le_refl _)).more (show W8 ≤ wd.heap.size by omega)); have K3 := Lib.hid ((J53.out.below DD (Nat.le_refl _)).more (show W8 ≤ wd.heap.size by omega))
  clear xa DD
  go_wp2_with fail
  refine (ref_SameRecur wd U2 V2 f cn un s1 s2 s3 q1 q2 q3 l1 l2 l3 y1 y2 y3 m1' m2' m3' e1 e2 e3 _ _ _ K1.out K2.out K3.out (V1'.out.ints K1.out.2.2.1 (by omega)) (V2'.out.ints K2.out.2.2.1 (by omega)) (V3.out.ints K3.out.2.2.1 (by omega))).mono ?_
  rintro e we ⟨rfl, hb⟩
  have bf := below_then BD.out hb
  go_wp2_with fail
  go_ret
  exact ⟨rfl, bf⟩
theorem walk {H : Type} {enc : TypeId × Value → H} {v0 : Value} {d0 : DataW H} {p0 : List MemPlace} {base : Nat} (W : World)
    (o0 : Value.okWide Try.prog W .any base 24 v0) (h0 : DataW.Trod enc Try.prog W 0 (fun _ => true) true 24 v0 d0 p0) :
    Calls Try.prog 3 #[v0] W fun e w' => e = .returned (.bool true) ∧ Below W.heap.size W w' := by
  obtain ⟨cs, n, rfl, hl, hf⟩ := open_agg Try.underlying24 (by kernel_rfl) (by kernel_rfl) o0 h0
  match cs, hl with
  | [v0, v1, v2, v3, v4, v5, v6, v7], _ =>
    obtain ⟨_, _, e0, t0⟩ := hf 0 _ rfl
    obtain ⟨_, _, e1, t1⟩ := hf 1 _ rfl
    obtain ⟨_, _, e2, t2⟩ := hf 2 _ rfl
    obtain ⟨_, _, e3, t3⟩ := hf 3 _ rfl
    obtain ⟨_, _, e4, t4⟩ := hf 4 _ rfl
    obtain ⟨_, _, e5, t5⟩ := hf 5 _ rfl
    obtain ⟨_, _, e6, t6⟩ := hf 6 _ rfl
    obtain ⟨_, _, e7, t7⟩ := hf 7 _ rfl
    obtain ⟨x0, rfl, _⟩ := open_num t0
    obtain ⟨x1, rfl, _⟩ := open_num t1
    obtain ⟨x2, rfl, _⟩ := open_num t2
    obtain ⟨x3, rfl, _⟩ := open_num t3
    obtain ⟨x4, rfl, _⟩ := open_num t4
    obtain ⟨a1, n1, c1, ws, rfl, k1, m1, h1⟩ := open_Ints t5
    obtain ⟨a2, n2, c2, ms, rfl, k2, m2, h2⟩ := open_Ints t6
    obtain ⟨a3, n3, c3, ns, rfl, k3, m3, h3⟩ := open_Ints t7
    simp at e0 e1 e2 e3 e4 e5 e6 e7
    subst e0 e1 e2 e3 e4 e5 e6 e7
    exact core W x0 x1 x2 x3 x4 a1 a2 a3 n1 n2 n3 c1 c2 c3 ws ms ns h1 h2 h3 k1 k2 k3 m1 m2 m3
end Go.Proofs.Ytjjmbnflhldoeaa.recurNormalsLaw
