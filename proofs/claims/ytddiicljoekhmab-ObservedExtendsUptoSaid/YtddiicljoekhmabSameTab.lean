/- Contract of the reference's SameTable at tables that read alike. -/
import Derived.Test.YtddiicljoekhmabCycle2
import Derived.Test.YtddiicljoekhmabMem2
import Derived.Test.YtddiicljoekhmabStore
namespace Go.Proofs.Ytddiicljoekhmab
set_option linter.unusedVariables false
set_option maxRecDepth 100000
open Go.RowKit

set_option maxHeartbeats 4000000 in
theorem ref_SameTable (w : World) (s : ByteArray) (first : Int) (a1 a2 b1 b2 : Option Addr) (n1 n2 c1 c2 m1 m2 d1 d2 : Nat) (xs ys : List Int)
    (h1 : Ints w w.heap.size a1 n1 xs) (h2 : Ints w w.heap.size a2 n2 ys) (g1 : Ints w w.heap.size b1 m1 xs) (g2 : Ints w w.heap.size b2 m2 ys) :
    Calls Try.prog 14 #[.agg #[.string s, .int .i64 first, .slice a1 n1 c1, .slice a2 n2 c2], .agg #[.string s, .int .i64 first, .slice b1 m1 d1, .slice b2 m2 d2]] w fun e w' => e = .returned (.bool true) ∧ Below w.heap.size w w' := by
  have H1 := Lib.hid h1; have H2 := Lib.hid h2; have G1 := Lib.hid g1; have G2 := Lib.hid g2
  clear h1 h2 g1 g2
  go_enter Try.func14, Try.ntmps14
  go_wp2_with fail
  have t0 := (At.new w (.cells #[.string s, .int .i64 first, .slice a1 n1 c1, .slice a2 n2 c2] 33)).alloc (.cells #[.string s, .int .i64 first, .slice b1 m1 d1, .slice b2 m2 d2] 33)
  have t1 := At.new1 w (.cells #[.string s, .int .i64 first, .slice a1 n1 c1, .slice a2 n2 c2] 33) (.cells #[.string s, .int .i64 first, .slice b1 m1 d1, .slice b2 m2 d2] 33)
  have b0 := below_new (below_new (Below.refl w.heap.size w) (.cells #[.string s, .int .i64 first, .slice a1 n1 c1, .slice a2 n2 c2] 33)) (.cells #[.string s, .int .i64 first, .slice b1 m1 d1, .slice b2 m2 d2] 33)
  generalize World.alloc (World.alloc w _) _ = W0 at t0 t1 b0 ⊢
  have B0 := Lib.hid b0; have T0 := Lib.hid t0; have T1 := Lib.hid t1
  clear t0 t1 b0
  refine (ref_SameInts _ _ _ _ _ _ _ xs xs (H1.out.far B0.out (Below.refl _ _)) (G1.out.far B0.out (Below.refl _ _))).mono ?_
  rw [show (xs == xs) = true by simp]
  rintro e w1 ⟨rfl, hd1⟩
  have B1 := Lib.hid (below_drawn B0.out hd1)
  have t0 := T0.out.drawn hd1; have t1 := T1.out.drawn hd1
  have y2 : w1.cell? ⟨w.heap.size, 2, none⟩ = some (.slice a1 n1 c1) := (t0).cell 2
  have y3 : w1.cell? ⟨w.heap.size, 3, none⟩ = some (.slice a2 n2 c2) := (t0).cell 3
  have x2 : w1.cell? ⟨(w.heap.size + 1), 2, none⟩ = some (.slice b1 m1 d1) := (t1).cell 2
  have x3 : w1.cell? ⟨(w.heap.size + 1), 3, none⟩ = some (.slice b2 m2 d2) := (t1).cell 3
  clear t0 t1
  go_wp2_with fail
  refine (ref_SameInts _ _ _ _ _ _ _ ys ys (H2.out.far B1.out (Below.refl _ _)) (G2.out.far B1.out (Below.refl _ _))).mono ?_
  rw [show (ys == ys) = true by simp]
  rintro e w2 ⟨rfl, hd2⟩
  have b2 := below_drawn B1.out hd2
  go_wp2_with fail
  go_ret
  exact ⟨rfl, b2⟩
end Go.Proofs.Ytddiicljoekhmab
