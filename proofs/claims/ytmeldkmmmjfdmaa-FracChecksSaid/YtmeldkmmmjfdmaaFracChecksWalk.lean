/- FracChecks: the Go text returns true at every input, and writes nothing that was there. -/
import Derived.Test.YtmeldkmmmjfdmaaFrac
import Derived.Test.YtmeldkmmmjfdmaaFracOpen
import Derived.Test.YtmeldkmmmjfdmaaQuiet
namespace Go.Proofs.Ytmeldkmmmjfdmaa.fracChecksLaw
set_option linter.unusedVariables false
set_option maxRecDepth 100000
set_option maxHeartbeats 2000000
open Go.RowKit Go.ChangeShapes Go.WideShapes

theorem lit : ofOut 6 (-4) = fracVal (-3) 2 0 := by
  have : Int.gcd 6 (-4) = 2 := by decide
  rw [ofOut, if_neg (by omega), this, if_neg (by decide), fracNum, fracDen, this]; rfl
theorem form (n d : Int) : ∃ a b e, ofOut n d = .tuple #[.agg #[.int .i64 a, .int .i64 b], .int .i64 e] := by
  unfold ofOut fracVal
  split
  · exact ⟨_, _, _, rfl⟩
  · split
    · exact ⟨_, _, _, rfl⟩
    · exact ⟨_, _, _, rfl⟩
/-- Three blocks of the call's own, and all that was there. -/
def Three (w : World) (bx bY bz : Nat) (x1 x2 p q : Int) (W : World) : Prop :=
  At W bx (.cells #[.int .i64 x1, .int .i64 x2] 23) ∧ At W bY (.cells #[.int .i64 p, .int .i64 q] 23) ∧ At W bz (.cells #[.int .i64 p, .int .i64 q] 23) ∧ Below w.heap.size w W
theorem Three.step {w W w' : World} {bx bY bz : Nat} {x1 x2 p q : Int} (h : Three w bx bY bz x1 x2 p q W) (hb : Below W.heap.size W w') : Three w bx bY bz x1 x2 p q w' :=
  ⟨h.1.below hb h.1.lt, h.2.1.below hb h.2.1.lt, h.2.2.1.below hb h.2.2.1.lt, h.2.2.2.trans (hb.mono h.2.2.2.size)⟩
theorem Three.cells {w W : World} {bx bY bz : Nat} {x1 x2 p q : Int} (h : Three w bx bY bz x1 x2 p q W) :
    W.cell? ⟨bx, 0, none⟩ = some (.int .i64 x1) ∧ W.cell? ⟨bx, 1, none⟩ = some (.int .i64 x2) ∧ W.cell? ⟨bY, 0, none⟩ = some (.int .i64 p) ∧ W.cell? ⟨bY, 1, none⟩ = some (.int .i64 q) ∧ W.cell? ⟨bz, 0, none⟩ = some (.int .i64 p) ∧ W.cell? ⟨bz, 1, none⟩ = some (.int .i64 q) :=
  ⟨h.1.cell 0, h.1.cell 1, h.2.1.cell 0, h.2.1.cell 1, h.2.2.1.cell 0, h.2.2.1.cell 1⟩
theorem core (x1 x2 n d : Int) (w : World) (h1 : -9223372036854775808 ≤ x1) (h2 : x1 ≤ 9223372036854775807) (h3 : -9223372036854775808 ≤ x2) (h4 : x2 ≤ 9223372036854775807)
    (n1 : -9223372036854775808 ≤ n) (n2 : n ≤ 9223372036854775807) (d1 : -9223372036854775808 ≤ d) (d2 : d ≤ 9223372036854775807) :
    Calls Try.prog 3 #[.agg #[.int .i64 x1, .int .i64 x2], .int .i64 n, .int .i64 d] w fun e w' => e = .returned (.bool true) ∧ Below w.heap.size w w' := by
  go_enter Try.func3, Try.ntmps3
  go_wp2_with fail
  refine (frac_Of 6 (-4) _ (by omega) (by omega) (by omega) (by omega)).mono ?_
  rw [lit, fracVal]
  rintro e w1 ⟨rfl, hb1⟩
  go_wp2_with fail
  obtain ⟨p, q, ee, hf⟩ := form n d
  have HF := Lib.hid hf; clear hf
  have b1 : Below w.heap.size w w1 := ((Below.refl _ _).alloc (Nat.le_refl _) _).trans (hb1.mono (by simp))
  have hs1 : w.heap.size + 1 ≤ w1.heap.size := by have := hb1.size; simp at this; omega
  have at0 : At w1 w.heap.size (.cells #[.int .i64 x1, .int .i64 x2] 23) := (At.new w _).below hb1 (by simp)
  have B1 := Lib.hid b1; have A1 := Lib.hid at0; clear hb1 b1 at0
  refine (frac_Of n d _ n1 n2 d1 d2).mono ?_
  rw [HF.out]
  rintro e w2 ⟨rfl, hb2⟩
  have b2 : Below w1.heap.size w1 w2 := ((Below.refl _ _).alloc (Nat.le_refl _) _).trans (hb2.mono (by simp))
  have B2 := Lib.hid b2; clear hb2 b2
  go_wp2_with fail
  refine (ref_FracOf n d _ n1 n2 d1 d2).mono ?_
  rw [HF.out]
  rintro e w3 ⟨rfl, hb3⟩
  have b3 : Below w2.heap.size w2 w3 := ((Below.refl _ _).alloc (Nat.le_refl _) _).trans (hb3.mono (by simp))
  have aty : At w3 w2.heap.size (.cells #[.int .i64 p, .int .i64 q] 23) := (At.new w2 _).below hb3 (by simp)
  have b13 : Below w1.heap.size w1 w3 := B2.out.trans (b3.mono B2.out.size)
  have atx : At w3 w.heap.size (.cells #[.int .i64 x1, .int .i64 x2] 23) := A1.out.below b13 (by omega)
  have b03 : Below w.heap.size w w3 := B1.out.trans (b13.mono B1.out.size)
  have B3 := Lib.hid b03
  have AX := Lib.hid atx
  have AY := Lib.hid aty
  clear hb3 b3 aty b13 atx b03
  go_wp2_with fail
  have cl : Three w w.heap.size w2.heap.size w3.heap.size x1 x2 p q (w3.alloc (.cells #[.int .i64 p, .int .i64 q] 23)).drew :=
    ⟨(AX.out.alloc _).drew, (AY.out.alloc _).drew, (At.new w3 _).drew, (B3.out.alloc B3.out.size _).drew⟩
  have CL := Lib.hid cl
  clear cl B1 A1 B2 B3 AX AY
  rcases fracOk_cases x1 x2 with ⟨hk, _⟩ | ⟨hk, _⟩
  · have hfe : fracErr x1 x2 = 0 := by rw [fracErr, hk]; rfl
    (refine region_class (Three w w.heap.size w2.heap.size w3.heap.size x1 x2 p q) (by kernel_rfl) (by kernel_rfl) (CL.out) ?_; repeat ((first | (refine class_take ?_ (by rfl) ?_ ?_; rotate_left; focus (intro wq hq; (obtain ⟨c0, c1, c2, c3, c4, c5⟩ := hq.cells); go_simp; first | done | with_reducible rfl | (first
      | (go_at_call 18; refine (frac_Check _ _ _ h1 h2 h3 h4).mono ?_; rw [hfe]; rintro e w' ⟨rfl, hb⟩; refine ⟨?_, hq.step hb⟩; with_reducible rfl)
      | (go_at_call 19; refine (ref_FracOK _ _ _ h1 h2 h3 h4).mono ?_; rw [hk]; rintro e w' ⟨rfl, hb⟩; refine ⟨?_, hq.step hb⟩; with_reducible rfl)))) | refine class_skip (by rfl) ?_); try simp only [Act.put, List.setIfInBounds_toArray, List.set_cons_zero, List.set_cons_succ]))
    refine wpQuiet_nil ?_

    intro w4 h4
    go_wp2_with fail
    go_ret
    exact ⟨ret_bool (by simp), h4.2.2.2⟩
  · have hfe : fracErr x1 x2 = 8 := by rw [fracErr, hk]; rfl
    (refine region_class (Three w w.heap.size w2.heap.size w3.heap.size x1 x2 p q) (by kernel_rfl) (by kernel_rfl) (CL.out) ?_; repeat ((first | (refine class_take ?_ (by rfl) ?_ ?_; rotate_left; focus (intro wq hq; (obtain ⟨c0, c1, c2, c3, c4, c5⟩ := hq.cells); go_simp; first | done | with_reducible rfl | (first
      | (go_at_call 18; refine (frac_Check _ _ _ h1 h2 h3 h4).mono ?_; rw [hfe]; rintro e w' ⟨rfl, hb⟩; refine ⟨?_, hq.step hb⟩; with_reducible rfl)
      | (go_at_call 19; refine (ref_FracOK _ _ _ h1 h2 h3 h4).mono ?_; rw [hk]; rintro e w' ⟨rfl, hb⟩; refine ⟨?_, hq.step hb⟩; with_reducible rfl)))) | refine class_skip (by rfl) ?_); try simp only [Act.put, List.setIfInBounds_toArray, List.set_cons_zero, List.set_cons_succ]))
    refine wpQuiet_nil ?_
    intro w4 h4
    go_wp2_with fail
    go_ret
    exact ⟨ret_bool (by simp), h4.2.2.2⟩
theorem walk {H : Type} {enc : TypeId × Value → H} {v0 v1 v2 : Value} {d0 d1 d2 : DataW H} {p0 p1 p2 : List MemPlace} {base : Nat} (W : World)
    (o0 : Value.okWide Try.prog W .any base 23 v0) (h0 : DataW.Trod enc Try.prog W 0 (fun _ => true) true 23 v0 d0 p0)
    (o1 : Value.okWide Try.prog W .any base 3 v1) (h1 : DataW.Trod enc Try.prog W 0 (fun _ => true) true 3 v1 d1 p1)
    (o2 : Value.okWide Try.prog W .any base 3 v2) (h2 : DataW.Trod enc Try.prog W 0 (fun _ => true) true 3 v2 d2 p2) :
    Calls Try.prog 3 #[v0, v1, v2] W fun e w' => e = .returned (.bool true) ∧ Below W.heap.size W w' := by
  obtain ⟨x, y, rfl, hx, hy⟩ := open_Frac o0 h0
  obtain ⟨a1, rfl, rfl, rfl, w1⟩ := open_int Try.underlying3 o1 h1
  have b1 := bounds_i64 w1
  obtain ⟨a2, rfl, rfl, rfl, w2⟩ := open_int Try.underlying3 o2 h2
  have b2 := bounds_i64 w2
  exact core x y a1 a2 W hx.1 hx.2 hy.1 hy.2 b1.1 b1.2 b2.1 b2.2
end Go.Proofs.Ytmeldkmmmjfdmaa.fracChecksLaw
