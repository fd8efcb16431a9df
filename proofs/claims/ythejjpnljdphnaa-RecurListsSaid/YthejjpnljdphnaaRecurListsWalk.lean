/- RecurLists: the Go text returns true at every input, and writes nothing that was there. -/
import Derived.Test.YthejjpnljdphnaaRec8
import Derived.Test.YthejjpnljdphnaaRows2
namespace Go.Proofs.Ythejjpnljdphnaa.recurListsLaw
set_option linter.unusedVariables false
set_option maxRecDepth 100000
open Go.RowKit Go.ChangeShapes Go.WideShapes

theorem nilInts (w : World) (B : Nat) : Ints w B none 0 [] := ⟨rfl, by omega, by simp, fun h => absurd h (by omega)⟩
theorem lit1 : daysErr 3 1 1 0 100 [] [-1] [] 1 100 = 0 := by decide +kernel
theorem lit2 : daysL 3 1 1 0 100 [] [-1] [] 1 100 = [31, 59, 90] := by decide +kernel
set_option maxHeartbeats 4000000 in
theorem core (w : World) (u ev f cn un : Int) (a1 a2 a3 : Option Addr) (n1 n2 n3 c1 c2 c3 : Nat) (ws ms ns : List Int)
    (h1 : Ints w w.heap.size a1 n1 ws) (h2 : Ints w w.heap.size a2 n2 ms) (h3 : Ints w w.heap.size a3 n3 ns) (k1 : n1 ≤ c1) (k2 : n2 ≤ c2) (k3 : n3 ≤ c3) (m1 : c1 ≤ 9223372036854775807) (m2 : c2 ≤ 9223372036854775807) (m3 : c3 ≤ 9223372036854775807) (a b : Int) :
    Calls Try.prog 3 #[.agg #[.int .i64 u, .int .i64 ev, .int .i64 f, .int .i64 cn, .int .i64 un, .slice a1 n1 c1, .slice a2 n2 c2, .slice a3 n3 c3], .int .i64 a, .int .i64 b] w fun e w' => e = .returned (.bool true) ∧ Below w.heap.size w w' := by
  have H1 := Lib.hid h1; have H2 := Lib.hid h2; have H3 := Lib.hid h3; clear h1 h2 h3
  go_enter Try.func3, Try.ntmps3
  go_wp2_with fail
  have t0 := ((At.new w (.cells #[.int .i64 u, .int .i64 ev, .int .i64 f, .int .i64 cn, .int .i64 un, .slice a1 n1 c1, .slice a2 n2 c2, .slice a3 n3 c3] 24)).alloc (.cells #[.int .i64 (-1)] 3)).alloc (.cells #[.int .i64 3, .int .i64 1, .int .i64 1, .int .i64 0, .int .i64 100, .slice none 0 0, .slice (some ⟨w.heap.size + 1, 0, none⟩) 1 1, .slice none 0 0] 24)
  have t1 := (At.new1 w (.cells #[.int .i64 u, .int .i64 ev, .int .i64 f, .int .i64 cn, .int .i64 un, .slice a1 n1 c1, .slice a2 n2 c2, .slice a3 n3 c3] 24) (.cells #[.int .i64 (-1)] 3)).alloc (.cells #[.int .i64 3, .int .i64 1, .int .i64 1, .int .i64 0, .int .i64 100, .slice none 0 0, .slice (some ⟨w.heap.size + 1, 0, none⟩) 1 1, .slice none 0 0] 24)
  have t2 := At.new2 w (.cells #[.int .i64 u, .int .i64 ev, .int .i64 f, .int .i64 cn, .int .i64 un, .slice a1 n1 c1, .slice a2 n2 c2, .slice a3 n3 c3] 24) (.cells #[.int .i64 (-1)] 3) (.cells #[.int .i64 3, .int .i64 1, .int .i64 1, .int .i64 0, .int .i64 100, .slice none 0 0, .slice (some ⟨w.heap.size + 1, 0, none⟩) 1 1, .slice none 0 0] 24)
  have b0 := below_new (below_new (below_new (Below.refl w.heap.size w) (.cells #[.int .i64 u, .int .i64 ev, .int .i64 f, .int .i64 cn, .int .i64 un, .slice a1 n1 c1, .slice a2 n2 c2, .slice a3 n3 c3] 24)) (.cells #[.int .i64 (-1)] 3)) (.cells #[.int .i64 3, .int .i64 1, .int .i64 1, .int .i64 0, .int .i64 100, .slice none 0 0, .slice (some ⟨w.heap.size + 1, 0, none⟩) 1 1, .slice none 0 0] 24)
  generalize World.alloc (World.alloc (World.alloc w _) _) _ = W0 at t0 t1 t2 b0 ⊢
  have K := Lib.hid (show ∀ W, Below W0.heap.size W0 W → At W w.heap.size (.cells #[.int .i64 u, .int .i64 ev, .int .i64 f, .int .i64 cn, .int .i64 un, .slice a1 n1 c1, .slice a2 n2 c2, .slice a3 n3 c3] 24) from fun W h => t0.then_ h)
  have B0 := Lib.hid b0
  have hi1 : Ints W0 W0.heap.size (some ⟨w.heap.size + 1, 0, none⟩) 1 [-1] := At.ints [-1] t1 (by intro x hx; simp at hx; subst hx; unfold I64; omega) (by simp)
  refine (recur_Days W0 3 1 1 0 100 none _ none 0 1 0 0 1 0 [] [-1] [] (nilInts _ _) hi1 (nilInts _ _) (by omega) (by omega) (by omega) (by omega) (by omega) (by omega) 1 100).mono ?_
  rintro e w1 hd
  rcases hd with ⟨hn, _⟩ | ⟨_, p, n, c, rfl, hnc, hc2, hI, hb⟩
  · exact absurd lit1 hn
  rw [lit2] at hI
  obtain rfl : n = 3 := hI.1.symm
  have b1 := hb
  replace b0 := below_then b0 hb
  clear hi1 t0 t1 t2
  have HI := Lib.hid hI
  clear hI hb
  go_wp2_with fail
  have hi3 : Ints (w1.alloc (.cells #[.int .i64 31, .int .i64 59, .int .i64 90] 3)) (w1.alloc (.cells #[.int .i64 31, .int .i64 59, .int .i64 90] 3)).heap.size (some ⟨w1.heap.size, 0, none⟩) 3 [31, 59, 90] := At.ints [31, 59, 90] (At.new w1 (.cells #[.int .i64 31, .int .i64 59, .int .i64 90] 3)) (by intro x hx; simp at hx; unfold I64; omega) (by simp)
  have hi4 := (HI.out.alloc (Nat.le_refl _) (.cells #[.int .i64 31, .int .i64 59, .int .i64 90] 3)).more (show w1.heap.size ≤ (w1.alloc (.cells #[.int .i64 31, .int .i64 59, .int .i64 90] 3)).heap.size by simp)
  refine (ref_SameInts _ _ _ _ _ _ _ [31, 59, 90] [31, 59, 90] hi4 hi3).mono ?_
  rw [show (([31, 59, 90] : List Int) == [31, 59, 90]) = true by decide]
  rintro e w2 ⟨rfl, hdr⟩
  have b2 := below_drawn (below_new b0 (.cells #[.int .i64 31, .int .i64 59, .int .i64 90] 3)) hdr
  replace b1 := b1.trans ((below_drawn (below_new (Below.refl _ _) (.cells #[.int .i64 31, .int .i64 59, .int .i64 90] 3)) hdr).mono b1.size)
  have t0 := K.out _ b1
  have B1 := Lib.hid b1
  have B2 := Lib.hid b2
  clear b0 b1 b2 hi3 hi4 HI hdr
  have y0 : w2.cell? ⟨w.heap.size, 0, none⟩ = some (.int .i64 u) := t0.cell 0; have y1 : w2.cell? ⟨w.heap.size, 1, none⟩ = some (.int .i64 ev) := t0.cell 1; have y2 : w2.cell? ⟨w.heap.size, 2, none⟩ = some (.int .i64 f) := t0.cell 2; have y3 : w2.cell? ⟨w.heap.size, 3, none⟩ = some (.int .i64 cn) := t0.cell 3; have y4 : w2.cell? ⟨w.heap.size, 4, none⟩ = some (.int .i64 un) := t0.cell 4; have y5 : w2.cell? ⟨w.heap.size, 5, none⟩ = some (.slice a1 n1 c1) := t0.cell 5; have y6 : w2.cell? ⟨w.heap.size, 6, none⟩ = some (.slice a2 n2 c2) := t0.cell 6; have y7 : w2.cell? ⟨w.heap.size, 7, none⟩ = some (.slice a3 n3 c3) := t0.cell 7
  clear t0
  go_wp2_with fail
  refine (law_near w2 u ev f cn un a1 a2 a3 n1 n2 n3 c1 c2 c3 ws ms ns (H1.out.far B2.out (Below.refl _ _)) (H2.out.far B2.out (Below.refl _ _)) (H3.out.far B2.out (Below.refl _ _)) k1 k2 k3 m1 m2 m3 a b).mono ?_
  generalize (nearOut (daysErr u ev f cn un ws ms ns a b) f a b).1 = A
  generalize (nearOut (daysErr u ev f cn un ws ms ns a b) f a b).2 = Bd
  rintro e w3 ⟨rfl, hb⟩
  have b3 := below_then B2.out hb
  have b31 := B1.out.trans (hb.mono B1.out.size)
  have t0 := K.out _ b31
  have B3 := Lib.hid b3; have B31 := Lib.hid b31
  clear y0 y1 y2 y3 y4 y5 y6 y7 hb b3 b31
  have y0 : w3.cell? ⟨w.heap.size, 0, none⟩ = some (.int .i64 u) := t0.cell 0; have y1 : w3.cell? ⟨w.heap.size, 1, none⟩ = some (.int .i64 ev) := t0.cell 1; have y2 : w3.cell? ⟨w.heap.size, 2, none⟩ = some (.int .i64 f) := t0.cell 2; have y3 : w3.cell? ⟨w.heap.size, 3, none⟩ = some (.int .i64 cn) := t0.cell 3; have y4 : w3.cell? ⟨w.heap.size, 4, none⟩ = some (.int .i64 un) := t0.cell 4; have y5 : w3.cell? ⟨w.heap.size, 5, none⟩ = some (.slice a1 n1 c1) := t0.cell 5; have y6 : w3.cell? ⟨w.heap.size, 6, none⟩ = some (.slice a2 n2 c2) := t0.cell 6; have y7 : w3.cell? ⟨w.heap.size, 7, none⟩ = some (.slice a3 n3 c3) := t0.cell 7
  clear t0
  go_wp2_with fail
  refine (recur_Days w3 u ev f cn un a1 a2 a3 n1 n2 n3 c1 c2 c3 ws ms ns (H1.out.far B3.out (Below.refl _ _)) (H2.out.far B3.out (Below.refl _ _)) (H3.out.far B3.out (Below.refl _ _)) k1 k2 k3 m1 m2 m3 A Bd).mono ?_
  rintro e w4 hd
  obtain ⟨E, hE⟩ : ∃ E, E = daysErr u ev f cn un ws ms ns A Bd := ⟨_, rfl⟩
  have HE := Lib.hid hE
  rcases hd with ⟨hn, rfl, hb⟩ | ⟨hz, p, n, c, rfl, hnc, hc2, hI, hb⟩
  · rw [← hE] at hn ⊢
    have HN := Lib.hid hn
    have hn' : (E == 0) = false := by simpa using hn
    have b4 := below_then B3.out hb
    have b41 := B31.out.trans (hb.mono B31.out.size)
    have t0 := K.out _ b41
    have B4 := Lib.hid b4
    clear y0 y1 y2 y3 y4 y5 y6 y7 hb b4 b41 hE hn
    have y0 : w4.cell? ⟨w.heap.size, 0, none⟩ = some (.int .i64 u) := t0.cell 0; have y1 : w4.cell? ⟨w.heap.size, 1, none⟩ = some (.int .i64 ev) := t0.cell 1; have y2 : w4.cell? ⟨w.heap.size, 2, none⟩ = some (.int .i64 f) := t0.cell 2; have y3 : w4.cell? ⟨w.heap.size, 3, none⟩ = some (.int .i64 cn) := t0.cell 3; have y4 : w4.cell? ⟨w.heap.size, 4, none⟩ = some (.int .i64 un) := t0.cell 4; have y5 : w4.cell? ⟨w.heap.size, 5, none⟩ = some (.slice a1 n1 c1) := t0.cell 5; have y6 : w4.cell? ⟨w.heap.size, 6, none⟩ = some (.slice a2 n2 c2) := t0.cell 6; have y7 : w4.cell? ⟨w.heap.size, 7, none⟩ = some (.slice a3 n3 c3) := t0.cell 7
    clear t0
    go_wp2_with fail
    refine (law_recurError w4 u ev f cn un a1 a2 a3 n1 n2 n3 c1 c2 c3 ws ms ns (H1.out.far B4.out (Below.refl _ _)) (H2.out.far B4.out (Below.refl _ _)) (H3.out.far B4.out (Below.refl _ _)) k1 k2 k3 m1 m2 m3 A Bd).mono ?_
    rw [← HE.out]
    rintro e w5 ⟨rfl, hb⟩
    have b5 := below_then B4.out hb
    go_wp2_with fail
    go_ret
    exact ⟨ret_bool (by simp), b5⟩
  · rw [← hE] at hz
    have ok : RecOk u ev f cn un ws ms ns ∧ rangeErr f A Bd = 0 := by
      rw [hE] at hz
      unfold daysErr at hz
      split at hz
      · rename_i q; exact absurd hz q
      · rename_i q; exact ⟨recOk_of (Decidable.not_not.1 q), hz⟩
    obtain ⟨r1, r2, r3, r4, _⟩ := rangeErr_zero ok.2
    have OK := Lib.hid ok.1
    clear ok hE
    subst hz
    have b4 := below_then B3.out hb
    have b41 := B31.out.trans (hb.mono B31.out.size)
    have t0 := K.out _ b41
    have B4 := Lib.hid b4
    have B41 := Lib.hid b41
    have HI := Lib.hid hI
    clear y0 y1 y2 y3 y4 y5 y6 y7 hb b4 b41 hI
    have y0 : w4.cell? ⟨w.heap.size, 0, none⟩ = some (.int .i64 u) := t0.cell 0; have y1 : w4.cell? ⟨w.heap.size, 1, none⟩ = some (.int .i64 ev) := t0.cell 1; have y2 : w4.cell? ⟨w.heap.size, 2, none⟩ = some (.int .i64 f) := t0.cell 2; have y3 : w4.cell? ⟨w.heap.size, 3, none⟩ = some (.int .i64 cn) := t0.cell 3; have y4 : w4.cell? ⟨w.heap.size, 4, none⟩ = some (.int .i64 un) := t0.cell 4; have y5 : w4.cell? ⟨w.heap.size, 5, none⟩ = some (.slice a1 n1 c1) := t0.cell 5; have y6 : w4.cell? ⟨w.heap.size, 6, none⟩ = some (.slice a2 n2 c2) := t0.cell 6; have y7 : w4.cell? ⟨w.heap.size, 7, none⟩ = some (.slice a3 n3 c3) := t0.cell 7
    clear t0
    go_wp2_with fail
    refine (law_recurError w4 u ev f cn un a1 a2 a3 n1 n2 n3 c1 c2 c3 ws ms ns (H1.out.far B4.out (Below.refl _ _)) (H2.out.far B4.out (Below.refl _ _)) (H3.out.far B4.out (Below.refl _ _)) k1 k2 k3 m1 m2 m3 A Bd).mono ?_
    rw [← HE.out]
    rintro e w5 ⟨rfl, hb⟩
    have b5 := below_then B4.out hb
    have t0 := K.out _ (B41.out.trans (hb.mono B41.out.size))
    have B5 := Lib.hid b5
    have HI5 := Lib.hid (HI.out.far (Below.refl _ _) hb)
    clear y0 y1 y2 y3 y4 y5 y6 y7 b5 hb HI
    have y0 : w5.cell? ⟨w.heap.size, 0, none⟩ = some (.int .i64 u) := t0.cell 0; have y1 : w5.cell? ⟨w.heap.size, 1, none⟩ = some (.int .i64 ev) := t0.cell 1; have y2 : w5.cell? ⟨w.heap.size, 2, none⟩ = some (.int .i64 f) := t0.cell 2; have y3 : w5.cell? ⟨w.heap.size, 3, none⟩ = some (.int .i64 cn) := t0.cell 3; have y4 : w5.cell? ⟨w.heap.size, 4, none⟩ = some (.int .i64 un) := t0.cell 4; have y5 : w5.cell? ⟨w.heap.size, 5, none⟩ = some (.slice a1 n1 c1) := t0.cell 5; have y6 : w5.cell? ⟨w.heap.size, 6, none⟩ = some (.slice a2 n2 c2) := t0.cell 6; have y7 : w5.cell? ⟨w.heap.size, 7, none⟩ = some (.slice a3 n3 c3) := t0.cell 7
    clear t0
    go_wp2_with fail
    refine (ref_RecurList w5 u ev f cn un a1 a2 a3 n1 n2 n3 c1 c2 c3 ws ms ns (H1.out.far B5.out (Below.refl _ _)) (H2.out.far B5.out (Below.refl _ _)) (H3.out.far B5.out (Below.refl _ _)) OK.out A Bd r3 r4).mono ?_
    rintro e w6 ⟨p2, q2, d2, rfl, hq, hd2, hI6, hb⟩
    have b6 := below_then B5.out hb
    have hi5 := HI5.out.far (Below.refl _ _) hb
    have HI6 := Lib.hid hI6; have HI7 := Lib.hid hi5
    clear hI6 hi5 hb
    go_wp2_with fail
    refine (ref_SameInts _ _ _ _ _ _ _ _ _ HI7.out HI6.out).mono ?_
    rw [show (daysL u ev f cn un ws ms ns A Bd == daysL u ev f cn un ws ms ns A Bd) = true by simp]
    rintro e w7 ⟨rfl, hdr⟩
    have b7 := below_drawn b6 hdr
    go_wp2_with fail
    go_ret
    exact ⟨rfl, b7⟩
theorem walk {H : Type} {enc : TypeId × Value → H} {v0 v1 v2 : Value} {d0 d1 d2 : DataW H} {p0 p1 p2 : List MemPlace} {base : Nat} (W : World)
    (o0 : Value.okWide Try.prog W .any base 24 v0) (h0 : DataW.Trod enc Try.prog W 0 (fun _ => true) true 24 v0 d0 p0)
    (o1 : Value.okWide Try.prog W .any base 3 v1) (h1 : DataW.Trod enc Try.prog W 0 (fun _ => true) true 3 v1 d1 p1) (o2 : Value.okWide Try.prog W .any base 3 v2) (h2 : DataW.Trod enc Try.prog W 0 (fun _ => true) true 3 v2 d2 p2) :
    Calls Try.prog 3 #[v0, v1, v2] W fun e w' => e = .returned (.bool true) ∧ Below W.heap.size W w' := by
  obtain ⟨x6, rfl, rfl, rfl, w6⟩ := open_int Try.underlying3 o1 h1
  obtain ⟨x7, rfl, rfl, rfl, w7⟩ := open_int Try.underlying3 o2 h2
  obtain ⟨cs, n, rfl, hl, hf⟩ := open_agg Try.underlying24 (by kernel_rfl) (by kernel_rfl) o0 h0
  match cs, hl with
  | [v0, v1, v2, v3, v4, v5, v6, v7], _ =>
    obtain ⟨_, _, e0, t0⟩ := hf 0 _ rfl
    obtain ⟨_, _, e1, t1⟩ := hf 1 _ rfl
    obtain ⟨_, _, e2, t2⟩ := hf 2 _ rfl
    obtain ⟨_, _, e3, t3⟩ := hf 3 _ rfl
    obtain ⟨_, _, e4, t4⟩ := hf 4 _ rfl
    obtain ⟨_, _, e5, t5⟩ := hf 5 _ rfl
    obtain ⟨_, _, e6, t6⟩ := hf 6 _ rfl
    obtain ⟨_, _, e7, t7⟩ := hf 7 _ rfl
    obtain ⟨x0, rfl, _⟩ := open_num t0
    obtain ⟨x1, rfl, _⟩ := open_num t1
    obtain ⟨x2, rfl, _⟩ := open_num t2
    obtain ⟨x3, rfl, _⟩ := open_num t3
    obtain ⟨x4, rfl, _⟩ := open_num t4
    obtain ⟨a1, n1, c1, ws, rfl, k1, m1, h1⟩ := open_Ints t5
    obtain ⟨a2, n2, c2, ms, rfl, k2, m2, h2⟩ := open_Ints t6
    obtain ⟨a3, n3, c3, ns, rfl, k3, m3, h3⟩ := open_Ints t7
    simp at e0 e1 e2 e3 e4 e5 e6 e7
    subst e0 e1 e2 e3 e4 e5 e6 e7
    exact core W x0 x1 x2 x3 x4 a1 a2 a3 n1 n2 n3 c1 c2 c3 ws ms ns h1 h2 h3 k1 k2 k3 m1 m2 m3 x6 x7
end Go.Proofs.Ythejjpnljdphnaa.recurListsLaw
