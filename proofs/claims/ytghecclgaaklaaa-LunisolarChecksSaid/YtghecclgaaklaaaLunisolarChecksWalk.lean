/- LunisolarChecks: the Go text returns true at every input, and writes nothing that was there. -/
import Derived.Test.YtghecclgaaklaaaMoon3
import Derived.Test.YtghecclgaaklaaaMoonOpen
import Derived.Test.YtghecclgaaklaaaQuiet
import Derived.Test.YtghecclgaaklaaaStore
namespace Go.Proofs.Ytghecclgaaklaaa.lunisolarChecksLaw
set_option linter.unusedVariables false
set_option maxRecDepth 100000
open Go.RowKit Go.ChangeShapes Go.WideShapes

theorem plain (w : World) : Calls Try.prog 44 #[] w fun e w' => e = .returned (.agg #[.string ⟨#[112, 108, 97, 105, 110]⟩, .int .i64 1, .int .i64 0, .int .i64 1, .int .i64 59, .int .i64 2, .int .i64 1, .int .i64 1, .int .i64 1, .slice none 0 0, .slice none 0 0]) ∧ Below w.heap.size w w' := by
  go_enter Try.func44, Try.ntmps44
  go_wp2_with fail
  exact bodyPost_ret (v := .agg #[.string ⟨#[112, 108, 97, 105, 110]⟩, .int .i64 1, .int .i64 0, .int .i64 1, .int .i64 59, .int .i64 2, .int .i64 1, .int .i64 1, .int .i64 1, .slice none 0 0, .slice none 0 0]) (by simp [results, Try.results44, go_sem]) rfl ⟨rfl, by (repeat' (first | exact Below.refl _ _ | assumption | refine Below.drew ?_ | refine below_drewN ?_ _ | refine below_new ?_ _ | refine below_set ?_ ?_ _ | refine below_then ?_ (by assumption) | refine below_drawn ?_ (by assumption) | exact Nat.le_refl _ | omega | (simp; done) | (simp; omega)))⟩
theorem lit0 : moonErr ⟨#[112, 108, 97, 105, 110]⟩ 1 0 1 59 2 1 1 1 [] [] = 0 := by decide +kernel
theorem lit1 : moonErr ⟨#[112, 108, 97, 105, 110]⟩ 1 0 1 31 1 1 1 1 [] [] = 3 := by decide +kernel
theorem none_at (w : World) : MoonAt w none none 0 0 [] [] := ⟨⟨rfl, by omega, by simp, fun h => absurd h (by omega)⟩, ⟨rfl, by omega, by simp, fun h => absurd h (by omega)⟩⟩
theorem ints (a b c d e f : Int) (h : (-100 ≤ a ∧ a ≤ 100) ∧ (-100 ≤ b ∧ b ≤ 100) ∧ (-100 ≤ c ∧ c ≤ 100) ∧ (-100 ≤ d ∧ d ≤ 100) ∧ (-100 ≤ e ∧ e ≤ 100) ∧ (-100 ≤ f ∧ f ≤ 100)) : MoonI a b c d e f := by
  unfold MoonI I64; omega
/-- The box of the argument, and all that was there. -/
def One (w0 : World) (b : Nat) (o : Obj) (W : World) : Prop := At W b o ∧ Below w0.heap.size w0 W
theorem One.step {w0 W W' : World} {b : Nat} {o : Obj} (h : One w0 b o W) (hb : Below W.heap.size W W') : One w0 b o W' := ⟨h.1.then_ hb, below_then h.2 hb⟩
theorem One.cells {w0 W : World} {b : Nat} {t : TypeId} {v0 v1 v2 v3 v4 v5 v6 v7 v8 v9 v10 : Value} (h : One w0 b (.cells #[v0, v1, v2, v3, v4, v5, v6, v7, v8, v9, v10] t) W) :
    W.cell? ⟨b, 0, none⟩ = some v0 ∧ W.cell? ⟨b, 1, none⟩ = some v1 ∧ W.cell? ⟨b, 2, none⟩ = some v2 ∧ W.cell? ⟨b, 3, none⟩ = some v3 ∧ W.cell? ⟨b, 4, none⟩ = some v4 ∧ W.cell? ⟨b, 5, none⟩ = some v5 ∧ W.cell? ⟨b, 6, none⟩ = some v6 ∧ W.cell? ⟨b, 7, none⟩ = some v7 ∧ W.cell? ⟨b, 8, none⟩ = some v8 ∧ W.cell? ⟨b, 9, none⟩ = some v9 ∧ W.cell? ⟨b, 10, none⟩ = some v10 :=
  ⟨h.1.cell 0, h.1.cell 1, h.1.cell 2, h.1.cell 3, h.1.cell 4, h.1.cell 5, h.1.cell 6, h.1.cell 7, h.1.cell 8, h.1.cell 9, h.1.cell 10⟩
set_option maxHeartbeats 2000000 in
theorem core (w : World) (s : ByteArray) (f sn sd mn md ln ld c : Int) (a1 a2 : Option Addr) (n1 c1 n2 c2 : Nat) (ls vs : List Int) (hs : s.size ≤ 9223372036854775807) (hi : MoonI sn sd mn md ln ld) (h : MoonAt w a1 a2 n1 n2 ls vs) :
    Calls Try.prog 9 #[.agg #[.string s, .int .i64 f, .int .i64 sn, .int .i64 sd, .int .i64 mn, .int .i64 md, .int .i64 ln, .int .i64 ld, .int .i64 c, .slice a1 n1 c1, .slice a2 n2 c2]] w fun e w' => e = .returned (.bool true) ∧ Below w.heap.size w w' := by
  have H := Lib.hid h; clear h
  have HI := Lib.hid hi; clear hi
  go_enter Try.func9, Try.ntmps9
  go_wp2_with fail
  refine (plain _).mono ?_
  rintro e w1 ⟨rfl, hb⟩
  have a0 := (At.new w (.cells #[.string s, .int .i64 f, .int .i64 sn, .int .i64 sd, .int .i64 mn, .int .i64 md, .int .i64 ln, .int .i64 ld, .int .i64 c, .slice a1 n1 c1, .slice a2 n2 c2] 74)).then_ hb
  have b0 : Below w.heap.size w w1 := by (repeat' (first | exact Below.refl _ _ | assumption | refine Below.drew ?_ | refine below_drewN ?_ _ | refine below_new ?_ _ | refine below_set ?_ ?_ _ | refine below_then ?_ (by assumption) | refine below_drawn ?_ (by assumption) | exact Nat.le_refl _ | omega | (simp; done) | (simp; omega)))
  clear hb
  have hlt := a0.lt
  go_wp2_with fail
  have a1' := a0.alloc (.cells #[.string ⟨#[112, 108, 97, 105, 110]⟩, .int .i64 1, .int .i64 0, .int .i64 1, .int .i64 31, .int .i64 1, .int .i64 1, .int .i64 1, .int .i64 1, .slice none 0 0, .slice none 0 0] 74)
  have ab := At.new w1 (.cells #[.string ⟨#[112, 108, 97, 105, 110]⟩, .int .i64 1, .int .i64 0, .int .i64 1, .int .i64 31, .int .i64 1, .int .i64 1, .int .i64 1, .int .i64 1, .slice none 0 0, .slice none 0 0] 74)
  have b1 := below_new b0 (.cells #[.string ⟨#[112, 108, 97, 105, 110]⟩, .int .i64 1, .int .i64 0, .int .i64 1, .int .i64 31, .int .i64 1, .int .i64 1, .int .i64 1, .int .i64 1, .slice none 0 0, .slice none 0 0] 74)
  clear a0 b0
  generalize World.alloc w1 _ = W1 at a1' ab b1 ⊢
  refine (plain _).mono ?_
  rintro e w2 ⟨rfl, hb⟩
  (replace a1' := a1'.then_ hb); (replace ab := ab.then_ hb); (replace b1 := below_then b1 hb); clear hb
  go_wp2_with fail
  refine (lunisolar_Check _ ⟨#[112, 108, 97, 105, 110]⟩ 1 0 1 59 2 1 1 1 none none 0 0 0 0 [] [] (by decide) (ints _ _ _ _ _ _ (by omega)) (none_at _)).mono ?_
  rw [lit0]
  rintro e w3 ⟨rfl, hb⟩
  (replace a1' := a1'.then_ hb); (replace ab := ab.then_ hb); (replace b1 := below_then b1 hb); clear hb
  have g0 := ab.cell 0; have g1 := ab.cell 1; have g2 := ab.cell 2; have g3 := ab.cell 3; have g4 := ab.cell 4; have g5 := ab.cell 5; have g6 := ab.cell 6; have g7 := ab.cell 7; have g8 := ab.cell 8; have g9 := ab.cell 9; have g10 := ab.cell 10; simp at g0 g1 g2 g3 g4 g5 g6 g7 g8 g9 g10
  go_wp2_with fail
  refine (lunisolar_Check _ ⟨#[112, 108, 97, 105, 110]⟩ 1 0 1 31 1 1 1 1 none none 0 0 0 0 [] [] (by decide) (ints _ _ _ _ _ _ (by omega)) (none_at _)).mono ?_
  rw [lit1]
  rintro e w4 ⟨rfl, hb⟩
  (replace a1' := a1'.then_ hb); (replace b1 := below_then b1 hb); clear hb ab g0 g1 g2 g3 g4 g5 g6 g7 g8 g9 g10
  go_wp2_with fail
  have on : One w w.heap.size (.cells #[.string s, .int .i64 f, .int .i64 sn, .int .i64 sd, .int .i64 mn, .int .i64 md, .int .i64 ln, .int .i64 ld, .int .i64 c, .slice a1 n1 c1, .slice a2 n2 c2] 74) w4.drew := ⟨a1'.drew, b1.drew⟩
  (refine region_class (One w w.heap.size (.cells #[.string s, .int .i64 f, .int .i64 sn, .int .i64 sd, .int .i64 mn, .int .i64 md, .int .i64 ln, .int .i64 ld, .int .i64 c, .slice a1 n1 c1, .slice a2 n2 c2] 74)) (by kernel_rfl) (by kernel_rfl) (on) ?_; repeat ((first | (refine class_take ?_ (by rfl) ?_ ?_; rotate_left; focus (intro wq hq; ((obtain ⟨x0, x1, x2, x3, x4, x5, x6, x7, x8, x9, x10⟩ := hq.cells)); go_simp; first | done | with_reducible rfl | (first | (go_at_call 45; refine (lunisolar_Check _ s f sn sd mn md ln ld c a1 a2 n1 c1 n2 c2 ls vs hs HI.out (H.out.then_ hq.2)).mono ?_; rintro e w' ⟨rfl, hb⟩; refine ⟨?_, hq.step hb⟩; with_reducible rfl) | (go_at_call 46; refine (ref_MoonError _ s f sn sd mn md ln ld c a1 a2 n1 c1 n2 c2 ls vs hs HI.out (H.out.then_ hq.2)).mono ?_; rintro e w' ⟨rfl, hb⟩; refine ⟨?_, hq.step hb⟩; with_reducible rfl)))) | refine class_skip (by rfl) ?_); try simp only [Act.put, List.setIfInBounds_toArray, List.set_cons_zero, List.set_cons_succ]))
  refine wpQuiet_nil ?_
  intro w5 on5
  go_wp2_with fail
  go_ret
  exact ⟨ret_bool (by simp), on5.2⟩
theorem walk {H : Type} {enc : TypeId × Value → H} {v0 : Value} {d0 : DataW H} {p0 : List MemPlace} {base : Nat} (W : World)
    (o0 : Value.okWide Try.prog W .any base 74 v0) (h0 : DataW.Trod enc Try.prog W 0 (fun _ => true) true 74 v0 d0 p0) :
    Calls Try.prog 9 #[v0] W fun e w' => e = .returned (.bool true) ∧ Below W.heap.size W w' := by
  obtain ⟨s, f, sn, sd, mn, md, ln, ld, c, a1, a2, n1, c1, n2, c2, ls, vs, rfl, hs, hf, hI, hc, k1, k2, h⟩ := open_MoonRule o0 h0
  exact core W s f sn sd mn md ln ld c a1 a2 n1 c1 n2 c2 ls vs hs hI h
end Go.Proofs.Ytghecclgaaklaaa.lunisolarChecksLaw
