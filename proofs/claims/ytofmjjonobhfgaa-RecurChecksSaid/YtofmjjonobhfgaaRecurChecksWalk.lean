/- RecurChecks: the Go text returns true at every input, and writes nothing that was there. -/
import Derived.Test.YtofmjjonobhfgaaRecur3
import Derived.Test.YtofmjjonobhfgaaRows2
namespace Go.Proofs.Ytofmjjonobhfgaa.recurChecksLaw
set_option linter.unusedVariables false
open Go.RowKit Go.ChangeShapes Go.WideShapes

theorem lit : recurErr 1 1 5 0 4 [] [] [] = 3 := by decide
theorem nilInts (w : World) (B : Nat) : Ints w B none 0 [] := ⟨rfl, by omega, by simp, fun h => absurd h (by omega)⟩
set_option maxHeartbeats 1000000 in
theorem core (w : World) (u ev f cn un : Int) (a1 a2 a3 : Option Addr) (n1 n2 n3 c1 c2 c3 : Nat) (ws ms ns : List Int)
    (h1 : Ints w w.heap.size a1 n1 ws) (h2 : Ints w w.heap.size a2 n2 ms) (h3 : Ints w w.heap.size a3 n3 ns) (k1 : n1 ≤ c1) (k2 : n2 ≤ c2) (k3 : n3 ≤ c3) (m1 : c1 ≤ 9223372036854775807) (m2 : c2 ≤ 9223372036854775807) (m3 : c3 ≤ 9223372036854775807) :
    Calls Try.prog 10 #[.agg #[.int .i64 u, .int .i64 ev, .int .i64 f, .int .i64 cn, .int .i64 un, .slice a1 n1 c1, .slice a2 n2 c2, .slice a3 n3 c3]] w fun e w' => e = .returned (.bool true) ∧ Below w.heap.size w w' := by
  have H1 := Lib.hid h1; have H2 := Lib.hid h2; have H3 := Lib.hid h3; clear h1 h2 h3
  go_enter Try.func10, Try.ntmps10
  go_wp2_with fail
  refine (recur_Check _ 1 1 5 0 4 none none none 0 0 0 0 0 0 [] [] [] (nilInts _ _) (nilInts _ _) (nilInts _ _) (by omega) (by omega) (by omega) (by omega) (by omega) (by omega)).mono ?_
  rw [lit]
  rintro e w1 ⟨rfl, hb⟩
  have hs : w.heap.size + 1 ≤ w1.heap.size := by have := hb.size; simp at this; omega
  have b0 : Below w.heap.size w w1 := ((Below.refl _ _).alloc (Nat.le_refl _) _).trans (hb.mono (by simp))
  have hat : At w1 w.heap.size (.cells #[.int .i64 u, .int .i64 ev, .int .i64 f, .int .i64 cn, .int .i64 un, .slice a1 n1 c1, .slice a2 n2 c2, .slice a3 n3 c3] 49) := (At.new w _).below hb (by simp)
  have d0 := hat.cell 0
  have d1 := hat.cell 1
  have d2 := hat.cell 2
  have d3 := hat.cell 3
  have d4 := hat.cell 4
  have d5 := hat.cell 5
  have d6 := hat.cell 6
  have d7 := hat.cell 7
  simp at d0 d1 d2 d3 d4 d5 d6 d7
  have B0 := Lib.hid b0
  clear hb b0 hat
  go_wp2_with fail
  go_region_held3 (fun w' => w'.cell? ⟨w.heap.size, 0, none⟩ = some (.int .i64 u) ∧ w'.cell? ⟨w.heap.size, 1, none⟩ = some (.int .i64 ev) ∧ w'.cell? ⟨w.heap.size, 2, none⟩ = some (.int .i64 f) ∧ w'.cell? ⟨w.heap.size, 3, none⟩ = some (.int .i64 cn) ∧ w'.cell? ⟨w.heap.size, 4, none⟩ = some (.int .i64 un) ∧
      w'.cell? ⟨w.heap.size, 5, none⟩ = some (.slice a1 n1 c1) ∧ w'.cell? ⟨w.heap.size, 6, none⟩ = some (.slice a2 n2 c2) ∧ w'.cell? ⟨w.heap.size, 7, none⟩ = some (.slice a3 n3 c3) ∧ Below w1.heap.size w1 w')
    (first | exact ⟨d0, d1, d2, d3, d4, d5, d6, d7, (Below.refl _ _).drew⟩ | exact keep8 (by assumption) (by assumption) (by omega))
    (first | (go_at_call 33; refine (recur_Check _ _ _ _ _ _ _ _ _ _ _ _ _ _ _ ws ms ns ?_ ?_ ?_ k1 k2 k3 m1 m2 m3).mono ?_; (exact H1.out.far B0.out (last8 (by assumption))); (exact H2.out.far B0.out (last8 (by assumption))); (exact H3.out.far B0.out (last8 (by assumption))); rintro e w' ⟨rfl, hb⟩) | (go_at_call 34; refine (ref_RecurError _ _ _ _ _ _ _ _ _ _ _ _ _ _ _ ws ms ns ?_ ?_ ?_ k1 k2 k3 m1 m2 m3).mono ?_; (exact H1.out.far B0.out (last8 (by assumption))); (exact H2.out.far B0.out (last8 (by assumption))); (exact H3.out.far B0.out (last8 (by assumption))); rintro e w' ⟨rfl, hb⟩))
  have hk2 := last8 (show _ ∧ _ ∧ _ ∧ _ ∧ _ ∧ _ ∧ _ ∧ _ ∧ Below w1.heap.size w1 w' from by assumption)
  have HK := Lib.hid hk2; clear hk2
  go_wp2_with fail
  go_ret
  exact ⟨rfl, B0.out.trans (HK.out.mono B0.out.size)⟩
theorem walk {H : Type} {enc : TypeId × Value → H} {v0 : Value} {d0 : DataW H} {p0 : List MemPlace} {base : Nat} (W : World)
    (o0 : Value.okWide Try.prog W .any base 49 v0) (h0 : DataW.Trod enc Try.prog W 0 (fun _ => true) true 49 v0 d0 p0) :
    Calls Try.prog 10 #[v0] W fun e w' => e = .returned (.bool true) ∧ Below W.heap.size W w' := by
  obtain ⟨cs, n, rfl, hl, hf⟩ := open_agg Try.underlying49 (by kernel_rfl) (by kernel_rfl) o0 h0
  match cs, hl with
  | [v0, v1, v2, v3, v4, v5, v6, v7], _ =>
    obtain ⟨_, _, e0, t0⟩ := hf 0 _ rfl
    obtain ⟨_, _, e1, t1⟩ := hf 1 _ rfl
    obtain ⟨_, _, e2, t2⟩ := hf 2 _ rfl
    obtain ⟨_, _, e3, t3⟩ := hf 3 _ rfl
    obtain ⟨_, _, e4, t4⟩ := hf 4 _ rfl
    obtain ⟨_, _, e5, t5⟩ := hf 5 _ rfl
    obtain ⟨_, _, e6, t6⟩ := hf 6 _ rfl
    obtain ⟨_, _, e7, t7⟩ := hf 7 _ rfl
    obtain ⟨x0, rfl, _⟩ := open_num t0
    obtain ⟨x1, rfl, _⟩ := open_num t1
    obtain ⟨x2, rfl, _⟩ := open_num t2
    obtain ⟨x3, rfl, _⟩ := open_num t3
    obtain ⟨x4, rfl, _⟩ := open_num t4
    obtain ⟨a1, n1, c1, ws, rfl, k1, m1, h1⟩ := open_Ints t5
    obtain ⟨a2, n2, c2, ms, rfl, k2, m2, h2⟩ := open_Ints t6
    obtain ⟨a3, n3, c3, ns, rfl, k3, m3, h3⟩ := open_Ints t7
    simp at e0 e1 e2 e3 e4 e5 e6 e7
    subst e0 e1 e2 e3 e4 e5 e6 e7
    exact core W x0 x1 x2 x3 x4 a1 a2 a3 n1 n2 n3 c1 c2 c3 ws ms ns h1 h2 h3 k1 k2 k3 m1 m2 m3
end Go.Proofs.Ytofmjjonobhfgaa.recurChecksLaw
