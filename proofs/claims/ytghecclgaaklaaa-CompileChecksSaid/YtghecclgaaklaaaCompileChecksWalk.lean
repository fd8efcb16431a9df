/- CompileChecks: the Go text returns true at every input, and writes nothing that was there. -/
import Derived.Test.YtghecclgaaklaaaCal
import Derived.Test.YtghecclgaaklaaaSmall
import Derived.Test.YtghecclgaaklaaaCalOpen
namespace Go.Proofs.Ytghecclgaaklaaa.compileChecksLaw
set_option linter.unusedVariables false
set_option maxRecDepth 100000
open Go.RowKit Go.ChangeShapes Go.WideShapes

theorem lit : calErr ⟨#[115, 109, 97, 108, 108]⟩ 1 4 smallMonths [5] = 3 := by decide +kernel
set_option maxHeartbeats 1000000 in
theorem core (w : World) (s : ByteArray) (f c : Int) (a1 a2 : Option Addr) (n1 c1 n2 c2 : Nat) (ms : List Mon) (ls : List Int) (hs : s.size ≤ 9223372036854775807) (k1 : n1 ≤ c1)
    (h1 : Months w w.heap.size a1 n1 ms) (h2 : Ints w w.heap.size a2 n2 ls) :
    Calls Try.prog 5 #[.agg #[.string s, .int .i64 f, .int .i64 c, .slice a1 n1 c1, .slice a2 n2 c2]] w fun e w' => e = .returned (.bool true) ∧ Below w.heap.size w w' := by
  have H1 := Lib.hid h1; have H2 := Lib.hid h2; clear h1 h2
  go_enter Try.func5, Try.ntmps5
  go_wp2_with fail
  refine (law_small _).mono ?_
  rintro e w1 ⟨rfl, _, _, atm, hb1⟩
  have a0 := (At.new w (.cells #[.string s, .int .i64 f, .int .i64 c, .slice a1 n1 c1, .slice a2 n2 c2] 37)).then_ hb1
  have b0 : Below w.heap.size w w1 := by (repeat' (first | exact Below.refl _ _ | assumption | refine Below.drew ?_ | refine below_drewN ?_ _ | refine below_new ?_ _ | refine below_set ?_ ?_ _ | refine below_then ?_ (by assumption) | refine below_drawn ?_ (by assumption) | exact Nat.le_refl _ | omega | (simp; done) | (simp; omega)))
  clear hb1
  simp only [World.size_alloc] at atm
  have B0 := Lib.hid b0; have ATM := Lib.hid atm
  have hfd := fun W => small_field W (w.heap.size + 1)
  go_wp2_with fail
  refine (compile_Check _ ⟨#[115, 109, 97, 108, 108]⟩ 1 4 _ _ 2 2 1 1 smallMonths [5] (by decide) (by omega) (small_months (t := 107) ?_) ?_).mono ?_
  · exact (ATM.out.alloc _).alloc _
  · exact At.ints [5] ((At.new w1 _).alloc _) (by unfold I64; simp) (by simp)
  rw [lit]
  rintro e w2 ⟨rfl, hb2⟩
  replace a0 := ((a0.alloc (.cells #[.int .i64 5] 3)).alloc _).then_ hb2
  have b2 : Below w.heap.size w w2 := by (repeat' (first | exact Below.refl _ _ | assumption | refine Below.drew ?_ | refine below_drewN ?_ _ | refine below_new ?_ _ | refine below_set ?_ ?_ _ | refine below_then ?_ (by assumption) | refine below_drawn ?_ (by assumption) | exact Nat.le_refl _ | omega | (simp; done) | (simp; omega)))
  clear hb2 b0 atm
  have d0 := a0.cell 0; have d1 := a0.cell 1; have d2 := a0.cell 2; have d3 := a0.cell 3; have d4 := a0.cell 4
  simp at d0 d1 d2 d3 d4
  have hlt := a0.lt
  have B2 := Lib.hid b2
  clear a0 b2
  go_wp2_with fail
  go_region_held3 (fun w' => w'.cell? ⟨w.heap.size, 0, none⟩ = some (.string s) ∧ w'.cell? ⟨w.heap.size, 1, none⟩ = some (.int .i64 f) ∧ w'.cell? ⟨w.heap.size, 2, none⟩ = some (.int .i64 c) ∧ w'.cell? ⟨w.heap.size, 3, none⟩ = some (.slice a1 n1 c1) ∧ w'.cell? ⟨w.heap.size, 4, none⟩ = some (.slice a2 n2 c2) ∧ Below w2.heap.size w2 w')
    (first | exact ⟨d0, d1, d2, d3, d4, (Below.refl _ _).drew⟩ | exact keep5 (by assumption) (by assumption) (by omega))
    (first | (go_at_call 27; refine (compile_Check _ _ _ _ _ _ _ _ _ _ ms ls hs k1 ?_ ?_).mono ?_; (exact H1.out.far B2.out (last5 (by assumption))); (exact H2.out.far B2.out (last5 (by assumption))); rintro e w' ⟨rfl, hb⟩) | (go_at_call 28; refine (ref_CalendarError _ _ _ _ _ _ _ _ _ _ ms ls hs ?_ ?_).mono ?_; (exact H1.out.far B2.out (last5 (by assumption))); (exact H2.out.far B2.out (last5 (by assumption))); rintro e w' ⟨rfl, hb⟩))
  have hk2 := last5 (show _ ∧ _ ∧ _ ∧ _ ∧ _ ∧ Below w2.heap.size w2 w' from by assumption)
  have HK := Lib.hid hk2; clear hk2
  go_wp2_with fail
  go_ret
  exact ⟨rfl, below_then B2.out HK.out⟩
theorem walk {H : Type} {enc : TypeId × Value → H} {v0 : Value} {d0 : DataW H} {p0 : List MemPlace} {base : Nat} (W : World)
    (o0 : Value.okWide Try.prog W .any base 37 v0) (h0 : DataW.Trod enc Try.prog W 0 (fun _ => true) true 37 v0 d0 p0) :
    Calls Try.prog 5 #[v0] W fun e w' => e = .returned (.bool true) ∧ Below W.heap.size W w' := by
  obtain ⟨s, f, c, a1, a2, n1, c1, n2, c2, ms, ls, rfl, hs, hf, hc, k1, k2, m1, m2, h1, h2⟩ := open_Calendar o0 h0
  exact core W s f c a1 a2 n1 c1 n2 c2 ms ls hs k1 h1 h2
end Go.Proofs.Ytghecclgaaklaaa.compileChecksLaw
