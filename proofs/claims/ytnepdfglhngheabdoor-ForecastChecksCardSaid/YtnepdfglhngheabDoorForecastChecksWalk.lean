/- ForecastChecks: the Go text returns true at every input, and writes nothing that was there. -/
import Derived.Test.YtnepdfglhngheabDoorFore2
import Derived.Test.YtnepdfglhngheabDoorQuiet
import Derived.Deep.CutRange
namespace Go.Proofs.YtnepdfglhngheabDoor.forecastChecksLaw
set_option linter.unusedVariables false
set_option maxRecDepth 100000
open Go.RowKit Go.ChangeShapes Go.WideShapes

set_option maxHeartbeats 2000000 in
theorem core (w : World) (a : Option Addr) (n c : Nat) (xs : List Rul) (h : Rules w w.heap.size a n xs) :
    Calls Tryd.prog 4 #[.slice a n c] w fun e w' => e = .returned (.bool true) ∧ Below w.heap.size w w' := by
  have H := Lib.hid h; clear h
  go_enter Tryd.func4, Tryd.ntmps4
  go_wp2_with fail
  refine (law_summer _).mono ?_
  rintro e w1 ⟨rfl, a0, b0⟩
  have hl := a0.lt
  have hf : w1.frozen? ⟨w.heap.size, 1, none⟩ = false := a0.frozen 1
  have hc : w1.cell? ⟨w.heap.size, 1, none⟩ = some (.int .i64 5) := a0.cell 1
  go_upto_region 3 with fail
  have a1 : At (w1.setCell ⟨w.heap.size, 1, none⟩ (.int .i64 6)) w.heap.size (.cells #[.int .i64 3, .int .i64 6, .int .i64 6, .int .i64 3600000, .int .i64 7200000, .string ⟨#[83, 85, 77]⟩] 41) := a0.store 1 _
  have b1 : Below w.heap.size w (w1.setCell ⟨w.heap.size, 1, none⟩ (.int .i64 6)) := below_set b0 (by simp) _
  clear a0 b0 hf hc hl
  generalize World.setCell w1 _ _ = W1 at a1 b1 ⊢
  go_wp2_with fail
  refine (law_summer _).mono ?_
  rintro e w2 ⟨rfl, a2, b2⟩
  replace a1 := a1.then_ b2
  replace b1 := below_then b1 b2
  clear b2
  go_wp2_with fail
  refine (forecast_Check _ _ _ _ (sumRul 5) (sum_at (by unfold I64; omega) a2)).mono ?_
  rw [sum_ok]
  rintro e w3 ⟨rfl, hb⟩
  replace a1 := a1.then_ hb
  replace b1 := below_then b1 hb
  clear hb a2
  go_wp2_with fail
  refine (forecast_Check _ _ _ _ (sumRul 6) (sum_at (by unfold I64; omega) a1)).mono ?_
  rw [sum_bad]
  rintro e w4 ⟨rfl, hb⟩
  replace b1 := below_then b1 hb
  clear hb a1
  obtain ⟨E, hE⟩ : ∃ E, E = rulesErr xs := ⟨_, rfl⟩
  have HE := Lib.hid hE; clear hE
  go_wp2_with fail
  refine (forecast_Check _ _ _ _ xs (H.out.then_ b1)).mono ?_
  rw [← HE.out]
  rintro e w5 ⟨rfl, hb⟩
  replace b1 := below_then b1 hb
  clear hb
  go_wp2_with fail
  refine (ref_ZoneRulesError _ _ _ _ xs (H.out.then_ b1)).mono ?_
  rw [← HE.out]
  rintro e w6 ⟨rfl, hb⟩
  replace b1 := below_then b1 hb
  go_wp2_with fail
  go_ret
  exact ⟨by simp, b1⟩
theorem walk {H : Type} {enc : TypeId × Value → H} {v0 : Value} {d0 : DataW H} {p0 : List MemPlace} {base : Nat} (W : World)
    (o0 : Value.okWide Tryd.prog W .any base 38 v0) (h0 : DataW.Trod enc Tryd.prog W 0 (fun _ => true) true 38 v0 d0 p0) :
    Calls Tryd.prog 4 #[v0] W fun e w' => e = .returned (.bool true) ∧ Below W.heap.size W w' := by
  obtain ⟨a3, n3, c3, rfl⟩ := okWide_slice Tryd.underlying38 o0
  obtain ⟨fuel, hf⟩ := h0
  obtain ⟨b3, m3, k3, zs, e, _, _, g3⟩ := open_Rules (by simpa [Value.cells] using hf)
  injection e with e1 e2 e3
  subst e1 e2 e3
  exact core W _ _ _ zs g3
end Go.Proofs.YtnepdfglhngheabDoor.forecastChecksLaw
