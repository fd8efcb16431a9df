/- LineDates: the Go text returns true at every input, and writes nothing that was there. -/
import Derived.Test.YtghecclgaaklaaaDate3
import Derived.ProofKit
import Derived.OpenShut
namespace Go.Proofs.Ytghecclgaaklaaa.lineDatesLaw
set_option linter.unusedVariables false
set_option maxRecDepth 100000
open Go.RowKit Go.ChangeShapes Go.WideShapes greg

theorem lit : gY 738945 = 2024 ∧ gM 738945 = 2 ∧ gD 738945 = 29 := by decide +kernel
set_option maxHeartbeats 1000000 in
theorem core (x : Int) (w : World) :
    Calls Try.prog 4 #[.int .i64 x] w fun e w' => e = .returned (.bool true) ∧ Below w.heap.size w w' := by
  go_enter Try.func4, Try.ntmps4
  go_wp2_with fail
  refine (line_Date_yes 738945 _ (by omega) (by omega)).mono ?_
  rw [lit.1, lit.2.1, lit.2.2]
  rintro e w1 ⟨rfl, hb1⟩
  go_wp2_with fail
  rcases inB_cases (-4000000) 4000000 x with ⟨hb, h1, h2⟩ | ⟨hb, h⟩
  · refine (line_Date_yes x _ h1 h2).mono ?_
    rintro e w2 ⟨rfl, hb2⟩
    have b0 : Below w.heap.size w w2 := by (repeat' (first | exact Below.refl _ _ | assumption | refine Below.drew ?_ | refine below_drewN ?_ _ | refine below_new ?_ _ | refine below_set ?_ ?_ _ | refine below_then ?_ (by assumption) | refine below_drawn ?_ (by assumption) | exact Nat.le_refl _ | omega | (simp; done) | (simp; omega)))
    clear hb1 hb2
    go_wp2_with fail
    refine (ref_Day x _).mono ?_; rw [hb]; rintro e w3 ⟨rfl, rfl⟩
    go_wp2_with fail
    have a1 := At.new w2 (.cells #[.int .i64 (gY x), .int .i64 (gM x), .int .i64 (gD x)] 23)
    have b1 := below_new b0 (.cells #[.int .i64 (gY x), .int .i64 (gM x), .int .i64 (gD x)] 23)
    generalize World.alloc w2 _ = W2 at a1 b1 ⊢
    have c0 := a1.cell 0; have c1 := a1.cell 1; have c2 := a1.cell 2
    simp at c0 c1 c2
    have hlt := a1.lt
    go_region_held3 (fun w' => w'.cell? ⟨w2.heap.size, 0, none⟩ = some (.int .i64 (gY x)) ∧ w'.cell? ⟨w2.heap.size, 1, none⟩ = some (.int .i64 (gM x)) ∧ w'.cell? ⟨w2.heap.size, 2, none⟩ = some (.int .i64 (gD x)) ∧ Below W2.heap.size W2 w')
      (first | exact ⟨c0, c1, c2, (Below.refl _ _).drew⟩ | exact keep3 (by assumption) (by assumption) (by omega))
      (first | (go_at_call 25; refine (ref_Greg _ _ (by omega) (by omega)).mono ?_; rintro e w' ⟨rfl, hb⟩))
    have hk2 := last3 (show _ ∧ _ ∧ _ ∧ Below W2.heap.size W2 w' from by assumption)
    go_wp2_with fail
    go_ret
    exact ⟨rfl, below_then b1 hk2⟩
  · refine (line_Date_no x _ h).mono ?_
    rintro e w2 ⟨rfl, hb2⟩
    have b0 : Below w.heap.size w w2 := by (repeat' (first | exact Below.refl _ _ | assumption | refine Below.drew ?_ | refine below_drewN ?_ _ | refine below_new ?_ _ | refine below_set ?_ ?_ _ | refine below_then ?_ (by assumption) | refine below_drawn ?_ (by assumption) | exact Nat.le_refl _ | omega | (simp; done) | (simp; omega)))
    clear hb1 hb2
    go_wp2_with fail
    refine (ref_Day x _).mono ?_; rw [hb]; rintro e w3 ⟨rfl, rfl⟩
    go_wp2_with fail
    go_ret
    exact ⟨rfl, by (repeat' (first | exact Below.refl _ _ | assumption | refine Below.drew ?_ | refine below_drewN ?_ _ | refine below_new ?_ _ | refine below_set ?_ ?_ _ | refine below_then ?_ (by assumption) | refine below_drawn ?_ (by assumption) | exact Nat.le_refl _ | omega | (simp; done) | (simp; omega)))⟩
theorem walk {H : Type} {enc : TypeId × Value → H} {v0 : Value} {d0 : DataW H} {p0 : List MemPlace} {base : Nat} (W : World)
    (o0 : Value.okWide Try.prog W .any base 3 v0) (h0 : DataW.Trod enc Try.prog W 0 (fun _ => true) true 3 v0 d0 p0) :
    Calls Try.prog 4 #[v0] W fun e w' => e = .returned (.bool true) ∧ Below W.heap.size W w' := by
  obtain ⟨a0, rfl, rfl, rfl, w0⟩ := open_int Try.underlying3 o0 h0
  have b0 := bounds_i64 w0
  exact (core a0 W).mono fun e w' ⟨he, hd⟩ => ⟨he, hd⟩
end Go.Proofs.Ytghecclgaaklaaa.lineDatesLaw
