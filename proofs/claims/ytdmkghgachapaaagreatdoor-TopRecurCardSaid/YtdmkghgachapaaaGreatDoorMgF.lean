/- Several texts in one: Rec7, Rec8. -/
import Derived.Test.YtdmkghgachapaaaGreatDoorRec6
/- Contract of the reference's RecurFits. -/
namespace Go.Proofs.YtdmkghgachapaaaGreatDoor
set_option linter.unusedVariables false
set_option maxRecDepth 100000
open Go.RowKit greg

theorem lastN_rf {P0 P1 P2 P3 P4 P5 P6 P7 P8 P9 P10 P11 P12 P13 R : Prop} (h : P0 ∧ P1 ∧ P2 ∧ P3 ∧ P4 ∧ P5 ∧ P6 ∧ P7 ∧ P8 ∧ P9 ∧ P10 ∧ P11 ∧ P12 ∧ P13 ∧ R) : R := h.2.2.2.2.2.2.2.2.2.2.2.2.2.2
theorem gY_inR (x : Int) (h1 : -4000000 ≤ x) (h2 : x ≤ 4000000) : -20000 ≤ gY x ∧ gY x ≤ 20000 ∧ 1 ≤ gM x ∧ gM x ≤ 12 ∧ 1 ≤ gD x ∧ gD x ≤ mlen x ∧ mlen x ≤ 31 := by
  obtain ⟨y1, y2, y3, y4⟩ := gY_in x h1 h2
  obtain ⟨v1, v2, v3, v4⟩ := (greg_spec x).1
  exact ⟨y1, y2, y3, y4, v3, v4, (mlen_in x y3 y4).2⟩
theorem date_month (W : World) (y m d : Int) : (Instr.field 52 (.agg #[.int .i64 y, .int .i64 m, .int .i64 d]) 1).run Tryz.prog W = .ok (.int .i64 m) W := by kernel_rfl
end Go.Proofs.YtdmkghgachapaaaGreatDoor

/- Contracts of the reference's RecurList and of the law's near. -/
namespace Go.Proofs.YtdmkghgachapaaaGreatDoor
set_option linter.unusedVariables false
set_option maxRecDepth 100000
open Go.RowKit greg

/-- The range that the law looks at. -/
def nearOut (e f a b : Int) : Int × Int :=
  if e = 0 ∧ f + 400 < b then (minI (if a ≤ f + 300 then f + 300 else a) (f + 400), f + 400) else (a, b)
end Go.Proofs.YtdmkghgachapaaaGreatDoor
