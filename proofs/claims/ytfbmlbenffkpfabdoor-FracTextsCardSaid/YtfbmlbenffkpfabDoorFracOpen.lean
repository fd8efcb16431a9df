/- A fraction handed in, read back. -/
import Derived.Test.YtfbmlbenffkpfabDoorRows2
namespace Go.Proofs.YtfbmlbenffkpfabDoor
set_option linter.unusedVariables false
set_option maxRecDepth 100000
open Go.RowKit Go.ChangeShapes Go.WideShapes
theorem open_Frac {H : Type} {enc : TypeId × Value → H} {v : Value} {d : DataW H} {p : List MemPlace} {base : Nat} {W : World}
    (o : Value.okWide Tryd.prog W .any base 23 v) (h : DataW.Trod enc Tryd.prog W 0 (fun _ => true) true 23 v d p) : ∃ a b : Int, v = .agg #[.int .i64 a, .int .i64 b] ∧ I64 a ∧ I64 b := by
  obtain ⟨cs, n, rfl, hl, hf⟩ := open_agg Tryd.underlying23 (by kernel_rfl) (by kernel_rfl) o h
  match cs, hl with
  | [v0, v1], _ =>
    obtain ⟨_, _, e0, t0⟩ := hf 0 _ rfl
    obtain ⟨_, _, e1, t1⟩ := hf 1 _ rfl
    obtain ⟨x0, rfl, hx0⟩ := open_num t0
    obtain ⟨x1, rfl, hx1⟩ := open_num t1
    simp at e0 e1
    subst e0 e1
    exact ⟨x0, x1, rfl, hx0, hx1⟩
end Go.Proofs.YtfbmlbenffkpfabDoor
