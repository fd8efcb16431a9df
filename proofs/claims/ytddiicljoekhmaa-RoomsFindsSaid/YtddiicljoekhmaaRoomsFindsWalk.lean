/- RoomsFinds: the Go text returns true at every input, and writes nothing that was there. -/
import Derived.Test.YtddiicljoekhmaaRoomsFindsCore
namespace Go.Proofs.Ytddiicljoekhmaa.roomsFindsLaw
set_option linter.unusedVariables false
set_option maxRecDepth 100000
open Go.RowKit Go.ChangeShapes Go.WideShapes

theorem walk {H : Type} {enc : TypeId × Value → H} {v0 v1 v2 v3 : Value} {d0 d1 d2 d3 : DataW H} {p0 p1 p2 p3 : List MemPlace} {base : Nat} (W : World)
    (o0 : Value.okWide Try.prog W .any base 23 v0) (h0 : DataW.Trod enc Try.prog W 0 (fun _ => true) true 23 v0 d0 p0)
    (o1 : Value.okWide Try.prog W .any base 3 v1) (h1 : DataW.Trod enc Try.prog W 0 (fun _ => true) true 3 v1 d1 p1)
    (o2 : Value.okWide Try.prog W .any base 3 v2) (h2 : DataW.Trod enc Try.prog W 0 (fun _ => true) true 3 v2 d2 p2)
    (o3 : Value.okWide Try.prog W .any base 3 v3) (h3 : DataW.Trod enc Try.prog W 0 (fun _ => true) true 3 v3 d3 p3) :
    Calls Try.prog 4 #[v0, v1, v2, v3] W fun e w' => e = .returned (.bool true) ∧ Below W.heap.size W w' := by
  obtain ⟨a1, n1, c1, rfl⟩ := okWide_slice Try.underlying23 o0
  obtain ⟨m1, k1⟩ := h0
  obtain ⟨b, m, d, ls, e1, q3, q4, hl⟩ := open_Stps (by simpa [Value.cells] using k1)
  rw [e1]
  obtain ⟨x1, rfl, rfl, rfl, w1⟩ := open_int Try.underlying3 o1 h1
  obtain ⟨x2, rfl, rfl, rfl, w2⟩ := open_int Try.underlying3 o2 h2
  obtain ⟨x3, rfl, rfl, rfl, w3⟩ := open_int Try.underlying3 o3 h3
  exact core W b m d ls hl q3 q4 x1 x2 x3 (bounds_i64 w1) (bounds_i64 w2) (bounds_i64 w3)
end Go.Proofs.Ytddiicljoekhmaa.roomsFindsLaw
