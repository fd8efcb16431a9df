/- RoomsPlays: the Go text returns true at every input, and writes nothing that was there. -/
import Derived.Test.YtddiicljoekhmaaRoomsPlaysCore
namespace Go.Proofs.Ytddiicljoekhmaa.roomsPlaysLaw
set_option linter.unusedVariables false
set_option maxRecDepth 100000
open Go.RowKit Go.ChangeShapes Go.WideShapes

theorem walk {H : Type} {enc : TypeId × Value → H} {v0 v1 : Value} {d0 d1 : DataW H} {p0 p1 : List MemPlace} {base : Nat} (W : World)
    (o0 : Value.okWide Try.prog W .any base 22 v0) (h0 : DataW.Trod enc Try.prog W 0 (fun _ => true) true 22 v0 d0 p0)
    (o1 : Value.okWide Try.prog W .any base 23 v1) (h1 : DataW.Trod enc Try.prog W 0 (fun _ => true) true 23 v1 d1 p1) :
    Calls Try.prog 3 #[v0, v1] W fun e w' => e = .returned (.bool true) ∧ Below W.heap.size W w' := by
  obtain ⟨a0, n0, c0, rfl⟩ := okWide_slice Try.underlying22 o0
  obtain ⟨a1, n1, c1, rfl⟩ := okWide_slice Try.underlying23 o1
  obtain ⟨m0, k0⟩ := h0
  obtain ⟨m1, k1⟩ := h1
  obtain ⟨a, n, c, ns, e0, q1, q2, hs⟩ := open_Strs (by simpa [Value.cells] using k0)
  obtain ⟨b, m, d, ls, e1, q3, q4, hl⟩ := open_Stps (by simpa [Value.cells] using k1)
  rw [e0, e1]
  exact core W a n c ns hs q1 q2 b m d ls hl q3 q4
end Go.Proofs.Ytddiicljoekhmaa.roomsPlaysLaw
