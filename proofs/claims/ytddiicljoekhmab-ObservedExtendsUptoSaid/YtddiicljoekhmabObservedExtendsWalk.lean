/- ObservedExtends: where what it reads is within the bound, the Go text returns true, and writes nothing that was there. -/
import Derived.Test.YtddiicljoekhmabObservedExtendsCore
namespace Go.Proofs.Ytddiicljoekhmab.observedExtendsLaw
set_option linter.unusedVariables false
set_option maxRecDepth 100000
open Go.RowKit Go.ChangeShapes Go.WideShapes

theorem walk {H : Type} {enc : TypeId × Value → H} {v0 v1 : Value} {d0 d1 : DataW H} {p0 p1 : List MemPlace} {base : Nat} (W : World)
    (o0 : Value.okWide Try.prog W .any base 33 v0) (h0 : DataW.Trod enc Try.prog W 0 (fun _ => true) true 33 v0 d0 p0) (b0 : Rows.uptoBulk d0 ≤ 1048576)
    (o1 : Value.okWide Try.prog W .any base 22 v1) (h1 : DataW.Trod enc Try.prog W 0 (fun _ => true) true 22 v1 d1 p1) (b1 : Rows.uptoBulk d1 ≤ 1048576) :
    Calls Try.prog 4 #[v0, v1] W fun e w' => e = .returned (.bool true) ∧ Below W.heap.size W w' := by
  obtain ⟨cs, n, rfl, hl, hf⟩ := open_aggB Try.underlying33 (by kernel_rfl) (by kernel_rfl) o0 h0 b0
  obtain ⟨a3, n3, c3, rfl⟩ := okWide_slice Try.underlying22 o1
  obtain ⟨fuel, hg⟩ := h1
  have hg' : DataW.trod enc Try.prog W 0 (fun _ => true) true fuel 22 [.slice a3 n3 c3] = some (d1, p1) := by simpa [Value.cells] using hg
  obtain ⟨b3, m3, k3, st, q3, _, _, i3⟩ := open_Ints hg'
  obtain ⟨r3, l3, u3, x3, y3, z3⟩ := bulk_slice Try.underlying22 hg' b1
  obtain ⟨rfl, rfl, rfl⟩ : a3 = b3 ∧ n3 = m3 ∧ c3 = k3 := by injection q3 with g1 g2 g3; exact ⟨g1, g2, g3⟩
  obtain ⟨rfl, rfl, rfl⟩ : a3 = r3 ∧ n3 = l3 ∧ c3 = u3 := by injection x3 with g1 g2 g3; exact ⟨g1, g2, g3⟩
  match cs, hl with
  | [v0, v1, v2, v3], _ =>
    obtain ⟨_, _, e0, t0, _⟩ := hf 0 _ rfl
    obtain ⟨_, _, e1, t1, _⟩ := hf 1 _ rfl
    obtain ⟨_, _, e2, t2, g2⟩ := hf 2 _ rfl
    obtain ⟨_, _, e3, t3, g3⟩ := hf 3 _ rfl
    simp at e0 e1 e2 e3
    subst e0 e1 e2 e3
    obtain ⟨s, rfl, hs⟩ := open_str t0
    obtain ⟨x, rfl, hx⟩ := open_num t1
    obtain ⟨a1, n1, c1, ms, rfl, _, _, i1⟩ := open_Ints t2
    obtain ⟨a2, n2, c2, ss, rfl, _, _, i2⟩ := open_Ints t3
    obtain ⟨r1, l1, u1, x1, y1, z1⟩ := bulk_slice Try.underlying22 t2 g2
    obtain ⟨r2, l2, u2, x2, y2, z2⟩ := bulk_slice Try.underlying22 t3 g3
    obtain ⟨rfl, rfl, rfl⟩ : a1 = r1 ∧ n1 = l1 ∧ c1 = u1 := by injection x1 with g1 g2 g3; exact ⟨g1, g2, g3⟩
    obtain ⟨rfl, rfl, rfl⟩ : a2 = r2 ∧ n2 = l2 ∧ c2 = u2 := by injection x2 with g1 g2 g3; exact ⟨g1, g2, g3⟩
    exact core W s x a1 a2 a3 n1 c1 n2 c2 n3 c3 ms ss st hs hx i1 i2 i3 z1 z2 z3 y1 y2 y3
end Go.Proofs.Ytddiicljoekhmab.observedExtendsLaw
