/- A calendar handed in, read back; the months of 'small'. -/
import Derived.Test.YtjpbkkoflaajcaaMonths
namespace Go.Proofs.Ytjpbkkoflaajcaa
set_option linter.unusedVariables false
set_option maxRecDepth 100000
open Go.RowKit Go.ChangeShapes Go.WideShapes

def smallMonths : List Mon := [(⟨#[111, 110, 101]⟩, 31, 31), (⟨#[116, 119, 111]⟩, 28, 29)]
theorem small_months {w : World} {b : Nat} {t : TypeId} (h : At w b (.cells #[.string ⟨#[111, 110, 101]⟩, .int .i64 31, .int .i64 31, .string ⟨#[116, 119, 111]⟩, .int .i64 28, .int .i64 29] t)) : Months w w.heap.size (some ⟨b, 0, none⟩) 2 smallMonths := by
  refine ⟨⟨rfl, by omega, fun _ => ⟨b, 0, rfl, h.lt, fun i x hx j v hv => ?_⟩⟩, fun x hx => ?_⟩
  · match i, hx with
    | 0, hx =>
      simp [smallMonths] at hx; subst hx
      match j, hv with
      | 0, hv => simp [encM] at hv; subst hv; exact h.cell 0
      | 1, hv => simp [encM] at hv; subst hv; exact h.cell 1
      | 2, hv => simp [encM] at hv; subst hv; exact h.cell 2
    | 1, hx =>
      simp [smallMonths] at hx; subst hx
      match j, hv with
      | 0, hv => simp [encM] at hv; subst hv; exact h.cell 3
      | 1, hv => simp [encM] at hv; subst hv; exact h.cell 4
      | 2, hv => simp [encM] at hv; subst hv; exact h.cell 5
  · simp [smallMonths] at hx
    rcases hx with rfl | rfl
    · exact ⟨by decide, ⟨by decide, by decide⟩, ⟨by decide, by decide⟩⟩
    · exact ⟨by decide, ⟨by decide, by decide⟩, ⟨by decide, by decide⟩⟩
theorem open_Calendar {H : Type} {enc : TypeId × Value → H} {v : Value} {d : DataW H} {p : List MemPlace} {base : Nat} {W : World}
    (o : Value.okWide Try.prog W .any base 30 v) (h : DataW.Trod enc Try.prog W 0 (fun _ => true) true 30 v d p) :
    ∃ (s : ByteArray) (f c : Int) (a1 a2 : Option Addr) (n1 c1 n2 c2 : Nat) (ms : List Mon) (ls : List Int), v = .agg #[.string s, .int .i64 f, .int .i64 c, .slice a1 n1 c1, .slice a2 n2 c2] ∧ s.size ≤ 9223372036854775807 ∧ I64 f ∧ I64 c ∧ n1 ≤ c1 ∧ n2 ≤ c2 ∧ c1 ≤ 9223372036854775807 ∧ c2 ≤ 9223372036854775807 ∧
      Months W W.heap.size a1 n1 ms ∧ Ints W W.heap.size a2 n2 ls := by
  obtain ⟨cs, n, rfl, hl, hf⟩ := open_agg Try.underlying30 (by kernel_rfl) (by kernel_rfl) o h
  match cs, hl with
  | [v0, v1, v2, v3, v4], _ =>
    obtain ⟨_, _, e0, t0⟩ := hf 0 _ rfl
    obtain ⟨_, _, e1, t1⟩ := hf 1 _ rfl
    obtain ⟨_, _, e2, t2⟩ := hf 2 _ rfl
    obtain ⟨_, _, e3, t3⟩ := hf 3 _ rfl
    obtain ⟨_, _, e4, t4⟩ := hf 4 _ rfl
    obtain ⟨s, rfl, hs⟩ := open_str t0
    obtain ⟨x1, rfl, hx1⟩ := open_num t1
    obtain ⟨x2, rfl, hx2⟩ := open_num t2
    obtain ⟨a1, n1, c1, ms, rfl, k1, m1, h1⟩ := open_Months t3
    obtain ⟨a2, n2, c2, ls, rfl, k2, m2, h2⟩ := open_Ints t4
    simp at e0 e1 e2 e3 e4
    subst e0 e1 e2 e3 e4
    exact ⟨s, x1, x2, a1, a2, n1, c1, n2, c2, ms, ls, rfl, hs, hx1, hx2, k1, k2, m1, m2, h1, h2⟩
end Go.Proofs.Ytjpbkkoflaajcaa
