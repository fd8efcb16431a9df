/- recur.Parse, plain: the error of a text; what is printed is read. -/
import Derived.Test.YtdmkghgachapaaaDoorRcp5
namespace Go.Proofs.YtdmkghgachapaaaDoor
set_option linter.unusedVariables false
set_option linter.unusedSimpArgs false
set_option maxRecDepth 100000
open Go.RowKit

/-- The text that the fields read off a text would have. -/
def backS (S : List UInt8) : List UInt8 := recS (rawR S).1 (rawR S).2.1 (rawR S).2.2.1 (rawR S).2.2.2.2.1 (rawR S).2.2.2.1 (rawR S).2.2.2.2.2.1 (rawR S).2.2.2.2.2.2.1 (rawR S).2.2.2.2.2.2.2
def rawE (S : List UInt8) : Int := recurErr (rawR S).1 (rawR S).2.1 (rawR S).2.2.1 (rawR S).2.2.2.2.1 (rawR S).2.2.2.1 (rawR S).2.2.2.2.2.1 (rawR S).2.2.2.2.2.2.1 (rawR S).2.2.2.2.2.2.2
/-- The error of recur.Parse. -/
def parseE (S : List UInt8) : Int := if (spl 32 S).length < 7 then 4 else if (rawR S).1 < 1 then 4 else if backS S ≠ S then 4 else rawE S
theorem recS_words (u ev f cn un : Int) (ws ms ns : List Int) : 7 ≤ (spl 32 (recS u ev f cn un ws ms ns)).length := by
  rw [recS_pieces]
  unfold recP
  simp only [List.length_cons, List.length_append]
  omega
theorem parse_print {u ev f cn un : Int} {ws ms ns : List Int} (he : I64 ev) (hf : I64 f) (hc : I64 cn) (hu : I64 un) (hw : ∀ x ∈ ws, I64 x) (hm : ∀ x ∈ ms, I64 x) (hn : ∀ x ∈ ns, I64 x) (h0 : recurErr u ev f cn un ws ms ns = 0) :
    parseE (recS u ev f cn un ws ms ns) = 0 ∧ rawR (recS u ev f cn un ws ms ns) = (u, ev, f, un, cn, ws, ms, ns) := by
  obtain ⟨u1, u2, _⟩ := recurErr_unit h0
  have hr := raw_recS u1 u2 he hf hc hu hw hm hn
  have hb : backS (recS u ev f cn un ws ms ns) = recS u ev f cn un ws ms ns := by unfold backS; rw [hr]
  refine ⟨?_, hr⟩
  unfold parseE
  rw [if_neg (by have := recS_words u ev f cn un ws ms ns; omega), if_neg (by rw [hr]; show ¬ u < 1; omega), if_neg (fun h => h hb)]
  unfold rawE
  rw [hr]
  exact h0
/-- The law's fixed text. -/
def monthlyS : List UInt8 := [101, 118, 101, 114, 121, 32, 49, 32, 109, 111, 110, 116, 104, 32, 102, 114, 111, 109, 32, 49, 32, 117, 110, 116, 105, 108, 32, 49, 48, 48, 32, 109, 111, 110, 116, 104, 100, 97, 121, 115, 32, 45, 49]
theorem monthly_ok : parseE monthlyS = 0 ∧ rawR monthlyS = (3, 1, 1, 100, 0, [], [-1], []) := ⟨by decide +kernel, by kernel_rfl⟩
theorem parse_ok {S : List UInt8} (h : parseE S = 0) : 1 ≤ (rawR S).1 ∧ backS S = S ∧ rawE S = 0 := by
  unfold parseE at h
  split at h
  · omega
  split at h
  · omega
  rename_i h1
  split at h
  · omega
  rename_i h2
  exact ⟨by omega, by simpa using h2, h⟩
end Go.Proofs.YtdmkghgachapaaaDoor
