/- Several texts in one: CalB, ReformBase. -/
import Derived.Test.YtlpbaljoanfogaaGreatDoorMgX
import Derived.Test.YtlpbaljoanfogaaGreatDoorRefm
set_option linter.unusedSimpArgs false
namespace Go.Proofs.YtlpbaljoanfogaaGreatDoor
set_option linter.unusedVariables false
set_option maxRecDepth 100000
open Go.RowKit Go.Shelf
theorem calB_row {s : ByteArray} (h : calB s = true) : ∃ row, rowOf s.data.toList = some row := by
  cases hro : rowOf s.data.toList with
  | some row => exact ⟨row, rfl⟩
  | none =>
    have h1 := textOf_row9 s.data.toList
    rw [hro] at h1
    have h2 := (textOf_nil s).1 h1
    rw [h2] at h
    cases h
end Go.Proofs.YtlpbaljoanfogaaGreatDoor

set_option linter.unusedSimpArgs false
namespace Go.Proofs.YtlpbaljoanfogaaGreatDoor
set_option linter.unusedVariables false
set_option maxRecDepth 100000
open Go.RowKit Go.Shelf
def sChange : ByteArray := ⟨#[99, 104, 97, 110, 103, 101]⟩
def sJulian : ByteArray := ⟨#[106, 117, 108, 105, 97, 110]⟩
def sGregorian : ByteArray := ⟨#[103, 114, 101, 103, 111, 114, 105, 97, 110]⟩
def chgParts : List Prt := [(-4000000, sJulian), (577736, sGregorian)]
abbrev chgO (s : ByteArray) : Obj := .cells #[.int .i64 (-4000000), .string sJulian, .int .i64 577736, .string s] 44
theorem parts_two {w : World} {G : Nat} {s : ByteArray} (h : At w G (chgO s)) (hs : s.size ≤ 9223372036854775807) : Parts w w.heap.size (some ⟨G, 0, none⟩) 2 [(-4000000, sJulian), (577736, s)] := by
  refine ⟨⟨rfl, by omega, fun _ => ⟨G, 0, rfl, h.lt, fun i x hx j v hv => ?_⟩⟩, fun x hx => ?_⟩
  · have c0 := h.cell 0; have c1 := h.cell 1; have c2 := h.cell 2; have c3 := h.cell 3
    match i, hx with
    | 0, hx =>
      simp at hx; subst hx
      match j, hv with
      | 0, hv => simp [encPrt] at hv; subst hv; simpa using c0
      | 1, hv => simp [encPrt] at hv; subst hv; simpa using c1
    | 1, hx =>
      simp at hx; subst hx
      match j, hv with
      | 0, hv => simp [encPrt] at hv; subst hv; simpa using c2
      | 1, hv => simp [encPrt] at hv; subst hv; simpa using c3
  · simp at hx
    rcases hx with rfl | rfl
    · exact ⟨⟨by decide, by decide⟩, by decide⟩
    · exact ⟨⟨by show (-9223372036854775808 : Int) ≤ 577736; decide, by show (577736 : Int) ≤ 9223372036854775807; decide⟩, hs⟩
def ChgPost (w : World) (e : Ending) (w' : World) : Prop := ∃ G, e = .returned (.agg #[.string sChange, .slice (some ⟨G, 0, none⟩) 2 2]) ∧ At w' G (chgO sGregorian) ∧ w.heap.size ≤ G ∧ Below w.heap.size w w'
set_option maxHeartbeats 1000000 in
theorem law_change (w : World) : Calls Tryz.prog 10 #[] w (ChgPost w) := by
  go_enter Tryz.func10, Tryz.ntmps10
  go_wp2
  refine bodyPost_ret (v := .agg #[.string sChange, .slice (some ⟨w.heap.size + 1, 0, none⟩) 2 2]) (by simp [results, Tryz.results10, go_sem, sChange]) rfl ?_
  have h1 := At.new (w.alloc (.cells #[.string sChange, .slice (some ⟨w.heap.size + 1, 0, none⟩) 2 2] 24)) (chgO sGregorian)
  rw [World.size_alloc] at h1
  exact ⟨_, rfl, h1, by omega, below_new (below_new (Below.refl _ _) _) _⟩
end Go.Proofs.YtlpbaljoanfogaaGreatDoor
