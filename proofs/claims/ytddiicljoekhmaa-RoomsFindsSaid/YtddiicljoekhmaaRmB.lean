/- The law's pair of names; new rooms of this pair; books.bookError. -/
import Derived.Test.YtddiicljoekhmaaRmA
namespace Go.Proofs.Ytddiicljoekhmaa
set_option linter.unusedVariables false
set_option maxRecDepth 100000
open Go.RowKit

def PairOut (w : World) (e : Ending) (w' : World) : Prop := ∃ b, e = .returned (.slice (some ⟨b, 0, none⟩) 2 2) ∧ Txts w' w'.heap.size (some ⟨b, 0, none⟩) 2 [one3, two3] ∧ Below w.heap.size w w'
theorem pair_at {w : World} {b : Nat} {t : TypeId} (h : At w b (.cells #[.string ⟨#[111, 110, 101]⟩, .string ⟨#[116, 119, 111]⟩] t)) : Txts w w.heap.size (some ⟨b, 0, none⟩) 2 [one3, two3] := by
  refine ⟨rfl, by omega, fun _ => ⟨b, 0, rfl, h.lt, fun i x hx j v hv => ?_⟩⟩
  match i, hx with
  | 0, hx =>
    simp at hx; subst hx
    match j, hv with
    | 0, hv => simp [encT] at hv; subst hv; exact h.cell 0
  | 1, hx =>
    simp at hx; subst hx
    match j, hv with
    | 0, hv => simp [encT] at hv; subst hv; exact h.cell 1
theorem law_pair (w : World) : Calls Try.prog 10 #[] w (PairOut w) := by
  go_enter Try.func10, Try.ntmps10
  go_wp2_with fail
  go_ret
  exact ⟨_, rfl, pair_at (At.new w _), by (repeat' (first | exact Below.refl _ _ | assumption | refine Below.drew ?_ | refine below_drewN ?_ _ | refine below_new ?_ _ | refine below_set ?_ ?_ _ | refine below_then ?_ (by assumption) | refine below_drawn ?_ (by assumption) | exact Nat.le_refl _ | omega | (simp; done) | (simp; omega)))⟩
theorem newE_pair : newE [one3, two3] = 0 := by decide +kernel
theorem st_of_new {w w' : World} {v : Value} (h : NewOk w w' [one3, two3] v) : ∃ P gn gb cn, v = .pointer (some ⟨P, 0, none⟩) ∧ w.heap.size ≤ P ∧ w.heap.size ≤ gn ∧ w.heap.size ≤ gb ∧ RoomsSt w' P gn gb cn w'.heap.size (.slice none 0 0) (.slice none 0 0) [] [] := by
  obtain ⟨P, gn, gb, cn, e, h1, h2, h3, h4, a1, tx, a2⟩ := h
  have hgn : gn < w'.heap.size := by
    obtain ⟨_, _, _, e, hb, _⟩ := txts_at tx (k := 0) (by simp)
    injection e with e; injection e with e1 e2; omega
  have hm : madeCells (Value.slice none 0 0).cells [one3, two3].length = #[.slice none 0 0, .slice none 0 0] := by first | kernel_rfl | (simp [madeCells, Value.cells, one3, two3]; done)
  rw [hm] at a2
  exact ⟨P, gn, gb, cn, e, h1, h2, h3, ⟨a1, tx, a2⟩, ⟨a1.lt, hgn, a2.lt, Nat.le_refl _, h4⟩, World.ownsRow_nil _ _ _ _, World.ownsRow_nil _ _ _ _, .inl rfl, by simp, by simp⟩
theorem has_pair (r : ByteArray) : hasS r [one3, two3] = decide (0 ≤ roomNo r) := by
  rw [← idxS_has r [one3, two3] 0, idx_room]
end Go.Proofs.Ytddiicljoekhmaa
