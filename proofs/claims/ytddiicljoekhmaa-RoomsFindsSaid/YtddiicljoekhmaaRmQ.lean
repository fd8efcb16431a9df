/- Rooms, plain: the plain list and the rows of each room. -/
import Derived.Test.YtddiicljoekhmaaRmP
namespace Go.Proofs.Ytddiicljoekhmaa
set_option linter.unusedVariables false
set_option linter.unusedSimpArgs false
open Go.RowKit

theorem mem_insE (l : List Bkg) (x y : Bkg) : y ∈ insE l x ↔ y ∈ l ∨ y = x := by
  unfold insE
  rw [List.mem_append, List.mem_append, List.mem_singleton]
  constructor
  · rintro ((h | h) | h)
    · exact .inl (List.mem_of_mem_take h)
    · exact .inr h
    · exact .inl (List.mem_of_mem_drop h)
  · rintro (h | h)
    · rw [← List.take_append_drop (bkI l x.2.1 l.length) l, List.mem_append] at h
      rcases h with h | h
      · exact .inl (.inl h)
      · exact .inr h
    · exact .inl (.inr h)
theorem ofF_snoc (r : ByteArray) : ∀ (l acc : List Bkg) (x : Bkg), ofF r acc (l ++ [x]) = if x.1 = r then insE (ofF r acc l) x else ofF r acc l
  | [], acc, x => by rw [List.nil_append, ofF_cons]; rfl
  | y :: l, acc, x => by
    rw [List.cons_append, ofF_cons, ofF_cons]
    split
    · exact ofF_snoc r l (insE acc y) x
    · exact ofF_snoc r l acc x
theorem mem_ofF (r : ByteArray) : ∀ (l acc : List Bkg) (y : Bkg), y ∈ ofF r acc l ↔ y ∈ acc ∨ (y ∈ l ∧ y.1 = r)
  | [], acc, y => by simp [ofF]
  | x :: l, acc, y => by
    rw [ofF_cons]
    by_cases h : x.1 = r
    · rw [if_pos h, mem_ofF r l (insE acc x) y, mem_insE, List.mem_cons]
      constructor
      · rintro ((h1 | h1) | ⟨h1, h2⟩)
        · exact .inl h1
        · exact .inr ⟨.inl h1, by rw [h1]; exact h⟩
        · exact .inr ⟨.inr h1, h2⟩
      · rintro (h1 | ⟨h1 | h1, h2⟩)
        · exact .inl (.inl h1)
        · exact .inl (.inr h1)
        · exact .inr ⟨h1, h2⟩
    · rw [if_neg h, mem_ofF r l acc y, List.mem_cons]
      constructor
      · rintro (h1 | ⟨h1, h2⟩)
        · exact .inl h1
        · exact .inr ⟨.inr h1, h2⟩
      · rintro (h1 | ⟨h1 | h1, h2⟩)
        · exact .inl h1
        · exact absurd (by rw [← h1]; exact h2) h
        · exact .inr ⟨h1, h2⟩
/-- Overlaps of the plain list are those of the room's row. -/
theorem lap_of (r : ByteArray) (f t : Int) (l : List Bkg) : l.any (lapR r f t) = (ofF r [] l).any (lapB f t) := by
  rw [Bool.eq_iff_iff, List.any_eq_true, List.any_eq_true]
  constructor
  · rintro ⟨x, hx, h⟩
    unfold lapR at h
    rw [Bool.and_eq_true] at h
    exact ⟨x, (mem_ofF r l [] x).2 (.inr ⟨hx, by simpa using h.1⟩), h.2⟩
  · rintro ⟨x, hx, h⟩
    rcases (mem_ofF r l [] x).1 hx with h1 | ⟨h1, h2⟩
    · cases h1
    · exact ⟨x, h1, by unfold lapR; rw [Bool.and_eq_true]; exact ⟨by simpa using h2, h⟩⟩
/-- A stretch that overlaps none begins where none begins. -/
theorem lap_ne {f t : Int} {l : List Bkg} (hft : f < t) (hl : ∀ x ∈ l, x.2.1 < x.2.2.1) (h : l.any (lapB f t) = false) : ∀ x ∈ l, x.2.1 ≠ f := by
  intro x hx e
  rw [List.any_eq_false] at h
  refine h x hx ?_
  unfold lapB
  have := hl x hx
  rw [Bool.and_eq_true]
  exact ⟨decide_eq_true (by omega), decide_eq_true (by omega)⟩
theorem ofF_book {r : ByteArray} {f t : Int} {x : ByteArray} {l : List Bkg} (ho : SortB (ofF r [] l)) (hl : ∀ y ∈ l, y.2.1 < y.2.2.1) (hft : f < t) (h : l.any (lapR r f t) = false) :
    ofF r [] (l ++ [(r, f, t, x)]) = insF (r, f, t, x) (ofF r [] l) ∧ SortB (ofF r [] (l ++ [(r, f, t, x)])) := by
  have hne : ∀ y ∈ ofF r [] l, y.2.1 ≠ f := by
    refine lap_ne hft (fun y hy => ?_) (by rw [← lap_of]; exact h)
    rcases (mem_ofF r l [] y).1 hy with h1 | ⟨h1, _⟩
    · cases h1
    · exact hl y h1
  have e : ofF r [] (l ++ [(r, f, t, x)]) = insF (r, f, t, x) (ofF r [] l) := by
    rw [ofF_snoc, if_pos rfl, insE_insF ho hne]
  exact ⟨e, by rw [e]; exact sortB_ins ho hne⟩
theorem ofF_other {r s : ByteArray} {f t : Int} {x : ByteArray} {l : List Bkg} (h : r ≠ s) : ofF s [] (l ++ [(r, f, t, x)]) = ofF s [] l := by
  rw [ofF_snoc, if_neg h]
end Go.Proofs.Ytddiicljoekhmaa
