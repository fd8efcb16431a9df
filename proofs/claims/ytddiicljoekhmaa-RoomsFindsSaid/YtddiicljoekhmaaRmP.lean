/- Rooms, plain: the place from the front is the place from behind. -/
import Derived.Test.YtddiicljoekhmaaRmB
namespace Go.Proofs.Ytddiicljoekhmaa
set_option linter.unusedVariables false
set_option linter.unusedSimpArgs false
open Go.RowKit

def SortB (l : List Bkg) : Prop := l.Pairwise fun x y => x.2.1 < y.2.1
theorem leadF_le : ∀ (l : List Bkg) (f : Int), leadF l f ≤ l.length
  | [], f => Nat.le_refl _
  | x :: r, f => by
    rw [leadF_cons]
    have := leadF_le r f
    split <;> simp <;> omega
theorem leadF_spec : ∀ (l : List Bkg) (f : Int), SortB l → ∀ (i : Nat) (x : Bkg), l[i]? = some x → (x.2.1 < f ↔ i < leadF l f)
  | [], f, _, i, x, h => by simp at h
  | y :: r, f, ho, 0, x, h => by
    injection h with h; subst h
    rw [leadF_cons]
    by_cases hy : y.2.1 < f
    · rw [if_pos hy]; simp [hy]
    · rw [if_neg hy]; simp [hy]
  | y :: r, f, ho, i + 1, x, h => by
    have hx : x ∈ r := List.mem_of_getElem? h
    have h1 := (List.pairwise_cons.1 ho).1 x hx
    have ih := leadF_spec r f (List.pairwise_cons.1 ho).2 i x h
    rw [leadF_cons]
    by_cases hy : y.2.1 < f
    · rw [if_pos hy, ih]; omega
    · rw [if_neg hy]; constructor <;> intro h2 <;> omega
theorem bkI_spec (l : List Bkg) (f : Int) : ∀ j, j ≤ l.length → bkI l f j ≤ j ∧ (∀ i x, bkI l f j ≤ i → i < j → l[i]? = some x → f < x.2.1) ∧ (bkI l f j = 0 ∨ ∃ x, l[bkI l f j - 1]? = some x ∧ x.2.1 ≤ f)
  | 0, _ => ⟨Nat.le_refl _, fun i x _ h => by omega, .inl rfl⟩
  | j + 1, h => by
    have hg : l[j]? = some (l[j]'(by omega)) := List.getElem?_eq_getElem _
    rw [bkI_some hg]
    obtain ⟨i1, i2, i3⟩ := bkI_spec l f j (by omega)
    by_cases hc : f < (l[j]'(by omega)).2.1
    · rw [if_pos hc]
      refine ⟨by omega, fun i x h1 h2 hx => ?_, i3⟩
      rcases Nat.lt_or_ge i j with h3 | h3
      · exact i2 i x h1 h3 hx
      · obtain rfl : i = j := by omega
        rw [hg] at hx; injection hx with hx; subst hx; exact hc
    · rw [if_neg hc]
      exact ⟨Nat.le_refl _, fun i x h1 h2 _ => by omega, .inr ⟨l[j]'(by omega), by rw [Nat.add_sub_cancel]; exact hg, by omega⟩⟩
theorem lead_bk {l : List Bkg} {f : Int} (ho : SortB l) (hne : ∀ x ∈ l, x.2.1 ≠ f) : bkI l f l.length = leadF l f := by
  obtain ⟨h1, h2, h3⟩ := bkI_spec l f l.length (Nat.le_refl _)
  have hl := leadF_le l f
  rcases Nat.lt_trichotomy (bkI l f l.length) (leadF l f) with h | h | h
  · have hg : l[bkI l f l.length]? = some (l[bkI l f l.length]'(by omega)) := List.getElem?_eq_getElem _
    have a := (leadF_spec l f ho _ _ hg).2 h
    have b := h2 _ _ (Nat.le_refl _) (by omega) hg
    omega
  · exact h
  · rcases h3 with h3 | ⟨x, hx, h3⟩
    · omega
    · have hlt : x.2.1 < f := by
        have := hne x (List.mem_of_getElem? hx); omega
      have := (leadF_spec l f ho _ _ hx).1 hlt
      omega
/-- So the law's row and the program's row are told by the same insertion. -/
theorem insE_insF {l : List Bkg} {x : Bkg} (ho : SortB l) (hne : ∀ y ∈ l, y.2.1 ≠ x.2.1) : insE l x = insF x l := by
  unfold insE insF
  rw [lead_bk ho hne]
theorem sortB_ins {l : List Bkg} {x : Bkg} (ho : SortB l) (hne : ∀ y ∈ l, y.2.1 ≠ x.2.1) : SortB (insF x l) := by
  unfold insF SortB
  have hl := leadF_le l x.2.1
  rw [List.pairwise_append, List.pairwise_append]
  refine ⟨⟨ho.sublist (List.take_sublist _ _), List.pairwise_singleton _ _, ?_⟩, ho.sublist (List.drop_sublist _ _), ?_⟩
  · intro a ha b hb
    rw [List.mem_singleton] at hb; subst hb
    obtain ⟨i, hi, rfl⟩ := List.getElem_of_mem ha
    rw [List.length_take] at hi
    rw [List.getElem_take]
    exact (leadF_spec l b.2.1 ho i _ (List.getElem?_eq_getElem (by omega))).2 (by omega)
  · intro a ha b hb
    obtain ⟨j, hj, rfl⟩ := List.getElem_of_mem hb
    rw [List.length_drop] at hj
    rw [List.getElem_drop]
    have hjl : leadF l x.2.1 + j < l.length := by omega
    have hnl := fun h => (leadF_spec l x.2.1 ho (leadF l x.2.1 + j) _ (List.getElem?_eq_getElem hjl)).1 h
    have hge : ¬ l[leadF l x.2.1 + j].2.1 < x.2.1 := fun h => by have := hnl h; omega
    rcases List.mem_append.1 ha with ha | ha
    · obtain ⟨i, hi, rfl⟩ := List.getElem_of_mem ha
      rw [List.length_take] at hi
      rw [List.getElem_take]
      exact List.pairwise_iff_getElem.1 ho i (leadF l x.2.1 + j) (by omega) (by omega) (by omega)
    · rw [List.mem_singleton] at ha; subst ha
      have := hne _ (List.getElem_mem hjl)
      omega
end Go.Proofs.Ytddiicljoekhmaa
