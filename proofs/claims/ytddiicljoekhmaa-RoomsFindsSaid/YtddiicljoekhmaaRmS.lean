/- Rooms, plain: a dropped booking. -/
import Derived.Test.YtddiicljoekhmaaRmR
namespace Go.Proofs.Ytddiicljoekhmaa
set_option linter.unusedVariables false
set_option linter.unusedSimpArgs false
open Go.RowKit

theorem split_at {l : List Bkg} {i : Nat} {y : Bkg} (h : l[i]? = some y) : l = l.take i ++ y :: l.drop (i + 1) := by
  obtain ⟨hl, rfl⟩ := List.getElem?_eq_some_iff.1 h
  rw [List.getElem_cons_drop, List.take_append_drop]
theorem mem_del {R : Bkg → Bkg → Prop} {l : List Bkg} {i : Nat} {y : Bkg} (hp : l.Pairwise R) (h : l[i]? = some y) (hR : ¬ R y y) (z : Bkg) : z ∈ l.take i ++ l.drop (i + 1) ↔ z ∈ l ∧ z ≠ y := by
  have hs := split_at h
  have hp' := hp
  rw [hs] at hp'
  obtain ⟨_, p2, p3⟩ := List.pairwise_append.1 hp'
  have p4 := (List.pairwise_cons.1 p2).1
  rw [List.mem_append]
  constructor
  · rintro (hz | hz)
    · exact ⟨List.mem_of_mem_take hz, fun e => hR (by have := p3 z hz y List.mem_cons_self; rwa [e] at this)⟩
    · exact ⟨List.mem_of_mem_drop hz, fun e => hR (by have := p4 z hz; rwa [e] at this)⟩
  · rintro ⟨hz, hne⟩
    rw [hs, List.mem_append, List.mem_cons] at hz
    rcases hz with hz | hz | hz
    · exact .inl hz
    · exact absurd hz hne
    · exact .inr hz
theorem idxP_get (p : Bkg → Bool) : ∀ (l : List Bkg) (k i : Nat), idxP p l k = ((k + i : Nat) : Int) → ∃ y, l[i]? = some y ∧ p y = true
  | [], k, i, h => by simp [idxP] at h; omega
  | x :: r, k, i, h => by
    rw [idxP_cons] at h
    by_cases hp : p x = true
    · rw [if_pos hp] at h
      obtain rfl : i = 0 := by omega
      exact ⟨x, rfl, hp⟩
    · rw [if_neg hp] at h
      have hb := idxP_bounds p r (k + 1)
      obtain ⟨j, rfl⟩ : ∃ j, i = j + 1 := ⟨i - 1, by omega⟩
      obtain ⟨y, hy, hp2⟩ := idxP_get p r (k + 1) j (by rw [h]; omega)
      exact ⟨y, by simpa using hy, hp2⟩
theorem sortB_one {l : List Bkg} (h : SortB l) {x y : Bkg} (hx : x ∈ l) (hy : y ∈ l) (e : x.2.1 = y.2.1) : x = y := by
  obtain ⟨i, hi, rfl⟩ := List.getElem_of_mem hx
  obtain ⟨j, hj, rfl⟩ := List.getElem_of_mem hy
  rcases Nat.lt_trichotomy i j with hij | hij | hij
  · have := List.pairwise_iff_getElem.1 h i j hi hj hij; omega
  · subst hij; rfl
  · have := List.pairwise_iff_getElem.1 h j i hj hi hij; omega
/-- The row without the booking that begins there. -/
theorem mem_delB {l : List Bkg} {f : Int} {y : Bkg} (h : SortB l) (hy : y ∈ l) (e : y.2.1 = f) (z : Bkg) : z ∈ delB f l ↔ z ∈ l ∧ z ≠ y := by
  have hany : l.any (atB f) = true := by
    rw [List.any_eq_true]; exact ⟨y, hy, by unfold atB; exact decide_eq_true e⟩
  have h0 : 0 ≤ idxP (atB f) l 0 := by
    have := idxP_any (atB f) l 0
    rw [hany] at this
    exact of_decide_eq_true this
  obtain ⟨i, hi⟩ := Int.eq_ofNat_of_zero_le h0
  obtain ⟨y', hg, hp⟩ := idxP_get (atB f) l 0 i (by rw [hi]; simp)
  have hy' : y' = y := sortB_one h (List.mem_of_getElem? hg) hy (by
    unfold atB at hp
    have := of_decide_eq_true hp
    omega)
  subst hy'
  unfold delB
  rw [hi]
  exact mem_del (R := fun x y => x.2.1 < y.2.1) h hg (by omega) z
theorem sortB_delB {l : List Bkg} (f : Int) (h : SortB l) : SortB (delB f l) := sortB_del h
/-- Drop: the plain list without the booking, and the rows. -/
theorem ofF_drop {l : List Bkg} {i : Nat} {y : Bkg} (h : OneEach l) (hg : l[i]? = some y) :
    ofF y.1 [] (l.take i ++ l.drop (i + 1)) = delB y.2.1 (ofF y.1 [] l) ∧ ∀ s, s ≠ y.1 → ofF s [] (l.take i ++ l.drop (i + 1)) = ofF s [] l := by
  have hR : ¬ (y.1 = y.1 → y.2.1 ≠ y.2.1) := fun hh => hh rfl rfl
  have hm := mem_del (R := fun x y => x.1 = y.1 → x.2.1 ≠ y.2.1) h hg hR
  have hyl : y ∈ l := List.mem_of_getElem? hg
  have hy1 : y ∈ ofF y.1 [] l := (mem_ofF y.1 l [] y).2 (.inr ⟨hyl, rfl⟩)
  refine ⟨sortB_ext _ _ (sort_of _ _ (oneEach_del h)) (sortB_delB _ (sort_of _ _ h)) (fun z => ?_), fun s hs => sortB_ext _ _ (sort_of _ _ (oneEach_del h)) (sort_of _ _ h) (fun z => ?_)⟩
  · rw [mem_delB (sort_of _ _ h) hy1 rfl z, mem_ofF, mem_ofF, hm]
    constructor
    · rintro (h1 | ⟨⟨h1, h2⟩, h3⟩)
      · cases h1
      · exact ⟨.inr ⟨h1, h3⟩, h2⟩
    · rintro ⟨h1 | ⟨h1, h3⟩, h2⟩
      · cases h1
      · exact .inr ⟨⟨h1, h2⟩, h3⟩
  · rw [mem_ofF, mem_ofF, hm]
    constructor
    · rintro (h1 | ⟨⟨h1, h2⟩, h3⟩)
      · cases h1
      · exact .inr ⟨h1, h3⟩
    · rintro (h1 | ⟨h1, h3⟩)
      · cases h1
      · exact .inr ⟨⟨h1, fun e => hs (by rw [← h3, e])⟩, h3⟩
end Go.Proofs.Ytddiicljoekhmaa
