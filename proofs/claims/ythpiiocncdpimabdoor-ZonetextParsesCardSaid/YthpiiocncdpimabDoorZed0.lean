/- Edits of a zone's changes, plain: what one edit makes of a list in order. No model in this text. -/
import Derived.Test.YthpiiocncdpimabDoorZone0
namespace Go.Proofs.YthpiiocncdpimabDoor
set_option linter.unusedVariables false
set_option linter.unusedSimpArgs false
open Go.RowKit

abbrev Edt := Int × Chg
def Ord (l : List Chg) : Prop := l.Pairwise fun x y => x.1 < y.1
/-- The place of a change. -/
def idxC (c : Chg) : List Chg → Nat → Int
  | [], _ => -1
  | x :: r, k => if c = x then (k : Int) else idxC c r (k + 1)
def hasT (l : List Chg) (at_ : Int) : Bool := l.any fun x => decide (x.1 = at_)
/-- How many changes are earlier. -/
def cntT : List Chg → Int → Nat
  | [], _ => 0
  | x :: r, t => if x.1 < t then cntT r t + 1 else 0
def insC (l : List Chg) (c : Chg) : List Chg := l.take (cntT l c.1) ++ [c] ++ l.drop (cntT l c.1)
/-- One edit: an error, or the list. -/
def edF (l : List Chg) (e : Edt) : Int × List Chg :=
  if e.1 = 1 then (if (l.any fun x => decide (x = e.2)) = true then (0, l.filter fun x => decide (x ≠ e.2)) else (6, []))
  else if e.1 = 2 then (if hasT l e.2.1 = true then (7, []) else (0, insC l e.2))
  else (1, [])
def apF : List Edt → List Chg → Int × List Chg
  | [], l => (0, l)
  | e :: r, l => if (edF l e).1 = 0 then apF r (edF l e).2 else ((edF l e).1, [])
theorem idxC_bounds (c : Chg) : ∀ (l : List Chg) (k : Nat), idxC c l k = -1 ∨ ((k : Int) ≤ idxC c l k ∧ idxC c l k < ((k + l.length : Nat) : Int))
  | [], k => .inl rfl
  | x :: r, k => by
    unfold idxC
    split
    · right; simp; omega
    · rcases idxC_bounds c r (k + 1) with h | ⟨h1, h2⟩
      · exact .inl h
      · right; simp at h2 ⊢; omega
theorem idxC_neg (c : Chg) : ∀ (l : List Chg) (k : Nat), idxC c l k < 0 ↔ c ∉ l
  | [], k => by simp [idxC]
  | x :: r, k => by
    unfold idxC
    by_cases h : c = x
    · rw [if_pos h]; simp [h]
    · rw [if_neg h, idxC_neg c r (k + 1)]; simp [h]
theorem ord_ne {x : Chg} {r : List Chg} (h : Ord (x :: r)) : ∀ y ∈ r, y ≠ x := fun y hy e => by
  have := (List.pairwise_cons.1 h).1 y hy
  rw [e] at this; omega
theorem idxC_del (c : Chg) : ∀ (l : List Chg) (k i : Nat), Ord l → idxC c l k = ((k + i : Nat) : Int) → l.take i ++ l.drop (i + 1) = l.filter fun x => decide (x ≠ c)
  | [], k, i, _, h => by simp [idxC] at h; omega
  | x :: r, k, i, ho, h => by
    unfold idxC at h
    by_cases hc : c = x
    · rw [if_pos hc] at h
      obtain rfl : i = 0 := by omega
      subst hc
      have h2 : r.filter (fun x => decide (x ≠ c)) = r := List.filter_eq_self.2 fun y hy => by simpa using ord_ne ho y hy
      simp only [List.take_zero, List.nil_append, Nat.zero_add, List.drop_succ_cons, List.drop_zero]
      rw [List.filter_cons, if_neg (by simp)]
      exact h2.symm
    · rw [if_neg hc] at h
      have hb := idxC_bounds c r (k + 1)
      obtain ⟨j, rfl⟩ : ∃ j, i = j + 1 := ⟨i - 1, by omega⟩
      have ih := idxC_del c r (k + 1) j (List.pairwise_cons.1 ho).2 (by rw [h]; omega)
      rw [List.filter_cons, if_pos (by simpa using fun e => hc e.symm)]
      show x :: (r.take j ++ r.drop (j + 1)) = _
      rw [ih]
theorem cntT_le : ∀ (l : List Chg) (t : Int), cntT l t ≤ l.length
  | [], t => by simp [cntT]
  | x :: r, t => by unfold cntT; split <;> simp; have := cntT_le r t; omega
/-- In a list in order: just the first are earlier. -/
theorem cntT_spec : ∀ (l : List Chg) (t : Int), Ord l → ∀ (i : Nat) (x : Chg), l[i]? = some x → (x.1 < t ↔ i < cntT l t)
  | [], t, _, i, x, h => by simp at h
  | y :: r, t, ho, 0, x, h => by
    injection h with h; subst h
    unfold cntT
    by_cases hy : y.1 < t
    · rw [if_pos hy]; simp [hy]
    · rw [if_neg hy]; simp [hy]
  | y :: r, t, ho, i + 1, x, h => by
    have hx : x ∈ r := List.mem_of_getElem? h
    have h1 := (List.pairwise_cons.1 ho).1 x hx
    have ih := cntT_spec r t (List.pairwise_cons.1 ho).2 i x h
    unfold cntT
    by_cases hy : y.1 < t
    · rw [if_pos hy, ih]; omega
    · rw [if_neg hy]; constructor <;> intro h2 <;> omega
theorem cntT_uniq {l : List Chg} {t : Int} (ho : Ord l) {k : Nat} (hk : k ≤ l.length) (h1 : ∀ i x, i < k → l[i]? = some x → x.1 < t) (h2 : ∀ i x, k ≤ i → l[i]? = some x → ¬ x.1 < t) : cntT l t = k := by
  have hl := cntT_le l t
  rcases Nat.lt_trichotomy (cntT l t) k with h | h | h
  · have hg : l[cntT l t]? = some (l[cntT l t]'(by omega)) := List.getElem?_eq_getElem _
    have := (cntT_spec l t ho _ _ hg).1 (h1 _ _ h hg)
    omega
  · exact h
  · have hg : l[k]? = some (l[k]'(by omega)) := List.getElem?_eq_getElem _
    exact absurd ((cntT_spec l t ho _ _ hg).2 h) (h2 _ _ (Nat.le_refl _) hg)
/-- The first one that is not earlier has this instant just if one has it. -/
theorem hasT_at {l : List Chg} {t : Int} (ho : Ord l) : hasT l t = match l[cntT l t]? with | some x => decide (x.1 = t) | none => false := by
  cases hg : l[cntT l t]? with
  | none =>
    have hlen : l.length ≤ cntT l t := List.getElem?_eq_none_iff.1 hg
    unfold hasT
    rw [List.any_eq_false]
    intro x hx
    obtain ⟨i, hi, rfl⟩ := List.getElem_of_mem hx
    have := (cntT_spec l t ho i _ (List.getElem?_eq_getElem hi)).2 (by omega)
    simp; omega
  | some y =>
    show _ = decide (y.1 = t)
    by_cases hy : y.1 = t
    · rw [decide_eq_true hy]
      unfold hasT
      rw [List.any_eq_true]
      exact ⟨y, List.mem_of_getElem? hg, by simpa using hy⟩
    · rw [decide_eq_false hy]
      unfold hasT
      rw [List.any_eq_false]
      intro x hx
      obtain ⟨i, hi, rfl⟩ := List.getElem_of_mem hx
      have hsp := cntT_spec l t ho i _ (List.getElem?_eq_getElem hi)
      have hny := cntT_spec l t ho _ _ hg
      rcases Nat.lt_trichotomy i (cntT l t) with h | h | h
      · have := hsp.2 h; simp; omega
      · have : l[i] = y := by
          have h3 := List.getElem?_eq_getElem hi
          rw [show l[i]? = l[cntT l t]? from congrArg (fun n => l[n]?) h, hg] at h3; injection h3 with h3; exact h3.symm
        rw [this]; simpa using hy
      · have h4 : y.1 < l[i].1 := by
          have hlt : cntT l t < l.length := by omega
          have := List.pairwise_iff_getElem.1 ho (cntT l t) i hlt hi h
          have h3 := List.getElem?_eq_getElem hlt
          rw [hg] at h3; injection h3 with h3; rw [h3]; exact this
        have h5 : ¬ y.1 < t := fun h6 => by have := hny.1 h6; omega
        simp; omega
theorem ord_filter {l : List Chg} (h : Ord l) (p : Chg → Bool) : Ord (l.filter p) := h.filter p
theorem ord_ins {l : List Chg} (ho : Ord l) (c : Chg) (hn : hasT l c.1 = false) : Ord (insC l c) := by
  unfold insC Ord
  have hnot : ∀ x ∈ l, x.1 ≠ c.1 := fun x hx e => by
    unfold hasT at hn
    rw [List.any_eq_false] at hn
    exact hn x hx (by simpa using e)
  rw [List.pairwise_append, List.pairwise_append]
  refine ⟨⟨ho.sublist (List.take_sublist _ _), List.pairwise_singleton _ _, ?_⟩, ho.sublist (List.drop_sublist _ _), ?_⟩
  · intro x hx y hy
    rw [List.mem_singleton] at hy; subst hy
    obtain ⟨i, hi, rfl⟩ := List.getElem_of_mem hx
    rw [List.length_take] at hi
    rw [List.getElem_take]
    exact (cntT_spec l y.1 ho i _ (List.getElem?_eq_getElem (by omega))).2 (by omega)
  · intro x hx y hy
    obtain ⟨j, hj, rfl⟩ := List.getElem_of_mem hy
    rw [List.length_drop] at hj
    rw [List.getElem_drop]
    have hjl : cntT l c.1 + j < l.length := by omega
    have hnl := fun h => (cntT_spec l c.1 ho (cntT l c.1 + j) _ (List.getElem?_eq_getElem hjl)).1 h
    have hge : ¬ l[cntT l c.1 + j].1 < c.1 := fun h => by have := hnl h; omega
    rcases List.mem_append.1 hx with hx | hx
    · obtain ⟨i, hi, rfl⟩ := List.getElem_of_mem hx
      rw [List.length_take] at hi
      rw [List.getElem_take]
      exact List.pairwise_iff_getElem.1 ho i (cntT l c.1 + j) (by omega) (by omega) (by omega)
    · rw [List.mem_singleton] at hx; subst hx
      have := hnot _ (List.getElem_mem (show cntT l x.1 + j < l.length by omega))
      omega
theorem ord_ed {l : List Chg} (ho : Ord l) (e : Edt) : Ord (edF l e).2 := by
  unfold edF
  split
  · split
    · exact ord_filter ho _
    · exact List.Pairwise.nil
  · split
    · split
      · exact List.Pairwise.nil
      · rename_i h; exact ord_ins ho e.2 (by simpa using h)
    · exact List.Pairwise.nil
theorem ord_of : ∀ (xs : List Chg) (p : Option Int), chgErr p xs = 0 → Ord xs ∧ ∀ q, p = some q → ∀ x ∈ xs, q < x.1
  | [], p, _ => ⟨List.Pairwise.nil, by simp⟩
  | (t, o, l) :: r, p, h => by
    rw [chgErr_cons] at h
    by_cases h1 : (instB t && offB o) = false
    · rw [if_pos h1] at h; cases h
    rw [if_neg h1] at h
    by_cases h2 : labelB l = false
    · rw [if_pos h2] at h; cases h
    rw [if_neg h2] at h
    have hr : chgErr (some t) r = 0 ∧ ∀ q, p = some q → q < t := by
      cases p with
      | none => exact ⟨by simpa using h, by simp⟩
      | some q =>
        by_cases hq : t ≤ q
        · simp [hq] at h
        · exact ⟨by simpa [hq] using h, fun q' hq' => by injection hq' with hq'; omega⟩
    obtain ⟨i1, i2⟩ := ord_of r (some t) hr.1
    refine ⟨List.pairwise_cons.2 ⟨fun x hx => i2 t rfl x hx, i1⟩, fun q hq x hx => ?_⟩
    have h4 := hr.2 q hq
    rcases List.mem_cons.1 hx with rfl | hx
    · exact h4
    · have := i2 t rfl x hx; omega
theorem zone_ord {s : ByteArray} {f : Int} {xs : List Chg} (h : zoneErr s f xs = 0) : Ord xs ∧ xs.length ≤ 200 := by
  unfold zoneErr at h
  split at h
  · cases h
  · split at h
    · cases h
    · split at h
      · cases h
      · exact ⟨(ord_of xs none h).1, by omega⟩
theorem edF_len (l : List Chg) (e : Edt) : (edF l e).2.length ≤ l.length + 1 := by
  unfold edF
  split
  · split
    · have := List.length_filter_le (fun x => decide (x ≠ e.2)) l
      exact Nat.le_succ_of_le this
    · simp
  · split
    · split
      · simp
      · unfold insC
        have := cntT_le l e.2.1
        rw [List.length_append, List.length_append, List.length_take, List.length_drop]; simp; omega
    · simp
end Go.Proofs.YthpiiocncdpimabDoor
