/- Periods of leap years over the whole cycle; the leap years up to a year: plain. -/
import Derived.Test.YtjpbkkoflaajcaaLeast1
namespace Go.Proofs.Ytjpbkkoflaajcaa
set_option linter.unusedVariables false
set_option maxRecDepth 100000
open Go.RowKit

theorem own_thenL {w w' : World} {base : Nat} {e : TypeId} {size : Nat} {v : Value} {n : Nat} {xs : List Value} (h : w.ownsRow base e size v n xs) (hb : Below w.heap.size w w') : w'.ownsRow base e size v n xs := by
  refine ⟨h.1, ?_⟩
  rcases h.2 with h0 | ⟨g, cap, cur, hv, hg, hat, rest⟩
  · exact .inl h0
  · exact .inr ⟨g, cap, cur, hv, hg, (show At w g _ from hat).then_ hb, rest⟩
theorem place_kL (C i : Nat) (h : i < C) : placeOf C ((i : Int) + 1) = (i : Int) := by
  have := place_at C 0 i h
  rw [show 1 + 0 * (C : Int) + (i : Int) = (i : Int) + 1 by omega] at this
  exact this
theorem place_nL (C i n : Nat) : placeOf C ((i : Int) + 1 + (n : Int)) = (((n + i) % C : Nat) : Int) := by
  rw [placeOf, show (i : Int) + 1 + (n : Int) - 1 = ((n + i : Nat) : Int) by omega]; exact (Int.natCast_emod (n + i) C).symm
/-- The first k years of a cycle are leap years just where those n years later are, round the cycle. -/
def lawTo (C : Nat) (ls : List Int) (n : Nat) : Nat → Bool
  | 0 => true
  | k + 1 => lawTo C ls n k && (flag ls (k : Int) == flag ls (((n + k) % C : Nat) : Int))
theorem lawTo_succ (C : Nat) (ls : List Int) (n k : Nat) : lawTo C ls n (k + 1) = (lawTo C ls n k && (flag ls (k : Int) == flag ls (((n + k) % C : Nat) : Int))) := rfl
theorem lawTo_false {C : Nat} {ls : List Int} {n k : Nat} (h : lawTo C ls n k = false) : ∀ K, k ≤ K → lawTo C ls n K = false
  | 0, hk => by
    have e : k = 0 := by omega
    rw [← e]; exact h
  | K + 1, hk => by
    rcases Nat.lt_or_ge K k with h1 | h1
    · have e : k = K + 1 := by omega
      rw [← e]; exact h
    · rw [lawTo_succ, lawTo_false h K h1]; rfl
theorem lawTo_at {C : Nat} {ls : List Int} {n : Nat} : ∀ {K : Nat}, lawTo C ls n K = true → ∀ i, i < K → flag ls (i : Int) = flag ls (((n + i) % C : Nat) : Int)
  | 0, _, i, hi => by omega
  | K + 1, h, i, hi => by
    rw [lawTo_succ, Bool.and_eq_true, beq_iff_eq] at h
    rcases Nat.lt_or_ge i K with h1 | h1
    · exact lawTo_at h.1 i h1
    · obtain rfl : i = K := by omega
      exact h.2
theorem lawTo_of {C : Nat} {ls : List Int} {n : Nat} : ∀ {K : Nat}, (∀ i, i < K → flag ls (i : Int) = flag ls (((n + i) % C : Nat) : Int)) → lawTo C ls n K = true
  | 0, _ => rfl
  | K + 1, h => by
    rw [lawTo_succ, lawTo_of (fun i hi => h i (by omega)), h K (by omega)]; simp
theorem per_chain {C : Nat} {ls : List Int} {n : Nat} (h : perTo ls n (C - n) = true) (j : Nat) : ∀ t : Nat, j + t * n < C → flag ls ((j + t * n : Nat) : Int) = flag ls (j : Int)
  | 0, _ => by rw [Nat.zero_mul, Nat.add_zero]
  | t + 1, ht => by
    rw [Nat.add_mul, Nat.one_mul] at ht ⊢
    have h1 := perTo_at h (j + t * n) (by omega)
    rw [show n + (j + t * n) = j + (t * n + n) by omega] at h1
    rw [h1]
    exact per_chain h j t (by omega)
theorem law_per {C n : Nat} {ls : List Int} (hn : 1 ≤ n) (hnC : n ≤ C) (hd : C % n = 0) : lawTo C ls n C = perTo ls n (C - n) := by
  cases h : perTo ls n (C - n) with
  | true =>
    refine lawTo_of fun i hi => ?_
    rcases Nat.lt_or_ge (n + i) C with h1 | h1
    · rw [Nat.mod_eq_of_lt h1]; exact (perTo_at h i (by omega)).symm
    · obtain ⟨j, rfl⟩ : ∃ j, i = j + C - n := ⟨n + i - C, by omega⟩
      have hj : j < n := by omega
      have hmod : (n + (j + C - n)) % C = j := by
        rw [show n + (j + C - n) = j + C by omega, Nat.add_mod_right]; exact Nat.mod_eq_of_lt (by omega)
      rw [hmod]
      obtain ⟨q, hq⟩ : ∃ q, C = n * q := ⟨C / n, by have := Nat.div_add_mod C n; omega⟩
      cases q with
      | zero => omega
      | succ q =>
        have e : j + C - n = j + q * n := by rw [hq, Nat.mul_add, Nat.mul_one, Nat.mul_comm n q]; omega
        rw [e]
        exact per_chain h j q (by rw [← e]; omega)
  | false =>
    cases hl : lawTo C ls n C with
    | false => rfl
    | true =>
      have : perTo ls n (C - n) = true := perTo_of fun i hi => by
        have h1 := lawTo_at hl i (by omega)
        rw [Nat.mod_eq_of_lt (by omega)] at h1; exact h1.symm
      rw [this] at h; cases h
theorem filt_step (k : Int) : ∀ ls : List Int, ls.Pairwise (· < ·) → ls.filter (fun y => decide (y ≤ k + 1)) = ls.filter (fun y => decide (y ≤ k)) ++ (if flag ls k = true then [k + 1] else [])
  | [], _ => by simp [flag]
  | y :: l, h => by
    obtain ⟨h1, h2⟩ := List.pairwise_cons.1 h
    have ih := filt_step k l h2
    have none : ∀ z : Int, z ≤ y → l.filter (fun y => decide (y ≤ z)) = [] := fun z hz => List.filter_eq_nil_iff.2 fun x hx => by have := h1 x hx; simp; omega
    rcases Int.lt_trichotomy y (k + 1) with hc | hc | hc
    · have hm : flag (y :: l) k = flag l k := by
        unfold flag; simp [show ¬ k + 1 = y by omega]
      rw [List.filter_cons_of_pos (by simp; omega), List.filter_cons_of_pos (by simp; omega), ih, hm]; rfl
    · have hm : flag (y :: l) k = true := by unfold flag; simp [hc]
      rw [List.filter_cons_of_pos (by simp; omega), List.filter_cons_of_neg (by simp; omega), none _ (by omega), none _ (by omega), hm, hc]; rfl
    · have hm : flag (y :: l) k = false := by
        unfold flag
        rw [decide_eq_false]
        intro hmem
        rcases List.mem_cons.1 hmem with e | e
        · omega
        · have := h1 _ e; omega
      rw [List.filter_cons_of_neg (by simp; omega), List.filter_cons_of_neg (by simp; omega), none _ (by omega), none _ (by omega), hm]; rfl
theorem filt_zero {ls : List Int} (h : ∀ y ∈ ls, 1 ≤ y) : ls.filter (fun y => decide (y ≤ ((0 : Nat) : Int))) = [] :=
  List.filter_eq_nil_iff.2 fun x hx => by have := h x hx; simp; omega
theorem filt_yesL {ls : List Int} {k : Nat} (hs : ls.Pairwise (· < ·)) (h : flag ls (k : Int) = true) : ls.filter (fun y => decide (y ≤ ((k + 1 : Nat) : Int))) = ls.filter (fun y => decide (y ≤ (k : Int))) ++ [(k : Int) + 1] := by
  have := filt_step (k : Int) ls hs
  rw [h, if_pos rfl] at this
  rw [show ((k + 1 : Nat) : Int) = (k : Int) + 1 by omega]; exact this
theorem filt_noL {ls : List Int} {k : Nat} (hs : ls.Pairwise (· < ·)) (h : flag ls (k : Int) = false) : ls.filter (fun y => decide (y ≤ ((k + 1 : Nat) : Int))) = ls.filter (fun y => decide (y ≤ (k : Int))) := by
  have := filt_step (k : Int) ls hs
  rw [h, if_neg (by simp), List.append_nil] at this
  rw [show ((k + 1 : Nat) : Int) = (k : Int) + 1 by omega]; exact this
end Go.Proofs.Ytjpbkkoflaajcaa
