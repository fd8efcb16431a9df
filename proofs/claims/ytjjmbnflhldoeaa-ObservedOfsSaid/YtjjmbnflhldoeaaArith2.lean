/- Contracts of arith's inner functions isYear, check, place, leap, length, newYear. -/
import Derived.Test.YtjjmbnflhldoeaaArith1
namespace Go.Proofs.Ytjjmbnflhldoeaa
set_option linter.unusedVariables false
set_option maxRecDepth 100000
open Go.RowKit

theorem quiet_drawn {P : Program} {f : FuncId} {args : Array Value} {w : World} {n : Nat} {v : Value}
    (h : Calls P f args (w.drewN n) fun e w' => e = .returned v ∧ Drawn (w.drewN n) w') : Calls P f args (w.drewN n) fun e w'' => e = .returned v ∧ ∃ m, w'' = w.drewN m :=
  h.mono fun _ _ ⟨he, m, hm⟩ => ⟨he, n + m, by rw [hm, World.drewN_drewN]⟩
theorem mul_in (a b A B : Int) (h1 : -A ≤ a) (h2 : a ≤ A) (h3 : -B ≤ b) (h4 : b ≤ B) : -(A * B) ≤ a * b ∧ a * b ≤ A * B := by
  have e1 : (a * b).natAbs = a.natAbs * b.natAbs := Int.natAbs_mul a b
  have e2 : a.natAbs * b.natAbs ≤ A.natAbs * B.natAbs := Nat.mul_le_mul (by omega) (by omega)
  have e3 : (A * B).natAbs = A.natAbs * B.natAbs := Int.natAbs_mul A B
  have e4 : 0 ≤ A * B := Int.mul_nonneg (by omega) (by omega)
  omega
theorem cnt_index (k : Int) : ∀ (l : List Int), l.Pairwise (· < ·) → ∀ (j : Nat) (y : Int), l[j]? = some y → (j < cnt l k ↔ y ≤ k)
  | [], _, j, y, h => by simp at h
  | y0 :: l, hp, j, y, h => by
    obtain ⟨h1, h2⟩ := List.pairwise_cons.1 hp
    rw [cnt_cons]
    by_cases hy : y0 ≤ k
    · rw [if_pos hy]
      cases j with
      | zero => simp at h; subst h; omega
      | succ j =>
        simp at h
        have := cnt_index k l h2 j y h
        omega
    · rw [if_neg hy, cnt_zero fun z hz => by have := h1 z hz; omega]
      have : y0 ≤ y := by
        rcases List.mem_cons.1 (List.mem_of_getElem? h) with q | q
        · omega
        · have := h1 y q; omega
      omega
theorem leap_at {l : List Int} (hp : l.Pairwise (· < ·)) (r : Int) : (∀ y, l[cnt l (r - 1)]? = some y → (y == r) = decide (r ∈ l)) ∧ (l.length ≤ cnt l (r - 1) → decide (r ∈ l) = false) := by
  have hg := List.pairwise_iff_getElem.1 hp
  have key : r ∈ l → l[cnt l (r - 1)]? = some r := by
    intro hr
    obtain ⟨j, hj, rfl⟩ := List.getElem_of_mem hr
    have c1 := cnt_index (l[j] - 1) l hp j l[j] (List.getElem?_eq_getElem hj)
    rcases Nat.lt_or_ge (cnt l (l[j] - 1)) j with q | q
    · have c2 := cnt_index (l[j] - 1) l hp _ _ (List.getElem?_eq_getElem (show cnt l (l[j] - 1) < l.length by omega))
      have := hg _ _ (by omega) hj q
      omega
    · have : cnt l (l[j] - 1) = j := by omega
      rw [this]; exact List.getElem?_eq_getElem hj
  constructor
  · intro y hy
    by_cases hr : r ∈ l
    · rw [decide_eq_true hr]
      have := (key hr).symm.trans hy
      injection this with this
      simp [this]
    · rw [decide_eq_false hr]
      have hm := List.mem_of_getElem? hy
      simp; rintro rfl; exact hr hm
  · intro h
    refine decide_eq_false fun hr => ?_
    have := (List.getElem?_eq_some_iff.1 (key hr)).1
    omega
/-- The days before a year, of any size. -/
def nyOf (S L f c : Int) (ls : List Int) (y : Int) : Int := f + (y - 1) / c * daysTo S L ls c + daysTo S L ls ((y - 1) % c)
/-- The place of a year in its cycle, from 0 on. -/
def placeOf (c y : Int) : Int := (y - 1) % c
theorem placeOf_in (c y : Int) (h : 1 ≤ c) : 0 ≤ placeOf c y ∧ placeOf c y < c := ⟨Int.emod_nonneg _ (by omega), Int.emod_lt_of_pos _ (by omega)⟩

/-- The error of a calendar and a year. -/
def ayErr (e : Int) (y : Int) : Int := if e ≠ 0 then e else if inB (-10000) 10000 y then 0 else 3
/-- The length of a month of a year. -/
def mlenOf (x : Mon) (b : Bool) : Int := bif b then x.2.2 else x.2.1
theorem daysTo_bound (S L : Int) (ls : List Int) (i : Int) (h1 : 0 ≤ i) (h2 : i ≤ 3000) (s1 : 1 ≤ S) (s2 : S ≤ 8000) (l1 : 1 ≤ L) (l2 : L ≤ 8000) (hp : ls.Pairwise (· < ·)) (hl : ∀ y ∈ ls, 1 ≤ y) : i ≤ daysTo S L ls i ∧ daysTo S L ls i ≤ 8000 * i := by
  have key : ∀ k : Nat, k ≤ 3000 → (k : Int) ≤ daysTo S L ls k ∧ daysTo S L ls k ≤ 8000 * k := by
    intro k
    induction k with
    | zero => intro _; have := daysTo_zero S L ls hl; simp [this]
    | succ k ih =>
      intro hk
      have h := daysTo_succ S L ls k hp
      have := ih (by omega)
      have e : ((k + 1 : Nat) : Int) = (k : Int) + 1 := by omega
      rw [e, h]
      cases flag ls k <;> simp only [lenY, cond_true, cond_false] <;> omega
  have := key i.toNat (by omega)
  rwa [show ((i.toNat : Nat) : Int) = i by omega] at this
end Go.Proofs.Ytjjmbnflhldoeaa
