/- Months one after the other in an arithmetic calendar, plain: the next month that is not empty. -/
import Derived.Test.YtjekdceicjnamaaFrom0
namespace Go.Proofs.Ytjekdceicjnamaa
set_option linter.unusedVariables false
set_option maxRecDepth 100000

/-- The next month, or the one before: a year, and a month from 0 on. -/
def stepP (n : Nat) (up : Bool) (p : Int × Nat) : Int × Nat :=
  if up then (if p.2 + 1 < n then (p.1, p.2 + 1) else (p.1 + 1, 0)) else (if 1 ≤ p.2 then (p.1, p.2 - 1) else (p.1 - 1, n - 1))
theorem stepP_in {n : Nat} {up : Bool} {p : Int × Nat} (h : p.2 < n) : (stepP n up p).2 < n := by
  unfold stepP
  split
  · split <;> simp <;> omega
  · split <;> simp <;> omega
theorem stepP_year {n : Nat} {up : Bool} {p : Int × Nat} : p.1 - 1 ≤ (stepP n up p).1 ∧ (stepP n up p).1 ≤ p.1 + 1 := by
  unfold stepP
  split
  · split <;> simp <;> omega
  · split <;> simp <;> omega
theorem stepP_up {n : Nat} {y : Int} {k : Nat} (h : k + 1 < n) : stepP n true (y, k) = (y, k + 1) := by simp [stepP, h]
theorem stepP_over {n : Nat} {y : Int} {k : Nat} (h : ¬ k + 1 < n) : stepP n true (y, k) = (y + 1, 0) := by simp [stepP, h]
theorem stepP_down {n : Nat} {y : Int} {k : Nat} (h : 1 ≤ k) : stepP n false (y, k) = (y, k - 1) := by simp [stepP, h]
theorem stepP_under {n : Nat} {y : Int} : stepP n false (y, 0) = (y - 1, n - 1) := by simp [stepP]
def itP (n : Nat) (up : Bool) : Nat → Int × Nat → Int × Nat
  | 0, p => p
  | j + 1, p => stepP n up (itP n up j p)
theorem itP_succ (n : Nat) (up : Bool) (j : Nat) (p : Int × Nat) : itP n up (j + 1) p = stepP n up (itP n up j p) := rfl
theorem itP_next (n : Nat) (up : Bool) (p : Int × Nat) : ∀ j, itP n up (j + 1) p = itP n up j (stepP n up p)
  | 0 => rfl
  | j + 1 => by rw [itP_succ, itP_next n up p j, itP_succ]
theorem itP_in {n : Nat} {up : Bool} {p : Int × Nat} (h : p.2 < n) : ∀ j, (itP n up j p).2 < n
  | 0 => h
  | j + 1 => by rw [itP_succ]; exact stepP_in (itP_in h j)
/-- The length of a month. -/
def lenAt (ms : List Mon) (ls : List Int) (c : Int) (p : Int × Nat) : Int := match ms[p.2]? with | some x => mlenOf x (flag ls (placeOf c p.1)) | none => 0
theorem lenAt_of {ms : List Mon} {ls : List Int} {c : Int} {p : Int × Nat} {x : Mon} (h : ms[p.2]? = some x) : lenAt ms ls c p = mlenOf x (flag ls (placeOf c p.1)) := by unfold lenAt; rw [h]
def InP (p : Int × Nat) : Prop := -10000 ≤ p.1 ∧ p.1 ≤ 10000
instance (p : Int × Nat) : Decidable (InP p) := by unfold InP; exact inferInstance
/-- From a month on, in one direction, the first one that is not empty; none if the years end before. -/
def Seek (ms : List Mon) (ls : List Int) (c : Int) (up : Bool) (p : Int × Nat) (r : Option (Int × Nat)) : Prop :=
  ∃ k : Nat, (∀ j, j < k → InP (itP ms.length up j p) ∧ lenAt ms ls c (itP ms.length up j p) = 0) ∧
    ((r = none ∧ ¬ InP (itP ms.length up k p)) ∨ (r = some (itP ms.length up k p) ∧ InP (itP ms.length up k p) ∧ 0 < lenAt ms ls c (itP ms.length up k p)))
theorem Seek.out {ms : List Mon} {ls : List Int} {c : Int} {up : Bool} {p : Int × Nat} (h : ¬ InP p) : Seek ms ls c up p none :=
  ⟨0, fun j hj => absurd hj (by omega), .inl ⟨rfl, h⟩⟩
theorem Seek.here {ms : List Mon} {ls : List Int} {c : Int} {up : Bool} {p : Int × Nat} (h : InP p) (h' : 0 < lenAt ms ls c p) : Seek ms ls c up p (some p) :=
  ⟨0, fun j hj => absurd hj (by omega), .inr ⟨rfl, h, h'⟩⟩
theorem Seek.next {ms : List Mon} {ls : List Int} {c : Int} {up : Bool} {p : Int × Nat} {r : Option (Int × Nat)} (h : InP p) (h' : lenAt ms ls c p = 0) (hs : Seek ms ls c up (stepP ms.length up p) r) : Seek ms ls c up p r := by
  obtain ⟨k, h1, h2⟩ := hs
  refine ⟨k + 1, fun j hj => ?_, ?_⟩
  · cases j with
    | zero => exact ⟨h, h'⟩
    | succ j => rw [itP_next]; exact h1 j (by omega)
  · rw [itP_next]; exact h2
/-- What a step further says. -/
theorem Seek.cases {ms : List Mon} {ls : List Int} {c : Int} {up : Bool} {p : Int × Nat} {r : Option (Int × Nat)} (hs : Seek ms ls c up p r) :
    (r = none ∧ ¬ InP p) ∨ (r = some p ∧ InP p ∧ 0 < lenAt ms ls c p) ∨ (InP p ∧ lenAt ms ls c p = 0 ∧ Seek ms ls c up (stepP ms.length up p) r) := by
  obtain ⟨k, h1, h2⟩ := hs
  cases k with
  | zero =>
    rcases h2 with ⟨a, b⟩ | ⟨a, b, d⟩
    · exact .inl ⟨a, b⟩
    · exact .inr (.inl ⟨a, b, d⟩)
  | succ k =>
    have h0 := h1 0 (by omega)
    refine .inr (.inr ⟨h0.1, h0.2, k, fun j hj => ?_, ?_⟩)
    · have := h1 (j + 1) (by omega); rw [itP_next] at this; exact this
    · rw [itP_next] at h2; exact h2
/-- How far the end of the years is. -/
def farP (n : Nat) (up : Bool) (p : Int × Nat) : Nat := if up then ((10001 - p.1) * n - p.2).toNat else ((p.1 + 10000) * n + p.2 + 1).toNat
theorem farP_step {n : Nat} {up : Bool} {p : Int × Nat} (h : p.2 < n) (hi : InP p) : farP n up (stepP n up p) < farP n up p := by
  obtain ⟨y, k⟩ := p
  obtain ⟨h1, h2⟩ := hi
  simp only at h h1 h2
  unfold farP
  cases up with
  | true =>
    simp only [if_true]
    have m1 : 0 ≤ (10000 - y) * (n : Int) := Int.mul_nonneg (by omega) (by omega)
    have e : (10001 - y) * (n : Int) = (10000 - y) * (n : Int) + n := by rw [show 10001 - y = (10000 - y) + 1 by omega, Int.add_mul]; omega
    by_cases q : k + 1 < n
    · rw [stepP_up q]; simp only; rw [e]; omega
    · rw [stepP_over q]; simp only; rw [e, show 10001 - (y + 1) = 10000 - y by omega]; omega
  | false =>
    have m1 : 0 ≤ (y + 10000) * (n : Int) := Int.mul_nonneg (by omega) (by omega)
    by_cases q : 1 ≤ k
    · rw [stepP_down q]; simp only [Bool.false_eq_true, if_false]; omega
    · obtain rfl : k = 0 := by omega
      rw [stepP_under]; simp only [Bool.false_eq_true, if_false]
      have e : (y - 1 + 10000) * (n : Int) = (y + 10000) * (n : Int) - n := by rw [show y - 1 + 10000 = (y + 10000) - 1 by omega, Int.sub_mul]; omega
      rw [e]; omega
theorem lenAt_nonneg {s : ByteArray} {f c : Int} {ms : List Mon} {ls : List Int} (ok : CalOk s f c ms ls) (p : Int × Nat) : 0 ≤ lenAt ms ls c p ∧ lenAt ms ls c p ≤ 400 := by
  unfold lenAt
  split
  · rename_i x hx; exact mlenOf_bound ok.lens hx _
  · omega
theorem seek_exists {s : ByteArray} {f c : Int} {ms : List Mon} {ls : List Int} (ok : CalOk s f c ms ls) (up : Bool) : ∀ (N : Nat) (p : Int × Nat), p.2 < ms.length → farP ms.length up p ≤ N → ∃ r, Seek ms ls c up p r
  | 0, p, hp, hf => by
    by_cases hi : InP p
    · have := farP_step (up := up) hp hi; omega
    · exact ⟨_, Seek.out hi⟩
  | N + 1, p, hp, hf => by
    by_cases hi : InP p
    · by_cases hl : 0 < lenAt ms ls c p
      · exact ⟨_, Seek.here hi hl⟩
      · have := farP_step (up := up) hp hi
        obtain ⟨r, hr⟩ := seek_exists ok up N (stepP ms.length up p) (stepP_in hp) (by omega)
        exact ⟨r, Seek.next hi (by have := lenAt_nonneg ok p; omega) hr⟩
    · exact ⟨_, Seek.out hi⟩
theorem seek_in {ms : List Mon} {ls : List Int} {c : Int} {up : Bool} {p q : Int × Nat} (h : Seek ms ls c up p (some q)) (hp : p.2 < ms.length) : q.2 < ms.length ∧ InP q ∧ 0 < lenAt ms ls c q := by
  obtain ⟨k, h1, h2⟩ := h
  rcases h2 with ⟨a, _⟩ | ⟨a, b, d⟩
  · cases a
  · injection a with a; subst a; exact ⟨itP_in hp k, b, d⟩
/-- A number of months further. -/
def Chain (ms : List Mon) (ls : List Int) (c : Int) (up : Bool) : Nat → Int × Nat → Option (Int × Nat) → Prop
  | 0, p, r => r = some p
  | n + 1, p, r => (Seek ms ls c up (stepP ms.length up p) none ∧ r = none) ∨ ∃ q, Seek ms ls c up (stepP ms.length up p) (some q) ∧ Chain ms ls c up n q r
theorem chain_exists {s : ByteArray} {f c : Int} {ms : List Mon} {ls : List Int} (ok : CalOk s f c ms ls) (up : Bool) : ∀ (n : Nat) (p : Int × Nat), p.2 < ms.length → ∃ r, Chain ms ls c up n p r
  | 0, p, _ => ⟨_, rfl⟩
  | n + 1, p, hp => by
    obtain ⟨r, hr⟩ := seek_exists ok up _ (stepP ms.length up p) (stepP_in hp) (Nat.le_refl _)
    cases r with
    | none => exact ⟨none, .inl ⟨hr, rfl⟩⟩
    | some q =>
      obtain ⟨r', hr'⟩ := chain_exists ok up n q (seek_in hr (stepP_in hp)).1
      exact ⟨r', .inr ⟨q, hr, hr'⟩⟩
theorem Chain.in_ {ms : List Mon} {ls : List Int} {c : Int} {up : Bool} : ∀ {n : Nat} {p q : Int × Nat}, Chain ms ls c up n p (some q) → p.2 < ms.length → InP p → 0 < lenAt ms ls c p → q.2 < ms.length ∧ InP q ∧ 0 < lenAt ms ls c q
  | 0, p, q, h, hp, hi, hl => by
    have : some q = some p := h
    injection this with e; subst e; exact ⟨hp, hi, hl⟩
  | n + 1, p, q, h, hp, hi, hl => by
    rcases h with ⟨_, h⟩ | ⟨q', hs, h⟩
    · cases h
    · obtain ⟨a, b, d⟩ := seek_in hs (stepP_in hp)
      exact h.in_ a b d
end Go.Proofs.Ytjekdceicjnamaa
