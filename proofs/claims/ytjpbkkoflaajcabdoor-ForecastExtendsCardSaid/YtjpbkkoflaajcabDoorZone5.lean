/- The instants with a local time: interval by interval, and by the offsets; plain. -/
import Derived.Test.YtjpbkkoflaajcabDoorZone3
namespace Go.Proofs.YtjpbkkoflaajcabDoor
set_option linter.unusedVariables false
set_option maxRecDepth 100000
open Go.RowKit

def loOk (lo : Option Int) (t : Int) : Bool := match lo with | none => true | some a => decide (a ≤ t)
/-- The instants, interval by interval: o is in force from lo on. -/
def instGo (loc : Int) : Option Int → Int → List Chg → List Int
  | lo, o, [] => if (instB (loc - o) && loOk lo (loc - o)) = true then [loc - o] else []
  | lo, o, (a, o1, l) :: r => (if (instB (loc - o) && (loOk lo (loc - o) && decide (loc - o < a))) = true then [loc - o] else []) ++ instGo loc (some a) o1 r
theorem instGo_nil (loc : Int) (lo : Option Int) (o : Int) : instGo loc lo o [] = if (instB (loc - o) && loOk lo (loc - o)) = true then [loc - o] else [] := by rw [instGo]
theorem instGo_cons (loc : Int) (lo : Option Int) (o a o1 : Int) (l : ByteArray) (r : List Chg) : instGo loc lo o ((a, o1, l) :: r) = (if (instB (loc - o) && (loOk lo (loc - o) && decide (loc - o < a))) = true then [loc - o] else []) ++ instGo loc (some a) o1 r := by rw [instGo]
theorem mem_one {p : Prop} [Decidable p] (t x : Int) : t ∈ (if p then [x] else []) ↔ p ∧ t = x := by
  by_cases h : p
  · rw [if_pos h]; simp [h]
  · rw [if_neg h]; simp [h]
theorem mem_instGo (loc t : Int) : ∀ (xs : List Chg) (lo : Option Int) (o : Int) (lb : ByteArray), xs.Pairwise (fun x y => x.1 < y.1) → (∀ q, lo = some q → ∀ x ∈ xs, q < x.1) →
    (t ∈ instGo loc lo o xs ↔ instB t = true ∧ loOk lo t = true ∧ (offTo t (o, lb) xs).1 = loc - t)
  | [], lo, o, lb, _, _ => by
    rw [instGo_nil, mem_one, offTo, Bool.and_eq_true]
    constructor
    · rintro ⟨⟨h1, h2⟩, rfl⟩; exact ⟨h1, h2, by simp only; omega⟩
    · rintro ⟨h1, h2, h3⟩
      simp only at h3
      have : t = loc - o := by omega
      subst this
      exact ⟨⟨h1, h2⟩, rfl⟩
  | (a, o1, l) :: r, lo, o, lb, hp, hq => by
    obtain ⟨p1, p2⟩ := List.pairwise_cons.1 hp
    rw [instGo_cons, List.mem_append, mem_one, mem_instGo loc t r (some a) o1 l p2 (fun q e x hx => by injection e with e; subst e; exact p1 x hx), offTo_cons, Bool.and_eq_true, Bool.and_eq_true, decide_eq_true_eq]
    by_cases h : t < a
    · rw [if_pos h]
      constructor
      · rintro (⟨⟨h1, h2, h3⟩, rfl⟩ | ⟨h1, h2, h3⟩)
        · exact ⟨h1, h2, by simp only; omega⟩
        · simp only [loOk, decide_eq_true_eq] at h2; omega
      · rintro ⟨h1, h2, h3⟩
        simp only at h3
        have : t = loc - o := by omega
        subst this
        exact .inl ⟨⟨h1, h2, h⟩, rfl⟩
    · rw [if_neg h]
      have hlo : loOk lo t = true := by
        cases lo with
        | none => rfl
        | some q => have := hq q rfl (a, o1, l) List.mem_cons_self; simp only at this; simp only [loOk, decide_eq_true_eq]; omega
      constructor
      · rintro (⟨⟨h1, h2, h3⟩, rfl⟩ | ⟨h1, h2, h3⟩)
        · omega
        · exact ⟨h1, hlo, h3⟩
      · rintro ⟨h1, h2, h3⟩
        exact .inr ⟨h1, by simp only [loOk, decide_eq_true_eq]; omega, h3⟩
theorem instGo_sorted (loc : Int) : ∀ (xs : List Chg) (lo : Option Int) (o : Int), xs.Pairwise (fun x y => x.1 < y.1) → (instGo loc lo o xs).Pairwise (· < ·)
  | [], lo, o, _ => by
    rw [instGo_nil]
    split <;> simp
  | (a, o1, l) :: r, lo, o, hp => by
    obtain ⟨p1, p2⟩ := List.pairwise_cons.1 hp
    rw [instGo_cons, List.pairwise_append]
    refine ⟨by split <;> simp, instGo_sorted loc r (some a) o1 p2, fun x hx y hy => ?_⟩
    rw [mem_one] at hx
    rw [mem_instGo loc y r (some a) o1 l p2 (fun q e x hx => by injection e with e; subst e; exact p1 x hx)] at hy
    obtain ⟨hx1, rfl⟩ := hx
    simp only [Bool.and_eq_true, decide_eq_true_eq] at hx1
    have := hy.2.1
    simp only [loOk, decide_eq_true_eq] at this
    omega
/-- Put into an increasing list, once. -/
def insU (t : Int) : List Int → List Int
  | [] => [t]
  | x :: l => if x < t then x :: insU t l else if x = t then x :: l else t :: x :: l
theorem insU_cons (t x : Int) (l : List Int) : insU t (x :: l) = if x < t then x :: insU t l else if x = t then x :: l else t :: x :: l := by rw [insU]
theorem mem_insU (t y : Int) : ∀ l : List Int, y ∈ insU t l ↔ y = t ∨ y ∈ l
  | [] => by simp [insU]
  | x :: l => by
    rw [insU_cons]
    by_cases h : x < t
    · rw [if_pos h, List.mem_cons, mem_insU t y l, List.mem_cons]
      constructor
      · rintro (h | h | h) <;> simp [h]
      · rintro (h | h | h) <;> simp [h]
    · rw [if_neg h]
      by_cases h2 : x = t
      · rw [if_pos h2, List.mem_cons]; subst h2
        constructor
        · rintro (h | h) <;> simp [h]
        · rintro (h | h | h) <;> simp [h]
      · rw [if_neg h2, List.mem_cons]
theorem insU_sorted (t : Int) : ∀ l : List Int, l.Pairwise (· < ·) → (insU t l).Pairwise (· < ·)
  | [], _ => by simp [insU]
  | x :: l, h => by
    obtain ⟨h1, h2⟩ := List.pairwise_cons.1 h
    rw [insU_cons]
    by_cases q : x < t
    · rw [if_pos q]
      refine List.pairwise_cons.2 ⟨fun y hy => ?_, insU_sorted t l h2⟩
      rcases (mem_insU t y l).1 hy with rfl | hy
      · exact q
      · exact h1 y hy
    · rw [if_neg q]
      by_cases q2 : x = t
      · rw [if_pos q2]; exact h
      · rw [if_neg q2]
        refine List.pairwise_cons.2 ⟨fun y hy => ?_, h⟩
        rcases List.mem_cons.1 hy with rfl | hy
        · omega
        · have := h1 y hy; omega
/-- The instants, offset by offset. -/
def instRef (loc f : Int) (xs : List Chg) : List Int → List Int → List Int
  | out, [] => out
  | out, o :: r => instRef loc f xs (if (instB (loc - o) && decide ((offAll (loc - o) (f, noText) xs).1 = o)) = true then insU (loc - o) out else out) r
theorem instRef_cons (loc f : Int) (xs : List Chg) (out : List Int) (o : Int) (r : List Int) : instRef loc f xs out (o :: r) = instRef loc f xs (if (instB (loc - o) && decide ((offAll (loc - o) (f, noText) xs).1 = o)) = true then insU (loc - o) out else out) r := by rw [instRef]
theorem instRef_sorted (loc f : Int) (xs : List Chg) : ∀ (os out : List Int), out.Pairwise (· < ·) → (instRef loc f xs out os).Pairwise (· < ·)
  | [], out, h => h
  | o :: r, out, h => by
    rw [instRef_cons]
    refine instRef_sorted loc f xs r _ ?_
    split
    · exact insU_sorted _ _ h
    · exact h
theorem mem_instRef (loc f t : Int) (xs : List Chg) : ∀ (os out : List Int), t ∈ instRef loc f xs out os ↔ t ∈ out ∨ (instB t = true ∧ (offAll t (f, noText) xs).1 = loc - t ∧ (loc - t) ∈ os)
  | [], out => by simp [instRef]
  | o :: r, out => by
    rw [instRef_cons, mem_instRef loc f t xs r]
    by_cases h : (instB (loc - o) && decide ((offAll (loc - o) (f, noText) xs).1 = o)) = true
    · rw [if_pos h, mem_insU]
      rw [Bool.and_eq_true, decide_eq_true_eq] at h
      constructor
      · rintro ((rfl | h1) | ⟨h1, h2, h3⟩)
        · exact .inr ⟨h.1, by rw [h.2]; omega, by rw [show loc - (loc - o) = o by omega]; exact List.mem_cons_self⟩
        · exact .inl h1
        · exact .inr ⟨h1, h2, List.mem_cons_of_mem _ h3⟩
      · rintro (h1 | ⟨h1, h2, h3⟩)
        · exact .inl (.inr h1)
        · rcases List.mem_cons.1 h3 with h3 | h3
          · exact .inl (.inl (by omega))
          · exact .inr ⟨h1, h2, h3⟩
    · rw [if_neg h]
      rw [Bool.and_eq_true, decide_eq_true_eq] at h
      constructor
      · rintro (h1 | ⟨h1, h2, h3⟩)
        · exact .inl h1
        · exact .inr ⟨h1, h2, List.mem_cons_of_mem _ h3⟩
      · rintro (h1 | ⟨h1, h2, h3⟩)
        · exact .inl h1
        · rcases List.mem_cons.1 h3 with h3 | h3
          · refine absurd ?_ h
            rw [show loc - o = t by omega, h2]
            exact ⟨h1, by omega⟩
          · exact .inr ⟨h1, h2, h3⟩
theorem offTo_mem (t : Int) : ∀ (l : List Chg) (acc : Int × ByteArray), (offTo t acc l).1 ∈ acc.1 :: l.map (·.2.1)
  | [], acc => by simp [offTo]
  | (a, o, lb) :: l, acc => by
    rw [offTo_cons]
    split
    · simp
    · have := offTo_mem t l (o, lb)
      rw [List.map_cons]
      exact List.mem_cons_of_mem _ this
theorem sorted_ext : ∀ (l m : List Int), l.Pairwise (· < ·) → m.Pairwise (· < ·) → (∀ x, x ∈ l ↔ x ∈ m) → l = m
  | [], [], _, _, _ => rfl
  | [], y :: m, _, _, h => by have := (h y).2 List.mem_cons_self; cases this
  | x :: l, [], _, _, h => by have := (h x).1 List.mem_cons_self; cases this
  | x :: l, y :: m, hl, hm, h => by
    obtain ⟨l1, l2⟩ := List.pairwise_cons.1 hl
    obtain ⟨m1, m2⟩ := List.pairwise_cons.1 hm
    have hxy : x = y := by
      rcases List.mem_cons.1 ((h x).1 List.mem_cons_self) with e | e
      · exact e
      · rcases List.mem_cons.1 ((h y).2 List.mem_cons_self) with e' | e'
        · exact e'.symm
        · have := m1 x e; have := l1 y e'; omega
    subst hxy
    refine congrArg (x :: ·) (sorted_ext l m l2 m2 fun z => ?_)
    constructor
    · intro hz
      rcases List.mem_cons.1 ((h z).1 (List.mem_cons_of_mem _ hz)) with e | e
      · have := l1 z hz; omega
      · exact e
    · intro hz
      rcases List.mem_cons.1 ((h z).2 (List.mem_cons_of_mem _ hz)) with e | e
      · have := m1 z hz; omega
      · exact e
theorem inst_same (loc f : Int) (xs : List Chg) (h : xs.Pairwise (fun x y => x.1 < y.1)) : instRef loc f xs [] (f :: xs.map (·.2.1)) = instGo loc none f xs := by
  refine sorted_ext _ _ (instRef_sorted loc f xs _ [] List.Pairwise.nil) (instGo_sorted loc xs none f h) fun t => ?_
  rw [mem_instRef, mem_instGo loc t xs none f noText h (fun q e => by cases e), ← off_same t xs (f, noText) h]
  constructor
  · rintro (h1 | ⟨h1, h2, h3⟩)
    · cases h1
    · exact ⟨h1, rfl, h2⟩
  · rintro ⟨h1, _, h2⟩
    refine .inr ⟨h1, h2, ?_⟩
    have := offTo_mem t xs (f, noText)
    rw [h2] at this
    exact this
end Go.Proofs.YtjpbkkoflaajcabDoor
