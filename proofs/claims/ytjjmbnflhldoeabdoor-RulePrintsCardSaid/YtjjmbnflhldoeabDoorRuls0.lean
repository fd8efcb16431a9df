/- The text of a rule, plain. -/
import Derived.Test.YtjjmbnflhldoeabDoorShow0
import Derived.Test.YtjjmbnflhldoeabDoorTree1
import Derived.Test.YtjjmbnflhldoeabDoorTxt0
namespace Go.Proofs.YtjjmbnflhldoeabDoor
set_option linter.unusedVariables false
set_option maxRecDepth 100000
open Go.RowKit Num

def mL (x : Mon) : List UInt8 := [109, 111, 110, 116, 104, 32] ++ (x.1.data.toList ++ ([32] ++ (Lib.itoa x.2.1 ++ (if x.2.2 = x.2.1 then [] else 32 :: Lib.itoa x.2.2))))
def headL (s : List UInt8) (f c : Int) (t : Tree) : List UInt8 := [99, 97, 108, 101, 110, 100, 97, 114, 32] ++ (s ++ ([10, 101, 112, 111, 99, 104, 32] ++ (Lib.itoa f ++ ([10, 99, 121, 99, 108, 101, 32] ++ (Lib.itoa c ++ ([10, 108, 101, 97, 112, 32] ++ (bodyT t ++ [10])))))))
def rulL (s : List UInt8) (f c : Int) (t : Tree) (ms : List Mon) (k : Nat) : List UInt8 := headL s f c t ++ (ms.take k).flatMap fun x => mL x ++ [10]
def rulS (s : List UInt8) (f c : Int) (t : Tree) (ms : List Mon) : ByteArray := ⟨(rulL s f c t ms ms.length).toArray⟩
theorem months_fit : ∀ (ms : List Mon) (seen : List ByteArray) (a b : Int), monthsGo seen a b ms = 0 → ∀ x ∈ ms, x.1.size ≤ 12
  | [], _, _, _, _, x, hx => by cases hx
  | (s, f, g) :: l, seen, a, b, h, x, hx => by
    rw [monthsGo_cons] at h
    by_cases h1 : isName s = false
    · rw [if_pos h1] at h; cases h
    rw [if_neg h1] at h
    by_cases h2 : (seen.any fun t => t.toList == s.toList) = true
    · rw [if_pos h2] at h; cases h
    rw [if_neg h2] at h
    by_cases h3 : (inB 0 400 f && inB 0 400 g) = false
    · rw [if_pos h3] at h; cases h
    rw [if_neg h3] at h
    rcases List.mem_cons.1 hx with rfl | hx
    · have h1' : isName s = true := by simpa using h1
      unfold isName at h1'; rw [Bool.and_eq_true, Bool.and_eq_true] at h1'
      have : 1 ≤ s.size ∧ s.size ≤ 12 := by simpa using h1'.1.1
      exact this.2
    · exact months_fit l _ _ _ h x hx
theorem rule_fit {s : ByteArray} {f c : Int} {t : Tree} {ms : List Mon} (h : ruleErr s f c t ms = 0) : s.size ≤ 12 ∧ exprErr t = 0 ∧ ms.length ≤ 20 ∧ ∀ x ∈ ms, x.1.size ≤ 12 := by
  unfold ruleErr at h
  by_cases h1 : headErr s f c ≠ 0
  · rw [if_pos h1] at h; exact absurd h h1
  rw [if_neg h1] at h
  by_cases h2 : exprErr t ≠ 0
  · rw [if_pos h2] at h; exact absurd h h2
  rw [if_neg h2] at h
  have h1' : headErr s f c = 0 := by simpa using h1
  have h2' : exprErr t = 0 := by simpa using h2
  have hs : s.size ≤ 12 := by
    unfold headErr at h1'
    by_cases hn : isName s = false
    · rw [if_pos hn] at h1'; cases h1'
    · have hn' : isName s = true := by simpa using hn
      unfold isName at hn'; rw [Bool.and_eq_true, Bool.and_eq_true] at hn'
      have : 1 ≤ s.size ∧ s.size ≤ 12 := by simpa using hn'.1.1
      exact this.2
  unfold monthsErr at h
  by_cases h3 : ¬ (1 ≤ ms.length ∧ ms.length ≤ 20)
  · rw [if_pos h3] at h; cases h
  rw [if_neg h3] at h
  exact ⟨hs, h2', by omega, months_fit ms _ _ _ h⟩
theorem mL_len {x : Mon} (h : x.1.size ≤ 12) (h1 : I64 x.2.1) (h2 : I64 x.2.2) : (mL x).length ≤ 70 := by
  have e := str_len x.1
  have i1 := Lib.itoa_length_le x.2.1 h1.1 h1.2
  have i2 := Lib.itoa_length_le x.2.2 h2.1 h2.2
  unfold mL
  split <;> simp <;> omega
theorem rulL_succ (s : List UInt8) (f c : Int) (t : Tree) (ms : List Mon) (k : Nat) (x : Mon) (h : ms[k]? = some x) : rulL s f c t ms (k + 1) = rulL s f c t ms k ++ (mL x ++ [10]) := by
  unfold rulL
  rw [List.take_add_one, h, List.flatMap_append, List.append_assoc]
  simp
theorem rulL_len {s : List UInt8} {f c : Int} {t : Tree} {ms : List Mon} (hs : s.length ≤ 12) (ht : exprErr t = 0) (hf : I64 f) (hc : I64 c) (hm : ∀ x ∈ ms, x.1.size ≤ 12 ∧ I64 x.2.1 ∧ I64 x.2.2) (k : Nat) : (rulL s f c t ms k).length ≤ 2600 + 71 * k ∧ 1 ≤ (rulL s f c t ms k).length := by
  have hb := body_le ht
  have i1 := Lib.itoa_length_le f hf.1 hf.2
  have i2 := Lib.itoa_length_le c hc.1 hc.2
  have key : ∀ (ys : List Mon), (∀ x ∈ ys, x.1.size ≤ 12 ∧ I64 x.2.1 ∧ I64 x.2.2) → (ys.flatMap fun x => mL x ++ [10]).length ≤ 71 * ys.length := by
    intro ys
    induction ys with
    | nil => intro _; simp
    | cons y r ih =>
      intro hy
      have := ih fun x hx => hy x (by simp [hx])
      obtain ⟨q1, q2, q3⟩ := hy y (by simp)
      have h6 := mL_len q1 q2 q3
      rw [List.flatMap_cons, List.length_append, List.length_append, List.length_cons]
      simp only [List.length_cons, List.length_nil]
      omega
  have hk := key (ms.take k) fun x hx => hm x (List.mem_of_mem_take hx)
  have : (ms.take k).length ≤ k := by rw [List.length_take]; omega
  unfold rulL headL
  simp only [List.length_append, List.length_cons, List.length_nil]
  omega
end Go.Proofs.YtjjmbnflhldoeabDoor
