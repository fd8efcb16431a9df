/- Patterns of dates, plain: the parts by cutting at braces and byte by byte are the same; whether dates can be read. -/
import Derived.Test.YtjjmbnflhldoeacCut0
namespace Go.Proofs.Ytjjmbnflhldoeac
set_option linter.unusedVariables false

abbrev Pc := Bool × List UInt8
def namesP : List (List UInt8) := [[121], [109], [100], [121, 52], [109, 50], [100, 50], [110, 97, 109, 101], [119]]
def kindOf (l : List UInt8) : Int × Int :=
  if l = [121] then (1, 0) else if l = [109] then (2, 0) else if l = [100] then (3, 0) else if l = [121, 52] then (1, 4) else if l = [109, 50] then (2, 2)
  else if l = [100, 50] then (3, 2) else if l = [110, 97, 109, 101] then (4, 0) else if l = [119] then (5, 0) else (0, 0)
theorem kind_iff (l : List UInt8) : (kindOf l).1 ≠ 0 ↔ l ∈ namesP := by
  unfold kindOf namesP
  by_cases h1 : l = [121]; · simp [h1]
  by_cases h2 : l = [109]; · simp [h2]
  by_cases h3 : l = [100]; · simp [h3]
  by_cases h4 : l = [121, 52]; · simp [h4]
  by_cases h5 : l = [109, 50]; · simp [h5]
  by_cases h6 : l = [100, 50]; · simp [h6]
  by_cases h7 : l = [110, 97, 109, 101]; · simp [h7]
  by_cases h8 : l = [119]; · simp [h8]
  simp [h1, h2, h3, h4, h5, h6, h7, h8]
theorem names_plain : ∀ x ∈ namesP, ∀ c ∈ x, c ≠ 125 ∧ c ≠ 123 := by decide
theorem names_size : ∀ x ∈ namesP, 1 ≤ x.length ∧ x.length ≤ 4 := by decide
def txt (t : List UInt8) : List Pc := if t = [] then [] else [(false, t)]
/-- The parts by cutting, with a text ahead. -/
def splitT : Nat → List UInt8 → List UInt8 → Option (List Pc)
  | 0, _, _ => none
  | n + 1, t, l =>
    if cutB (cutL l 123) 125 then none
    else if cutB l 123 = false then some (txt (t ++ cutL l 123))
    else if cutB (cutR l 123) 125 = false ∨ (kindOf (cutL (cutR l 123) 125)).1 = 0 then none
    else (splitT n [] (cutR (cutR l 123) 125)).map fun q => txt (t ++ cutL l 123) ++ (true, cutL (cutR l 123) 125) :: q
/-- The name in braces at the head of a text. -/
def atName (l : List UInt8) : Option (List UInt8) := namesP.find? fun x => (123 :: (x ++ [125])).isPrefixOf l
/-- The parts byte by byte. -/
def refGo : Nat → List UInt8 → List UInt8 → Option (List Pc)
  | 0, t, _ => some (txt t)
  | n + 1, t, [] => some (txt t)
  | n + 1, t, c :: r =>
    if c = 125 then none
    else if c ≠ 123 then refGo n (t ++ [c]) r
    else match atName (c :: r) with
      | none => none
      | some x => (refGo n [] ((c :: r).drop (x.length + 2))).map fun q => txt t ++ (true, x) :: q
theorem cut_ne {c d : UInt8} (h : c ≠ d) (r : List UInt8) : cutL (c :: r) d = c :: cutL r d ∧ cutR (c :: r) d = cutR r d ∧ cutB (c :: r) d = cutB r d := by
  have h1 : (c != d) = true := by simpa using h
  have h2 : (c == d) = false := by simpa using h
  refine ⟨?_, ?_, ?_⟩
  · unfold cutL; rw [List.takeWhile_cons_of_pos (p := fun x => x != d) h1]
  · unfold cutR; rw [List.dropWhile_cons_of_pos (p := fun x => x != d) h1]
  · unfold cutB; rw [List.any_cons, h2]; rfl
theorem cut_eq (c : UInt8) (r : List UInt8) : cutL (c :: r) c = [] ∧ cutR (c :: r) c = r ∧ cutB (c :: r) c = true := by
  refine ⟨?_, ?_, ?_⟩
  · unfold cutL; rw [List.takeWhile_cons_of_neg (by simp)]
  · unfold cutR; rw [List.dropWhile_cons_of_neg (by simp)]; rfl
  · unfold cutB; simp
theorem prefix_name {x r : List UInt8} (hx : x ∈ namesP) : (123 :: (x ++ [125])).isPrefixOf (123 :: r) = true ↔ cutB r 125 = true ∧ cutL r 125 = x := by
  have hp := names_plain x hx
  rw [List.isPrefixOf_iff_prefix]
  constructor
  · rintro ⟨m, hm⟩
    have hr : r = x ++ 125 :: m := by simpa using hm.symm
    obtain ⟨h1, h2, _⟩ := cut_app (a := x) (c := 125) (fun y hy => (hp y hy).1) m
    rw [hr]; exact ⟨h1, h2⟩
  · rintro ⟨h1, h2⟩
    have := (cut_some h1).1
    rw [h2] at this
    exact ⟨cutR r 125, by have h3 := congrArg (fun y => 123 :: y) this.symm; simpa using h3⟩
theorem atName_eq (r : List UInt8) : atName (123 :: r) = if cutB r 125 = false ∨ (kindOf (cutL r 125)).1 = 0 then none else some (cutL r 125) := by
  by_cases h : cutB r 125 = false ∨ (kindOf (cutL r 125)).1 = 0
  · rw [if_pos h]
    unfold atName
    rw [List.find?_eq_none]
    intro x hx hp
    obtain ⟨h1, h2⟩ := (prefix_name hx).1 hp
    rcases h with h | h
    · rw [h1] at h; cases h
    · rw [h2] at h; exact (kind_iff x).2 hx h
  · rw [if_neg h]
    have h1 : cutB r 125 = true := by
      cases hc : cutB r 125 with
      | true => rfl
      | false => exact absurd (.inl hc) h
    have hk : cutL r 125 ∈ namesP := (kind_iff _).1 fun h0 => h (.inr h0)
    unfold atName
    have hex : (namesP.find? fun x => (123 :: (x ++ [125])).isPrefixOf (123 :: r)) ≠ none := by
      intro h0
      rw [List.find?_eq_none] at h0
      exact h0 _ hk ((prefix_name hk).2 ⟨h1, rfl⟩)
    cases hf : namesP.find? fun x => (123 :: (x ++ [125])).isPrefixOf (123 :: r) with
    | none => exact absurd hf hex
    | some y =>
      have hy := List.find?_some hf
      have hm := List.mem_of_find?_eq_some hf
      rw [((prefix_name hm).1 hy).2]
theorem drop_name {r : List UInt8} (h : cutB r 125 = true) : (123 :: r).drop ((cutL r 125).length + 2) = cutR r 125 := by
  rw [show (cutL r 125).length + 2 = ((cutL r 125).length + 1) + 1 by omega, List.drop_succ_cons, cut_drop]
theorem cutR_len (l : List UInt8) (c : UInt8) : (cutR l c).length ≤ l.length ∧ (cutB l c = true → (cutR l c).length < l.length) := by
  refine ⟨by rw [← cut_drop, List.length_drop]; omega, fun h => ?_⟩
  have := (cut_some h).1
  have h2 := congrArg List.length this
  rw [List.length_append, List.length_cons] at h2
  omega
/-- Both ways to take a pattern apart agree. -/
theorem ref_split : ∀ (N : Nat) (l t : List UInt8) (n m : Nat), l.length ≤ N → l.length ≤ n → l.length < m → refGo n t l = splitT m t l := by
  intro N
  induction N with
  | zero =>
    intro l t n m h0 hn hm
    obtain rfl : l = [] := List.length_eq_zero_iff.1 (by omega)
    obtain ⟨m, rfl⟩ : ∃ k, m = k + 1 := ⟨m - 1, by omega⟩
    have e : refGo n t [] = some (txt t) := by cases n <;> rfl
    rw [e]
    simp [splitT, cutL, cutB]
  | succ N ih =>
    intro l t n m h0 hn hm
    obtain ⟨m, rfl⟩ : ∃ k, m = k + 1 := ⟨m - 1, by omega⟩
    cases l with
    | nil =>
      have e : refGo n t [] = some (txt t) := by cases n <;> rfl
      rw [e]
      simp [splitT, cutL, cutB]
    | cons c r =>
      obtain ⟨n, rfl⟩ : ∃ k, n = k + 1 := ⟨n - 1, by simp at hn; omega⟩
      simp only [List.length_cons] at h0 hn hm
      rw [refGo]
      by_cases h1 : c = 125
      · subst h1
        rw [if_pos rfl, splitT]
        obtain ⟨e1, _, _⟩ := cut_ne (c := 125) (d := 123) (by decide) r
        rw [e1, (show cutB (125 :: cutL r 123) 125 = true from (cut_eq 125 _).2.2), if_pos rfl]
      rw [if_neg h1]
      by_cases h2 : c = 123
      · subst h2
        rw [if_neg (by simp)]
        obtain ⟨e1, e2, e3⟩ := cut_eq 123 r
        by_cases hb : cutB r 125 = false ∨ (kindOf (cutL r 125)).1 = 0
        · rw [atName_eq, if_pos hb, splitT, e1, e2, e3, if_neg (show ¬ (cutB [] 125 = true) by decide), if_neg (show ¬ (true = false) by decide), if_pos hb]
        · have hB : cutB r 125 = true := by
            cases hc : cutB r 125 with
            | true => rfl
            | false => exact absurd (.inl hc) hb
          have hl := (cutR_len r 125).1
          rw [atName_eq, if_neg hb, splitT, e1, e2, e3, if_neg (show ¬ (cutB [] 125 = true) by decide), if_neg (show ¬ (true = false) by decide), if_neg hb]
          simp only []
          rw [drop_name hB, ih (cutR r 125) [] n m (by omega) (by omega) (by omega)]
          simp
      · rw [if_pos h2, ih r (t ++ [c]) n (m + 1) (by omega) (by omega) (by omega)]
        obtain ⟨e1, e2, e3⟩ := cut_ne (c := c) (d := 123) h2 r
        obtain ⟨_, _, f3⟩ := cut_ne (c := c) (d := 125) h1 (cutL r 123)
        rw [splitT, splitT, e1, e2, e3, f3]
        simp
/-! Whether a pattern shows a whole date. -/
def joinsB (c : UInt8) : Bool := c == 45 || (decide (97 ≤ c.toNat) && decide (c.toNat ≤ 122)) || (decide (65 ≤ c.toNat) && decide (c.toNat ≤ 90)) || (decide (48 ≤ c.toNat) && decide (c.toNat ≤ 57)) || decide (127 < c.toNat)
def badP (prev : Bool) (x : Pc) : Bool := prev && (x.1 || joinsB (x.2.getD 0 0))
def countK (k : Int) (ps : List Pc) : Nat := ps.countP fun x => x.1 && decide ((kindOf x.2).1 = k)
def badAny : Bool → List Pc → Bool
  | _, [] => false
  | prev, x :: r => badP prev x || badAny x.1 r
def fullB (ps : List Pc) : Bool := !badAny false ps && (decide (countK 1 ps = 1) && decide (countK 3 ps = 1) && decide (countK 2 ps + countK 4 ps = 1) && decide (countK 5 ps ≤ 1))
/-- Texts are not empty, no two stand side by side, items are known. -/
def wellP : Bool → List Pc → Prop
  | _, [] => True
  | prevText, x :: r => (if x.1 then (kindOf x.2).1 ≠ 0 else x.2 ≠ [] ∧ prevText = false) ∧ wellP (!x.1) r
theorem well_false : ∀ (l : List Pc), wellP true l → wellP false l
  | [], _ => trivial
  | x :: r, h => by
    rw [wellP] at h ⊢
    refine ⟨?_, h.2⟩
    have := h.1
    split
    · rename_i hx; rw [if_pos hx] at this; exact this
    · rename_i hx; rw [if_neg hx] at this; exact absurd this.2 (by decide)
theorem split_well : ∀ (n : Nat) (t l : List UInt8) (ps : List Pc), splitT n t l = some ps → wellP false ps
  | 0, t, l, ps, h => by cases h
  | n + 1, t, l, ps, h => by
    rw [splitT] at h
    have htx : ∀ (x : List UInt8) (q : List Pc), wellP true q → wellP false (txt x ++ q) := by
      intro x q hq
      unfold txt
      split
      · exact well_false q hq
      · rename_i hx
        show wellP false ((false, x) :: q)
        rw [wellP]; exact ⟨⟨hx, rfl⟩, hq⟩
    split at h
    · cases h
    split at h
    · cases h
      have := htx (t ++ cutL l 123) [] trivial
      simpa using this
    split at h
    · cases h
    rename_i hk
    rw [Option.map_eq_some_iff] at h
    obtain ⟨q, hq, rfl⟩ := h
    refine htx _ _ ?_
    rw [wellP]
    exact ⟨by rw [if_pos rfl]; exact fun h0 => hk (.inr h0), split_well n [] _ q hq⟩
end Go.Proofs.Ytjjmbnflhldoeac
