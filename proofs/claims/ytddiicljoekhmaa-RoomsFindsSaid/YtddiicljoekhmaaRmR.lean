/- Rooms, plain: rows in order with the same bookings are the same. -/
import Derived.Test.YtddiicljoekhmaaRmQ
namespace Go.Proofs.Ytddiicljoekhmaa
set_option linter.unusedVariables false
set_option linter.unusedSimpArgs false
open Go.RowKit

theorem sortB_ext : ∀ (l m : List Bkg), SortB l → SortB m → (∀ y, y ∈ l ↔ y ∈ m) → l = m
  | [], [], _, _, _ => rfl
  | [], y :: m, _, _, h => by have := (h y).2 List.mem_cons_self; cases this
  | x :: l, [], _, _, h => by have := (h x).1 List.mem_cons_self; cases this
  | x :: l, y :: m, h1, h2, h => by
    have a1 := List.pairwise_cons.1 h1
    have a2 := List.pairwise_cons.1 h2
    have hxy : x = y := by
      rcases List.mem_cons.1 ((h x).1 List.mem_cons_self) with e | hx
      · exact e
      · rcases List.mem_cons.1 ((h y).2 List.mem_cons_self) with e | hy
        · exact e.symm
        · have := a1.1 y hy; have := a2.1 x hx; omega
    subst hxy
    rw [sortB_ext l m a1.2 a2.2 (fun z => by
      constructor
      · intro hz
        rcases List.mem_cons.1 ((h z).1 (List.mem_cons_of_mem _ hz)) with e | hz'
        · subst e; have := a1.1 z hz; omega
        · exact hz'
      · intro hz
        rcases List.mem_cons.1 ((h z).2 (List.mem_cons_of_mem _ hz)) with e | hz'
        · subst e; have := a2.1 z hz; omega
        · exact hz')]
/-- No two bookings of one room begin together. -/
def OneEach (l : List Bkg) : Prop := l.Pairwise fun x y => x.1 = y.1 → x.2.1 ≠ y.2.1
theorem sort_of (r : ByteArray) (l : List Bkg) (h : OneEach l) : SortB (ofF r [] l) := by
  have key : ∀ (n : Nat) (l : List Bkg), l.length = n → OneEach l → SortB (ofF r [] l) := by
    intro n
    induction n with
    | zero => intro l hl _; rw [List.length_eq_zero_iff.1 hl]; exact List.Pairwise.nil
    | succ n ih =>
      intro l hl hu
      rcases List.eq_nil_or_concat l with e | ⟨m, x, e⟩
      · rw [e] at hl; simp at hl
      · subst e
        rw [List.concat_eq_append] at *
        have hm : m.length = n := by simpa using hl
        have hu' := List.pairwise_append.1 hu
        have hs := ih m hm hu'.1
        rw [ofF_snoc]
        by_cases hx : x.1 = r
        · rw [if_pos hx]
          have hne : ∀ y ∈ ofF r [] m, y.2.1 ≠ x.2.1 := fun y hy => by
            rcases (mem_ofF r m [] y).1 hy with h1 | ⟨h1, h2⟩
            · cases h1
            · exact hu'.2.2 y h1 x (by simp) (h2.trans hx.symm)
          rw [insE_insF hs hne]
          exact sortB_ins hs hne
        · rw [if_neg hx]; exact hs
  exact key l.length l rfl h
theorem oneEach_snoc {l : List Bkg} {x : Bkg} (h : OneEach l) (hne : ∀ y ∈ l, y.1 = x.1 → y.2.1 ≠ x.2.1) : OneEach (l ++ [x]) := by
  unfold OneEach
  rw [List.pairwise_append]
  exact ⟨h, List.pairwise_singleton _ _, fun a ha b hb hab => by rw [List.mem_singleton] at hb; subst hb; exact hne a ha hab⟩
theorem oneEach_del {l : List Bkg} {i : Nat} (h : OneEach l) : OneEach (l.take i ++ l.drop (i + 1)) := by
  have hs : (l.take i ++ l.drop (i + 1)).Sublist l := by
    have h1 : (l.take i ++ l.drop (i + 1)).Sublist (l.take i ++ l.drop i) := List.Sublist.append (List.Sublist.refl _) (by
      rw [← List.drop_drop, List.drop_one]
      exact List.tail_sublist _)
    rwa [List.take_append_drop] at h1
  exact List.Pairwise.sublist hs h
theorem sortB_del {l : List Bkg} {i : Nat} (h : SortB l) : SortB (l.take i ++ l.drop (i + 1)) := by
  have hs : (l.take i ++ l.drop (i + 1)).Sublist l := by
    have h1 : (l.take i ++ l.drop (i + 1)).Sublist (l.take i ++ l.drop i) := List.Sublist.append (List.Sublist.refl _) (by
      rw [← List.drop_drop, List.drop_one]
      exact List.tail_sublist _)
    rwa [List.take_append_drop] at h1
  exact List.Pairwise.sublist hs h
end Go.Proofs.Ytddiicljoekhmaa
