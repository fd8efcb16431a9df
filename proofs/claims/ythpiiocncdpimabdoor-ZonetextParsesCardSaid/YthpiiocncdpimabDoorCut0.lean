/- A text cut at its first byte of a kind, plain. -/
import Derived.Lib.Bytealg
import Derived.Lib.Strings
import Derived.Lib.IndexBytes
namespace Go.Proofs.YthpiiocncdpimabDoor
theorem tw_all {p : UInt8 → Bool} : ∀ (l : List UInt8), (∀ x ∈ l, p x = true) → l.takeWhile p = l
  | [], _ => rfl
  | b :: r, h => by rw [List.takeWhile_cons_of_pos (h b (by simp)), tw_all r fun x hx => h x (by simp [hx])]
theorem dw_all {p : UInt8 → Bool} : ∀ (l : List UInt8), (∀ x ∈ l, p x = true) → l.dropWhile p = []
  | [], _ => rfl
  | b :: r, h => by rw [List.dropWhile_cons_of_pos (h b (by simp)), dw_all r fun x hx => h x (by simp [hx])]
theorem dw_nil {p : UInt8 → Bool} : ∀ (l : List UInt8), l.dropWhile p = [] → ∀ x ∈ l, p x = true
  | [], _, x, hx => by cases hx
  | b :: r, h, x, hx => by
    by_cases hb : p b = true
    · rw [List.dropWhile_cons_of_pos hb] at h
      rcases List.mem_cons.1 hx with rfl | hx
      · exact hb
      · exact dw_nil r h x hx
    · rw [List.dropWhile_cons_of_neg hb] at h; cases h
theorem dw_head {p : UInt8 → Bool} : ∀ (l : List UInt8) (b : UInt8) (r : List UInt8), l.dropWhile p = b :: r → p b = false
  | [], b, r, h => by cases h
  | a :: t, b, r, h => by
    by_cases hb : p a = true
    · rw [List.dropWhile_cons_of_pos hb] at h; exact dw_head t b r h
    · rw [List.dropWhile_cons_of_neg hb] at h; injection h with h1 _; subst h1; simpa using hb
def cutL (l : List UInt8) (c : UInt8) : List UInt8 := l.takeWhile (· != c)
def cutR (l : List UInt8) (c : UInt8) : List UInt8 := (l.dropWhile (· != c)).drop 1
def cutB (l : List UInt8) (c : UInt8) : Bool := l.any (· == c)
theorem cut_index (l : List UInt8) (c : UInt8) : Lib.indexByte l c = if cutB l c then ((cutL l c).length : Int) else -1 := by
  induction l with
  | nil => rfl
  | cons b r ih =>
    rw [Lib.indexByte]
    by_cases hb : (b == c) = true
    · have hb' : (b != c) = false := by simpa using hb
      rw [if_pos hb]
      unfold cutB cutL
      rw [List.any_cons, hb, List.takeWhile_cons_of_neg (by simp [hb'])]; rfl
    · have hb' : (b != c) = true := by simpa using hb
      have hb2 : (b == c) = false := by simpa using hb
      have hL : cutL (b :: r) c = b :: cutL r c := by unfold cutL; rw [List.takeWhile_cons_of_pos (p := fun x => x != c) hb']
      have hB : cutB (b :: r) c = cutB r c := by unfold cutB; rw [List.any_cons, hb2]; rfl
      rw [if_neg hb, ih, hL, hB]
      by_cases hr : cutB r c = true
      · rw [if_pos hr, if_pos hr, if_neg (by simp), List.length_cons]; omega
      · rw [if_neg hr, if_neg hr]; rfl
theorem cutL_none {l : List UInt8} {c : UInt8} (h : cutB l c = false) : cutL l c = l ∧ cutR l c = [] := by
  have hall : ∀ x ∈ l, (x != c) = true := by
    unfold cutB at h; rw [List.any_eq_false] at h
    intro x hx; have := h x hx; simpa using this
  constructor
  · unfold cutL; exact tw_all l hall
  · unfold cutR; rw [dw_all l hall]; rfl
theorem cut_take (l : List UInt8) (c : UInt8) : l.take (cutL l c).length = cutL l c := by
  unfold cutL
  conv => lhs; arg 2; rw [← List.takeWhile_append_dropWhile (p := fun x => x != c) (l := l)]
  rw [List.take_left']; rfl
theorem cut_drop (l : List UInt8) (c : UInt8) : l.drop ((cutL l c).length + 1) = cutR l c := by
  unfold cutR
  have e : l.drop (cutL l c).length = l.dropWhile (· != c) := by
    unfold cutL
    conv => lhs; arg 2; rw [← List.takeWhile_append_dropWhile (p := fun x => x != c) (l := l)]
    rw [List.drop_left']; rfl
  rw [← List.drop_drop, e]
theorem cut_some {l : List UInt8} {c : UInt8} (h : cutB l c = true) : l = cutL l c ++ c :: cutR l c ∧ (cutL l c).length < l.length := by
  have hd : l.dropWhile (· != c) ≠ [] := by
    intro h0
    replace h0 := dw_nil l h0
    unfold cutB at h; rw [List.any_eq_true] at h
    obtain ⟨x, hx, hxc⟩ := h
    have := h0 x hx
    simp_all
  have e := List.takeWhile_append_dropWhile (p := fun x => x != c) (l := l)
  rcases hq : l.dropWhile (· != c) with _ | ⟨b, r⟩
  · exact absurd hq hd
  · have hb : (b != c) = false := dw_head l b r hq
    have hbc : b = c := by simpa using hb
    subst hbc
    have e2 : l = cutL l b ++ b :: cutR l b := by
      unfold cutR cutL; rw [hq]; rw [hq] at e; exact e.symm
    exact ⟨e2, by conv => rhs; rw [e2]
                  simp⟩
theorem cut_app {a : List UInt8} {c : UInt8} (h : ∀ x ∈ a, x ≠ c) (b : List UInt8) : cutB (a ++ c :: b) c = true ∧ cutL (a ++ c :: b) c = a ∧ cutR (a ++ c :: b) c = b := by
  refine ⟨by unfold cutB; simp, ?_, ?_⟩
  · unfold cutL
    rw [List.takeWhile_append_of_pos (by intro x hx; simpa using h x hx), List.takeWhile_cons_of_neg (by simp)]; simp
  · unfold cutR
    rw [List.dropWhile_append_of_pos (by intro x hx; simpa using h x hx), List.dropWhile_cons_of_neg (by simp)]; rfl
theorem cut_not {a : List UInt8} {c : UInt8} (h : ∀ x ∈ a, x ≠ c) : cutB a c = false := by
  unfold cutB; rw [List.any_eq_false]; intro x hx; simpa using h x hx
end Go.Proofs.YthpiiocncdpimabDoor
