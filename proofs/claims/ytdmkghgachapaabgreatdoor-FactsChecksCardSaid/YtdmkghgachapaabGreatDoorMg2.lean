/- Several texts in one: Num, Cut0. -/
import Derived.Lib.ItoaNum
import Derived.Lib.AtoiAll
import Derived.Lib.AtoiAllCases
import Derived.Lib.Bytealg
import Derived.Lib.Strings
import Derived.Lib.IndexBytes
namespace Go.Proofs.YtdmkghgachapaabGreatDoor.Num
set_option linter.unusedVariables false
set_option linter.unusedSimpArgs false
open Go.Lib
def isDig (c : UInt8) : Bool := decide (48 ≤ c.toNat) && decide (c.toNat ≤ 57)
def natFrom (a : Nat) (l : List UInt8) : Nat := l.foldl (fun a c => 10 * a + (c.toNat - 48)) a
theorem natFrom_ge : ∀ (l : List UInt8) (a : Nat), a ≤ natFrom a l
  | [], a => Nat.le_refl _
  | c :: r, a => by
    have := natFrom_ge r (10 * a + (c.toNat - 48))
    show a ≤ natFrom (10 * a + (c.toNat - 48)) r
    omega
theorem ofNat_toNat (k : Nat) (h : k < 256) : (UInt8.ofNat k).toNat = k := by simp; omega
theorem parse_digits : ∀ (l : List UInt8) (a : Nat), (∀ c ∈ l, isDig c = true) → natFrom a l < 18446744073709551616 → parseUint10 a l = .ok (natFrom a l)
  | [], a, _, _ => rfl
  | c :: r, a, hd, hn => by
    have hc := hd c (by simp)
    have hc' : 48 ≤ c.toNat ∧ c.toNat ≤ 57 := by unfold isDig at hc; simpa using hc
    have hn' : natFrom (10 * a + (c.toNat - 48)) r < 18446744073709551616 := hn
    have hg := natFrom_ge r (10 * a + (c.toNat - 48))
    rw [parseUint10, if_pos hc', if_neg (by omega), if_neg (by omega), show a * 10 + (c.toNat - 48) = 10 * a + (c.toNat - 48) by omega,
      parse_digits r _ (fun x hx => hd x (by simp [hx])) hn']
    rfl
end Go.Proofs.YtdmkghgachapaabGreatDoor.Num

set_option linter.unusedSimpArgs false
namespace Go.Proofs.YtdmkghgachapaabGreatDoor
theorem tw_all {p : UInt8 → Bool} : ∀ (l : List UInt8), (∀ x ∈ l, p x = true) → l.takeWhile p = l
  | [], _ => rfl
  | b :: r, h => by rw [List.takeWhile_cons_of_pos (h b (by simp)), tw_all r fun x hx => h x (by simp [hx])]
theorem dw_all {p : UInt8 → Bool} : ∀ (l : List UInt8), (∀ x ∈ l, p x = true) → l.dropWhile p = []
  | [], _ => rfl
  | b :: r, h => by rw [List.dropWhile_cons_of_pos (h b (by simp)), dw_all r fun x hx => h x (by simp [hx])]
theorem dw_nil {p : UInt8 → Bool} : ∀ (l : List UInt8), l.dropWhile p = [] → ∀ x ∈ l, p x = true
  | [], _, x, hx => by cases hx
  | b :: r, h, x, hx => by
    by_cases hb : p b = true
    · rw [List.dropWhile_cons_of_pos hb] at h
      rcases List.mem_cons.1 hx with rfl | hx
      · exact hb
      · exact dw_nil r h x hx
    · rw [List.dropWhile_cons_of_neg hb] at h; cases h
theorem dw_head {p : UInt8 → Bool} : ∀ (l : List UInt8) (b : UInt8) (r : List UInt8), l.dropWhile p = b :: r → p b = false
  | [], b, r, h => by cases h
  | a :: t, b, r, h => by
    by_cases hb : p a = true
    · rw [List.dropWhile_cons_of_pos hb] at h; exact dw_head t b r h
    · rw [List.dropWhile_cons_of_neg hb] at h; injection h with h1 _; subst h1; simpa using hb
def cutL (l : List UInt8) (c : UInt8) : List UInt8 := l.takeWhile (· != c)
def cutR (l : List UInt8) (c : UInt8) : List UInt8 := (l.dropWhile (· != c)).drop 1
def cutB (l : List UInt8) (c : UInt8) : Bool := l.any (· == c)
theorem cut_index (l : List UInt8) (c : UInt8) : Lib.indexByte l c = if cutB l c then ((cutL l c).length : Int) else -1 := by
  induction l with
  | nil => rfl
  | cons b r ih =>
    rw [Lib.indexByte]
    by_cases hb : (b == c) = true
    · have hb' : (b != c) = false := by simpa using hb
      rw [if_pos hb]
      unfold cutB cutL
      rw [List.any_cons, hb, List.takeWhile_cons_of_neg (by simp [hb'])]; rfl
    · have hb' : (b != c) = true := by simpa using hb
      have hb2 : (b == c) = false := by simpa using hb
      have hL : cutL (b :: r) c = b :: cutL r c := by unfold cutL; rw [List.takeWhile_cons_of_pos (p := fun x => x != c) hb']
      have hB : cutB (b :: r) c = cutB r c := by unfold cutB; rw [List.any_cons, hb2]; rfl
      rw [if_neg hb, ih, hL, hB]
      by_cases hr : cutB r c = true
      · rw [if_pos hr, if_pos hr, if_neg (by simp), List.length_cons]; omega
      · rw [if_neg hr, if_neg hr]; rfl
theorem cutL_none {l : List UInt8} {c : UInt8} (h : cutB l c = false) : cutL l c = l ∧ cutR l c = [] := by
  have hall : ∀ x ∈ l, (x != c) = true := by
    unfold cutB at h; rw [List.any_eq_false] at h
    intro x hx; have := h x hx; simpa using this
  constructor
  · unfold cutL; exact tw_all l hall
  · unfold cutR; rw [dw_all l hall]; rfl
theorem cut_take (l : List UInt8) (c : UInt8) : l.take (cutL l c).length = cutL l c := by
  unfold cutL
  conv => lhs; arg 2; rw [← List.takeWhile_append_dropWhile (p := fun x => x != c) (l := l)]
  rw [List.take_left']; rfl
theorem cut_drop (l : List UInt8) (c : UInt8) : l.drop ((cutL l c).length + 1) = cutR l c := by
  unfold cutR
  have e : l.drop (cutL l c).length = l.dropWhile (· != c) := by
    unfold cutL
    conv => lhs; arg 2; rw [← List.takeWhile_append_dropWhile (p := fun x => x != c) (l := l)]
    rw [List.drop_left']; rfl
  rw [← List.drop_drop, e]
theorem cut_some {l : List UInt8} {c : UInt8} (h : cutB l c = true) : l = cutL l c ++ c :: cutR l c ∧ (cutL l c).length < l.length := by
  have hd : l.dropWhile (· != c) ≠ [] := by
    intro h0
    replace h0 := dw_nil l h0
    unfold cutB at h; rw [List.any_eq_true] at h
    obtain ⟨x, hx, hxc⟩ := h
    have := h0 x hx
    simp_all
  have e := List.takeWhile_append_dropWhile (p := fun x => x != c) (l := l)
  rcases hq : l.dropWhile (· != c) with _ | ⟨b, r⟩
  · exact absurd hq hd
  · have hb : (b != c) = false := dw_head l b r hq
    have hbc : b = c := by simpa using hb
    subst hbc
    have e2 : l = cutL l b ++ b :: cutR l b := by
      unfold cutR cutL; rw [hq]; rw [hq] at e; exact e.symm
    exact ⟨e2, by conv => rhs; rw [e2]
                  simp⟩
end Go.Proofs.YtdmkghgachapaabGreatDoor
