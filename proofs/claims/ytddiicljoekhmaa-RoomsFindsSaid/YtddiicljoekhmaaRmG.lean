/- Rooms, plain: the law's search among the times. -/
import Derived.Test.YtddiicljoekhmaaRmF
import Derived.Test.YtddiicljoekhmaaSortI
namespace Go.Proofs.Ytddiicljoekhmaa
set_option linter.unusedVariables false
set_option linter.unusedSimpArgs false
set_option maxRecDepth 100000
open Go.RowKit

def none0 : ByteArray := ⟨#[]⟩
def nameK (k : Nat) : ByteArray := if k = 0 then one3 else two3
def wantK (t len f : Int) (xs1 xs2 : List Bkg) : Nat → ByteArray × Int
  | 0 => (none0, 0)
  | k + 1 => if fwdF len f (rowL k xs1 xs2) + len ≤ t ∧ ((wantK t len f xs1 xs2 k).1 = none0 ∨ fwdF len f (rowL k xs1 xs2) < (wantK t len f xs1 xs2 k).2) then (nameK k, fwdF len f (rowL k xs1 xs2)) else wantK t len f xs1 xs2 k
theorem one_none : one3 ≠ none0 := by decide
theorem two_none : two3 ≠ none0 := by decide
theorem want_pick (t len f : Int) (xs1 xs2 : List Bkg) : pickF t len (fwdF len f xs1) (fwdF len f xs2) =
    if (wantK t len f xs1 xs2 2).1 = none0 then (none0, 0, 6) else ((wantK t len f xs1 xs2 2).1, (wantK t len f xs1 xs2 2).2, 0) := by
  have e0 : rowL 0 xs1 xs2 = xs1 := rfl
  have e1 : rowL 1 xs1 xs2 = xs2 := rfl
  have n1 := one_none; have n2 := two_none
  have n3 : one3 ≠ (⟨#[]⟩ : ByteArray) := one_none
  have n4 : two3 ≠ (⟨#[]⟩ : ByteArray) := two_none
  have k0 : nameK 0 = one3 := rfl
  have k1 : nameK 1 = two3 := rfl
  unfold pickF
  simp only [wantK, e0, e1, k0, k1]
  generalize fwdF len f xs1 = a1
  generalize fwdF len f xs2 = a2
  by_cases h1 : a1 + len ≤ t <;> by_cases h2 : a2 + len ≤ t <;> by_cases h3 : a2 < a1 <;> simp [h1, h2, h3, n1, n2, n3, n4, none0]
theorem row_name {l xs1 xs2 : List Bkg} (h : PlainOk l xs1 xs2) (k : Nat) (hk : k < 2) : ofF (nameK k) [] l = rowL k xs1 xs2 := by
  match k, hk with
  | 0, _ => exact h.e1.symm
  | 1, _ => exact h.e2.symm
theorem farB_row {l xs1 xs2 : List Bkg} (h : PlainOk l xs1 xs2) (hf : FarB l) : FarB xs1 ∧ FarB xs2 := by
  constructor
  · intro y hy; rw [h.e1] at hy
    rcases (mem_ofF one3 l [] y).1 hy with h1 | ⟨h1, _⟩
    · cases h1
    · exact hf y h1
  · intro y hy; rw [h.e2] at hy
    rcases (mem_ofF two3 l [] y).1 hy with h1 | ⟨h1, _⟩
    · cases h1
    · exact hf y h1
theorem farB_snoc {r x : ByteArray} {f t : Int} {l : List Bkg} (hf : FarB l) (h : plainE r f t x l = 0) : FarB (l ++ [(r, f, t, x)]) := by
  intro y hy
  rcases List.mem_append.1 hy with hy | hy
  · exact hf y hy
  · rw [List.mem_singleton] at hy; subst hy
    obtain ⟨_, _, h3, _, _⟩ := plain_zero h
    have ht : instB t = true := by
      unfold stretchE at h3
      split at h3
      · omega
      · rename_i hh
        cases hq : instB t with
        | true => rfl
        | false => rw [hq] at hh; simp at hh
    exact inst_bound ht
def timesF (f : Int) (L : List Bkg) : List Int := f :: L.map (fun y => y.2.2.1)
theorem sortI_sorted (xs : List Int) : (sortI xs).Pairwise (· ≤ ·) := by
  have := List.pairwise_mergeSort (le := fun x y : Int => decide (x ≤ y)) (by intro a b c h1 h2; simp at *; omega) (by intro a b; simp; omega) xs
  exact this.imp (fun h => by simpa using h)
theorem times_mem (f : Int) (L : List Bkg) (x : Int) : x ∈ sortI (timesF f L) ↔ x = f ∨ ∃ y ∈ L, x = y.2.2.1 := by
  unfold sortI timesF
  rw [List.mem_mergeSort, List.mem_cons, List.mem_map]
  constructor
  · rintro (h | ⟨y, h1, h2⟩)
    · exact .inl h
    · exact .inr ⟨y, h1, h2.symm⟩
  · rintro (h | ⟨y, h1, h2⟩)
    · exact .inl h
    · exact .inr ⟨y, h1, h2.symm⟩
theorem times_far {f : Int} {L : List Bkg} (hf : -100000000000000000 ≤ f ∧ f ≤ 100000000000000000) (h : FarB L) : ∀ x ∈ sortI (timesF f L), -100000000000000000 ≤ x ∧ x ≤ 100000000000000000 := by
  intro x hx
  rcases (times_mem f L x).1 hx with e | ⟨y, h1, e⟩
  · rw [e]; exact hf
  · rw [e]; exact h y h1
theorem times_find {l xs1 xs2 : List Bkg} (h : PlainOk l xs1 xs2) (k : Nat) (hk : k < 2) (len f t : Int) :
    (sortI (timesF f (rowL k xs1 xs2))).find? (askF (rowL k xs1 xs2) len f t) = if fwdF len f (rowL k xs1 xs2) + len ≤ t then some (fwdF len f (rowL k xs1 xs2)) else none :=
  search_fwd (by rw [← row_name h k hk]; exact sort_of _ _ h.one) (sortI_sorted _) (times_mem f _)
theorem ask_law (l : List Bkg) (s : ByteArray) (len f t x : Int) : askF (ofF s [] l) len f t x = (decide (f ≤ x) && (decide (x + len ≤ t) && !l.any (lapR s x (x + len)))) := by
  unfold askF; rw [lap_of]
theorem timesF_len (f : Int) (L : List Bkg) : (timesF f L).length = L.length + 1 := by simp [timesF]
end Go.Proofs.Ytddiicljoekhmaa
