/- Contracts of recur.checkRange and recur.days. -/
import Derived.Test.YtjjmbnflhldoeaaRec2
import Derived.Test.YtjjmbnflhldoeaaCycle2
namespace Go.Proofs.Ytjjmbnflhldoeaa
set_option linter.unusedVariables false
set_option maxRecDepth 100000
open Go.RowKit greg

/-- The error of a range of days. -/
def rangeErr (f a b : Int) : Int :=
  if inB (-4000000) 4000000 a = false ∨ inB (-4000000) 4000000 b = false then 3 else if b < a then 9 else if f + 40000 < b ∨ 3000 < b - a then 2 else 0
/-- Whether day x fits the recurrence, apart from its range. -/
def fitR (u ev f : Int) (ws ms ns : List Int) (x : Int) : Bool := fitsB u ev ws ms ns f ((f - 1) % 7) (gY f) (gM f) (gD f) x ((x - 1) % 7) (gY x) (gM x) (gD x) (mlen x)
/-- n days from x on, c found before. -/
def listP (fit : Int → Bool) (cn a : Int) : Nat → Int → Int → List Int
  | 0, _, _ => []
  | n + 1, x, c => if fit x = false then listP fit cn a n (x + 1) c else if 0 < cn ∧ cn < c + 1 then [] else (if a ≤ x then [x] else []) ++ listP fit cn a n (x + 1) (c + 1)
theorem listP_in (fit : Int → Bool) (cn a : Int) : ∀ (n : Nat) (x c : Int), ∀ z ∈ listP fit cn a n x c, x ≤ z ∧ z < x + n
  | 0, _, _, z, h => by simp [listP] at h
  | n + 1, x, c, z, h => by
    rw [listP] at h
    split at h
    · have := listP_in fit cn a n (x + 1) c z h; omega
    · split at h
      · simp at h
      · rw [List.mem_append] at h
        rcases h with h | h
        · split at h
          · simp at h; omega
          · simp at h
        · have := listP_in fit cn a n (x + 1) (c + 1) z h; omega
theorem own_thenR {w w' : World} {base : Nat} {e : TypeId} {size : Nat} {v : Value} {n : Nat} {xs : List Value} (h : w.ownsRow base e size v n xs) (hb : Below w.heap.size w w') : w'.ownsRow base e size v n xs := by
  refine ⟨h.1, ?_⟩
  rcases h.2 with h0 | ⟨g, cap, cur, rfl, hg, hcur, r⟩
  · exact Or.inl h0
  · have hat : At w g (.cells cur e) := hcur
    exact Or.inr ⟨g, cap, cur, rfl, hg, hat.then_ hb, r⟩
def lowOf (f cn a : Int) : Int := if cn = 0 then (if a ≤ f then f else a) else f
def minI (a b : Int) : Int := if a ≤ b then a else b
def daysL (u ev f cn un : Int) (ws ms ns : List Int) (a b : Int) : List Int :=
  listP (fitR u ev f ws ms ns) cn a (minI b un + 1 - lowOf f cn a).toNat (lowOf f cn a) 0
def DaysPost (zs : List Int) (w : World) (e : Ending) (w' : World) : Prop := ∃ p n c, e = .returned (.slice p n c) ∧ n ≤ c ∧ c ≤ 9223372036854775807 ∧ Ints w' w'.heap.size p n zs ∧ Below w.heap.size w w'
theorem lastN_def {P0 P1 P2 P3 P4 P5 P6 P7 P8 P9 P10 P11 P12 P13 R : Prop} (h : P0 ∧ P1 ∧ P2 ∧ P3 ∧ P4 ∧ P5 ∧ P6 ∧ P7 ∧ P8 ∧ P9 ∧ P10 ∧ P11 ∧ P12 ∧ P13 ∧ R) : R := h.2.2.2.2.2.2.2.2.2.2.2.2.2.2
theorem mlen_in (x : Int) (h1 : 1 ≤ gM x) (h2 : gM x ≤ 12) : 28 ≤ mlen x ∧ mlen x ≤ 31 := by
  unfold mlen lenN
  cases leapI (gY x) <;> cases (gM x).toNat.beq 2 <;> cases ((gM x).toNat.beq 4 || (gM x).toNat.beq 6 || (gM x).toNat.beq 9 || (gM x).toNat.beq 11) <;> simp
end Go.Proofs.Ytjjmbnflhldoeaa
