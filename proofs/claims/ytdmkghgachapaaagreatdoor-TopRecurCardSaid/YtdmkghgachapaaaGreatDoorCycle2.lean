/- Contracts of cycle.Of, cycle.Full and of the reference's SameInts, SetAt. -/
import Derived.Test.YtdmkghgachapaaaGreatDoorCycle
import Derived.Test.YtdmkghgachapaaaGreatDoorMgW
import Derived.Test.YtdmkghgachapaaaGreatDoorOwn
namespace Go.Proofs.YtdmkghgachapaaaGreatDoor
set_option linter.unusedVariables false
set_option maxRecDepth 100000
open Go.RowKit

theorem cycAll_at : ∀ (xs ys : List Int), cycAll xs ys = true → ∀ (k : Nat) (x y : Int), xs[k]? = some x → ys[k]? = some y → cycOk x y = true
  | [], _, _, k, x, y, hx, _ => by simp at hx
  | a :: xs, [], _, k, x, y, _, hy => by simp at hy
  | a :: xs, b :: ys, h, 0, x, y, hx, hy => by
    simp only [cycAll, Bool.and_eq_true] at h
    simp at hx hy; subst hx hy; exact h.1
  | a :: xs, b :: ys, h, k + 1, x, y, hx, hy => by
    simp only [cycAll, Bool.and_eq_true] at h
    exact cycAll_at xs ys h.2 k x y (by simpa using hx) (by simpa using hy)
/-- A set of cycles without error. -/
structure SetOk (xs ys : List Int) : Prop where
  l1 : 1 ≤ xs.length
  l2 : xs.length ≤ 8
  len : ys.length = xs.length
  each : ∀ (k : Nat) (x y : Int), xs[k]? = some x → ys[k]? = some y → 1 ≤ x ∧ x ≤ 1000 ∧ 0 ≤ y ∧ y < x
theorem setOk_of {xs ys : List Int} (h : setErr xs ys = 0) : SetOk xs ys := by
  unfold setErr at h
  by_cases h1 : ¬ (1 ≤ xs.length ∧ xs.length ≤ 8)
  · rw [if_pos h1] at h; omega
  · rw [if_neg h1] at h
    by_cases h2 : ys.length ≠ xs.length
    · rw [if_pos h2] at h; omega
    · rw [if_neg h2] at h
      by_cases h3 : cycAll xs ys = true
      · refine ⟨by omega, by omega, by omega, fun k x y hx hy => ?_⟩
        have := cycAll_at xs ys h3 k x y hx hy
        simpa [cycOk] using this
      · rw [if_neg h3] at h; omega
/-- The places of a day. -/
def places (d : Int) : List Int → List Int → List Int
  | x :: xs, y :: ys => (d + y) % x :: places d xs ys
  | _, _ => []
theorem places_snoc (d : Int) : ∀ (k : Nat) (xs ys : List Int) (x y : Int), xs[k]? = some x → ys[k]? = some y → places d (xs.take (k + 1)) (ys.take (k + 1)) = places d (xs.take k) (ys.take k) ++ [(d + y) % x]
  | 0, x' :: xs, y' :: ys, x, y, hx, hy => by
    simp at hx hy; subst hx hy; simp [places]
  | k + 1, x' :: xs, y' :: ys, x, y, hx, hy => by
    have ih := places_snoc d k xs ys x y (by simpa using hx) (by simpa using hy)
    rw [List.take_succ_cons, List.take_succ_cons, List.take_succ_cons, List.take_succ_cons]
    simp only [places, ih, List.cons_append]
theorem places_len (d : Int) : ∀ (xs ys : List Int), ys.length = xs.length → (places d xs ys).length = xs.length
  | [], _, _ => by simp [places]
  | x :: xs, [], h => by simp at h
  | x :: xs, y :: ys, h => by simp [places, places_len d xs ys (by simpa using h)]
theorem places_at (d : Int) : ∀ (k : Nat) (xs ys : List Int) (x y : Int), xs[k]? = some x → ys[k]? = some y → (places d xs ys)[k]? = some ((d + y) % x)
  | 0, x' :: xs, y' :: ys, x, y, hx, hy => by simp at hx hy; subst hx hy; simp [places]
  | k + 1, x' :: xs, y' :: ys, x, y, hx, hy => by
    have ih := places_at d k xs ys x y (by simpa using hx) (by simpa using hy)
    simpa [places] using ih
theorem Tryz.infoInt' : (Tryz.prog.info? 3).map (fun i => (i.zero, i.size, i.bytes)) = some (some (.int .i64 0), 1, 8) := by kernel_rfl
theorem own_drawn {w w' : World} {base : Nat} {e : TypeId} {size : Nat} {v : Value} {n : Nat} {xs : List Value} (h : w.ownsRow base e size v n xs) (d : Drawn w w') : w'.ownsRow base e size v n xs := by
  obtain ⟨m, rfl⟩ := d; exact h
theorem own_above {w : World} {base : Nat} {e : TypeId} {size : Nat} {v : Value} {n : Nat} {xs : List Value} (h : w.ownsRow base e size v n xs) {b : Nat} (hb : b < base) : some b ≠ v.ownBlock := by
  rcases h.2 with ⟨rfl, _⟩ | ⟨g, cap, cur, rfl, hg, _⟩
  · simp [Value.ownBlock]
  · simp [Value.ownBlock]; omega
theorem At.grown' {w w' : World} {b : Nat} {o : Obj} {row : Option Nat} (h : At w b o) (hg : w.grownBy w' row) (hne : some b ≠ row) : At w' b o := (hg.block b h.lt hne).trans h
/-- What cycle.Of leaves. -/
def OfOut (w : World) (n : Nat) (zs : List Int) (e : Ending) (w' : World) : Prop := ∃ a c, e = .returned (.tuple #[.slice a n c, .int .i64 0]) ∧ Ints w' w'.heap.size a n zs ∧ Below w.heap.size w w'
end Go.Proofs.YtdmkghgachapaaaGreatDoor
