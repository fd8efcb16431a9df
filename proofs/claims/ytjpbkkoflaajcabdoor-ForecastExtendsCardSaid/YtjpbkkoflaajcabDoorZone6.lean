/- Contracts of zone.Instants and zone.One. -/
import Derived.Test.YtjpbkkoflaajcabDoorZone5
import Derived.Test.YtjpbkkoflaajcabDoorOwn
import Derived.Deep.CutRange
namespace Go.Proofs.YtjpbkkoflaajcabDoor
set_option linter.unusedVariables false
set_option maxRecDepth 100000
open Go.RowKit

theorem Tryd.infoInt6 : (Tryd.prog.info? 3).map (fun i => (i.zero, i.size, i.bytes)) = some (some (.int .i64 0), 1, 8) := by kernel_rfl
theorem own_near {w : World} {base : Nat} {e : TypeId} {size : Nat} {v : Value} {n : Nat} {xs : List Value} (h : w.ownsRow base e size v n xs) {b : Nat} (hb : b < base) : some b ≠ v.ownBlock := by
  rcases h.2 with ⟨rfl, _⟩ | ⟨g, cap, cur, rfl, hg, _⟩
  · simp [Value.ownBlock]
  · simp [Value.ownBlock]; omega
theorem At.grown6 {w w' : World} {b : Nat} {o : Obj} {row : Option Nat} (h : At w b o) (hg : w.grownBy w' row) (hne : some b ≠ row) : At w' b o := (hg.block b h.lt hne).trans h
/-- What is left of the intervals from the j-th one on (the 0-th one is the time ahead of all changes). -/
def instAt (loc f : Int) (xs : List Chg) : Nat → List Int
  | 0 => instGo loc none f xs
  | j + 1 => match xs[j]? with
    | some x => instGo loc (some x.1) x.2.1 (xs.drop (j + 1))
    | none => []
/-- The condition at the j-th interval, o being its offset. -/
def instC (loc : Int) (lo : Option Int) (o : Int) (hi : Option Int) : Bool := instB (loc - o) && (loOk lo (loc - o) && (match hi with | none => true | some a => decide (loc - o < a)))
theorem instAt_last {loc f : Int} {xs : List Chg} {j : Nat} (h : xs.length < j) : instAt loc f xs j = [] := by
  cases j with
  | zero => omega
  | succ j => rw [instAt, List.getElem?_eq_none (by omega)]
theorem instAt_zero {loc f : Int} {xs : List Chg} : instAt loc f xs 0 = (if instC loc none f ((xs[0]?).map (·.1)) = true then [loc - f] else []) ++ instAt loc f xs 1 := by
  cases xs with
  | nil => rw [instAt, instGo_nil, instAt_last (by simp)]; simp [instC]
  | cons x r =>
    obtain ⟨a, o, l⟩ := x
    rw [instAt, instGo_cons]
    simp [instC, instAt]
theorem instAt_succ {loc f : Int} {xs : List Chg} {j : Nat} {a o : Int} {l : ByteArray} (h : xs[j]? = some (a, o, l)) : instAt loc f xs (j + 1) = (if instC loc (some a) o ((xs[j + 1]?).map (·.1)) = true then [loc - o] else []) ++ instAt loc f xs (j + 1 + 1) := by
  rw [instAt, h]
  simp only
  rcases Nat.lt_or_ge (j + 1) xs.length with hl | hl
  · have hx : xs[j + 1]? = some xs[j + 1] := List.getElem?_eq_getElem hl
    rw [List.drop_eq_getElem_cons hl, hx]
    generalize xs[j + 1] = y at *
    obtain ⟨a', o', l'⟩ := y
    rw [instGo_cons, instAt, hx]
    rfl
  · rw [List.drop_eq_nil_of_le hl, instGo_nil, instAt_last (j := j + 1 + 1) (by omega), List.getElem?_eq_none hl]
    simp [instC]
end Go.Proofs.YtjpbkkoflaajcabDoor
