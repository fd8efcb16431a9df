/- Rows of strings of the call's own. -/
import Derived.Test.YthpiiocncdpimaaDoorStore
import Derived.Deep.AppendLies
namespace Go.Proofs.YthpiiocncdpimaaDoor
set_option linter.unusedVariables false
set_option maxRecDepth 100000
open Go.RowKit

theorem infoStr : (Tryd.prog.info? 9).map (fun i => (i.zero, i.size, i.bytes)) = some (some (.string ⟨#[]⟩), 1, 16) := by kernel_rfl
theorem own_thenS {w w' : World} {base : Nat} {e : TypeId} {size : Nat} {v : Value} {n : Nat} {xs : List Value} (h : w.ownsRow base e size v n xs) (hb : Below w.heap.size w w') : w'.ownsRow base e size v n xs := by
  refine ⟨h.1, ?_⟩
  rcases h.2 with h0 | ⟨g, cap, cur, hv, hg, hat, rest⟩
  · exact .inl h0
  · exact .inr ⟨g, cap, cur, hv, hg, (show At w g _ from hat).then_ hb, rest⟩
theorem own_farS {w : World} {base : Nat} {e : TypeId} {size : Nat} {v : Value} {n : Nat} {xs : List Value} (h : w.ownsRow base e size v n xs) {b : Nat} (hb : v.ownBlock = some b) : base ≤ b := by
  rcases h.2 with ⟨rfl, _⟩ | ⟨g, cap, cur, rfl, hg, _⟩
  · cases hb
  · cases hb; exact hg
def strV (l : List UInt8) : Value := .string ⟨l.toArray⟩
/-- A row of strings of the call's own: its cells. -/
theorem own_strs {w : World} {base : Nat} {v : Value} {n : Nat} {ls : List (List UInt8)} (h : w.ownsRow base 9 1 v n (ls.map strV)) (hn : ls.length = n) (h0 : 0 < n) :
    ∃ g c, v = .slice (some ⟨g, 0, none⟩) n c ∧ n ≤ c ∧ g < w.heap.size ∧ ∀ (j : Nat) (l : List UInt8), ls[j]? = some l → w.cell? ⟨g, 0 + j, none⟩ = some (.string ⟨l.toArray⟩) := by
  rcases h.2 with ⟨rfl, hz⟩ | ⟨g, cap, cur, rfl, _, hcur, hnc, hcm, hcs, htake⟩
  · exact absurd hz (by omega)
  · have hat : At w g (.cells cur 9) := hcur
    have ht : cur.toList.take n = ls.map strV := by simpa using htake
    refine ⟨g, cap, rfl, hnc, hat.lt, fun j l hj => ?_⟩
    have hjn : j < n := by have := (List.getElem?_eq_some_iff.1 hj).1; omega
    have h1 : (cur.toList.take n)[j]? = some (.string ⟨l.toArray⟩) := by rw [ht, List.getElem?_map, hj]; rfl
    rw [List.getElem?_take, if_pos hjn, Array.getElem?_toList] at h1
    rw [hat.cell (0 + j), Nat.zero_add, h1]
end Go.Proofs.YthpiiocncdpimaaDoor
