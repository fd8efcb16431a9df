/- slices.Sort at a row of []int of the call's own. -/
import Derived.Test.YtdmkghgachapaaaMem2
import Derived.Test.YtdmkghgachapaaaLaySort
import Derived.Test.YtdmkghgachapaaaKept
namespace Go.Proofs.Ytdmkghgachapaaa
set_option linter.unusedVariables false
set_option maxRecDepth 100000
open Go.RowKit

def sortI (xs : List Int) : List Int := xs.mergeSort fun x y => decide (x ≤ y)
theorem sortI_len (xs : List Int) : (sortI xs).length = xs.length := List.length_mergeSort _
/-- Block g of w holds at its head the numbers xs. -/
def RowI (w : World) (g n : Nat) (xs : List Int) : Prop := xs.length = n ∧ ∃ cur : Array Value, At w g (.cells cur 3) ∧ n ≤ cur.size ∧ ∀ (k : Nat) (x : Int), xs[k]? = some x → cur[k]? = some (.int .i64 x)
theorem RowI.then_ {w w' : World} {g n : Nat} {xs : List Int} (h : RowI w g n xs) (hb : Below w.heap.size w w') : RowI w' g n xs := by
  obtain ⟨hl, cur, ha, hs, hc⟩ := h
  exact ⟨hl, cur, ha.then_ hb, hs, hc⟩
theorem RowI.lt {w : World} {g n : Nat} {xs : List Int} (h : RowI w g n xs) : g < w.heap.size := by obtain ⟨_, cur, ha, _⟩ := h; exact ha.lt
theorem RowI.ints {w : World} {g n : Nat} {xs : List Int} (h : RowI w g n xs) (hI : ∀ x ∈ xs, I64 x) (hn : n ≤ 9223372036854775807) : Ints w w.heap.size (some ⟨g, 0, none⟩) n xs := by
  obtain ⟨hl, cur, ha, hs, hc⟩ := h
  refine ⟨hl, hn, hI, fun _ => ⟨g, 0, rfl, ha.lt, fun i hi => ?_⟩⟩
  have hx := List.getElem?_eq_getElem (show i < xs.length by omega)
  rw [Nat.zero_add, ha.cell i, hc i _ hx, List.getD_eq_getElem?_getD, hx]
  rfl
theorem row_own {w : World} {base : Nat} {v : Value} {n : Nat} {xs : List Int} (h : w.ownsRow base 3 1 v n (xs.map (Value.int .i64))) (hl : xs.length = n) :
    (v = .slice none 0 0 ∧ n = 0) ∨ ∃ g cap, v = .slice (some ⟨g, 0, none⟩) n cap ∧ base ≤ g ∧ n ≤ cap ∧ cap ≤ 9223372036854775807 ∧ RowI w g n xs := by
  rcases h.2 with ⟨rfl, h0⟩ | ⟨g, cap, cur, rfl, hg, hcur, hnc, hcm, hcs, htake⟩
  · exact .inl ⟨rfl, h0⟩
  · unfold maxLen at hcm
    refine .inr ⟨g, cap, rfl, hg, hnc, by omega, hl, cur, hcur, ?_, ?_⟩
    · have := congrArg List.length htake
      rw [List.length_take, List.length_map, hl] at this
      simp at this
      omega
    · intro k x hk
      have : (xs.map (Value.int .i64))[k]? = some (.int .i64 x) := by rw [List.getElem?_map, hk]; rfl
      rw [← htake, List.getElem?_take] at this
      split at this
      · rwa [Array.getElem?_toList] at this
      · cases this
theorem sort_ints (w : World) (g cap n : Nat) (xs : List Int) (h : RowI w g n xs) (hn : n ≤ 100000) :
    Calls Try.prog 12 #[.slice (some ⟨g, 0, none⟩) n cap] w fun e w' => e = .returned (.tuple #[]) ∧ RowI w' g n (sortI xs) ∧ OneKept g w w' := by
  obtain ⟨hl, cur, ha, hs, hc⟩ := h
  have hH : Go.Sort.Holds (Value.int .i64) w g 0 xs.toArray := by
    intro j hj
    have hj' : j < xs.length := by simpa using hj
    have hx := List.getElem?_eq_getElem hj'
    refine ⟨?_, ha.frozen (0 + j)⟩
    rw [ha.cell (0 + j), Nat.zero_add, hc j _ hx]
    simp [hj']
  subst hl
  refine (Any.slices_Sort_int Try.laysn189 g 0 cap xs w hH ha.lt (by omega)).mono ?_
  rintro e w' ⟨rfl, q, os, rfl⟩
  have hat0 : w.heap[g]? = some (.cells cur 3) := ha
  refine ⟨rfl, ⟨sortI_len xs, Go.Sort.putCells (Value.int .i64) 0 (sortI xs).toArray cur, ?_, by simp [Go.Sort.putCells]; omega, ?_⟩, ?_⟩
  · show (Go.Sort.grow _ os).heap[g]? = _
    rw [Go.Sort.heap_grow_old _ _ (by simpa [Go.Sort.putRow, Go.Sort.mapBlock, Go.Sort.ahead] using ha.lt)]
    simp [Go.Sort.putRow, Go.Sort.mapBlock, Go.Sort.ahead, Array.getElem?_modify, hat0, Go.Sort.onCells, sortI]
  · intro k x hk
    have hkl : k < (sortI xs).length := (List.getElem?_eq_some_iff.1 hk).1
    have hkl2 := sortI_len xs
    have hkc : k < cur.size := by omega
    rw [Go.Sort.putCells, Array.getElem?_mapIdx, Array.getElem?_eq_getElem hkc, Option.map_some, if_pos (by simp; omega)]
    rw [List.getElem?_eq_getElem hkl] at hk
    injection hk with hk
    simp [hkl, hk]
  · refine ⟨rfl, rfl, rfl, ?_, fun k hk hb => ?_⟩
    · simp [Go.Sort.grow, Go.Sort.putRow, Go.Sort.mapBlock, Go.Sort.ahead]
    · rw [Go.Sort.heap_grow_old _ _ (by simpa [Go.Sort.putRow, Go.Sort.mapBlock, Go.Sort.ahead] using hk)]
      simp [Go.Sort.putRow, Go.Sort.mapBlock, Go.Sort.ahead, Array.getElem?_modify, Ne.symm hb]
theorem sort_none (w : World) (ad : Option Addr) (cap : Nat) : Calls Try.prog 12 #[.slice ad 0 cap] w fun e w' => e = .returned (.tuple #[]) ∧ w' = w :=
  Any.slices_Sort_int_none Try.laysn189 ad cap w
theorem sortI_mem {xs : List Int} {x : Int} (h : x ∈ sortI xs) : x ∈ xs := List.mem_mergeSort.1 h
end Go.Proofs.Ytdmkghgachapaaa
