/- slices.Sort at a row of []int of the call's own; recur.sorted. -/
import Derived.Test.YtdmkghgachapaaaGreatDoorRec6
import Derived.Test.YtdmkghgachapaaaGreatDoorObx0
import Derived.Test.YtdmkghgachapaaaGreatDoorLayS
import Derived.Test.YtdmkghgachapaaaGreatDoorMgA
namespace Go.Proofs.YtdmkghgachapaaaGreatDoor
set_option linter.unusedVariables false
set_option maxRecDepth 100000
open Go.RowKit

def sortI (xs : List Int) : List Int := xs.mergeSort fun x y => decide (x ≤ y)
theorem sortI_len (xs : List Int) : (sortI xs).length = xs.length := List.length_mergeSort _
/-- Block g of w holds at its head the numbers xs. -/
def RowS (w : World) (g n : Nat) (xs : List Int) : Prop := xs.length = n ∧ ∃ cur : Array Value, At w g (.cells cur 3) ∧ n ≤ cur.size ∧ ∀ (k : Nat) (x : Int), xs[k]? = some x → cur[k]? = some (.int .i64 x)
theorem RowS.then_ {w w' : World} {g n : Nat} {xs : List Int} (h : RowS w g n xs) (hb : Below w.heap.size w w') : RowS w' g n xs := by
  obtain ⟨hl, cur, ha, hs, hc⟩ := h
  exact ⟨hl, cur, ha.then_ hb, hs, hc⟩
theorem RowS.lt {w : World} {g n : Nat} {xs : List Int} (h : RowS w g n xs) : g < w.heap.size := by obtain ⟨_, cur, ha, _⟩ := h; exact ha.lt
theorem RowS.ints {w : World} {g n : Nat} {xs : List Int} (h : RowS w g n xs) (hI : ∀ x ∈ xs, I64 x) (hn : n ≤ 9223372036854775807) : Ints w w.heap.size (some ⟨g, 0, none⟩) n xs := by
  obtain ⟨hl, cur, ha, hs, hc⟩ := h
  refine ⟨hl, hn, hI, fun _ => ⟨g, 0, rfl, ha.lt, fun i hi => ?_⟩⟩
  have hx := List.getElem?_eq_getElem (show i < xs.length by omega)
  rw [Nat.zero_add, ha.cell i, hc i _ hx, List.getD_eq_getElem?_getD, hx]
  rfl
theorem row_own {w : World} {base : Nat} {v : Value} {n : Nat} {xs : List Int} (h : w.ownsRow base 3 1 v n (xs.map (Value.int .i64))) (hl : xs.length = n) :
    (v = .slice none 0 0 ∧ n = 0) ∨ ∃ g cap, v = .slice (some ⟨g, 0, none⟩) n cap ∧ base ≤ g ∧ n ≤ cap ∧ cap ≤ 9223372036854775807 ∧ RowS w g n xs := by
  rcases h.2 with ⟨rfl, h0⟩ | ⟨g, cap, cur, rfl, hg, hcur, hnc, hcm, hcs, htake⟩
  · exact .inl ⟨rfl, h0⟩
  · unfold maxLen at hcm
    refine .inr ⟨g, cap, rfl, hg, hnc, by omega, hl, cur, hcur, ?_, ?_⟩
    · have := congrArg List.length htake
      rw [List.length_take, List.length_map, hl] at this
      simp at this
      omega
    · intro k x hk
      have : (xs.map (Value.int .i64))[k]? = some (.int .i64 x) := by rw [List.getElem?_map, hk]; rfl
      rw [← htake, List.getElem?_take] at this
      split at this
      · rwa [Array.getElem?_toList] at this
      · cases this
theorem sort_ints (w : World) (g cap n : Nat) (xs : List Int) (h : RowS w g n xs) (hn : n ≤ 100000) :
    Calls Tryz.prog 39 #[.slice (some ⟨g, 0, none⟩) n cap] w fun e w' => e = .returned (.tuple #[]) ∧ RowS w' g n (sortI xs) ∧ OneKept g w w' := by
  obtain ⟨hl, cur, ha, hs, hc⟩ := h
  have hH : Go.Sort.Holds (Value.int .i64) w g 0 xs.toArray := by
    intro j hj
    have hj' : j < xs.length := by simpa using hj
    have hx := List.getElem?_eq_getElem hj'
    refine ⟨?_, ha.frozen (0 + j)⟩
    rw [ha.cell (0 + j), Nat.zero_add, hc j _ hx]
    simp [hj']
  subst hl
  refine (Any.slices_Sort_int Tryz.laysn189 g 0 cap xs w hH ha.lt (by omega)).mono ?_
  rintro e w' ⟨rfl, q, os, rfl⟩
  have hat0 : w.heap[g]? = some (.cells cur 3) := ha
  refine ⟨rfl, ⟨sortI_len xs, Go.Sort.putCells (Value.int .i64) 0 (sortI xs).toArray cur, ?_, by simp [Go.Sort.putCells]; omega, ?_⟩, ?_⟩
  · show (Go.Sort.grow _ os).heap[g]? = _
    rw [Go.Sort.heap_grow_old _ _ (by simpa [Go.Sort.putRow, Go.Sort.mapBlock, Go.Sort.ahead] using ha.lt)]
    simp [Go.Sort.putRow, Go.Sort.mapBlock, Go.Sort.ahead, Array.getElem?_modify, hat0, Go.Sort.onCells, sortI]
  · intro k x hk
    have hkl : k < (sortI xs).length := (List.getElem?_eq_some_iff.1 hk).1
    have hkl2 := sortI_len xs
    have hkc : k < cur.size := by omega
    rw [Go.Sort.putCells, Array.getElem?_mapIdx, Array.getElem?_eq_getElem hkc, Option.map_some, if_pos (by simp; omega)]
    rw [List.getElem?_eq_getElem hkl] at hk
    injection hk with hk
    simp [hkl, hk]
  · refine ⟨rfl, rfl, rfl, ?_, fun k hk hb => ?_⟩
    · simp [Go.Sort.grow, Go.Sort.putRow, Go.Sort.mapBlock, Go.Sort.ahead]
    · rw [Go.Sort.heap_grow_old _ _ (by simpa [Go.Sort.putRow, Go.Sort.mapBlock, Go.Sort.ahead] using hk)]
      simp [Go.Sort.putRow, Go.Sort.mapBlock, Go.Sort.ahead, Array.getElem?_modify, Ne.symm hb]
theorem sort_none (w : World) (ad : Option Addr) (cap : Nat) : Calls Tryz.prog 39 #[.slice ad 0 cap] w fun e w' => e = .returned (.tuple #[]) ∧ w' = w :=
  Any.slices_Sort_int_none Tryz.laysn189 ad cap w
theorem sortI_mem {xs : List Int} {x : Int} (h : x ∈ sortI xs) : x ∈ xs := List.mem_mergeSort.1 h
/-- What recur.sorted leaves. -/
def SortedOut (n : Nat) (xs : List Int) (w : World) (e : Ending) (w' : World) : Prop := ∃ p c, e = .returned (.slice p n c) ∧ n ≤ c ∧ c ≤ 9223372036854775807 ∧ Ints w' w'.heap.size p n (sortI xs) ∧ Below w.heap.size w w' ∧ ∀ b o, p = some ⟨b, o, none⟩ → w.heap.size ≤ b
set_option maxHeartbeats 2000000 in
theorem recur_sorted (w : World) (a : Option Addr) (n c : Nat) (xs : List Int) (h : Ints w w.heap.size a n xs) (hn : n ≤ 100000) :
    Calls Tryz.prog 19 #[.slice a n c] w (SortedOut n xs w) := by
  have hl := h.1
  have hI := Lib.hid h.2.2.1
  have HL := Lib.hid hl
  have HC := Lib.hid (clone_ints w a n c xs h hn)
  clear h hl
  go_enter Tryz.func19, Tryz.ntmps19
  go_wp2_with fail
  refine HC.out.mono ?_
  rintro e w1 ⟨v, rfl, hown, hb⟩
  have hI2 : ∀ x ∈ sortI xs, I64 x := fun x hx => hI.out x (sortI_mem hx)
  have HI2 := Lib.hid hI2
  have HB := Lib.hid hb
  clear hI2 hb
  rcases row_own hown HL.out with ⟨rfl, rfl⟩ | ⟨g, cap, rfl, hg, hnc, hc, hrow⟩
  · clear hown
    go_wp2_with fail
    refine (sort_none w1 none 0).mono ?_
    rintro e w2 ⟨rfl, rfl⟩
    go_wp2_with fail
    go_ret
    have hx : xs = [] := List.length_eq_zero_iff.1 HL.out
    exact ⟨none, 0, rfl, by omega, by omega, ⟨by rw [sortI_len]; exact HL.out, by omega, HI2.out, fun h => absurd h (by omega)⟩, HB.out, fun b o h => by cases h⟩
  · have HR := Lib.hid hrow
    have hlt := hrow.lt
    clear hown hrow
    go_wp2_with fail
    refine (sort_ints w1 g cap n xs HR.out hn).mono ?_
    rintro e w2 ⟨rfl, hr2, hk⟩
    have HR2 := Lib.hid hr2; have HK := Lib.hid hk
    clear hr2 hk
    go_wp2_with fail
    go_ret
    exact ⟨some ⟨g, 0, none⟩, cap, rfl, hnc, hc, HR2.out.ints HI2.out (by omega), HK.out.below_own HB.out hg, fun b o h => by injection h with h; injection h with h; omega⟩
end Go.Proofs.YtdmkghgachapaaaGreatDoor
