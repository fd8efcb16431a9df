/- Slices of integers that came in, as lists: what the walks are told of memory. -/
import Derived.Test.YthpiiocncdpimaaDoorBase
import Derived.ProofKit
import Derived.OpenShut
import Derived.Lib.SmallJoins
import Derived.Deep.RegionHeld3
namespace Go.Proofs.YthpiiocncdpimaaDoor
set_option linter.unusedVariables false
set_option maxRecDepth 100000
open Go.RowKit Go.ChangeShapes Go.WideShapes

/-- The slice '.slice a n _' holds the numbers xs, below block B. -/
def Ints (w : World) (B : Nat) (a : Option Addr) (n : Nat) (xs : List Int) : Prop :=
  xs.length = n ∧ n ≤ 9223372036854775807 ∧ (∀ x ∈ xs, I64 x) ∧ (0 < n → ∃ b off, a = some ⟨b, off, none⟩ ∧ b < B ∧ ∀ i, i < n → w.cell? ⟨b, off + i, none⟩ = some (.int .i64 (xs.getD i 0)))
theorem Ints.below {w w' : World} {B B' : Nat} {a : Option Addr} {n : Nat} {xs : List Int} (h : Ints w B a n xs) (hb : Below B' w w') (hB : B ≤ B') : Ints w' B a n xs :=
  ⟨h.1, h.2.1, h.2.2.1, fun hn => by
    obtain ⟨b, off, e, hlt, hc⟩ := h.2.2.2 hn
    exact ⟨b, off, e, hlt, fun i hi => (hb.cell (p := ⟨b, off + i, none⟩) (Nat.lt_of_lt_of_le hlt hB)).trans (hc i hi)⟩⟩
theorem Ints.more {w : World} {B B' : Nat} {a : Option Addr} {n : Nat} {xs : List Int} (h : Ints w B a n xs) (hB : B ≤ B') : Ints w B' a n xs :=
  ⟨h.1, h.2.1, h.2.2.1, fun hn => by
    obtain ⟨b, off, e, hlt, hc⟩ := h.2.2.2 hn
    exact ⟨b, off, e, by omega, hc⟩⟩
theorem Ints.alloc {w : World} {B : Nat} {a : Option Addr} {n : Nat} {xs : List Int} (h : Ints w B a n xs) (hB : B ≤ w.heap.size) (o : Obj) : Ints (w.alloc o) B a n xs :=
  h.below ((Below.refl _ _).alloc (Nat.le_refl _) o) hB
theorem Ints.drewN {w : World} {B : Nat} {a : Option Addr} {n : Nat} {xs : List Int} (h : Ints w B a n xs) (m : Nat) : Ints (w.drewN m) B a n xs := h
theorem Ints.len {w : World} {B : Nat} {a : Option Addr} {n : Nat} {xs : List Int} (h : Ints w B a n xs) : xs.length = n := h.1
theorem Ints.at_ {w : World} {B : Nat} {a : Option Addr} {n : Nat} {xs : List Int} (h : Ints w B a n xs) {k : Nat} (hk : k < n) :
    ∃ b off x, a = some ⟨b, off, none⟩ ∧ b < B ∧ w.cell? ⟨b, off + k, none⟩ = some (.int .i64 x) ∧ xs[k]? = some x ∧ -9223372036854775808 ≤ x ∧ x ≤ 9223372036854775807 := by
  obtain ⟨b, off, e, hlt, hc⟩ := h.2.2.2 (by omega)
  have hl : k < xs.length := by have := h.1; omega
  have hx := List.getElem?_eq_getElem hl
  refine ⟨b, off, xs[k], e, hlt, ?_, hx, h.2.2.1 _ (List.getElem_mem hl)⟩
  have := hc k hk
  rwa [List.getD_eq_getElem?_getD, hx, Option.getD_some] at this

theorem Ints.far {w w1 w2 : World} {a : Option Addr} {n : Nat} {xs : List Int} (h : Ints w w.heap.size a n xs) (b : Below w.heap.size w w1) (b' : Below w1.heap.size w1 w2) : Ints w2 w2.heap.size a n xs :=
  ((h.below b (Nat.le_refl _)).below b' b.size).more (Nat.le_trans b.size b'.size)
theorem Ints.take {w : World} {B : Nat} {a : Option Addr} {n : Nat} {xs : List Int} (h : Ints w B a n xs) {k : Nat} (hk : k ≤ n) : Ints w B a k (xs.take k) :=
  ⟨by rw [List.length_take, h.1]; omega, Nat.le_trans hk h.2.1, fun x hx => h.2.2.1 x (List.mem_of_mem_take hx), fun hn => by
    obtain ⟨b, off, e, hlt, hc⟩ := h.2.2.2 (by omega)
    refine ⟨b, off, e, hlt, fun i hi => ?_⟩
    rw [hc i (by omega)]
    simp [List.getD_eq_getElem?_getD, hi]⟩
/-- A parameter, or a field, of type []int. -/
theorem open_Ints {H : Type} {enc : TypeId × Value → H} {W : World} {fuel : Nat} {v : Value} {x : DataW H × List MemPlace}
    (h : DataW.trod enc Tryd.prog W 0 (fun _ => true) true fuel 61 [v] = some x) :
    ∃ a n c xs, v = .slice a n c ∧ n ≤ c ∧ c ≤ 9223372036854775807 ∧ Ints W W.heap.size a n xs := by
  rcases open_ints Tryd.underlying61 Tryd.underlying3 (by kernel_rfl) h with ⟨hcs, _⟩ | ⟨a, l, c, zs, hcs, _, hl, hm, hz, _, hcell, hwz⟩
  · simp at hcs
    subst hcs
    exact ⟨none, 0, 0, [], rfl, by omega, by omega, rfl, by omega, by simp, fun h => absurd h (by omega)⟩
  · simp at hcs
    subst hcs
    unfold maxLen at hm
    refine ⟨some a, l, c, zs.take l, rfl, hl, by omega, ?_, by omega, fun z hz' => bounds_i64 (hwz z (List.mem_of_mem_take hz')), fun hn => ?_⟩
    · rw [List.length_take]; simp at hz; omega
    · obtain ⟨b, off, spot⟩ := a
      have hzl : zs.length = c := by simpa using hz
      have h0 := hcell 0 (by omega)
      have hspot : spot = none := by simpa [Addr.add] using World.cell?_spot h0
      subst hspot
      have hb : b < W.heap.size := by
        rcases Nat.lt_or_ge b W.heap.size with h' | h'
        · exact h'
        · simp [World.cell?, Addr.add, Array.getElem?_eq_none h'] at h0
      refine ⟨b, off, rfl, hb, fun i hi => ?_⟩
      have := hcell i (by omega)
      rw [show (List.take l zs).getD i 0 = zs.getD i 0 by simp [List.getD_eq_getElem?_getD, hi]]
      by_cases h0 : i = 0
      · subst h0; simpa [Addr.add] using this
      · simpa [Addr.add, h0] using this
end Go.Proofs.YthpiiocncdpimaaDoor
