/- Lists of strings, handed in, as they lie in memory. -/
import Derived.Test.YthpiiocncdpimaaDoorRows2
import Derived.SliceStrings
namespace Go.Proofs.YthpiiocncdpimaaDoor
set_option linter.unusedVariables false
set_option maxRecDepth 100000
open Go.RowKit Go.ChangeShapes Go.WideShapes

def Strs (w : World) (B : Nat) (a : Option Addr) (n : Nat) (ss : List ByteArray) : Prop :=
  ss.length = n ∧ n ≤ 9223372036854775807 ∧ (∀ s ∈ ss, s.size ≤ 9223372036854775807) ∧ (0 < n → ∃ b off, a = some ⟨b, off, none⟩ ∧ b < B ∧ ∀ i, i < n → w.cell? ⟨b, off + i, none⟩ = some (.string (ss.getD i ByteArray.empty)))
theorem Strs.below {w w' : World} {B B' : Nat} {a : Option Addr} {n : Nat} {ss : List ByteArray} (h : Strs w B a n ss) (hb : Below B' w w') (hB : B ≤ B') : Strs w' B a n ss :=
  ⟨h.1, h.2.1, h.2.2.1, fun hn => by
    obtain ⟨b, off, e, hlt, hc⟩ := h.2.2.2 hn
    exact ⟨b, off, e, hlt, fun i hi => (hb.cell (p := ⟨b, off + i, none⟩) (Nat.lt_of_lt_of_le hlt hB)).trans (hc i hi)⟩⟩
theorem Strs.of_le {w : World} {B B' : Nat} {a : Option Addr} {n : Nat} {ss : List ByteArray} (h : Strs w B a n ss) (hB : B ≤ B') : Strs w B' a n ss :=
  ⟨h.1, h.2.1, h.2.2.1, fun hn => by obtain ⟨b, off, e, hlt, hc⟩ := h.2.2.2 hn; exact ⟨b, off, e, by omega, hc⟩⟩
theorem open_Strs {H : Type} {enc : TypeId × Value → H} {W : World} {fuel : Nat} {v : Value} {x : DataW H × List MemPlace}
    (h : DataW.trod enc Tryd.prog W 0 (fun _ => true) true fuel 22 [v] = some x) :
    ∃ a n c ss, v = .slice a n c ∧ n ≤ c ∧ c ≤ 9223372036854775807 ∧ Strs W W.heap.size a n ss := by
  rcases open_strings Tryd.underlying22 Tryd.underlying9 (by kernel_rfl) h with ⟨hcs, _⟩ | ⟨a, l, c, zs, hcs, _, hl, hm, hz, _, hcell, hwz⟩
  · simp at hcs
    subst hcs
    exact ⟨none, 0, 0, [], rfl, by omega, by omega, rfl, by omega, by simp, fun h => absurd h (by omega)⟩
  · simp at hcs
    subst hcs
    unfold maxLen at hm hwz
    refine ⟨some a, l, c, zs.take l, rfl, hl, by omega, ?_, by omega, fun z hz' => hwz z (List.mem_of_mem_take hz'), fun hn => ?_⟩
    · rw [List.length_take]; simp at hz; omega
    · obtain ⟨b, off, spot⟩ := a
      have hzl : zs.length = c := by simpa using hz
      have h0 := hcell 0 (by omega)
      have hspot : spot = none := by simpa [Addr.add] using World.cell?_spot h0
      subst hspot
      have hb : b < W.heap.size := by
        rcases Nat.lt_or_ge b W.heap.size with h' | h'
        · exact h'
        · simp [World.cell?, Addr.add, Array.getElem?_eq_none h'] at h0
      refine ⟨b, off, rfl, hb, fun i hi => ?_⟩
      have := hcell i (by omega)
      rw [show (List.take l zs).getD i ByteArray.empty = zs.getD i ByteArray.empty by simp [List.getD_eq_getElem?_getD, hi]]
      by_cases h0 : i = 0
      · subst h0; simpa [Addr.add] using this
      · simpa [Addr.add, h0] using this
end Go.Proofs.YthpiiocncdpimaaDoor
