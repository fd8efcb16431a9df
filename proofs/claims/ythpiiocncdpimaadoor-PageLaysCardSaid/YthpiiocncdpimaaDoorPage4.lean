/- Lists of strings and a table of them, as they lie in memory; what is read out of a reading. -/
import Derived.Test.YthpiiocncdpimaaDoorStrsIn
import Derived.SliceStrings
namespace Go.Proofs.YthpiiocncdpimaaDoor
set_option linter.unusedVariables false
set_option maxRecDepth 100000
open Go.RowKit Go.ChangeShapes Go.WideShapes

/-- A list of rows. -/
def RowsAt (w : World) (B : Nat) (a : Option Addr) (n : Nat) (rs : List (List ByteArray)) : Prop :=
  rs.length = n ∧ n ≤ 9223372036854775807 ∧ (0 < n → ∃ b off, a = some ⟨b, off, none⟩ ∧ b < B ∧ ∀ i, i < n → ∃ ai ci, (rs.getD i []).length ≤ ci ∧ ci ≤ 9223372036854775807 ∧ w.cell? ⟨b, off + i, none⟩ = some (.slice ai (rs.getD i []).length ci) ∧ Strs w B ai (rs.getD i []).length (rs.getD i []))
theorem RowsAt.below {w w' : World} {B B' : Nat} {a : Option Addr} {n : Nat} {rs : List (List ByteArray)} (h : RowsAt w B a n rs) (hb : Below B' w w') (hB : B ≤ B') : RowsAt w' B a n rs :=
  ⟨h.1, h.2.1, fun hn => by
    obtain ⟨b, off, e, hlt, hc⟩ := h.2.2 hn
    refine ⟨b, off, e, hlt, fun i hi => ?_⟩
    obtain ⟨ai, ci, h1, h2, h3, h4⟩ := hc i hi
    exact ⟨ai, ci, h1, h2, (hb.cell (p := ⟨b, off + i, none⟩) (Nat.lt_of_lt_of_le hlt hB)).trans h3, h4.below hb hB⟩⟩
theorem RowsAt.of_le {w : World} {B B' : Nat} {a : Option Addr} {n : Nat} {rs : List (List ByteArray)} (h : RowsAt w B a n rs) (hB : B ≤ B') : RowsAt w B' a n rs :=
  ⟨h.1, h.2.1, fun hn => by
    obtain ⟨b, off, e, hlt, hc⟩ := h.2.2 hn
    exact ⟨b, off, e, by omega, fun i hi => by obtain ⟨ai, ci, h1, h2, h3, h4⟩ := hc i hi; exact ⟨ai, ci, h1, h2, h3, h4.of_le hB⟩⟩⟩
theorem open_Rows {H : Type} {enc : TypeId × Value → H} {W : World} {fuel : Nat} {v : Value} {x : DataW H × List MemPlace}
    (h : DataW.trod enc Tryd.prog W 0 (fun _ => true) true fuel 23 [v] = some x) :
    ∃ a n c rs, v = .slice a n c ∧ n ≤ c ∧ c ≤ 9223372036854775807 ∧ RowsAt W W.heap.size a n rs ∧ (a = none → n = 0 ∧ c = 0) := by
  have hc1 : Tryd.prog.cellsOf 22 = 1 := by kernel_rfl
  rcases DataW.trod_slice Tryd.underlying23 h with ⟨hcs, _⟩ | ⟨a, len, cap, elems, rest, n, _, hcs, _, hb, hl, hm, hlen, hel, hsp, hns⟩
  · simp at hcs
    subst hcs
    exact ⟨none, 0, 0, [], rfl, by omega, by omega, ⟨rfl, by omega, fun h => absurd h (by omega)⟩, fun _ => ⟨rfl, rfl⟩⟩
  · simp at hcs
    subst hcs
    unfold maxLen at hm
    have each : ∀ i : Nat, ∃ ss : List ByteArray, i < len → ∃ ai ci, ss.length ≤ ci ∧ ci ≤ 9223372036854775807 ∧ W.cell? (a.add i) = some (.slice ai ss.length ci) ∧ Strs W W.heap.size ai ss.length ss := by
      intro i
      by_cases hi : i < len
      · have h1 := hel i hi
        rw [List.getElem?_eq_getElem (by omega), hc1, Nat.mul_one, Option.bind_eq_some_iff] at h1
        obtain ⟨cs', hcs', hy'⟩ := h1
        have hone : ∃ u, cs' = [u] := by
          rcases open_strings Tryd.underlying22 Tryd.underlying9 (by kernel_rfl) hy' with ⟨e, _⟩ | ⟨_, _, _, _, e, _⟩
          · exact ⟨_, e⟩
          · exact ⟨_, e⟩
        obtain ⟨u, rfl⟩ := hone
        obtain ⟨ai, ni, ci, ss, rfl, h2, h3, h4⟩ := open_Strs hy'
        have hn : ss.length = ni := h4.1
        subst hn
        exact ⟨ss, fun _ => ⟨ai, ci, h2, h3, cell_of_cells?_one hcs', h4⟩⟩
      · exact ⟨[], fun h => absurd h hi⟩
    obtain ⟨g, hg⟩ := Classical.axiomOfChoice each
    have hgd : ∀ i, i < len → ((List.range len).map g).getD i [] = g i := fun i hi => by simp [List.getD_eq_getElem?_getD, hi]
    refine ⟨some a, len, cap, (List.range len).map g, rfl, hl, by omega, ⟨by simp, by omega, fun hn => ?_⟩, fun h => by cases h⟩
    obtain ⟨b, off, spot⟩ := a
    obtain ⟨_, _, _, _, h0, _⟩ := hg 0 hn
    have hspot : spot = none := by simpa [Addr.add] using World.cell?_spot h0
    subst hspot
    have hb : b < W.heap.size := by
      rcases Nat.lt_or_ge b W.heap.size with h' | h'
      · exact h'
      · simp [World.cell?, Addr.add, Array.getElem?_eq_none h'] at h0
    refine ⟨b, off, rfl, hb, fun i hi => ?_⟩
    obtain ⟨ai, ci, h2, h3, h4, h5⟩ := hg i hi
    rw [hgd i hi]
    refine ⟨ai, ci, h2, h3, ?_, h5⟩
    by_cases hi0 : i = 0
    · subst hi0; simpa [Addr.add] using h4
    · simpa [Addr.add, hi0] using h4
theorem open_Table {H : Type} {enc : TypeId × Value → H} {W : World} {base : Nat} {v : Value} {d : DataW H} {p : List MemPlace}
    (o : Value.okWide Tryd.prog W .any base 25 v) (h : DataW.Trod enc Tryd.prog W 0 (fun _ => true) true 25 v d p) :
    ∃ a1 c1 a2 c2 hd rs, v = .agg #[.slice a1 hd.length c1, .slice a2 rs.length c2] ∧ hd.length ≤ c1 ∧ c1 ≤ 9223372036854775807 ∧ rs.length ≤ c2 ∧ c2 ≤ 9223372036854775807 ∧ Strs W W.heap.size a1 hd.length hd ∧ RowsAt W W.heap.size a2 rs.length rs ∧ (a2 = none → rs.length = 0 ∧ c2 = 0) := by
  obtain ⟨cs, n, rfl, hl, hf⟩ := open_agg Tryd.underlying25 (by kernel_rfl) (by kernel_rfl) o h
  match cs, hl with
  | [v0, v1], _ =>
    obtain ⟨_, _, e0, t0⟩ := hf 0 _ rfl
    obtain ⟨_, _, e1, t1⟩ := hf 1 _ rfl
    simp at e0 e1
    subst e0 e1
    obtain ⟨a1, n1, c1, hd, rfl, h1, h2, h3⟩ := open_Strs t0
    obtain ⟨a2, n2, c2, rs, rfl, h4, h5, h6, h7⟩ := open_Rows t1
    have e1 : hd.length = n1 := h3.1
    have e2 : rs.length = n2 := h6.1
    subst e1 e2
    exact ⟨a1, c1, a2, c2, hd, rs, rfl, h1, h2, h4, h5, h3, h6, h7⟩
end Go.Proofs.YthpiiocncdpimaaDoor
