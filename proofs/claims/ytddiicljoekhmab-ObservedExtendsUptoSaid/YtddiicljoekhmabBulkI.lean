/- What a bound of the bulk of an argument says of its parts: a struct, a slice. -/
import Derived.Test.YtddiicljoekhmabRows
import Derived.Test.YtddiicljoekhmabRows2
import Derived.Test.YtddiicljoekhmabMem2
namespace Go.Proofs.Ytddiicljoekhmab
set_option linter.unusedVariables false
set_option maxRecDepth 100000
open Go.RowKit Go.ChangeShapes Go.WideShapes Go.Deep

theorem bulk_one {H : Type} (d : DataW H) : 1 ≤ Rows.uptoBulk d := by
  cases d with
  | lit l => cases l <;> simp [Rows.uptoBulk]
  | nil => simp [Rows.uptoBulk]
  | ptr d => simp [Rows.uptoBulk]
  | slice elems spare => simp [Rows.uptoBulk]
  | agg parts => simp [Rows.uptoBulk]
  | iface t d => simp [Rows.uptoBulk]
  | map entries => simp [Rows.uptoBulk]
  | held h => simp [Rows.uptoBulk]
theorem bulk_part {H : Type} {d : DataW H} {l : List (DataW H)} (h : d ∈ l) : Rows.uptoBulk d ≤ Rows.uptoBulkAll l := by
  induction l with
  | nil => cases h
  | cons x r ih =>
    simp only [Rows.uptoBulkAll]
    cases List.mem_cons.1 h with
    | inl e => subst e; omega
    | inr e => have := ih e; omega
theorem bulk_len {H : Type} (l : List (DataW H)) : l.length ≤ Rows.uptoBulkAll l := by
  induction l with
  | nil => simp [Rows.uptoBulkAll]
  | cons x r ih => have := bulk_one x; simp only [Rows.uptoBulkAll, List.length_cons]; omega
theorem open_aggB {H : Type} {enc : TypeId × Value → H} {W : World} {r : Reach} {b0 : Nat} {t : TypeId} {fs : Array Field} {v : Value} {d : DataW H} {p : List MemPlace} {M : Nat}
    (hs : Try.prog.underlying t = some (.struct fs)) (hone : oneCellFields Try.prog fs = true) (hC : Try.prog.cellsOf t = fs.size)
    (hv : Value.okWide Try.prog W r b0 t v) (h : DataW.Trod enc Try.prog W 0 (fun _ => true) true t v d p) (hM : Rows.uptoBulk d ≤ M) :
    ∃ (cs : List Value) (n : Nat), v = .agg cs.toArray ∧ cs.length = fs.size ∧ ∀ (j : Nat) (f : Field), fs[j]? = some f → ∃ u y, cs[j]? = some u ∧ DataW.trod enc Try.prog W 0 (fun _ => true) true n f.type [u] = some y ∧ Rows.uptoBulk y.1 ≤ M := by
  obtain ⟨cs, rfl, hsz⟩ := okWide_struct hs hv
  obtain ⟨l⟩ := cs
  obtain ⟨fuel, hf⟩ := h
  obtain ⟨ys, n', hn', hy, hlen, hyl, hg⟩ := DataW.trod_struct hs hf
  have hl : l.length = fs.size := by have := hsz.trans hC; simpa using this
  have hyD : d = .agg (ys.map (·.1)) := congrArg (·.1) hy
  rw [hyD] at hM
  simp only [Rows.uptoBulk] at hM
  refine ⟨l, n', rfl, hl, fun j f hj => ?_⟩
  obtain ⟨ho, hk⟩ := hone_of hone j f hj
  have hjl : j < fs.size := (Array.getElem?_eq_some_iff.1 hj).1
  have h1 := hg j f hj
  rw [ho, hk] at h1
  have hone' : List.take 1 (List.drop j (Value.agg (⟨l⟩ : Array Value)).cells.toList) = [l[j]'(by omega)] := by
    show (l.drop j).take 1 = _
    rw [List.drop_eq_getElem_cons (by omega)]
    rfl
  rw [hone'] at h1
  have hys : ys[j]? = some (ys[j]'(by omega)) := List.getElem?_eq_getElem (by omega)
  refine ⟨_, _, List.getElem?_eq_getElem (by omega), h1.trans hys, ?_⟩
  have := bulk_part (l := ys.map (·.1)) (List.mem_map.2 ⟨_, List.getElem_mem (show j < ys.length by omega), rfl⟩)
  omega
/-- A slice within the bound is short; nil has no room. -/
theorem bulk_slice {H : Type} {enc : TypeId × Value → H} {W : World} {fuel : Nat} {v : Value} {x : DataW H × List MemPlace} {t e : TypeId} {M : Nat}
    (ht : Try.prog.underlying t = some (.slice e)) (h : DataW.trod enc Try.prog W 0 (fun _ => true) true fuel t [v] = some x) (hM : Rows.uptoBulk x.1 ≤ M) :
    ∃ a len cap, v = .slice a len cap ∧ len ≤ M ∧ (a = none → cap = 0) := by
  rcases open_slice ht h with ⟨hcs, _⟩ | ⟨a, len, cap, m, n, D, Pl, hcs, _, hl, hm, hmm, hx, hi⟩
  · simp at hcs
    subst hcs
    exact ⟨none, 0, 0, rfl, by omega, fun _ => rfl⟩
  · simp at hcs
    subst hcs
    subst hx
    simp only [Rows.uptoBulk] at hM
    have := bulk_len ((List.range len).map D)
    rw [List.length_map, List.length_range] at this
    exact ⟨some a, len, cap, rfl, by omega, fun h => nomatch h⟩
end Go.Proofs.Ytddiicljoekhmab
