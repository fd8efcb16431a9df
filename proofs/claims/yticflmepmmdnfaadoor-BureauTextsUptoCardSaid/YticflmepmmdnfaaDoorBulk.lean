/- What a bound of the bulk of an argument says of its parts: rows, structs, strings, zones. -/
import Derived.Test.YticflmepmmdnfaaDoorRows
import Derived.Test.YticflmepmmdnfaaDoorZone0
namespace Go.Proofs.YticflmepmmdnfaaDoor
set_option linter.unusedVariables false
set_option maxRecDepth 100000
open Go.RowKit Go.ChangeShapes Go.WideShapes Go.Deep

theorem bulk_one {H : Type} (d : DataW H) : 1 ≤ Rows.uptoBulk d := by
  cases d with
  | lit l => cases l <;> simp [Rows.uptoBulk]
  | nil => simp [Rows.uptoBulk]
  | ptr d => simp [Rows.uptoBulk]
  | slice elems spare => simp [Rows.uptoBulk]
  | agg parts => simp [Rows.uptoBulk]
  | iface t d => simp [Rows.uptoBulk]
  | map entries => simp [Rows.uptoBulk]
  | held h => simp [Rows.uptoBulk]
theorem bulk_part {H : Type} {d : DataW H} {l : List (DataW H)} (h : d ∈ l) : Rows.uptoBulk d ≤ Rows.uptoBulkAll l := by
  induction l with
  | nil => cases h
  | cons x r ih =>
    simp only [Rows.uptoBulkAll]
    cases List.mem_cons.1 h with
    | inl e => subst e; omega
    | inr e => have := ih e; omega
theorem bulk_len {H : Type} (l : List (DataW H)) : l.length ≤ Rows.uptoBulkAll l := by
  induction l with
  | nil => simp [Rows.uptoBulkAll]
  | cons x r ih => have := bulk_one x; simp only [Rows.uptoBulkAll, List.length_cons]; omega
theorem open_rowsB {H : Type} {enc : TypeId × Value → H} {W : World} {fuel : Nat} {v : Value} {x : DataW H × List MemPlace} {t e : TypeId} {fs : Array Field} {M : Nat}
    (ht : Tryd.prog.underlying t = some (.slice e)) (he : Tryd.prog.underlying e = some (.struct fs)) (hone : oneCellFields Tryd.prog fs = true) (hC : Tryd.prog.cellsOf e = fs.size) (hpos : 0 < fs.size)
    (h : DataW.trod enc Tryd.prog W 0 (fun _ => true) true fuel t [v] = some x) (hM : Rows.uptoBulk x.1 ≤ M) :
    ∃ a len cap, v = .slice a len cap ∧ len ≤ M ∧ (0 < len → ∃ b off, a = some ⟨b, off, none⟩ ∧ b < W.heap.size ∧ ∀ i, i < len → ∃ n, ∀ j f, fs[j]? = some f →
      ∃ u y, W.cell? ⟨b, off + i * fs.size + j, none⟩ = some u ∧ DataW.trod enc Tryd.prog W 0 (fun _ => true) true n f.type [u] = some y ∧ Rows.uptoBulk y.1 ≤ M) := by
  rcases open_slice ht h with ⟨hcs, _⟩ | ⟨a, len, cap, m, n, D, Pl, hcs, _, hl, hm, hmm, hx, hi⟩
  · simp at hcs
    subst hcs
    exact ⟨none, 0, 0, rfl, by omega, fun h => absurd h (by omega)⟩
  · simp at hcs
    subst hcs
    unfold maxLen at hm
    subst hx
    simp only [Rows.uptoBulk] at hM
    have hD : ∀ i, i < len → Rows.uptoBulk (D i) ≤ M := fun i hi' => by
      have := bulk_part (l := (List.range len).map D) (List.mem_map.2 ⟨i, List.mem_range.2 hi', rfl⟩)
      omega
    have hlen : len ≤ M := by
      have := bulk_len ((List.range len).map D)
      rw [List.length_map, List.length_range] at this
      omega
    refine ⟨some a, len, cap, rfl, hlen, fun hn => ?_⟩
    have hrec : ∀ i, i < len → ∃ n, ∀ j f, fs[j]? = some f → ∃ u y, W.cell? (a.add (i * fs.size + j)) = some u ∧ DataW.trod enc Tryd.prog W 0 (fun _ => true) true n f.type [u] = some y ∧ Rows.uptoBulk y.1 ≤ M := by
      intro i him
      obtain ⟨cs', hc, ht'⟩ := hi i (by rw [hmm]; simp; omega)
      rw [hC] at hc
      obtain ⟨ys, n', hn', hy, hlen, hyl, hf⟩ := DataW.trod_struct he ht'
      obtain ⟨_, hcl, hat⟩ := World.cells?_some hc
      have hDi := hD i him
      have hyD : D i = .agg (ys.map (·.1)) := congrArg (·.1) hy
      rw [hyD] at hDi
      simp only [Rows.uptoBulk] at hDi
      refine ⟨n', fun j f hj => ?_⟩
      obtain ⟨ho, hk⟩ := hone_of hone j f hj
      have hjl : j < fs.size := (Array.getElem?_eq_some_iff.1 hj).1
      have hcell := hat j hjl
      have hv : cs'[j]? = some (cs'[j]'(by omega)) := List.getElem?_eq_getElem (by omega)
      have h1 := hf j f hj
      rw [ho, hk] at h1
      have hone' : (cs'.drop j).take 1 = [cs'[j]'(by omega)] := by
        rw [List.drop_eq_getElem_cons (by omega)]
        rfl
      rw [hone'] at h1
      have hys : ys[j]? = some (ys[j]'(by omega)) := List.getElem?_eq_getElem (by omega)
      refine ⟨_, _, ?_, h1.trans hys, ?_⟩
      · rw [← Go.Deep.add_add, hcell, hv]
      · have := bulk_part (l := ys.map (·.1)) (List.mem_map.2 ⟨_, List.getElem_mem (show j < ys.length by omega), rfl⟩)
        omega
    obtain ⟨b, off, spot⟩ := a
    obtain ⟨n0, h0⟩ := hrec 0 hn
    obtain ⟨u, y, hu, _⟩ := h0 0 _ (Array.getElem?_eq_getElem hpos)
    have hspot : spot = none := by simpa [Addr.add] using World.cell?_spot hu
    subst hspot
    have hb : b < W.heap.size := by
      rcases Nat.lt_or_ge b W.heap.size with h' | h'
      · exact h'
      · simp [World.cell?, Addr.add, Array.getElem?_eq_none h'] at hu
    refine ⟨b, off, rfl, hb, fun i hi' => ?_⟩
    obtain ⟨n1, h1⟩ := hrec i hi'
    refine ⟨n1, fun j f hj => ?_⟩
    obtain ⟨u, y, hu, hy⟩ := h1 j f hj
    rw [add_none, ← Nat.add_assoc] at hu
    exact ⟨u, y, hu, hy⟩
theorem open_strB {H : Type} {enc : TypeId × Value → H} {W : World} {n : Nat} {u : Value} {y : DataW H × List MemPlace} {M : Nat} (h : DataW.trod enc Tryd.prog W 0 (fun _ => true) true n 9 [u] = some y) (hM : Rows.uptoBulk y.1 ≤ M) : ∃ s : ByteArray, u = .string s ∧ s.size ≤ M := by
  obtain ⟨s, hs, hy, hm⟩ := DataW.trod_string Tryd.underlying9 h
  simp at hs
  rw [hy] at hM
  simp only [Rows.uptoBulk] at hM
  refine ⟨s, hs, ?_⟩
  have : s.data.toList.length = s.size := by simp
  simp at hM
  omega
theorem open_aggB {H : Type} {enc : TypeId × Value → H} {W : World} {r : Reach} {b0 : Nat} {t : TypeId} {fs : Array Field} {v : Value} {d : DataW H} {p : List MemPlace} {M : Nat}
    (hs : Tryd.prog.underlying t = some (.struct fs)) (hone : oneCellFields Tryd.prog fs = true) (hC : Tryd.prog.cellsOf t = fs.size)
    (hv : Value.okWide Tryd.prog W r b0 t v) (h : DataW.Trod enc Tryd.prog W 0 (fun _ => true) true t v d p) (hM : Rows.uptoBulk d ≤ M) :
    ∃ (cs : List Value) (n : Nat), v = .agg cs.toArray ∧ cs.length = fs.size ∧ ∀ (j : Nat) (f : Field), fs[j]? = some f → ∃ u y, cs[j]? = some u ∧ DataW.trod enc Tryd.prog W 0 (fun _ => true) true n f.type [u] = some y ∧ Rows.uptoBulk y.1 ≤ M := by
  obtain ⟨cs, rfl, hsz⟩ := okWide_struct hs hv
  obtain ⟨l⟩ := cs
  obtain ⟨fuel, hf⟩ := h
  obtain ⟨ys, n', hn', hy, hlen, hyl, hg⟩ := DataW.trod_struct hs hf
  have hl : l.length = fs.size := by have := hsz.trans hC; simpa using this
  have hyD : d = .agg (ys.map (·.1)) := congrArg (·.1) hy
  rw [hyD] at hM
  simp only [Rows.uptoBulk] at hM
  refine ⟨l, n', rfl, hl, fun j f hj => ?_⟩
  obtain ⟨ho, hk⟩ := hone_of hone j f hj
  have hjl : j < fs.size := (Array.getElem?_eq_some_iff.1 hj).1
  have h1 := hg j f hj
  rw [ho, hk] at h1
  have hone' : List.take 1 (List.drop j (Value.agg (⟨l⟩ : Array Value)).cells.toList) = [l[j]'(by omega)] := by
    show (l.drop j).take 1 = _
    rw [List.drop_eq_getElem_cons (by omega)]
    rfl
  rw [hone'] at h1
  have hys : ys[j]? = some (ys[j]'(by omega)) := List.getElem?_eq_getElem (by omega)
  refine ⟨_, _, List.getElem?_eq_getElem (by omega), h1.trans hys, ?_⟩
  have := bulk_part (l := ys.map (·.1)) (List.mem_map.2 ⟨_, List.getElem_mem (show j < ys.length by omega), rfl⟩)
  omega
theorem open_ChangesB {H : Type} {enc : TypeId × Value → H} {W : World} {fuel : Nat} {v : Value} {x : DataW H × List MemPlace} {M : Nat}
    (h : DataW.trod enc Tryd.prog W 0 (fun _ => true) true fuel 22 [v] = some x) (hM : Rows.uptoBulk x.1 ≤ M) (hM2 : M ≤ 9223372036854775807) :
    ∃ a n c xs, v = .slice a n c ∧ n ≤ M ∧ (∀ x ∈ xs, x.2.2.size ≤ M) ∧ Changes W W.heap.size a n xs := by
  obtain ⟨a, len, cap, rfl, hl, hrow⟩ := open_rowsB Tryd.underlying22 Tryd.underlying31 (by kernel_rfl) (by kernel_rfl) (by decide) h hM
  by_cases hn : 0 < len
  · obtain ⟨b, off, rfl, hb, hc⟩ := hrow hn
    have hs : ∀ i, i < len → ∃ x : Chg, (∀ j v, (encChg x)[j]? = some v → W.cell? ⟨b, off + i * 3 + j, none⟩ = some v) ∧ okChg x ∧ x.2.2.size ≤ M := by
      intro i hi
      obtain ⟨n, hf⟩ := hc i hi
      obtain ⟨z0, y0, c0, t0, _⟩ := hf 0 _ rfl
      obtain ⟨k0, rfl, hk0⟩ := open_num t0
      obtain ⟨z1, y1, c1, t1, _⟩ := hf 1 _ rfl
      obtain ⟨k1, rfl, hk1⟩ := open_num t1
      obtain ⟨z2, y2, c2, t2, hb2⟩ := hf 2 _ rfl
      obtain ⟨k2, rfl, hk2⟩ := open_strB t2 hb2
      refine ⟨(k0, k1, k2), fun j v hv => ?_, ⟨hk0, hk1, by show k2.size ≤ _; omega⟩, hk2⟩
      match j, hv with
      | 0, hv => simp [encChg] at hv; subst hv; exact c0
      | 1, hv => simp [encChg] at hv; subst hv; exact c1
      | 2, hv => simp [encChg] at hv; subst hv; exact c2
    obtain ⟨xs, hx1, hx2⟩ := listOf hs
    refine ⟨_, len, cap, xs, rfl, hl, fun x hx => ?_, ⟨hx1, by omega, fun _ => ⟨b, off, rfl, hb, fun i x hx => (hx2 i x hx).1⟩⟩, fun x hx => ?_⟩
    · obtain ⟨i, hi, rfl⟩ := List.getElem_of_mem hx
      exact (hx2 i _ (List.getElem?_eq_getElem hi)).2.2
    · obtain ⟨i, hi, rfl⟩ := List.getElem_of_mem hx
      exact (hx2 i _ (List.getElem?_eq_getElem hi)).2.1
  · obtain rfl : len = 0 := by omega
    exact ⟨a, 0, cap, [], rfl, by omega, by simp, ⟨rfl, by omega, fun h => absurd h (by omega)⟩, by simp⟩
theorem open_ZoneB {H : Type} {enc : TypeId × Value → H} {v : Value} {d : DataW H} {p : List MemPlace} {base : Nat} {W : World} {M : Nat}
    (o : Value.okWide Tryd.prog W .any base 24 v) (h : DataW.Trod enc Tryd.prog W 0 (fun _ => true) true 24 v d p) (hM : Rows.uptoBulk d ≤ M) (hM2 : M ≤ 9223372036854775807) :
    ∃ (s : ByteArray) (f : Int) (a : Option Addr) (n c : Nat) (xs : List Chg), v = .agg #[.string s, .int .i64 f, .slice a n c] ∧ s.size ≤ M ∧ I64 f ∧ n ≤ M ∧ (∀ x ∈ xs, x.2.2.size ≤ M) ∧ Changes W W.heap.size a n xs := by
  obtain ⟨cs, n, rfl, hl, hf⟩ := open_aggB Tryd.underlying24 (by kernel_rfl) (by kernel_rfl) o h hM
  match cs, hl with
  | [v0, v1, v2], _ =>
    obtain ⟨_, _, e0, t0, b0⟩ := hf 0 _ rfl
    obtain ⟨_, _, e1, t1, _⟩ := hf 1 _ rfl
    obtain ⟨_, _, e2, t2, b2⟩ := hf 2 _ rfl
    obtain ⟨s, rfl, hs⟩ := open_strB t0 b0
    obtain ⟨x1, rfl, hx1⟩ := open_num t1
    obtain ⟨a, n, c, xs, rfl, k1, m1, h1⟩ := open_ChangesB t2 b2 hM2
    simp at e0 e1 e2
    subst e0 e1 e2
    exact ⟨s, x1, a, n, c, xs, rfl, hs, hx1, k1, m1, h1⟩
end Go.Proofs.YticflmepmmdnfaaDoor
