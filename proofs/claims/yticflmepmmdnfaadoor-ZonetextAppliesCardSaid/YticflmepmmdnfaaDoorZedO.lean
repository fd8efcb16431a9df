/- Edits and a zone handed in, read back. -/
import Derived.Test.YticflmepmmdnfaaDoorZedR
import Derived.Test.YticflmepmmdnfaaDoorRows2
namespace Go.Proofs.YticflmepmmdnfaaDoor
set_option linter.unusedVariables false
set_option maxRecDepth 100000
open Go.RowKit Go.ChangeShapes Go.WideShapes Go.Deep

theorem cells_int : Tryd.prog.cellsOf 3 = 1 := by kernel_rfl
theorem cells_string : Tryd.prog.cellsOf 9 = 1 := by kernel_rfl
theorem field_at {H : Type} {enc : TypeId × Value → H} {W : World} {fs : Array Field} {n : Nat} {cs : List Value} {xs : List (DataW H × List MemPlace)}
    (hg : ∀ (i : Nat) (f : Field), fs[i]? = some f → DataW.trod enc Tryd.prog W 0 (fun _ => true) true n f.type ((cs.drop f.offset).take (Tryd.prog.cellsOf f.type)) = xs[i]?)
    (i T off k : Nat) (hT : fs[i]?.map (fun f => (f.type, f.offset)) = some (T, off)) (hk : Tryd.prog.cellsOf T = k) (hi : i < xs.length) : DataW.trod enc Tryd.prog W 0 (fun _ => true) true n T ((cs.drop off).take k) = some xs[i] := by
  cases hf : fs[i]? with
  | none => rw [hf] at hT; cases hT
  | some f =>
    rw [hf] at hT
    simp only [Option.map_some, Option.some.injEq, Prod.mk.injEq] at hT
    have := hg i f hf
    rw [hT.1, hT.2, hk, List.getElem?_eq_getElem hi] at this
    exact this
theorem cells_Chg : Tryd.prog.cellsOf 31 = 3 := by kernel_rfl
theorem cells_Edt : Tryd.prog.cellsOf 33 = 4 := by kernel_rfl
theorem open_chg3 {H : Type} {enc : TypeId × Value → H} {W : World} {n : Nat} {u v x : Value} {y : DataW H × List MemPlace} (h : DataW.trod enc Tryd.prog W 0 (fun _ => true) true n 31 [u, v, x] = some y) :
    ∃ (a b : Int) (l : ByteArray), u = .int .i64 a ∧ v = .int .i64 b ∧ x = .string l ∧ okChg (a, b, l) := by
  obtain ⟨xs, m, _, _, _, hlen, hg⟩ := DataW.trod_struct Tryd.underlying31 h
  have hl : xs.length = 3 := hlen
  have g0 := field_at hg 0 3 0 1 rfl cells_int (by omega)
  have g1 := field_at hg 1 3 1 1 rfl cells_int (by omega)
  have g2 := field_at hg 2 9 2 1 rfl cells_string (by omega)
  dsimp only [List.drop, List.take] at g0 g1 g2
  obtain ⟨a, rfl, ha⟩ := open_num g0
  obtain ⟨b, rfl, hb⟩ := open_num g1
  obtain ⟨l, rfl, hl⟩ := open_str g2
  exact ⟨a, b, l, rfl, rfl, rfl, ha, hb, hl⟩
/-- A slice of edits. -/
theorem open_Edits {H : Type} {enc : TypeId × Value → H} {W : World} {fuel : Nat} {v : Value} {x : DataW H × List MemPlace}
    (h : DataW.trod enc Tryd.prog W 0 (fun _ => true) true fuel 25 [v] = some x) :
    ∃ a n c es, v = .slice a n c ∧ Edits W W.heap.size a n es := by
  rcases open_slice Tryd.underlying25 h with ⟨hcs, _⟩ | ⟨a, len, cap, m, n, D, Pl, hcs, _, hl, hm, hmm, _, hi⟩
  · simp at hcs
    subst hcs
    exact ⟨none, 0, 0, [], rfl, ⟨rfl, by omega, fun h => absurd h (by omega)⟩, by simp⟩
  · simp at hcs
    subst hcs
    unfold maxLen at hm
    have hs : ∀ i, i < len → ∃ e : Edt, (∀ j u, (encEdt e)[j]? = some u → W.cell? (a.add (i * 4 + j)) = some u) ∧ okEdt e := by
      intro i him
      obtain ⟨cs', hc, ht'⟩ := hi i (by rw [hmm]; simp; omega)
      rw [cells_Edt] at hc
      obtain ⟨ys, n', hn', hy, hlen, hyl, hf⟩ := DataW.trod_struct Tryd.underlying33 ht'
      obtain ⟨_, hcl, hat⟩ := World.cells?_some hc
      have hyl2 : ys.length = 2 := hyl
      match cs', hcl with
      | [v0, v1, v2, v3], _ =>
        have g0 := field_at hf 0 3 0 1 rfl cells_int (by omega)
        have g1 := field_at hf 1 31 1 3 rfl cells_Chg (by omega)
        dsimp only [List.drop, List.take] at g0 g1
        obtain ⟨k, rfl, hk⟩ := open_num g0
        obtain ⟨t, o, l, rfl, rfl, rfl, hok⟩ := open_chg3 g1
        refine ⟨(k, t, o, l), fun j u hu => ?_, hk, hok⟩
        have hj : j < 4 := by
          rcases Nat.lt_or_ge j 4 with h | h
          · exact h
          · rw [List.getElem?_eq_none (by simp [encEdt]; omega)] at hu; cases hu
        rw [← Go.Deep.add_add, hat j hj, ← hu]
        rfl
    obtain ⟨es, he1, he2⟩ := listOf hs
    refine ⟨some a, len, cap, es, rfl, ⟨he1, by omega, fun hn => ?_⟩, fun e he => ?_⟩
    · obtain ⟨b, off, spot⟩ := a
      have hx0 : es[0]? = some (es[0]'(by omega)) := List.getElem?_eq_getElem (by omega)
      have hu := (he2 0 _ hx0).1 0 _ rfl
      have hspot : spot = none := by simpa [Addr.add] using World.cell?_spot hu
      subst hspot
      have hb : b < W.heap.size := by
        rcases Nat.lt_or_ge b W.heap.size with h' | h'
        · exact h'
        · simp [World.cell?, Addr.add, Array.getElem?_eq_none h'] at hu
      refine ⟨b, off, rfl, hb, fun i x hx j u hu => ?_⟩
      have := (he2 i x hx).1 j u hu
      rwa [add_none, ← Nat.add_assoc] at this
    · obtain ⟨i, hi', rfl⟩ := List.getElem_of_mem he
      exact (he2 i _ (List.getElem?_eq_getElem hi')).2
/-- A zone, and that a nil slice of changes has no room. -/
theorem open_Zone0Z {H : Type} {enc : TypeId × Value → H} {v : Value} {d : DataW H} {p : List MemPlace} {base : Nat} {W : World}
    (o : Value.okWide Tryd.prog W .any base 24 v) (h : DataW.Trod enc Tryd.prog W 0 (fun _ => true) true 24 v d p) :
    ∃ (s : ByteArray) (f : Int) (a : Option Addr) (n c : Nat) (xs : List Chg), v = .agg #[.string s, .int .i64 f, .slice a n c] ∧ s.size ≤ 9223372036854775807 ∧ I64 f ∧ (a = none → n = 0 ∧ c = 0) ∧ Changes W W.heap.size a n xs := by
  obtain ⟨cs, n, rfl, hl, hf⟩ := open_agg Tryd.underlying24 (by kernel_rfl) (by kernel_rfl) o h
  match cs, hl with
  | [v0, v1, v2], _ =>
    obtain ⟨_, _, e0, t0⟩ := hf 0 _ rfl
    obtain ⟨_, _, e1, t1⟩ := hf 1 _ rfl
    obtain ⟨_, _, e2, t2⟩ := hf 2 _ rfl
    obtain ⟨s, rfl, hs⟩ := open_str t0
    obtain ⟨x1, rfl, hx1⟩ := open_num t1
    simp at e0 e1 e2
    subst e0 e1 e2
    obtain ⟨a, n, c, xs, rfl, k1, m1, h1⟩ := open_Changes t2
    refine ⟨s, x1, a, n, c, xs, rfl, hs, hx1, ?_, h1⟩
    rcases open_slice Tryd.underlying22 t2 with ⟨hcs, _⟩ | ⟨a', len, cap, m, n', D, Pl, hcs, _⟩
    · simp at hcs
      intro _; exact ⟨hcs.2.1, hcs.2.2⟩
    · simp at hcs
      intro e; rw [hcs.1] at e; cases e
end Go.Proofs.YticflmepmmdnfaaDoor
