/- Expressions of rules, and rules, handed in, read back as trees. -/
import Derived.Test.YtjjmbnflhldoeabDoorTree0
namespace Go.Proofs.YtjjmbnflhldoeabDoor
set_option linter.unusedVariables false
set_option maxRecDepth 100000
open Go.RowKit Go.ChangeShapes Go.WideShapes Go.Deep

theorem tcells_int : Tryd.prog.cellsOf 3 = 1 := by kernel_rfl
theorem tcells_kids : Tryd.prog.cellsOf 31 = 1 := by kernel_rfl
theorem tcells_Expr : Tryd.prog.cellsOf 33 = 3 := by kernel_rfl
theorem tfield_at {H : Type} {enc : TypeId × Value → H} {W : World} {fs : Array Field} {n : Nat} {cs : List Value} {xs : List (DataW H × List MemPlace)}
    (hg : ∀ (i : Nat) (f : Field), fs[i]? = some f → DataW.trod enc Tryd.prog W 0 (fun _ => true) true n f.type ((cs.drop f.offset).take (Tryd.prog.cellsOf f.type)) = xs[i]?)
    (i T off k : Nat) (hT : fs[i]?.map (fun f => (f.type, f.offset)) = some (T, off)) (hk : Tryd.prog.cellsOf T = k) (hi : i < xs.length) : DataW.trod enc Tryd.prog W 0 (fun _ => true) true n T ((cs.drop off).take k) = some xs[i] := by
  cases hf : fs[i]? with
  | none => rw [hf] at hT; cases hT
  | some f =>
    rw [hf] at hT
    simp only [Option.map_some, Option.some.injEq, Prod.mk.injEq] at hT
    have := hg i f hf
    rw [hT.1, hT.2, hk, List.getElem?_eq_getElem hi] at this
    exact this
theorem open_tree {H : Type} {enc : TypeId × Value → H} {W : World} : ∀ (d fuel : Nat), fuel ≤ d → ∀ (cs : List Value) (x : DataW H × List MemPlace),
    DataW.trod enc Tryd.prog W 0 (fun _ => true) true fuel 33 cs = some x →
    ∃ t a n c, cs = [.int .i64 t.kind, .int .i64 t.num, .slice a n c] ∧ n ≤ c ∧ c ≤ 9223372036854775807 ∧ SubAt W W.heap.size t a n := by
  intro d
  induction d with
  | zero =>
    intro fuel hf cs x h
    obtain ⟨_, n, hn, _⟩ := DataW.trod_struct Tryd.underlying33 h
    omega
  | succ d ih =>
    intro fuel hf cs x h
    obtain ⟨xs, n, hn, _, hcl, hlen, hg⟩ := DataW.trod_struct Tryd.underlying33 h
    have hl : xs.length = 3 := hlen
    rw [tcells_Expr] at hcl
    match cs, hcl with
    | [v0, v1, v2], _ =>
      have g0 := tfield_at hg 0 3 0 1 rfl tcells_int (by omega)
      have g1 := tfield_at hg 1 3 1 1 rfl tcells_int (by omega)
      have g2 := tfield_at hg 2 31 2 1 rfl tcells_kids (by omega)
      dsimp only [List.drop, List.take] at g0 g1 g2
      obtain ⟨k, rfl, hk⟩ := open_num g0
      obtain ⟨m, rfl, hm⟩ := open_num g1
      rcases DataW.trod_slice Tryd.underlying31 g2 with ⟨hcs, _⟩ | ⟨a, len, cap, elems, rest, n', hn', hcs, _, hb, hlc, hcm, hlen', hel, _⟩
      · simp at hcs
        subst hcs
        refine ⟨.node k m [], none, 0, 0, rfl, by omega, by omega, ?_⟩
        rw [SubAt]
        exact ⟨hk, hm, rfl, by omega, fun h => absurd h (by omega)⟩
      · simp at hcs
        subst hcs
        unfold maxLen at hcm
        obtain ⟨b, off, spot⟩ := a
        have hrow : ∀ i, i < len → ∃ t : Tree, W.cell? ((⟨b, off, spot⟩ : Addr).add (i * 3)) = some (.int .i64 t.kind) ∧ W.cell? ((⟨b, off, spot⟩ : Addr).add (i * 3 + 1)) = some (.int .i64 t.num) ∧ ∃ a n c, W.cell? ((⟨b, off, spot⟩ : Addr).add (i * 3 + 2)) = some (.slice a n c) ∧ n ≤ c ∧ c ≤ 9223372036854775807 ∧ SubAt W W.heap.size t a n := by
          intro i hi
          have key := hel i hi
          rw [tcells_Expr, List.getElem?_eq_getElem (by omega)] at key
          obtain ⟨cs', hc1, hc2⟩ := Option.bind_eq_some_iff.1 key
          obtain ⟨t, a', n1, c1, rfl, q1, q2, q3⟩ := ih n' (by omega) cs' _ hc2
          obtain ⟨_, _, hat⟩ := World.cells?_some hc1
          have z0 := hat 0 (by omega)
          have z1 := hat 1 (by omega)
          have z2 := hat 2 (by omega)
          rw [Go.Deep.add_add] at z0 z1 z2
          exact ⟨t, by simpa using z0, by simpa using z1, a', n1, c1, by simpa using z2, q1, q2, q3⟩
        obtain ⟨ts, ht1, ht2⟩ := listOf hrow
        by_cases h0 : 0 < len
        · obtain ⟨t0, hc0, _⟩ := hrow 0 h0
          have hspot : spot = none := by simpa [Addr.add] using World.cell?_spot hc0
          subst hspot
          have hbl : b < W.heap.size := by
            rcases Nat.lt_or_ge b W.heap.size with h' | h'
            · exact h'
            · simp [World.cell?, Addr.add, Array.getElem?_eq_none h'] at hc0
          refine ⟨.node k m ts, some ⟨b, off, none⟩, len, cap, rfl, hlc, by omega, ?_⟩
          rw [SubAt]
          refine ⟨hk, hm, ht1, by omega, fun _ => ⟨b, off, rfl, hbl, RowAt.of ts off fun i t hi => ?_⟩⟩
          obtain ⟨c0, c1, a', n1, cc, c2, q⟩ := ht2 i t hi
          rw [add_none] at c0 c1 c2
          exact ⟨c0, by rw [Nat.add_assoc]; exact c1, a', n1, cc, by rw [Nat.add_assoc]; exact c2, q⟩
        · refine ⟨.node k m [], some ⟨b, off, spot⟩, len, cap, rfl, hlc, by omega, ?_⟩
          rw [SubAt]
          exact ⟨hk, hm, by simp; omega, by omega, fun h => absurd h h0⟩
theorem open_Expr {H : Type} {enc : TypeId × Value → H} {v : Value} {d : DataW H} {p : List MemPlace} {base : Nat} {W : World}
    (o : Value.okWide Tryd.prog W .any base 33 v) (h : DataW.Trod enc Tryd.prog W 0 (fun _ => true) true 33 v d p) :
    ∃ k m ks a n c, v = .agg #[.int .i64 k, .int .i64 m, .slice a n c] ∧ n ≤ c ∧ c ≤ 9223372036854775807 ∧ SubAt W W.heap.size (.node k m ks) a n := by
  obtain ⟨cs, rfl, hsz⟩ := okWide_struct Tryd.underlying33 o
  obtain ⟨l⟩ := cs
  obtain ⟨fuel, hf⟩ := h
  obtain ⟨t, a, n, c, hl, h1, h2, h3⟩ := open_tree fuel fuel (Nat.le_refl _) _ _ hf
  cases t with
  | node k m ks =>
    have hl' : l = [.int .i64 k, .int .i64 m, .slice a n c] := hl
    subst hl'
    exact ⟨k, m, ks, a, n, c, rfl, h1, h2, h3⟩
theorem open_RuleTree {H : Type} {enc : TypeId × Value → H} {v : Value} {d : DataW H} {p : List MemPlace} {base : Nat} {W : World}
    (o : Value.okWide Tryd.prog W .any base 36 v) (h : DataW.Trod enc Tryd.prog W 0 (fun _ => true) true 36 v d p) :
    ∃ (s : ByteArray) (f c k m : Int) (ks : List Tree) (a1 a2 : Option Addr) (n1 c1 n2 c2 : Nat) (ms : List Mon), v = .agg #[.string s, .int .i64 f, .int .i64 c, .int .i64 k, .int .i64 m, .slice a1 n1 c1, .slice a2 n2 c2] ∧
      s.size ≤ 9223372036854775807 ∧ I64 f ∧ I64 c ∧ n1 ≤ c1 ∧ c1 ≤ 9223372036854775807 ∧ n2 ≤ c2 ∧ c2 ≤ 9223372036854775807 ∧ SubAt W W.heap.size (.node k m ks) a1 n1 ∧ Months W W.heap.size a2 n2 ms := by
  obtain ⟨cs, rfl, hsz⟩ := okWide_struct Tryd.underlying36 o
  obtain ⟨l⟩ := cs
  have hl : l.length = 7 := by
    have h7 : Tryd.prog.cellsOf 36 = 7 := by kernel_rfl
    simpa using hsz.trans h7
  match l, hl with
  | [v0, v1, v2, v3, v4, v5, v6], _ =>
    obtain ⟨fuel, hf⟩ := h
    obtain ⟨xs, n, _, _, _, hlen, hg⟩ := DataW.trod_struct Tryd.underlying36 hf
    have hxl : xs.length = 5 := hlen
    have g0 := tfield_at hg 0 9 0 1 rfl (by kernel_rfl) (by omega)
    have g1 := tfield_at hg 1 3 1 1 rfl tcells_int (by omega)
    have g2 := tfield_at hg 2 3 2 1 rfl tcells_int (by omega)
    have g3 := tfield_at hg 3 33 3 3 rfl tcells_Expr (by omega)
    have g4 := tfield_at hg 4 34 6 1 rfl (by kernel_rfl) (by omega)
    dsimp only [Value.cells, List.drop, List.take] at g0 g1 g2 g3 g4
    obtain ⟨s, rfl, hs⟩ := open_str g0
    obtain ⟨f, rfl, hf'⟩ := open_num g1
    obtain ⟨c, rfl, hc'⟩ := open_num g2
    obtain ⟨t, a1, n1, c1, ht, k1, k2, k3⟩ := open_tree _ _ (Nat.le_refl _) _ _ g3
    obtain ⟨a2, n2, c2, ms, rfl, j1, j2, j3⟩ := open_Months g4
    cases t with
    | node k m ks =>
      simp only [List.cons.injEq, and_true] at ht
      obtain ⟨rfl, rfl, rfl⟩ := ht
      exact ⟨s, f, c, k, m, ks, a1, a2, n1, c1, n2, c2, ms, rfl, hs, hf', hc', k1, k2, j1, j2, k3, j3⟩
end Go.Proofs.YtjjmbnflhldoeabDoor
