/- A rule of mean months handed in, read back. -/
import Derived.Test.YtjjmbnflhldoeaaMoon2
import Derived.Test.YtjjmbnflhldoeaaRows2
namespace Go.Proofs.Ytjjmbnflhldoeaa
set_option linter.unusedVariables false
set_option maxRecDepth 100000
open Go.RowKit Go.ChangeShapes Go.WideShapes Go.Deep

theorem cells_int : Try.prog.cellsOf 3 = 1 := by kernel_rfl
theorem cells_string : Try.prog.cellsOf 9 = 1 := by kernel_rfl
theorem cells_ints : Try.prog.cellsOf 22 = 1 := by kernel_rfl
theorem cells_Frac : Try.prog.cellsOf 40 = 2 := by kernel_rfl
theorem field_at {H : Type} {enc : TypeId × Value → H} {W : World} {fs : Array Field} {n : Nat} {cs : List Value} {xs : List (DataW H × List MemPlace)}
    (hg : ∀ (i : Nat) (f : Field), fs[i]? = some f → DataW.trod enc Try.prog W 0 (fun _ => true) true n f.type ((cs.drop f.offset).take (Try.prog.cellsOf f.type)) = xs[i]?)
    (i T off k : Nat) (hT : fs[i]?.map (fun f => (f.type, f.offset)) = some (T, off)) (hk : Try.prog.cellsOf T = k) (hi : i < xs.length) : DataW.trod enc Try.prog W 0 (fun _ => true) true n T ((cs.drop off).take k) = some xs[i] := by
  cases hf : fs[i]? with
  | none => rw [hf] at hT; cases hT
  | some f =>
    rw [hf] at hT
    simp only [Option.map_some, Option.some.injEq, Prod.mk.injEq] at hT
    have := hg i f hf
    rw [hT.1, hT.2, hk, List.getElem?_eq_getElem hi] at this
    exact this
theorem open_frac2 {H : Type} {enc : TypeId × Value → H} {W : World} {n : Nat} {u v : Value} {y : DataW H × List MemPlace} (h : DataW.trod enc Try.prog W 0 (fun _ => true) true n 40 [u, v] = some y) :
    ∃ a b : Int, u = .int .i64 a ∧ v = .int .i64 b ∧ I64 a ∧ I64 b := by
  obtain ⟨xs, m, _, _, _, hlen, hg⟩ := DataW.trod_struct Try.underlying40 h
  have hl : xs.length = 2 := hlen
  have g0 := field_at hg 0 3 0 1 rfl cells_int (by omega)
  have g1 := field_at hg 1 3 1 1 rfl cells_int (by omega)
  dsimp only [List.drop, List.take] at g0 g1
  obtain ⟨a, rfl, ha⟩ := open_num g0
  obtain ⟨b, rfl, hb⟩ := open_num g1
  exact ⟨a, b, rfl, rfl, ha, hb⟩
theorem open_MoonRule {H : Type} {enc : TypeId × Value → H} {v : Value} {d : DataW H} {p : List MemPlace} {base : Nat} {W : World}
    (o : Value.okWide Try.prog W .any base 42 v) (h : DataW.Trod enc Try.prog W 0 (fun _ => true) true 42 v d p) :
    ∃ (s : ByteArray) (f sn sd mn md ln ld c : Int) (a1 a2 : Option Addr) (n1 c1 n2 c2 : Nat) (ls vs : List Int), v = .agg #[.string s, .int .i64 f, .int .i64 sn, .int .i64 sd, .int .i64 mn, .int .i64 md, .int .i64 ln, .int .i64 ld, .int .i64 c, .slice a1 n1 c1, .slice a2 n2 c2] ∧ s.size ≤ 9223372036854775807 ∧ I64 f ∧ MoonI sn sd mn md ln ld ∧ I64 c ∧ n1 ≤ c1 ∧ n2 ≤ c2 ∧ MoonAt W a1 a2 n1 n2 ls vs := by
  obtain ⟨cs, rfl, hsz⟩ := okWide_struct Try.underlying42 o
  obtain ⟨l⟩ := cs
  have hl : l.length = 11 := by
    have h11 : Try.prog.cellsOf 42 = 11 := by kernel_rfl
    simpa using hsz.trans h11
  match l, hl with
  | [v0, v1, v2, v3, v4, v5, v6, v7, v8, v9, v10], _ =>
    obtain ⟨fuel, hf⟩ := h
    obtain ⟨xs, n, _, _, _, hlen, hg⟩ := DataW.trod_struct Try.underlying42 hf
    have hxl : xs.length = 8 := hlen
    have g0 := field_at hg 0 9 0 1 rfl cells_string (by omega)
    have g1 := field_at hg 1 3 1 1 rfl cells_int (by omega)
    have g2 := field_at hg 2 40 2 2 rfl cells_Frac (by omega)
    have g3 := field_at hg 3 40 4 2 rfl cells_Frac (by omega)
    have g4 := field_at hg 4 40 6 2 rfl cells_Frac (by omega)
    have g5 := field_at hg 5 3 8 1 rfl cells_int (by omega)
    have g6 := field_at hg 6 22 9 1 rfl cells_ints (by omega)
    have g7 := field_at hg 7 22 10 1 rfl cells_ints (by omega)
    dsimp only [Value.cells, List.drop, List.take] at g0 g1 g2 g3 g4 g5 g6 g7
    obtain ⟨s, rfl, hs⟩ := open_str g0
    obtain ⟨f, rfl, hf'⟩ := open_num g1
    obtain ⟨sn, sd, rfl, rfl, i1, i2⟩ := open_frac2 g2
    obtain ⟨mn, md, rfl, rfl, i3, i4⟩ := open_frac2 g3
    obtain ⟨ln, ld, rfl, rfl, i5, i6⟩ := open_frac2 g4
    obtain ⟨c, rfl, hc⟩ := open_num g5
    obtain ⟨a1, n1, c1, ls, rfl, k1, m1, h1⟩ := open_Ints g6
    obtain ⟨a2, n2, c2, vs, rfl, k2, m2, h2⟩ := open_Ints g7
    exact ⟨s, f, sn, sd, mn, md, ln, ld, c, a1, a2, n1, c1, n2, c2, ls, vs, rfl, hs, hf', ⟨i1, i2, i3, i4, i5, i6⟩, hc, k1, k2, h1, h2⟩
end Go.Proofs.Ytjjmbnflhldoeaa
