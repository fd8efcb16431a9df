/- Append of a list of integers of any kind, nil too, to a row of the call's own; the twelve days of the law's year. -/
import Derived.Test.YtddiicljoekhmabExt1
import Derived.Test.YtddiicljoekhmabYear12
import Derived.Test.YtddiicljoekhmabSameTab
import Derived.Laws.AppendOwnNone
import Derived.Laws.MakeOwn
namespace Go.Proofs.Ytddiicljoekhmab
set_option linter.unusedVariables false
set_option linter.unusedSimpArgs false
set_option maxRecDepth 100000
open Go.RowKit

theorem wpList_append_ints {w : World} {ops : Array Oper} {rest : List Oper} {o : Oper} {a : Act} {Q : Exit → Act → World → Prop} (hgd : o.guard = none) (s x : Operand)
    (ho : o.op = .call { callee := .builtin .append, args := #[s, x], argTypes := #[22, 22] }) (base : Nat) (v : Value) (n : Nat) (xs : List Int) (hs : a.eval s = v) (hown : w.ownsRow base 3 1 v n (xs.map (Value.int .i64)))
    (ad : Option Addr) (m c : Nat) (zs : List Int) (hx : a.eval x = .slice ad m c) (hI : Ints w w.heap.size ad m zs) (hnil : ad = none → c = 0) (hn : n ≤ 3000000) (hm : m ≤ 3000000) (hbase : base ≤ w.heap.size)
    (h : ∀ v' w', w'.ownsRow base 3 1 v' (n + m) ((xs ++ zs).map (Value.int .i64)) → w.grownBy w' v.ownBlock → wpList Try.prog ops Q rest (a.put o.dst v') w') : wpList Try.prog ops Q (o :: rest) a w := by
  obtain ⟨i0, hi, hz0, hz1, hz2⟩ := info_parts Try.infoIntX
  cases ad with
  | none =>
    have hm0 : m = 0 := by
      rcases Nat.eq_zero_or_pos m with h0 | h0
      · exact h0
      · obtain ⟨ad, e⟩ := ints_some hI h0; cases e
    subst hm0
    obtain rfl := hnil rfl
    obtain rfl : zs = [] := List.length_eq_zero_iff.1 hI.1
    refine wpList_append_own_none hgd s x 22 ho base 3 i0 1 Try.underlying22 hi v n (xs.map (Value.int .i64)) hs hown hx ?_
    exact h v w (by simpa using hown) ⟨rfl, rfl, rfl, Nat.le_refl _, fun _ _ _ => rfl⟩
  | some ad =>
    refine wpList_append_own w hgd s x 22 ho base 3 i0 (.int .i64 0) 1 8 Try.underlying22 hi hz0 hz1 hz2 rfl (by decide) v n (xs.map (Value.int .i64)) hs hown ad m c (zs.map (Value.int .i64)) hx (by rw [List.length_map, hI.1, Nat.mul_one]) (ints_news hI) (fun u hu => one_int hu) (by unfold maxLen; omega) (by omega) hbase ?_
    intro v' w' hown' hg _
    exact h v' w' (by rw [List.map_append]; exact hown') hg
def moreV (k : Nat) (i : Nat) : Value := if i < k then .int .i64 (490 + 30 * (i : Int)) else .int .i64 0
def moreC (k : Nat) : Array Value := #[moreV k 0, moreV k 1, moreV k 2, moreV k 3, moreV k 4, moreV k 5, moreV k 6, moreV k 7, moreV k 8, moreV k 9, moreV k 10, moreV k 11]
def moreI : List Int := [490, 520, 550, 580, 610, 640, 670, 700, 730, 760, 790, 820]
theorem more_set (k : Nat) (hk : k < 12) : (moreC k).setIfInBounds k (.int .i64 (490 + 30 * (k : Int))) = moreC (k + 1) := by
  have : k = 0 ∨ k = 1 ∨ k = 2 ∨ k = 3 ∨ k = 4 ∨ k = 5 ∨ k = 6 ∨ k = 7 ∨ k = 8 ∨ k = 9 ∨ k = 10 ∨ k = 11 := by omega
  rcases this with rfl | rfl | rfl | rfl | rfl | rfl | rfl | rfl | rfl | rfl | rfl | rfl <;> rfl
theorem more_get (k : Nat) (hk : k < 12) : (moreC k)[k]? = some (.int .i64 0) := by
  have : k = 0 ∨ k = 1 ∨ k = 2 ∨ k = 3 ∨ k = 4 ∨ k = 5 ∨ k = 6 ∨ k = 7 ∨ k = 8 ∨ k = 9 ∨ k = 10 ∨ k = 11 := by omega
  rcases this with rfl | rfl | rfl | rfl | rfl | rfl | rfl | rfl | rfl | rfl | rfl | rfl <;> rfl
theorem more_end : moreC 12 = (moreI.map (Value.int .i64)).toArray := rfl
theorem more_i64 : ∀ x ∈ moreI, I64 x := by
  intro x hx
  simp [moreI] at hx
  rcases hx with rfl | rfl | rfl | rfl | rfl | rfl | rfl | rfl | rfl | rfl | rfl | rfl <;> (constructor <;> decide)
def tabN : ByteArray := ⟨#[116, 97, 98, 108, 101]⟩
theorem lit_ext : extE tabN 5 [12] (startsTo 13) moreI = 0 := by decide +kernel
theorem lit_24 : (startsTo 13 ++ moreI)[24]? = some 820 := by decide +kernel
theorem starts_i64 : ∀ x ∈ startsTo 13, I64 x := by
  intro x hx
  simp [startsTo, List.range, List.range.loop] at hx
  rcases hx with rfl | rfl | rfl | rfl | rfl | rfl | rfl | rfl | rfl | rfl | rfl | rfl | rfl <;> (constructor <;> decide)
theorem make_12 (W : World) : (Instr.makeSlice 22 (.int .i64 12) (.int .i64 12)).run Try.prog W = .ok (.slice (some ⟨W.heap.size, 0, none⟩) 12 12) (W.alloc (.cells (moreC 0) 3)) := by
  obtain ⟨i0, hi, hz0, hz1, hz2⟩ := info_parts Try.infoIntX
  have := run_makeSlice W 22 3 i0 (.int .i64 0) Try.underlying22 hi hz0 .i64 .i64 12 12 (by omega) (by omega) (by rw [hz1]; simp) (by rw [hz2]; omega) (by omega)
  have e : madeCells (Value.int .i64 0).cells 12 = moreC 0 := by kernel_rfl
  rw [hz1, Nat.mul_one] at this
  simpa [e] using this
theorem own_setE {w : World} {base : Nat} {e : TypeId} {size : Nat} {v : Value} {n : Nat} {xs : List Value} (h : w.ownsRow base e size v n xs) {p : Addr} (hp : p.block < base) (u : Value) : (w.setCell p u).ownsRow base e size v n xs := by
  refine ⟨h.1, ?_⟩
  rcases h.2 with h0 | ⟨g, cap, cur, hv, hg, hat, rest⟩
  · exact .inl h0
  · exact .inr ⟨g, cap, cur, hv, hg, (Below.heap_setCell w p u g (by omega)).trans hat, rest⟩
theorem own_blocksE {W W' : World} {base : Nat} {e : TypeId} {size : Nat} {v : Value} {n : Nat} {xs : List Value} (h : W.ownsRow base e size v n xs) (hk : ∀ g, v.ownBlock = some g → W'.heap[g]? = W.heap[g]?) : W'.ownsRow base e size v n xs := by
  refine ⟨h.1, ?_⟩
  rcases h.2 with h0 | ⟨g, cap, cur, hv, hg, hat, rest⟩
  · exact .inl h0
  · exact .inr ⟨g, cap, cur, hv, hg, (hk g (by rw [hv]; rfl)).trans hat, rest⟩
theorem ints_lit {w : World} {g : Nat} {x : Int} (h : At w g (.cells #[.int .i64 x] 3)) (hx : I64 x) : Ints w w.heap.size (some ⟨g, 0, none⟩) 1 [x] := At.ints [x] h (by intro y hy; simp at hy; subst hy; exact hx) (by simp)
theorem ints0 (w : World) : Ints w w.heap.size none 0 [] := ⟨rfl, by omega, by simp, fun h => absurd h (by omega)⟩
end Go.Proofs.Ytddiicljoekhmab
