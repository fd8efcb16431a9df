/- Contracts of slices.Clone, slices.Grow (of nil) and slices.Concat (of two) at []int. -/
import Derived.Test.YtdmkghgachapaaaGreatDoorOwn
import Derived.Test.YtdmkghgachapaaaGreatDoorMgB
import Derived.Test.YtdmkghgachapaaaGreatDoorMgQ
import Derived.Lib.SliceRun
import Derived.Lib.AppendZerosOnto
import Derived.Laws.AppendOwnNone
namespace Go.Proofs.YtdmkghgachapaaaGreatDoor
set_option linter.unusedVariables false
set_option maxRecDepth 100000
open Go.RowKit

theorem Tryz.infoIntX : (Tryz.prog.info? 3).map (fun i => (i.zero, i.size, i.bytes)) = some (some (.int .i64 0), 1, 8) := by kernel_rfl
theorem ints_thenX {w w' : World} {a : Option Addr} {n : Nat} {xs : List Int} (h : Ints w w.heap.size a n xs) (hb : Below w.heap.size w w') : Ints w' w'.heap.size a n xs := (h.below hb (Nat.le_refl _)).more hb.size
theorem ints_news {w : World} {B : Nat} {ad : Addr} {n : Nat} {xs : List Int} (h : Ints w B (some ad) n xs) : ∀ j u, (xs.map (Value.int .i64))[j]? = some u → w.cell? (ad.add j) = some u := by
  intro j u hj
  have hl := h.1
  have hjn : j < n := by
    rcases Nat.lt_or_ge j n with h' | h'
    · exact h'
    · rw [List.getElem?_eq_none (by simp; omega)] at hj; cases hj
  obtain ⟨b, off, x, e, _, hc, hx, _⟩ := h.at_ hjn
  injection e with e
  subst e
  rw [List.getElem?_map, hx] at hj
  injection hj with hj
  subst hj
  rw [add_none]; exact hc
theorem ints_some {w : World} {B : Nat} {a : Option Addr} {n : Nat} {xs : List Int} (h : Ints w B a n xs) (hn : 0 < n) : ∃ ad, a = some ad := by
  obtain ⟨b, off, x, e, _⟩ := h.at_ hn
  exact ⟨_, e⟩
def OwnI (w : World) (n : Nat) (xs : List Int) (e : Ending) (w' : World) : Prop := ∃ v, e = .returned v ∧ w'.ownsRow w.heap.size 3 1 v n (xs.map (Value.int .i64)) ∧ Below w.heap.size w w'
theorem one_int {xs : List Int} {u : Value} (hu : u ∈ xs.map (Value.int .i64)) : u.oneCell' = true := by
  obtain ⟨x, _, rfl⟩ := List.mem_map.1 hu; rfl
set_option maxHeartbeats 2000000 in
theorem clone_ints (w : World) (a : Option Addr) (n c : Nat) (xs : List Int) (h : Ints w w.heap.size a n xs) (hn : n ≤ 100000) :
    Calls Tryz.prog 38 #[.slice a n c] w (OwnI w n xs) := by
  obtain ⟨i0, hi, hz0, hz1, hz2⟩ := info_parts Tryz.infoIntX
  have hl := h.1
  have q22 : ∀ (w : World) (a : Option Addr) (n c n' c' : Nat), (binOp .eql 22 (.slice a n c) (.slice none n' c')).run Tryz.prog w = .ok (.bool a.isNone) w := fun w a n c n' c' => Lib.run_eql_slice_nil w _ _ a n c n' c' Tryz.underlying22
  cases a with
  | none =>
    have h0 : n = 0 := by
      rcases Nat.eq_zero_or_pos n with h0 | h0
      · exact h0
      · obtain ⟨ad, e⟩ := ints_some h h0; cases e
    subst h0
    obtain rfl : xs = [] := List.length_eq_zero_iff.1 hl
    clear h hl
    go_enter Tryz.func38, Tryz.ntmps38
    go_wp2_with fail
    go_ret
    exact ⟨_, rfl, World.ownsRow_nil _ _ _ _, Below.refl _ _⟩
  | some ad =>
    have HL := Lib.hid hl; have HC := Lib.hid h
    clear h hl
    go_enter Tryz.func38, Tryz.ntmps38
    go_wp2_with (at_builtin; refine wpList_append_own _ rfl _ _ 22 rfl w.heap.size 3 i0 (.int .i64 0) 1 8 Tryz.underlying22 hi hz0 hz1 hz2 rfl (by decide) _ _ _ rfl (World.ownsRow_made w #[] 0 (Nat.le_refl _) (Nat.zero_le _) rfl) ad n c (xs.map (Value.int .i64)) rfl (by rw [List.length_map, HL.out, Nat.mul_one]) (ints_news (ints_thenX HC.out (below_new (Below.refl _ _) _))) (fun u hu => one_int hu) (by unfold maxLen; omega) (by omega) (by simp) ?_; intro v' w1 hown hgrow hnil)
    have hown' : w1.ownsRow w.heap.size 3 1 v' n (xs.map (Value.int .i64)) := by simpa using hown
    have hgrow' : World.grownBy _ w1 (Value.ownBlock (.slice (some ⟨w.heap.size, 0, none⟩) 0 0)) := hgrow
    have hb1 : Below w.heap.size w w1 := ((Below.refl _ w).alloc (Nat.le_refl _) _).grown hgrow' (by simp) (by intro k hk; simp [Value.ownBlock] at hk; omega)
    have H3 := Lib.hid hown'
    clear hown hown' hgrow hgrow' hnil
    go_wp2_with fail
    go_ret
    exact ⟨_, rfl, H3.out, hb1⟩
/-- What two slices give, k of them taken. -/
def cat2 (xs ys : List Int) : Nat → List Int
  | 0 => []
  | 1 => xs
  | _ => xs ++ ys
structure Piece (w : World) (sb so k : Nat) (xs ys : List Int) (a : Option Addr) (n c : Nat) (zs : List Int) : Prop where
  cell : w.cell? ⟨sb, so + k, none⟩ = some (.slice a n c)
  ints : Ints w w.heap.size a n zs
  small : n ≤ 100000
  nilc : a = none → c = 0
  next : cat2 xs ys (k + 1) = cat2 xs ys k ++ zs
end Go.Proofs.YtdmkghgachapaaaGreatDoor
