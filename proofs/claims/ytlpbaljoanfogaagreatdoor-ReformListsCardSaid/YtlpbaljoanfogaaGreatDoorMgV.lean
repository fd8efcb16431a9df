/- Several texts in one: Cycle, Cycle2, Out. -/
import Derived.Test.YtlpbaljoanfogaaGreatDoorMgA
import Derived.Test.YtlpbaljoanfogaaGreatDoorMgW
import Derived.Test.YtlpbaljoanfogaaGreatDoorMgO
import Derived.Test.YtlpbaljoanfogaaGreatDoorMgK
set_option linter.unusedSimpArgs false
namespace Go.Proofs.YtlpbaljoanfogaaGreatDoor
set_option linter.unusedVariables false
set_option maxRecDepth 100000
open Go.RowKit
end Go.Proofs.YtlpbaljoanfogaaGreatDoor

set_option linter.unusedSimpArgs false
namespace Go.Proofs.YtlpbaljoanfogaaGreatDoor
set_option linter.unusedVariables false
set_option maxRecDepth 100000
open Go.RowKit
structure SetOk (xs ys : List Int) : Prop where
  l1 : 1 ≤ xs.length
  l2 : xs.length ≤ 8
  len : ys.length = xs.length
  each : ∀ (k : Nat) (x y : Int), xs[k]? = some x → ys[k]? = some y → 1 ≤ x ∧ x ≤ 1000 ∧ 0 ≤ y ∧ y < x
theorem ref_SameInts (w : World) (a b : Option Addr) (n c m e : Nat) (xs ys : List Int) (h1 : Ints w w.heap.size a n xs) (h2 : Ints w w.heap.size b m ys) :
    Calls Tryz.prog 17 #[.slice a n c, .slice b m e] w fun e w' => e = .returned (.bool (xs == ys)) ∧ Drawn w w' := by
  have l1 := h1.1; have l2 := h2.1
  have m1 := h1.2.1; have m2 := h2.2.1
  by_cases hne : n ≠ m
  · have ho := Lib.hid (show (xs == ys) = false by rw [beq_eq_false_iff_ne]; rintro rfl; omega)
    have hb : ((n : Int) != (m : Int)) = true := by simp; omega
    clear h1 h2 l1 l2 hne
    go_enter Tryz.func17, Tryz.ntmps17
    go_wp2_with fail
    go_ret
    exact ⟨ret_bool (by rw [ho.out]), Drawn.refl _⟩
  obtain rfl : n = m := by omega
  have H1 := Lib.hid h1; have H2 := Lib.hid h2; have L1 := Lib.hid l1; have L2 := Lib.hid l2
  clear h1 h2 l1 l2 hne
  go_enter Tryz.func17, Tryz.ntmps17
  go_wp2_with fail
  go_loopw [5, 13] (fun _ i wr => ∃ k : Nat, k ≤ n ∧ i = .int .i64 k ∧ (∀ j, j < k → xs[j]? = ys[j]?) ∧ Drawn w wr) (fun _ i _ => n - (intOf i).toNat)
  case atStart => exact ⟨0, by omega, rfl, fun j h => by omega, Drawn.refl _⟩
  case round =>
    obtain ⟨k, hk, rfl, hall, hd⟩ := hrel
    have HA := Lib.hid hall; clear hall
    obtain ⟨nd, rfl⟩ := hd
    by_cases hlt : k < n
    · obtain ⟨b1, o1, x, rfl, hb1, hc1, hx, x1, x2⟩ := H1.out.at_ hlt
      obtain ⟨b2, o2, y, rfl, hb2, hc2, hy, y1, y2⟩ := H2.out.at_ hlt
      have HX := Lib.hid hx; have HY := Lib.hid hy; clear hx hy
      by_cases hxy : x = y
      · have hb : (x != y) = false := by simpa using hxy
        have hnx := Lib.hid (show ∀ j, j < k + 1 → xs[j]? = ys[j]? from fun j hj => by
          by_cases hjk : j = k
          · subst hjk; rw [HX.out, HY.out, hxy]
          · exact HA.out j (by omega))
        clear hxy
        go_wp2_with fail
        go_quiet (fail)
        go_wp2_with fail
        go_roundw
        case rel => exact ⟨k + 1, by omega, by go_num, hnx.out, by (repeat' (first | exact Drawn.refl _ | assumption | refine Drawn.drew ?_ | refine Drawn.drewN ?_ _ | exact ⟨_, rfl⟩))⟩
        case measure => simp [intOf]; omega
      · have hb : (x != y) = true := by simpa using hxy
        have ho := Lib.hid (show (xs == ys) = false by
          rw [beq_eq_false_iff_ne]; rintro rfl
          have := HX.out.symm.trans HY.out
          injection this with this; exact hxy this)
        clear hxy
        go_wp2_with fail
        go_quiet (fail)
        go_wp2_with fail
        go_ret
        exact ⟨ret_bool (by rw [ho.out]), by (repeat' (first | exact Drawn.refl _ | assumption | refine Drawn.drew ?_ | refine Drawn.drewN ?_ _ | exact ⟨_, rfl⟩))⟩
    · have ho := Lib.hid (show (xs == ys) = true by
        rw [beq_iff_eq]
        apply List.ext_getElem?
        intro j
        by_cases hj : j < k
        · exact HA.out j hj
        · rw [List.getElem?_eq_none (by have := L1.out; omega), List.getElem?_eq_none (by have := L2.out; omega)])
      go_wp2_with fail
      go_ret
      exact ⟨ret_bool (by rw [ho.out]), by (repeat' (first | exact Drawn.refl _ | assumption | refine Drawn.drew ?_ | refine Drawn.drewN ?_ _ | exact ⟨_, rfl⟩))⟩
theorem At.grown' {w w' : World} {b : Nat} {o : Obj} {row : Option Nat} (h : At w b o) (hg : w.grownBy w' row) (hne : some b ≠ row) : At w' b o := (hg.block b h.lt hne).trans h
end Go.Proofs.YtlpbaljoanfogaaGreatDoor

set_option linter.unusedSimpArgs false
namespace Go.Proofs.YtlpbaljoanfogaaGreatDoor
set_option linter.unusedVariables false
set_option maxRecDepth 100000
open Go.RowKit
def outTo (C : Nat → Bool) (N : Nat → Int) : Nat → List Int
  | 0 => []
  | k + 1 => outTo C N k ++ if C k = true then [N k] else []
theorem outTo_yes {C : Nat → Bool} {N : Nat → Int} {k : Nat} (h : C k = true) : outTo C N (k + 1) = outTo C N k ++ [N k] := by rw [outTo, if_pos h]
theorem outTo_no {C : Nat → Bool} {N : Nat → Int} {k : Nat} (h : C k = false) : outTo C N (k + 1) = outTo C N k := by rw [outTo, if_neg (by rw [h]; simp), List.append_nil]
theorem outTo_len (C : Nat → Bool) (N : Nat → Int) : ∀ k, (outTo C N k).length ≤ k
  | 0 => Nat.le_refl _
  | k + 1 => by
    have := outTo_len C N k
    rw [outTo, List.length_append]
    split
    · simp only [List.length_cons, List.length_nil]; omega
    · simp only [List.length_nil]; omega
theorem outTo_mem (C : Nat → Bool) (N : Nat → Int) {n : Nat} (h : ∀ k, k < n → C k = true → I64 (N k)) : ∀ k, k ≤ n → ∀ x ∈ outTo C N k, I64 x
  | 0, _, x, hx => by simp [outTo] at hx
  | k + 1, hk, x, hx => by
    rw [outTo, List.mem_append] at hx
    rcases hx with hx | hx
    · exact outTo_mem C N h k (by omega) x hx
    · split at hx
      · rename_i hc
        simp at hx; subst hx
        exact h k (by omega) hc
      · simp at hx
theorem infoIntR : (Tryz.prog.info? 3).map (fun i => (i.zero, i.size, i.bytes)) = some (some (.int .i64 0), 1, 8) := by kernel_rfl
def DaysR (zs : List Int) (w : World) (v : Value) (w' : World) : Prop := ∃ p n c, v = .slice p n c ∧ n ≤ c ∧ c ≤ 9223372036854775807 ∧ Ints w' w'.heap.size p n zs ∧ Below w.heap.size w w'
theorem own_aboveL {w : World} {base : Nat} {e : TypeId} {size : Nat} {v : Value} {n : Nat} {xs : List Value} (h : w.ownsRow base e size v n xs) {b : Nat} (hb : b < base) : some b ≠ v.ownBlock := by
  rcases h.2 with ⟨rfl, _⟩ | ⟨g, cap, cur, rfl, hg, _⟩
  · simp [Value.ownBlock]
  · simp [Value.ownBlock]; omega
end Go.Proofs.YtlpbaljoanfogaaGreatDoor
