/- Contract of compile.Compile. -/
import Derived.Test.YtjpbkkoflaajcaaComp0
import Derived.Deep.RegionHeld3
import Derived.Test.YtjpbkkoflaajcaaStore
namespace Go.Proofs.Ytjpbkkoflaajcaa
set_option linter.unusedVariables false
set_option maxRecDepth 100000
open Go.RowKit

theorem Try.infoIntC : (Try.prog.info? 3).map (fun i => (i.zero, i.size, i.bytes)) = some (some (.int .i64 0), 1, 8) := by kernel_rfl
/-- The leap years of the years 1 to k, or the first error. -/
def compTo (t : Tree) : Nat → Int × List Int
  | 0 => (0, [])
  | k + 1 => if (compTo t k).1 ≠ 0 then compTo t k else if (evalGo t ((k : Int) + 1)).2 ≠ 0 then ((evalGo t ((k : Int) + 1)).2, []) else (0, (compTo t k).2 ++ (if (evalGo t ((k : Int) + 1)).1 ≠ 0 then [(k : Int) + 1] else []))
theorem compTo_succ (t : Tree) (k : Nat) : compTo t (k + 1) = if (compTo t k).1 ≠ 0 then compTo t k else if (evalGo t ((k : Int) + 1)).2 ≠ 0 then ((evalGo t ((k : Int) + 1)).2, []) else (0, (compTo t k).2 ++ (if (evalGo t ((k : Int) + 1)).1 ≠ 0 then [(k : Int) + 1] else [])) := rfl
theorem compTo_stop (t : Tree) (k : Nat) (h : (compTo t k).1 ≠ 0) : ∀ j, k ≤ j → compTo t j = compTo t k
  | 0, hj => by
    have e : k = 0 := by omega
    rw [e]
  | j + 1, hj => by
    rcases Nat.lt_or_ge j k with h1 | h1
    · have e : k = j + 1 := by omega
      rw [e]
    · rw [compTo_succ, compTo_stop t k h j h1, if_pos h]
theorem compTo_err {t : Tree} {k : Nat} {e : Int} {zs : List Int} (h : compTo t k = (0, zs)) (he : (evalGo t ((k : Int) + 1)).2 = e) (h0 : e ≠ 0) : compTo t (k + 1) = (e, []) := by
  rw [compTo_succ, h, if_neg (by simp), he, if_pos h0]
theorem compTo_yes {t : Tree} {k : Nat} {zs : List Int} (h : compTo t k = (0, zs)) (he : (evalGo t ((k : Int) + 1)).2 = 0) (hv : (evalGo t ((k : Int) + 1)).1 ≠ 0) : compTo t (k + 1) = (0, zs ++ [(k : Int) + 1]) := by
  rw [compTo_succ, h, if_neg (by simp), if_neg (by omega), if_pos hv]
theorem compTo_no {t : Tree} {k : Nat} {zs : List Int} (h : compTo t k = (0, zs)) (he : (evalGo t ((k : Int) + 1)).2 = 0) (hv : (evalGo t ((k : Int) + 1)).1 = 0) : compTo t (k + 1) = (0, zs) := by
  rw [compTo_succ, h, if_neg (by simp), if_neg (by omega), if_neg (by omega)]; simp
/-- What the compilation of a rule gives: an error, and the leap years. -/
def compErr (s : ByteArray) (f c : Int) (t : Tree) (ms : List Mon) : Int := if ruleErr s f c t ms ≠ 0 then ruleErr s f c t ms else (compTo t c.toNat).1
/-- The calendar in memory: the empty one where there is an error. -/
def CompPost (s : ByteArray) (f c : Int) (t : Tree) (ms : List Mon) (w : World) (e : Ending) (w' : World) : Prop :=
  (compErr s f c t ms ≠ 0 ∧ e = .returned (.tuple #[.agg #[.string ⟨#[]⟩, .int .i64 0, .int .i64 0, .slice none 0 0, .slice none 0 0], .int .i64 (compErr s f c t ms)]) ∧ Below w.heap.size w w') ∨
  (compErr s f c t ms = 0 ∧ ∃ a1 n1 c1 a2 n2 c2, e = .returned (.tuple #[.agg #[.string s, .int .i64 f, .int .i64 c, .slice a1 n1 c1, .slice a2 n2 c2], .int .i64 0]) ∧ n1 ≤ c1 ∧ n2 ≤ c2 ∧ Months w' w'.heap.size a1 n1 ms ∧ Ints w' w'.heap.size a2 n2 (compTo t c.toNat).2 ∧ Below w.heap.size w w')
theorem compTo_mem {t : Tree} : ∀ (k : Nat) (z : Int), z ∈ (compTo t k).2 → 1 ≤ z ∧ z ≤ k
  | 0, z, h => by simp [compTo] at h
  | k + 1, z, h => by
    rw [compTo_succ] at h
    split at h
    · have := compTo_mem k z h; omega
    · split at h
      · simp at h
      · rcases List.mem_append.1 h with h | h
        · have := compTo_mem k z h; omega
        · split at h
          · simp at h; omega
          · simp at h
theorem monthsErr_len {ms : List Mon} (h : monthsErr ms = 0) : 1 ≤ ms.length ∧ ms.length ≤ 20 := by
  unfold monthsErr at h
  split at h
  · cases h
  · omega
theorem ruleErr_parts {s : ByteArray} {f c : Int} {t : Tree} {ms : List Mon} (h : ruleErr s f c t ms = 0) : headErr s f c = 0 ∧ exprErr t = 0 ∧ monthsErr ms = 0 := by
  unfold ruleErr at h
  split at h
  · contradiction
  · split at h
    · contradiction
    · exact ⟨by omega, by omega, h⟩
theorem headErr_cyc {s : ByteArray} {f c : Int} (h : headErr s f c = 0) : 1 ≤ c ∧ c ≤ 3000 := by
  unfold headErr at h
  split at h
  · cases h
  · split at h
    · cases h
    · rename_i h2
      rw [Bool.not_eq_false, Bool.and_eq_true] at h2
      exact inB_iff.1 h2.2
end Go.Proofs.Ytjpbkkoflaajcaa
