/- The reference's way through a zone's changes, plain; its shift of a row by one place. -/
import Derived.Test.YticflmepmmdnfaaDoorZed4
namespace Go.Proofs.YticflmepmmdnfaaDoor
set_option linter.unusedVariables false
set_option linter.unusedSimpArgs false
set_option maxRecDepth 100000
open Go.RowKit

def nxF (k : Int) (c : Chg) (l : List Chg) : List Chg := if k = 1 then l.filter (fun x => decide (x ≠ c)) else l
def hitB (c : Chg) (l : List Chg) : Bool := l.any fun x => decide (x = c)
theorem take_snocC {l : List Chg} {i : Nat} {x : Chg} (h : l[i]? = some x) : l.take (i + 1) = l.take i ++ [x] := by
  obtain ⟨hl, rfl⟩ := List.getElem?_eq_some_iff.1 h
  exact List.take_succ_eq_append_getElem hl
theorem nx_len (k : Int) (c : Chg) (l : List Chg) : (nxF k c l).length ≤ l.length := by
  unfold nxF
  split
  · exact List.length_filter_le _ _
  · exact Nat.le_refl _
theorem nx_ok {k : Int} {c : Chg} {l : List Chg} (h : ∀ x ∈ l, okChg x) : ∀ x ∈ nxF k c l, okChg x := by
  unfold nxF
  split
  · intro x hx; exact h x (List.mem_filter.1 hx).1
  · exact h
theorem own_lowZ {w : World} {base base' : Nat} {e : TypeId} {size : Nat} {v : Value} {n : Nat} {xs : List Value} (h : w.ownsRow base e size v n xs) (hb : base' ≤ base) : w.ownsRow base' e size v n xs := by
  refine ⟨h.1, ?_⟩
  rcases h.2 with h0 | ⟨g, cap, cur, hv, hg, rest⟩
  · exact .inl h0
  · exact .inr ⟨g, cap, cur, hv, Nat.le_trans hb hg, rest⟩
theorem nx_skip {l : List Chg} {i : Nat} {x c : Chg} {k : Int} (h : l[i]? = some x) (hk : k = 1) (hx : x = c) : nxF k c (l.take (i + 1)) = nxF k c (l.take i) := by
  unfold nxF
  rw [if_pos hk, if_pos hk, take_snocC h, List.filter_append]
  simp [hx]
theorem nx_keep {l : List Chg} {i : Nat} {x c : Chg} {k : Int} (h : l[i]? = some x) (hk : k ≠ 1 ∨ x ≠ c) : nxF k c (l.take (i + 1)) = nxF k c (l.take i) ++ [x] := by
  unfold nxF
  by_cases h1 : k = 1
  · rw [if_pos h1, if_pos h1, take_snocC h, List.filter_append]
    rcases hk with hk | hk
    · exact absurd h1 hk
    · simp [hk]
  · rw [if_neg h1, if_neg h1, take_snocC h]
theorem hit_snoc {l : List Chg} {i : Nat} {x c : Chg} (h : l[i]? = some x) : hitB c (l.take (i + 1)) = (hitB c (l.take i) || decide (x = c)) := by
  unfold hitB
  rw [take_snocC h, List.any_append]; simp
theorem hasT_snoc (l : List Chg) (x : Chg) (t : Int) : hasT (l ++ [x]) t = (hasT l t || decide (x.1 = t)) := by
  unfold hasT
  rw [List.any_append]; simp
theorem edF_drop (l : List Chg) (c : Chg) : edF l (1, c) = if hitB c l = true then (0, nxF 1 c l) else (6, []) := by
  unfold edF hitB nxF
  rw [if_pos rfl, if_pos rfl]
theorem edF_add (l : List Chg) (c : Chg) : edF l (2, c) = if hasT l c.1 = true then (7, []) else (0, insC l c) := by
  unfold edF
  rw [if_neg (by simp), if_pos rfl]
theorem nxF_two (c : Chg) (l : List Chg) : nxF 2 c l = l := if_neg (by omega)
/-- The place that the walk from behind finds. -/
theorem place_of {l : List Chg} {t : Int} {i : Nat} (ho : Ord l) (hn : hasT l t = false) (hi : i ≤ l.length) (h1 : ∀ p x, i ≤ p → l[p]? = some x → t < x.1) (h2 : i = 0 ∨ ∃ x, l[i - 1]? = some x ∧ x.1 ≤ t) : cntT l t = i := by
  refine cntT_uniq ho hi (fun p x hp hx => ?_) (fun p x hp hx => ?_)
  · rcases h2 with h2 | ⟨y, hy, h2⟩
    · omega
    · have hne : y.1 ≠ t := fun e => by
        unfold hasT at hn
        rw [List.any_eq_false] at hn
        exact hn y (List.mem_of_getElem? hy) (by simpa using e)
      exact cntT_len ho hy (by omega) p x (by omega) hx
  · have := h1 p x hp hx; omega
theorem set3 (a b c : Value) : ∀ (Y : List Value) (j : Nat), j + 3 ≤ Y.length → ((Y.set j a).set (j + 1) b).set (j + 2) c = Y.take j ++ [a, b, c] ++ Y.drop (j + 3)
  | [], j, h => by simp at h
  | [_], j, h => by simp at h
  | [_, _], j, h => by simp at h
  | y :: z :: u :: R, 0, h => rfl
  | y :: z :: u :: R, j + 1, h => by
    have ih := set3 a b c (z :: u :: R) j (by simp at h ⊢; omega)
    show y :: (((z :: u :: R).set j a).set (j + 1) b).set (j + 2) c = _
    rw [ih]; rfl
/-- The cut behind the first i + 1 of n + 1, and the copy into it of the cut behind the first i. -/
theorem shift_row (g n cap i : Nat) (x1 x2 : Int) (hx1 : x1 = ((i + 1 : Nat) : Int)) (hx2 : x2 = (i : Int)) (cur : Array Value) (xs : List Value) (w : World) (hg : w.heap[g]? = some (.cells cur 31 (0, 0))) (hcs : cur.size = cap * 3) (htk : cur.toList.take (n * 3) = xs) (hxl : xs.length = n * 3) (hi : i ≤ n) (hroom : n + 1 ≤ cap) (hn : n ≤ 1000000) (hcap : cap ≤ 9223372036854775807) (h1 : ∀ u ∈ xs, u.oneCell' = true) :
    ∃ d u r : Value, (∀ W, (Instr.slice 22 (.slice (some ⟨g, 0, none⟩) (n + 1) cap) (some (.int .i64 x1)) none none).run Tryd.prog W = .ok d W) ∧
      (∀ W, (Instr.sliceAt 22 (.slice (some ⟨g, 0, none⟩) (n + 1) cap) (some (.int .i64 x1)) none none).run Tryd.prog W = .ok d W) ∧
      (∀ W, (Instr.slice 22 (.slice (some ⟨g, 0, none⟩) (n + 1) cap) (some (.int .i64 x2)) none none).run Tryd.prog W = .ok u W) ∧
      (∀ W, (Instr.sliceAt 22 (.slice (some ⟨g, 0, none⟩) (n + 1) cap) (some (.int .i64 x2)) none none).run Tryd.prog W = .ok u W) ∧
      ∀ ty, (Builtin.copy_ #[22, 22] ty #[d, u]).run Tryd.prog w = .ok r (w.setRow g (cur.toList.take ((i + 1) * 3) ++ xs.drop (i * 3) ++ cur.toList.drop ((i + 1) * 3 + (xs.drop (i * 3)).length)).toArray) := by
  have hcell : ∀ j x, xs[j]? = some x → w.cell? ⟨g, j, none⟩ = some x := fun j x hj => by
    have hA : At w g (.cells cur 31) := hg
    rw [hA.cell, ← htk] at *
    rw [List.getElem?_take] at hj
    split at hj
    · simpa using hj
    · cases hj
  have hdl : (xs.drop (i * 3)).length = (n - i) * 3 := by rw [List.length_drop, hxl]; omega
  obtain ⟨uA, uB⟩ := chg_cutL g (n + 1) cap i x2 hx2 (by omega) hroom
  have hfit : (n + 1) * 3 ≤ cap * 3 := Nat.mul_le_mul_right _ hroom
  rcases Nat.lt_or_ge i n with hlt | hge
  · obtain ⟨dA, dB⟩ := chg_cutL g (n + 1) cap (i + 1) x1 hx1 (by omega) hroom
    refine ⟨_, _, _, dA, dB, uA, uB, fun ty => run_copy_rowS w 22 22 ty 31 3 g ((i + 1) * 3) _ _ ⟨g, i * 3, none⟩ _ _ cur 31 (xs.drop (i * 3)) Tryd.underlying22 chg_size hg (by rw [hdl]; congr 1; simp only [Nat.min_def]; split <;> omega)
      (fun j v hj => by rw [add_none]; exact hcell _ v (by rwa [List.getElem?_drop] at hj)) (by rw [hdl, hcs]; omega) (fun v hv => h1 v (List.mem_of_mem_drop hv))⟩
  · obtain rfl : i = n := by omega
    have hd0 : xs.drop (i * 3) = [] := List.length_eq_zero_iff.1 (by rw [hdl]; simp)
    have hk : ∀ W, (Instr.slice 22 (.slice (some ⟨g, 0, none⟩) (i + 1) cap) (some (.int .i64 x1)) none none).run Tryd.prog W = .ok (.slice (some ⟨g, if cap = i + 1 then 0 else (i + 1) * 3, none⟩) 0 (cap - (i + 1))) W := by
      intro W
      subst hx1
      rw [run_slice_l W 22 (some ⟨g, 0, none⟩) (i + 1) cap (by kernel_rfl) .i64 ((i + 1 : Nat) : Int) (by omega) (by omega), chg_sizeOf]
      by_cases hce : cap = i + 1
      · simp [sliced, Result.andThen, Addr.add, hce]
      · have h3 : ¬ (i + 1) * 3 = 0 := by omega
        simp [sliced, Result.andThen, Addr.add, hce, h3]
    refine ⟨_, _, goInt (Nat.min (i + 1 - i) 0), hk, fun W => by rw [run_sliceAt_slice W 22 _ _ _ _ (by kernel_rfl)]; exact hk W, uA, uB, fun ty => ?_⟩
    have := run_copy_rowS w 22 22 ty 31 3 g (if cap = i + 1 then 0 else (i + 1) * 3) 0 (cap - (i + 1)) ⟨g, i * 3, none⟩ (i + 1 - i) (cap - i) cur 31 [] Tryd.underlying22 chg_size hg (by simp)
      (fun j v hj => by simp at hj) (by simp only [List.length_nil]; split <;> omega) (fun v hv => by cases hv)
    rw [hd0]
    simp only [List.append_nil, List.length_nil, Nat.add_zero, List.take_append_drop] at this ⊢
    exact this
theorem below_setRow {B : Nat} {a w : World} (h : Below B a w) {g : Nat} (hg : B ≤ g) (c : Array Value) : Below B a (w.setRow g c) :=
  ⟨h.os, h.tape, h.output, by simp [World.setRow]; exact h.size, fun k hk => (setRow_other w g k c (by omega)).trans (h.block k hk)⟩
theorem At.setRowZ {w : World} {b : Nat} {o : Obj} (h : At w b o) {g : Nat} (hg : b ≠ g) (c : Array Value) : At (w.setRow g c) b o := (setRow_other w g b c hg).trans h
/-- The row behind the copy and the store. -/
theorem shift_end (n cap i : Nat) (cur : Array Value) (xs news : List Value) (hcs : cur.size = cap * 3) (htk : cur.toList.take (n * 3) = xs) (hxl : xs.length = n * 3) (hi : i ≤ n) (hroom : n + 1 ≤ cap) (hl : news.length = 3) (Y1 : List Value) (hY1 : Y1 = cur.toList.take ((i + 1) * 3) ++ xs.drop (i * 3) ++ cur.toList.drop ((i + 1) * 3 + (xs.drop (i * 3)).length)) :
    Y1.length = cap * 3 ∧ (Y1.take (i * 3) ++ news ++ Y1.drop (i * 3 + 3)).take ((n + 1) * 3) = xs.take (i * 3) ++ news ++ xs.drop (i * 3) := by
  have hcl : cur.toList.length = cap * 3 := by simpa using hcs
  have hdl : (xs.drop (i * 3)).length = (n - i) * 3 := by rw [List.length_drop, hxl]; omega
  have htA : (xs.take (i * 3)).length = i * 3 := by rw [List.length_take]; omega
  have hfit : (n + 1) * 3 ≤ cap * 3 := Nat.mul_le_mul_right _ hroom
  constructor
  · rw [hY1]; simp only [List.length_append, List.length_take, List.length_drop, hcl, hdl]; omega
  · have key := chg_down cur.toList (xs.take (i * 3)) news (xs.drop (i * 3)) (by rw [htA, hl, hdl, hcl]; omega) (by rw [htA, ← htk, List.take_take, Nat.min_eq_left (by omega)])
    rw [htA, hl, hdl] at key
    rw [hY1, hdl, show (i + 1) * 3 = i * 3 + 3 by omega, show (n + 1) * 3 = i * 3 + 3 + (n - i) * 3 by omega]
    exact key
end Go.Proofs.YticflmepmmdnfaaDoor
