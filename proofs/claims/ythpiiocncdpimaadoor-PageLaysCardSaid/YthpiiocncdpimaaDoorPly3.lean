/- Groups of columns under construction: a list of lists of the call's own. -/
import Derived.Test.YthpiiocncdpimaaDoorPly2
import Derived.OneCell
import Derived.Deep.AppendLies
import Derived.Deep.Cut
namespace Go.Proofs.YthpiiocncdpimaaDoor
set_option linter.unusedVariables false
set_option linter.unusedSimpArgs false
set_option maxRecDepth 100000
open Go.RowKit Go.Shelf

theorem own_inB {w : World} {base : Nat} {e : TypeId} {size : Nat} {v : Value} {n : Nat} {xs : List Value} (h : w.ownsRow base e size v n xs) {b : Nat} (hb : v.ownBlock = some b) : base ≤ b ∧ b < w.heap.size := by
  rcases h.2 with ⟨rfl, _⟩ | ⟨g', cap, cur, rfl, hg, hat, _⟩
  · cases hb
  · cases hb; exact ⟨hg, (show At w g' _ from hat).lt⟩
theorem own_keptB {w w' : World} {base : Nat} {e : TypeId} {size : Nat} {v : Value} {n : Nat} {xs : List Value} (h : w.ownsRow base e size v n xs) (hb : ∀ b, v.ownBlock = some b → w'.heap[b]? = w.heap[b]?) : w'.ownsRow base e size v n xs := by
  refine ⟨h.1, ?_⟩
  rcases h.2 with h0 | ⟨g, cap, cur, rfl, hg, hat, rest⟩
  · exact .inl h0
  · exact .inr ⟨g, cap, cur, rfl, hg, (hb g rfl).trans hat, rest⟩
theorem own_setIn {w : World} {base : Nat} {e : TypeId} {n g cap : Nat} {xs : List Value} (h : w.ownsRow base e 1 (.slice (some ⟨g, 0, none⟩) n cap) n xs) (i : Nat) (u : Value) : (w.setCell ⟨g, i, none⟩ u).ownsRow base e 1 (.slice (some ⟨g, 0, none⟩) n cap) n (xs.set i u) := by
  refine ⟨by rw [List.length_set]; exact h.1, ?_⟩
  rcases h.2 with ⟨h0, _⟩ | ⟨g', cap', cur, hv, hg, hat, r1, r2, r3, r4⟩
  · cases h0
  · injection hv with e1 e2 e3
    injection e1 with e1
    injection e1 with e1
    subst e1 e3
    refine .inr ⟨g, cap, cur.setIfInBounds i u, rfl, hg, (show At w g _ from hat).store i u, r1, r2, by simpa using r3, ?_⟩
    rw [Array.toList_setIfInBounds, List.take_set, r4]
abbrev nzV (l : List Nat) : List Value := (nz l).map (Value.int .i64)
structure GB (W : World) (B O k cap g cg : Nat) (pre : List Value) (gs : List (List Nat)) (last : List Nat) : Prop where
  outer : W.ownsRow B 61 1 (.slice (some ⟨O, 0, none⟩) k cap) k (pre ++ [.slice (some ⟨g, 0, none⟩) last.length cg])
  inner : W.ownsRow B 3 1 (.slice (some ⟨g, 0, none⟩) last.length cg) last.length (nzV last)
  ne : O ≠ g
  len : k = gs.length + 1
  plen : pre.length = gs.length
  olds : ∀ i, i < gs.length → ∃ b c, pre[i]? = some (.slice (some ⟨b, 0, none⟩) (gs.getD i []).length c) ∧ (gs.getD i []).length ≤ c ∧ c ≤ 9223372036854775807 ∧ B ≤ b ∧ b < W.heap.size ∧ b ≠ O ∧ b ≠ g ∧ ∀ j, j < (gs.getD i []).length → W.cell? ⟨b, j, none⟩ = some (.int .i64 ((gs.getD i []).getD j 0 : Nat))
section
variable {W W' w4 : World} {B O k cap g cg : Nat} {pre : List Value} {gs : List (List Nat)} {last : List Nat}
theorem GB.outlt (h : GB W B O k cap g cg pre gs last) : B ≤ O ∧ O < W.heap.size := own_inB h.outer rfl
theorem GB.inlt (h : GB W B O k cap g cg pre gs last) : B ≤ g ∧ g < W.heap.size := own_inB h.inner rfl
theorem cell_keep {b j : Nat} {v : Value} (h : W.cell? ⟨b, j, none⟩ = some v) (e : W'.heap[b]? = W.heap[b]?) : W'.cell? ⟨b, j, none⟩ = some v := by
  rw [← h]; unfold World.cell?; simp only [e]
theorem GB.move (h : GB W B O k cap g cg pre gs last) (hs : W.heap.size ≤ W'.heap.size) (hk : ∀ b, B ≤ b → b < W.heap.size → W'.heap[b]? = W.heap[b]?) : GB W' B O k cap g cg pre gs last :=
  ⟨own_keptB h.outer (fun b hb => hk b (own_inB h.outer hb).1 (own_inB h.outer hb).2), own_keptB h.inner (fun b hb => hk b (own_inB h.inner hb).1 (own_inB h.inner hb).2), h.ne, h.len, h.plen, fun i hi => by
    obtain ⟨b, c, q1, q2, q3, q4, q5, q6, q7, q8⟩ := h.olds i hi
    exact ⟨b, c, q1, q2, q3, q4, Nat.lt_of_lt_of_le q5 hs, q6, q7, fun j hj => cell_keep (q8 j hj) (hk b q4 q5)⟩⟩
theorem GB.then_ (h : GB W B O k cap g cg pre gs last) (hb : Below W.heap.size W W') : GB W' B O k cap g cg pre gs last := h.move hb.size fun b _ hb' => hb.block b hb'
/-- A column is appended to the last group. -/
theorem GB.step (h : GB W B O k cap g cg pre gs last) {o : Obj} {x g4 cap4 : Nat} (hown : w4.ownsRow B 3 1 (.slice (some ⟨g4, 0, none⟩) (last.length + 1) cap4) (last.length + 1) (nzV last ++ [.int .i64 (x : Nat)]))
    (hgrow : (W.alloc o).grownBy w4 (some g)) (hlies : some g = some g4 ∨ g4 = (W.alloc o).heap.size) :
    GB (w4.setCell ⟨O, gs.length, none⟩ (.slice (some ⟨g4, 0, none⟩) (last.length + 1) cap4)) B O k cap g4 cap4 pre gs (last ++ [x]) := by
  have hO := h.outlt; have hg := h.inlt; have hne := h.ne
  have hsz := hgrow.size
  have hs1 : (W.alloc o).heap.size = W.heap.size + 1 := World.size_alloc W o
  have hg4 : g4 = g ∨ g4 = W.heap.size + 1 := by
    rcases hlies with e | e
    · left; injection e with e; exact e.symm
    · right; rw [e, hs1]
  have hneO : O ≠ g4 := by omega
  have keep : ∀ b, b < W.heap.size → b ≠ g → w4.heap[b]? = W.heap[b]? := fun b hb hbg => (hgrow.block b (by omega) (by simp; exact hbg)).trans (Below.heap_alloc W o b hb)
  refine ⟨?_, ?_, hneO, h.len, h.plen, fun i hi => ?_⟩
  · have h1 := own_setIn (own_keptB (w' := w4) h.outer (fun b hb => by cases hb; exact keep O hO.2 hne)) gs.length (.slice (some ⟨g4, 0, none⟩) (last.length + 1) cap4)
    rw [← h.plen, List.set_append_right _ _ (Nat.le_refl _), Nat.sub_self, List.set_cons_zero] at h1
    rw [← h.plen, List.length_append]
    exact h1
  · rw [List.length_append]
    have := ownsRow_setCell_other hown (a := ⟨O, gs.length, none⟩) (by show some g4 ≠ some O; intro e; injection e with e; exact hneO e.symm) (.slice (some ⟨g4, 0, none⟩) (last.length + 1) cap4)
    rw [show nzV (last ++ [x]) = nzV last ++ [.int .i64 (x : Nat)] by simp]
    exact this
  · obtain ⟨b, c, q1, q2, q3, q4, q5, q6, q7, q8⟩ := h.olds i hi
    refine ⟨b, c, q1, q2, q3, q4, by simp [World.setCell]; omega, q6, by omega, fun j hj => ?_⟩
    exact cell_keep (q8 j hj) ((Below.heap_setCell w4 ⟨O, gs.length, none⟩ _ b (by show b ≠ O; exact q6)).trans (keep b q5 q7))
theorem nz_take (l : List Nat) (cur : Array Value) (h : cur.toList.take (l.length * 1) = nzV l) (j : Nat) (hj : j < l.length) : cur[j]? = some (.int .i64 (l.getD j 0 : Nat)) := by
  have h1 : (cur.toList.take (l.length * 1))[j]? = some (.int .i64 (l.getD j 0 : Nat)) := by
    rw [h]; simp [List.getD_eq_getElem?_getD, hj]
  rw [List.getElem?_take, if_pos (by omega), Array.getElem?_toList] at h1
  exact h1
theorem own_num {B : Nat} {g cg : Nat} {l : List Nat} (h : W.ownsRow B 3 1 (.slice (some ⟨g, 0, none⟩) l.length cg) l.length (nzV l)) : l.length ≤ cg ∧ cg ≤ 9223372036854775807 ∧ ∀ j, j < l.length → W.cell? ⟨g, j, none⟩ = some (.int .i64 (l.getD j 0 : Nat)) := by
  rcases h.2 with ⟨h0, _⟩ | ⟨g', cap', cur, hv, hg, hat, r1, r2, r3, r4⟩
  · cases h0
  · injection hv with e1 e2 e3
    injection e1 with e1
    injection e1 with e1
    subst e1 e3
    unfold maxLen at r2
    exact ⟨r1, by omega, fun j hj => by rw [(show At W g (.cells cur _) from hat).cell j]; exact nz_take l cur r4 j hj⟩
/-- A new group. -/
theorem GB.push (h : GB W B O k cap g cg pre gs last) {o2 : Obj} {O4 cap4 : Nat}
    (hown : w4.ownsRow B 61 1 (.slice (some ⟨O4, 0, none⟩) (k + 1) cap4) (k + 1) ((pre ++ [.slice (some ⟨g, 0, none⟩) last.length cg]) ++ [.slice (some ⟨W.heap.size, 0, none⟩) 1 1]))
    (hgrow : ((W.alloc (.cells #[.int .i64 0] 3)).alloc o2).grownBy w4 (some O)) (hlies : some O = some O4 ∨ O4 = ((W.alloc (.cells #[.int .i64 0] 3)).alloc o2).heap.size) :
    GB w4 B O4 (k + 1) cap4 W.heap.size 1 (pre ++ [.slice (some ⟨g, 0, none⟩) last.length cg]) (gs ++ [last]) [0] := by
  have hO := h.outlt; have hg := h.inlt; have hne := h.ne
  have hsz := hgrow.size
  have hs1 : ((W.alloc (.cells #[.int .i64 0] 3)).alloc o2).heap.size = W.heap.size + 2 := by rw [World.size_alloc, World.size_alloc]
  have hO4 : O4 = O ∨ O4 = W.heap.size + 2 := by
    rcases hlies with e | e
    · left; injection e with e; exact e.symm
    · right; rw [e, hs1]
  have keep : ∀ b, b < W.heap.size → b ≠ O → w4.heap[b]? = W.heap[b]? := fun b hb hbO => (hgrow.block b (by omega) (by simp; exact hbO)).trans ((Below.heap_alloc _ o2 b (by rw [World.size_alloc]; omega)).trans (Below.heap_alloc W _ b hb))
  have hin : w4.ownsRow B 3 1 (.slice (some ⟨W.heap.size, 0, none⟩) 1 1) 1 (nzV [0]) := by
    refine own_keptB (World.ownsRow_lit W #[.int .i64 0] 1 (by omega) (by decide) (by rfl)) fun b hb => ?_
    cases hb
    exact (hgrow.block W.heap.size (by omega) (by simp; omega)).trans (Below.heap_alloc _ o2 W.heap.size (by rw [World.size_alloc]; omega))
  refine ⟨hown, hin, by omega, by rw [List.length_append, h.len]; rfl, by rw [List.length_append, List.length_append, h.plen]; rfl, fun i hi => ?_⟩
  rw [List.length_append] at hi
  by_cases hlt : i < gs.length
  · obtain ⟨b, c, q1, q2, q3, q4, q5, q6, q7, q8⟩ := h.olds i hlt
    have e : (gs ++ [last]).getD i [] = gs.getD i [] := by rw [List.getD_eq_getElem?_getD, List.getElem?_append_left hlt, List.getD_eq_getElem?_getD]
    rw [e]
    refine ⟨b, c, by rw [List.getElem?_append_left (by rw [h.plen]; exact hlt)]; exact q1, q2, q3, q4, by omega, by omega, by omega, fun j hj => cell_keep (q8 j hj) (keep b q5 q6)⟩
  · have hi2 : i = gs.length := by simp at hi; omega
    subst hi2
    have e : (gs ++ [last]).getD gs.length [] = last := by rw [List.getD_eq_getElem?_getD, List.getElem?_append_right (Nat.le_refl _), Nat.sub_self]; rfl
    rw [e]
    obtain ⟨n1, n2, n3⟩ := own_num h.inner
    refine ⟨g, cg, by rw [List.getElem?_append_right (by rw [h.plen]; exact Nat.le_refl _), h.plen, Nat.sub_self]; rfl, n1, n2, hg.1, by omega, by omega, by omega, fun j hj => cell_keep (n3 j hj) (keep g hg.2 (Ne.symm hne))⟩
/-- A list of lists of numbers. -/
def NumRows (W : World) (O : Nat) (gs : List (List Nat)) : Prop :=
  O < W.heap.size ∧ ∀ i, i < gs.length → ∃ b c, W.cell? ⟨O, i, none⟩ = some (.slice (some ⟨b, 0, none⟩) (gs.getD i []).length c) ∧ (gs.getD i []).length ≤ c ∧ c ≤ 9223372036854775807 ∧ b < W.heap.size ∧ ∀ j, j < (gs.getD i []).length → W.cell? ⟨b, j, none⟩ = some (.int .i64 ((gs.getD i []).getD j 0 : Nat))
theorem NumRows.then_ (h : NumRows W O gs) (k : Below W.heap.size W W') : NumRows W' O gs :=
  ⟨Nat.lt_of_lt_of_le h.1 k.size, fun i hi => by
    obtain ⟨b, c, q1, q2, q3, q4, q5⟩ := h.2 i hi
    exact ⟨b, c, (k.cell (p := ⟨O, i, none⟩) h.1).trans q1, q2, q3, Nat.lt_of_lt_of_le q4 k.size, fun j hj => (k.cell (p := ⟨b, j, none⟩) q4).trans (q5 j hj)⟩⟩
theorem GB.rows (h : GB W B O k cap g cg pre gs last) : NumRows W O (gs ++ [last]) ∧ k ≤ cap ∧ cap ≤ 9223372036854775807 := by
  rcases h.outer.2 with ⟨h0, _⟩ | ⟨g', cap', cur, hv, hg, hat, r1, r2, r3, r4⟩
  · cases h0
  injection hv with e1 e2 e3
  injection e1 with e1
  injection e1 with e1
  subst e1 e3
  unfold maxLen at r2
  refine ⟨⟨h.outlt.2, fun i hi => ?_⟩, r1, by omega⟩
  have hcell : ∀ u, (pre ++ [.slice (some ⟨g, 0, none⟩) last.length cg])[i]? = some u → W.cell? ⟨O, i, none⟩ = some u := fun u hu => by
    rw [List.length_append] at hi
    have hik : i < k := by rw [h.len]; simpa using hi
    have h1 : (cur.toList.take (k * 1))[i]? = some u := by rw [r4]; exact hu
    rw [List.getElem?_take, if_pos (by omega), Array.getElem?_toList] at h1
    rw [(show At W O (.cells cur _) from hat).cell i]; exact h1
  rw [List.length_append] at hi
  by_cases hlt : i < gs.length
  · obtain ⟨b, c, q1, q2, q3, q4, q5, q6, q7, q8⟩ := h.olds i hlt
    have e : (gs ++ [last]).getD i [] = gs.getD i [] := by rw [List.getD_eq_getElem?_getD, List.getElem?_append_left hlt, List.getD_eq_getElem?_getD]
    rw [e]
    exact ⟨b, c, hcell _ (by rw [List.getElem?_append_left (by rw [h.plen]; exact hlt)]; exact q1), q2, q3, q5, q8⟩
  · have hi2 : i = gs.length := by simp at hi; omega
    subst hi2
    have e : (gs ++ [last]).getD gs.length [] = last := by rw [List.getD_eq_getElem?_getD, List.getElem?_append_right (Nat.le_refl _), Nat.sub_self]; rfl
    rw [e]
    obtain ⟨n1, n2, n3⟩ := own_num h.inner
    exact ⟨g, cg, hcell _ (by rw [List.getElem?_append_right (by rw [h.plen]; exact Nat.le_refl _), h.plen, Nat.sub_self]; rfl), n1, n2, h.inlt.2, n3⟩
end
theorem gb_start (w : World) (B : Nat) (hB : B ≤ w.heap.size) : GB ((w.alloc (.cells #[.int .i64 0] 3)).alloc (.cells #[.slice (some ⟨w.heap.size, 0, none⟩) 1 1] 61)) B (w.heap.size + 1) 1 1 w.heap.size 1 [] [] [0] := by
  have h1 := World.ownsRow_lit (base := B) (e := 61) (size := 1) (w.alloc (.cells #[.int .i64 0] 3)) #[.slice (some ⟨w.heap.size, 0, none⟩) 1 1] 1 (by rw [World.size_alloc]; omega) (by decide) (by rfl)
  rw [World.size_alloc] at h1
  refine ⟨h1, ?_, by omega, rfl, rfl, fun i hi => by simp at hi⟩
  refine own_keptB (World.ownsRow_lit w #[.int .i64 0] 1 hB (by decide) (by rfl)) fun b hb => ?_
  cases hb
  exact Below.heap_alloc _ _ w.heap.size (by rw [World.size_alloc]; omega)
theorem stGo_cons (w0 width x : Nat) (r : List Nat) (i used : Nat) (acc : List Nat) : stGo w0 width (x :: r) i used acc = if width < used + 2 + x then stGo w0 width r (i + 1) (w0 + 2 + x) (acc ++ [i]) else stGo w0 width r (i + 1) (used + 2 + x) acc := by rw [stGo]
theorem grps_last {acc : List Nat} {i : Nat} {gs : List (List Nat)} {last : List Nat} (h : grps acc i = gs ++ [last]) (hne : acc ≠ []) (hi : acc.getLastD 0 ≤ i) : grps acc (i + 1) = gs ++ [last ++ [i]] := by
  obtain ⟨a, b, h1, h2⟩ := grps_step acc i hne hi
  rw [h1] at h
  obtain ⟨e1, e2⟩ := List.append_inj' h rfl
  injection e2 with e2
  rw [h2, e1, e2]
end Go.Proofs.YthpiiocncdpimaaDoor
