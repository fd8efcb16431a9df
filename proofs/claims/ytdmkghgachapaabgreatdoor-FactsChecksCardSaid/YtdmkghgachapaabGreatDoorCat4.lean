import Derived.Test.YtdmkghgachapaabGreatDoorMgC
import Derived.Test.YtdmkghgachapaabGreatDoorMgD
import Derived.Test.YtdmkghgachapaabGreatDoorLayX
import Derived.Test.YtdmkghgachapaabGreatDoorMg5
import Derived.Test.YtdmkghgachapaabGreatDoorMgA
set_option linter.unusedSimpArgs false
namespace Go.Proofs.YtdmkghgachapaabGreatDoor
set_option linter.unusedVariables false
set_option maxRecDepth 100000
open Go.RowKit Go.Shelf
attribute [local go_sem] Oper.semAt_some
def BoxI {β : Type} (n₀ L o : Nat) (t : TypeId) (w : World) (v : β → Value) (s : β) (W : World) : Prop := (Boxed W o t (v s) ∧ Below n₀ w W) ∧ L ≤ W.heap.size
theorem boxI_own {β : Type} {n₀ L o B : Nat} {t : TypeId} {w : World} (v : β → Value) (hB : n₀ ≤ B) (hw : n₀ ≤ w.heap.size) : OwnFrom B (BoxI n₀ L o t w v) := by
  rintro s W W' row ⟨⟨hv, hb⟩, hL⟩ hg hrow
  refine ⟨⟨hv.kept hg (fun e => ?_), hb.grown hg (by have := hb.size; omega) (fun k h => by have := (hrow k h).1; omega)⟩, Nat.le_trans hL hg.size⟩
  obtain ⟨_, q, hq, hc⟩ := hrow o e.symm
  rw [show W.heap[o]? = _ from hv] at hq
  cases hq; cases hc
theorem boxI_minds {β : Type} {n₀ L o b : Nat} {t : TypeId} {w : World} (v : β → Value) (hbo : b ≠ o) (hn : n₀ ≤ b) (hw : n₀ ≤ w.heap.size) : Minds b (BoxI n₀ L o t w v) := by
  rintro s A C ⟨⟨hv, hB⟩, hL⟩ hg
  exact ⟨⟨hv.kept hg (by simp; omega), hB.grown hg (by have := hB.size; omega) fun k e => by cases e; exact hn⟩, Nat.le_trans hL hg.size⟩
theorem keeps_below {B : Nat} {W W' : World} (h : Below W.heap.size W W') : KeepsFrom B W W' := ⟨h.size, fun k o _ hk _ => (h.block k (Array.getElem?_eq_some_iff.1 hk).1).trans hk⟩
def onlyN (K : Act → World → Prop) : Exit → Act → World → Prop
  | .normal, a, w => K a w
  | _, _, _ => False
theorem only_normal {F : Fence} {n : Nat} {P : Program} {c : Code} {Q : Exit → Act → World → Prop} {a : Act} {w : World} (h : c.wpIn F n P (onlyN fun a w => Q .normal a w) a w) : c.wpIn F n P Q a w :=
  wpIn_mono h fun e a w hq => by cases e <;> first | exact hq | exact hq.elim
def fieldB (row : List UInt8) (j : Nat) : ByteArray := ⟨(fieldL row j).toArray⟩
theorem rows_fields : ∀ r ∈ rowsL, (Lib.splitN r [32] 5).length = 5 ∧ r.length ≤ 200 ∧ 5 ≤ r.length ∧ fieldL r 3 ∈ lettersL := by decide +kernel
theorem letters_fit : ∀ d ∈ lettersL, (monthsL d).length ≤ 300 ∧ ∀ x ∈ Lib.split (monthsL d) [44, 32], x.length ≤ 20 ∧ Lib.count x [47] ≤ 20 := by decide +kernel
theorem texts_short : ∀ r ∈ rowsL, (textL r).length ≤ 400 ∧ (headT (fieldL r 0) (fieldL r 1) (fieldL r 2) (fieldL r 4)).length ≤ 200 := by decide +kernel
theorem extraR : Builder.Extra Tryz.prog Tryz.laysLaysMn154_ren where
  sizeBuilder := by kernel_rfl
  liesBuilder := by kernel_rfl
  t5 := Tryz.underlying5
  a5 := Tryz.isAgg5
  z5 := Tryz.sizeOf5
  v5 := Tryz.zeroValue5
  infoByte := by kernel_rfl
  cellsByte := by kernel_rfl
  sizeByte := by kernel_rfl
  neB5 := by decide
theorem lib_Replace1 (x : ByteArray) (m : Int) (W : World) (hs : x.size ≤ 20) (hc : Lib.count x.data.toList [47] ≤ 20) (hm : W.cell? ⟨0, 0, none⟩ = some (.int .i64 m)) :
    Calls Tryz.prog 104 #[.string x, .string ⟨#[47]⟩, .string ⟨#[32]⟩, .int .i64 1] W fun e w' => e = .returned (.string ⟨(Lib.replace x.data.toList [47] [32] 1).toArray⟩) ∧ Below W.heap.size W w' := by
  have h := Any.strings_Replace { Tryz.laysLaysMn154 with } extraR x ⟨#[47]⟩ ⟨#[32]⟩ 1 m W (by omega) hm (by decide) (by
    have e1 : (⟨#[32]⟩ : ByteArray).size = 1 := rfl
    have e2 : Lib.countB x ⟨#[47]⟩ = Lib.count x.data.toList [47] := rfl
    rw [e1, e2]; omega)
  exact h
theorem lib_SplitN5 (row : List UInt8) (m : Int) (W : World) (hr : row ∈ rowsL) (hm : W.cell? ⟨0, 0, none⟩ = some (.int .i64 m)) :
    Calls Tryz.prog 102 #[.string ⟨row.toArray⟩, .string ⟨#[32]⟩, .int .i64 5] W fun e w' => e = .returned (.slice (some ⟨W.heap.size, 0, none⟩) 5 5) ∧ w' = W.alloc (.cells ((Lib.splitN row [32] 5).map strV).toArray 9) := by
  obtain ⟨h5, h200, hge, _⟩ := rows_fields row hr
  have hz : (⟨row.toArray⟩ : ByteArray).size = row.length := by show row.toArray.size = _; simp
  have hmin : min 5 ((⟨row.toArray⟩ : ByteArray).size + 1) = 5 := by rw [hz]; omega
  have h := Any.strings_SplitN { Tryz.laysLaysMn147 with } Tryz.laysLaysMn147.i9 ⟨row.toArray⟩ ⟨#[32]⟩ 5 m W (by rw [hz]; omega) hm (by decide) (by decide) (by decide)
  have hd := Lib.splitB_data ⟨#[32]⟩ 0 (5 - 1) ⟨row.toArray⟩
  have hsp : Lib.splitK [32] 0 (5 - 1) row = Lib.splitN row [32] 5 := by unfold Lib.splitN; rw [show min 5 (row.length + 1) - 1 = 5 - 1 by omega]
  rw [show (⟨#[32]⟩ : ByteArray).data.toList = [32] from rfl, show (⟨row.toArray⟩ : ByteArray).data.toList = row from by simp, hsp] at hd
  have hl : (Lib.splitB ⟨#[32]⟩ 0 (5 - 1) ⟨row.toArray⟩).length = 5 := by have := congrArg List.length hd; rw [List.length_map, h5] at this; exact this
  have hc : (Lib.splitB ⟨#[32]⟩ 0 (5 - 1) ⟨row.toArray⟩).map Value.string = (Lib.splitN row [32] 5).map strV := by
    rw [← hd, List.map_map]; exact List.map_congr_left fun s _ => rfl
  rw [hmin, hl] at h
  have e2 : Lib.cellsOf (Lib.splitB ⟨#[32]⟩ 0 (5 - 1) ⟨row.toArray⟩) 5 = ((Lib.splitN row [32] 5).map strV).toArray := by
    have h0 := Lib.cellsOf_full (Lib.splitB ⟨#[32]⟩ 0 (5 - 1) ⟨row.toArray⟩)
    rw [hl] at h0
    rw [h0, hc]
  rw [e2] at h
  exact h
theorem field_cell {row : List UInt8} (hr : row ∈ rowsL) {w : World} {F : Nat} (h : At w F (.cells ((Lib.splitN row [32] 5).map strV).toArray 9)) (j : Nat) (hj : j < 5) : w.cell? ⟨F, j, none⟩ = some (.string (fieldB row j)) := by
  have h5 := (rows_fields row hr).1
  rw [At.cell h j]
  have e := List.getElem?_eq_getElem (l := Lib.splitN row [32] 5) (i := j) (by omega)
  simp [fieldB, fieldL, strV, e]
theorem idx_two (a b : UInt8) (N : Nat) (hN : N < 4294967281) (w : World) (m : Int) (hm : w.cell? ⟨0, 0, none⟩ = some (.int .i64 m)) : IdxOk ⟨#[a, b]⟩ N (fun k => k = 0) w := by
  intro t W ht hK
  have hm2 : W.cell? ⟨0, 0, none⟩ = some (.int .i64 m) := (World.cell?_of_block (a := ⟨0, 0, none⟩) (hK _ rfl)).trans hm
  exact (Any.strings_Index Tryz.laysn143 t ⟨#[a, b]⟩ m W (by omega) hm2).mono fun e w' ⟨h1, h2⟩ => ⟨h1, by first | exact h2 | exact h2.symm⟩
def accT (row : List UInt8) (pre : List ByteArray) : List UInt8 := headT (fieldL row 0) (fieldL row 1) (fieldL row 2) (fieldL row 4) ++ (pre.map (·.data.toList)).flatMap pieceL
set_option maxHeartbeats 8000000 in
theorem cat_text (row : List UInt8) (hr : row ∈ rowsL) (w : World) (m : Int) (hm : w.cell? ⟨0, 0, none⟩ = some (.int .i64 m)) :
    Calls Tryz.prog 83 #[.string ⟨row.toArray⟩] w fun e w' => e = .returned (.string ⟨(textL row).toArray⟩) ∧ Below w.heap.size w w' := by
  have hgm := World.block_lt_of_cell? _ _ hm
  obtain ⟨hd3, ht4⟩ := texts_short row hr
  have hlet := (rows_fields row hr).2.2.2
  obtain ⟨A, hA⟩ : ∃ A, A = fieldL row 0 := ⟨_, rfl⟩
  obtain ⟨B, hB⟩ : ∃ A, A = fieldL row 1 := ⟨_, rfl⟩
  obtain ⟨C, hC⟩ : ∃ A, A = fieldL row 2 := ⟨_, rfl⟩
  obtain ⟨E, hE⟩ : ∃ A, A = fieldL row 4 := ⟨_, rfl⟩
  obtain ⟨D, hD⟩ : ∃ A, A = fieldL row 3 := ⟨_, rfl⟩
  rw [← hA, ← hB, ← hC, ← hE] at ht4
  have HT := Lib.hid (show headT A B C E = accT row [] by unfold accT; rw [hA, hB, hC, hE]; simp)
  have HF : ∀ (W : World) (F : Nat), At W F (.cells ((Lib.splitN row [32] 5).map strV).toArray 9) → W.cell? ⟨F, 0, none⟩ = some (.string ⟨A.toArray⟩) ∧ W.cell? ⟨F, 1, none⟩ = some (.string ⟨B.toArray⟩) ∧ W.cell? ⟨F, 2, none⟩ = some (.string ⟨C.toArray⟩) ∧ W.cell? ⟨F, 3, none⟩ = some (.string ⟨D.toArray⟩) ∧ W.cell? ⟨F, 4, none⟩ = some (.string ⟨E.toArray⟩) := fun W F h => by
    have h0 := field_cell hr h
    unfold fieldB at h0
    rw [hA, hB, hC, hD, hE]
    exact ⟨h0 0 (by omega), h0 1 (by omega), h0 2 (by omega), h0 3 (by omega), h0 4 (by omega)⟩
  have HFF := Lib.hid HF
  have HLET := Lib.hid (show D ∈ lettersL by rw [hD]; exact hlet)
  obtain ⟨Hd, hHd⟩ : ∃ H, H = headT A B C E := ⟨_, rfl⟩
  have HHD := Lib.hid (show Hd = accT row [] by rw [hHd, HT.out])
  rw [← hHd] at ht4
  unfold headT at hHd
  obtain ⟨T1, hT1⟩ : ∃ T : List UInt8, T = [99, 97, 108, 101, 110, 100, 97, 114, 32] ++ A := ⟨_, rfl⟩
  obtain ⟨T2, hT2⟩ : ∃ T : List UInt8, T = T1 ++ [10, 101, 112, 111, 99, 104, 32] := ⟨_, rfl⟩
  obtain ⟨T3, hT3⟩ : ∃ T : List UInt8, T = T2 ++ B := ⟨_, rfl⟩
  obtain ⟨T4, hT4⟩ : ∃ T : List UInt8, T = T3 ++ [10, 99, 121, 99, 108, 101, 32] := ⟨_, rfl⟩
  obtain ⟨T5, hT5⟩ : ∃ T : List UInt8, T = T4 ++ C := ⟨_, rfl⟩
  obtain ⟨T6, hT6⟩ : ∃ T : List UInt8, T = T5 ++ [10, 108, 101, 97, 112, 32] := ⟨_, rfl⟩
  obtain ⟨T7, hT7⟩ : ∃ T : List UInt8, T = T6 ++ E := ⟨_, rfl⟩
  have hlen : T7.length + 1 = Hd.length := by rw [hHd, hT7, hT6, hT5, hT4, hT3, hT2, hT1]; simp; omega
  have a7 := addC T7 [10] Hd (by rw [hHd, hT7, hT6, hT5, hT4, hT3, hT2, hT1]; simp) (by omega)
  have l7 := congrArg List.length hT7
  have l6 := congrArg List.length hT6
  have l5 := congrArg List.length hT5
  have l4 := congrArg List.length hT4
  have l3 := congrArg List.length hT3
  have l2 := congrArg List.length hT2
  rw [List.length_append] at l7 l6 l5 l4 l3 l2
  have a6 := addC T6 E T7 hT7.symm (by omega)
  have a5 := addC T5 [10, 108, 101, 97, 112, 32] T6 hT6.symm (by omega)
  have a4 := addC T4 C T5 hT5.symm (by omega)
  have a3 := addC T3 [10, 99, 121, 99, 108, 101, 32] T4 hT4.symm (by omega)
  have a2 := addC T2 B T3 hT3.symm (by omega)
  have a1 := addC T1 [10, 101, 112, 111, 99, 104, 32] T2 hT2.symm (by omega)
  have a0 := addC [99, 97, 108, 101, 110, 100, 97, 114, 32] A T1 hT1.symm (by omega)
  have HDD := Lib.hid hD
  clear l7 l6 l5 l4 l3 l2 hT1 hT2 hT3 hT4 hT5 hT6 hT7 hHd hlen hA hB hC hE hD HT HF hlet
  have CS := Lib.hid (lib_SplitN5 row m w hr hm)
  refine (callsIn_wide (n := 3)).1 ?_
  refine callsIn_of_wp_marks Tryz.func83 rfl trivial ?_ rfl
  simp only [Tryz.ntmps83, List.size_toArray, List.length_cons, List.length_nil, Nat.reduceAdd, Nat.reduceSub, Array.replicate_succ, Array.replicate_zero, List.push_toArray, List.append_toArray, List.nil_append, List.cons_append]
  gi_wp2_with fail
  refine ⟨trivial, ?_⟩
  gi_at_call 102
  refine (callsIn_wide.2 CS.out).mono ?_
  rintro e w1 ⟨rfl, hw1⟩
  obtain ⟨F, hF⟩ : ∃ F, F = w.heap.size := ⟨_, rfl⟩
  have F1 := Lib.hid (show At w1 F (.cells ((Lib.splitN row [32] 5).map strV).toArray 9) by rw [hw1, hF]; exact At.new w _)
  have B1 := Lib.hid (show Below w.heap.size w w1 by rw [hw1]; exact below_new (Below.refl _ _) _)
  have HFw := Lib.hid (show w.heap.size ≤ F by omega)
  rw [← hF]
  clear hw1 hF CS
  gi_wp2_with fail
  refine only_normal (wpIn_wide.2 ?_)
  obtain ⟨x0, x1, x2, x3, x4⟩ := HFF.out _ _ F1.out
  have hFl := F1.out.lt
  -- REGION2
  have KK := Lib.hid (fun (W : World) (hW : Below w1.heap.size w1 W) => show W.cell? ⟨F, 0, none⟩ = some (.string ⟨A.toArray⟩) ∧ W.cell? ⟨F, 1, none⟩ = some (.string ⟨B.toArray⟩) ∧ W.cell? ⟨F, 2, none⟩ = some (.string ⟨C.toArray⟩) ∧ W.cell? ⟨F, 3, none⟩ = some (.string ⟨D.toArray⟩) ∧ W.cell? ⟨F, 4, none⟩ = some (.string ⟨E.toArray⟩) from HFF.out _ _ (F1.out.then_ hW))
  refine wp_region_held_drew (S := (fun w' => w'.cell? ⟨F, 0, none⟩ = some (.string ⟨A.toArray⟩) ∧ w'.cell? ⟨F, 1, none⟩ = some (.string ⟨B.toArray⟩) ∧ w'.cell? ⟨F, 2, none⟩ = some (.string ⟨C.toArray⟩) ∧ w'.cell? ⟨F, 3, none⟩ = some (.string ⟨D.toArray⟩) ∧ w'.cell? ⟨F, 4, none⟩ = some (.string ⟨E.toArray⟩))) (by kernel_rfl) ?_ (fun hHeld => ?_)
  · (try dsimp only); exact KK.out _ (by (repeat' (first | exact bxR _ _ | assumption | refine bxD ?_ | refine bxN ?_ _ | refine bxA ?_ _ | refine bxS ?_ ?_ _ | refine bxT ?_ (by assumption) | refine bxW ?_ (by assumption) | exact Nat.le_refl _ | omega | (simp; done) | (simp; omega))))
  refine lex_take (i := 0) (v := ?_) rfl (by kernel_rfl) (by kernel_rfl) (by kernel_rfl) (fun _ _ _ h => h) (by rfl) ?_ (by assumption) ?_
  rotate_left
  · (intro w hSw; (try dsimp only at hSw); go_simp; try with_reducible rfl)
  try simp only [Act.put, List.setIfInBounds_toArray, List.set_cons_zero, List.set_cons_succ]
  refine lex_take (i := 1) (v := ?_) rfl (by kernel_rfl) (by kernel_rfl) (by kernel_rfl) (fun _ _ _ h => h) (by rfl) ?_ (by assumption) ?_
  rotate_left
  · (intro w hSw; (try dsimp only at hSw); go_simp; try with_reducible rfl)
  try simp only [Act.put, List.setIfInBounds_toArray, List.set_cons_zero, List.set_cons_succ]
  refine lex_take (i := 2) (v := ?_) rfl (by kernel_rfl) (by kernel_rfl) (by kernel_rfl) (fun _ _ _ h => h) (by rfl) ?_ (by assumption) ?_
  rotate_left
  · (intro w hSw; (try dsimp only at hSw); go_simp; try with_reducible rfl)
  try simp only [Act.put, List.setIfInBounds_toArray, List.set_cons_zero, List.set_cons_succ]
  refine lex_take (i := 3) (v := ?_) rfl (by kernel_rfl) (by kernel_rfl) (by kernel_rfl) (fun _ _ _ h => h) (by rfl) ?_ (by assumption) ?_
  rotate_left
  · (intro w hSw; (try dsimp only at hSw); go_simp; try with_reducible rfl)
  try simp only [Act.put, List.setIfInBounds_toArray, List.set_cons_zero, List.set_cons_succ]
  refine lex_take (i := 4) (v := ?_) rfl (by kernel_rfl) (by kernel_rfl) (by kernel_rfl) (fun _ _ _ h => h) (by rfl) ?_ (by assumption) ?_
  rotate_left
  · (intro w hSw; (try dsimp only at hSw); go_simp; try with_reducible rfl)
  try simp only [Act.put, List.setIfInBounds_toArray, List.set_cons_zero, List.set_cons_succ]
  refine lex_take (i := 5) (v := ?_) rfl (by kernel_rfl) (by kernel_rfl) (by kernel_rfl) (fun _ _ _ h => h) (by rfl) ?_ (by assumption) ?_
  rotate_left
  · (intro w hSw; (try dsimp only at hSw); go_simp; try with_reducible rfl)
  try simp only [Act.put, List.setIfInBounds_toArray, List.set_cons_zero, List.set_cons_succ]
  refine lex_take (i := 6) (v := ?_) rfl (by kernel_rfl) (by kernel_rfl) (by kernel_rfl) (fun _ _ _ h => h) (by rfl) ?_ (by assumption) ?_
  rotate_left
  · (intro w hSw; (try dsimp only at hSw); go_simp; try with_reducible rfl)
  try simp only [Act.put, List.setIfInBounds_toArray, List.set_cons_zero, List.set_cons_succ]
  refine lex_take (i := 7) (v := ?_) rfl (by kernel_rfl) (by kernel_rfl) (by kernel_rfl) (fun _ _ _ h => h) (by rfl) ?_ (by assumption) ?_
  rotate_left
  · (intro w hSw; (try dsimp only at hSw); go_simp; try with_reducible rfl)
  try simp only [Act.put, List.setIfInBounds_toArray, List.set_cons_zero, List.set_cons_succ]
  refine lex_take (i := 8) (v := ?_) rfl (by kernel_rfl) (by kernel_rfl) (by kernel_rfl) (fun _ _ _ h => h) (by rfl) ?_ (by assumption) ?_
  rotate_left
  · (intro w hSw; (try dsimp only at hSw); go_simp; try with_reducible rfl)
  try simp only [Act.put, List.setIfInBounds_toArray, List.set_cons_zero, List.set_cons_succ]
  refine lex_take (i := 9) (v := ?_) rfl (by kernel_rfl) (by kernel_rfl) (by kernel_rfl) (fun _ _ _ h => h) (by rfl) ?_ (by assumption) ?_
  rotate_left
  · (intro w hSw; (try dsimp only at hSw); go_simp; try with_reducible rfl)
  try simp only [Act.put, List.setIfInBounds_toArray, List.set_cons_zero, List.set_cons_succ]
  refine lex_take (i := 10) (v := ?_) rfl (by kernel_rfl) (by kernel_rfl) (by kernel_rfl) (fun _ _ _ h => h) (by rfl) ?_ (by assumption) ?_
  rotate_left
  · (intro w hSw; (try dsimp only at hSw); go_simp; try with_reducible rfl)
  try simp only [Act.put, List.setIfInBounds_toArray, List.set_cons_zero, List.set_cons_succ]
  refine lex_take (i := 11) (v := ?_) rfl (by kernel_rfl) (by kernel_rfl) (by kernel_rfl) (fun _ _ _ h => h) (by rfl) ?_ (by assumption) ?_
  rotate_left
  · (intro w hSw; (try dsimp only at hSw); go_simp; try with_reducible rfl)
  try simp only [Act.put, List.setIfInBounds_toArray, List.set_cons_zero, List.set_cons_succ]
  refine lex_take (i := 12) (v := ?_) rfl (by kernel_rfl) (by kernel_rfl) (by kernel_rfl) (fun _ _ _ h => h) (by rfl) ?_ (by assumption) ?_
  rotate_left
  · (intro w hSw; (try dsimp only at hSw); go_simp; try with_reducible rfl)
  try simp only [Act.put, List.setIfInBounds_toArray, List.set_cons_zero, List.set_cons_succ]
  refine lex_take (i := 13) (v := ?_) rfl (by kernel_rfl) (by kernel_rfl) (by kernel_rfl) (fun _ _ _ h => h) (by rfl) ?_ (by assumption) ?_
  rotate_left
  · (intro w hSw; (try dsimp only at hSw); go_simp; try with_reducible rfl)
  try simp only [Act.put, List.setIfInBounds_toArray, List.set_cons_zero, List.set_cons_succ]
  refine lex_take (i := 14) (v := ?_) rfl (by kernel_rfl) (by kernel_rfl) (by kernel_rfl) (fun _ _ _ h => h) (by rfl) ?_ (by assumption) ?_
  rotate_left
  · (intro w hSw; (try dsimp only at hSw); go_simp; try with_reducible rfl)
  try simp only [Act.put, List.setIfInBounds_toArray, List.set_cons_zero, List.set_cons_succ]
  refine lex_take (i := 15) (v := ?_) rfl (by kernel_rfl) (by kernel_rfl) (by kernel_rfl) (fun _ _ _ h => h) (by rfl) ?_ (by assumption) ?_
  rotate_left
  · (intro w hSw; (try dsimp only at hSw); go_simp; try with_reducible rfl)
  try simp only [Act.put, List.setIfInBounds_toArray, List.set_cons_zero, List.set_cons_succ]
  refine lex_take (i := 16) (v := ?_) rfl (by kernel_rfl) (by kernel_rfl) (by kernel_rfl) (fun _ _ _ h => h) (by rfl) ?_ (by assumption) ?_
  rotate_left
  · (intro w hSw; (try dsimp only at hSw); go_simp; try with_reducible rfl)
  try simp only [Act.put, List.setIfInBounds_toArray, List.set_cons_zero, List.set_cons_succ]
  refine lex_take (i := 17) (v := ?_) rfl (by kernel_rfl) (by kernel_rfl) (by kernel_rfl) (fun _ _ _ h => h) (by rfl) ?_ (by assumption) ?_
  rotate_left
  · (intro w hSw; (try dsimp only at hSw); go_simp; try with_reducible rfl)
  try simp only [Act.put, List.setIfInBounds_toArray, List.set_cons_zero, List.set_cons_succ]
  refine lex_take (i := 18) (v := ?_) rfl (by kernel_rfl) (by kernel_rfl) (by kernel_rfl) (fun _ _ _ h => h) (by rfl) ?_ (by assumption) ?_
  rotate_left
  · (intro w hSw; (try dsimp only at hSw); go_simp; try with_reducible rfl)
  try simp only [Act.put, List.setIfInBounds_toArray, List.set_cons_zero, List.set_cons_succ]
  refine lex_take (i := 19) (v := ?_) rfl (by kernel_rfl) (by kernel_rfl) (by kernel_rfl) (fun _ _ _ h => h) (by rfl) ?_ (by assumption) ?_
  rotate_left
  · (intro w hSw; (try dsimp only at hSw); go_simp; try with_reducible rfl)
  try simp only [Act.put, List.setIfInBounds_toArray, List.set_cons_zero, List.set_cons_succ]
  refine lex_step (i := 20) rfl (by kernel_rfl) (by rfl) (fun Kx hKx => ?_)
  go_wp2_with fail
  refine hKx.out _ _ ?_ (fun hHeld => ?_)
  · (try dsimp only); exact KK.out _ (by (repeat' (first | exact bxR _ _ | assumption | refine bxD ?_ | refine bxN ?_ _ | refine bxA ?_ _ | refine bxS ?_ ?_ _ | refine bxT ?_ (by assumption) | refine bxW ?_ (by assumption) | exact Nat.le_refl _ | omega | (simp; done) | (simp; omega))))
  clear hKx Kx
  try simp only [Act.put, List.setIfInBounds_toArray, List.set_cons_zero, List.set_cons_succ]
  refine lex_step (i := 21) rfl (by kernel_rfl) (by rfl) (fun Kx hKx => ?_)
  go_wp2_with fail
  refine hKx.out _ _ ?_ (fun hHeld => ?_)
  · (try dsimp only); exact KK.out _ (by (repeat' (first | exact bxR _ _ | assumption | refine bxD ?_ | refine bxN ?_ _ | refine bxA ?_ _ | refine bxS ?_ ?_ _ | refine bxT ?_ (by assumption) | refine bxW ?_ (by assumption) | exact Nat.le_refl _ | omega | (simp; done) | (simp; omega))))
  clear hKx Kx
  try simp only [Act.put, List.setIfInBounds_toArray, List.set_cons_zero, List.set_cons_succ]
  refine wpAnyH_done (by kernel_rfl) ?_ _
  -- END2
  obtain ⟨o, ho⟩ : ∃ o, o = w1.heap.size := ⟨_, rfl⟩
  have bO : Boxed (w1.alloc (.cells #[.string ⟨Hd.toArray⟩] 9)).drew o 9 (.string ⟨Hd.toArray⟩) := by rw [ho]; exact Boxed.new w1 _ _
  have F2 := Lib.hid ((F1.out.alloc (.cells #[.string ⟨Hd.toArray⟩] 9)).drew)
  have B2 : Below w.heap.size w (w1.alloc (.cells #[.string ⟨Hd.toArray⟩] 9)).drew := (below_new B1.out _).drew
  have HWO := Lib.hid (show w.heap.size ≤ o by rw [ho]; exact B1.out.size)
  have HFO := Lib.hid (show F < o by rw [ho]; exact F1.out.lt)
  rw [← ho]
  clear ho KK hHeld x0 x1 x2 x3 x4 hFl F1 B1 a0 a1 a2 a3 a4 a5 a6 a7
  generalize World.drew _ = W2 at bO F2 B2 ⊢
  have BO := Lib.hid bO; have BB2 := Lib.hid B2
  have x3 := (HFF.out _ _ F2.out).2.2.2.1
  have hFl := F2.out.lt
  clear bO B2
  simp only [onlyN, Exit.then]
  apply_assumption
  gi_wp2_with fail
  refine ⟨trivial, ?_⟩
  gi_at_call 103
  refine (callsIn_wide.2 (cat_months D HLET.out W2)).mono ?_
  rintro e w3 ⟨rfl, hb3⟩
  have BO3 := Lib.hid (boxed_of BO.out (hb3.block o BO.out.lt))
  have BB3 := Lib.hid (below_then BB2.out hb3)
  clear hb3 BO BB2 x3 hFl
  obtain ⟨S, hS⟩ : ∃ S, S = monthsL D := ⟨_, rfl⟩
  rw [← hS]
  have HSS := Lib.hid hS
  clear hS
  gi_wp2_with fail
  refine ⟨trivial, ?_⟩
  gi_at_call 31
  refine (callsIn_wide.2 (str_SplitSeq ⟨S.toArray⟩ ⟨#[44, 32]⟩ _)).mono ?_
  rintro e w4 ⟨rfl, hw4⟩
  obtain ⟨q0, q1, q2⟩ := seqW_boxes ⟨S.toArray⟩ ⟨#[44, 32]⟩ w3
  rw [← hw4] at q0 q1 q2
  have BO4 := Lib.hid (show Boxed w4 o 9 (.string ⟨Hd.toArray⟩) by rw [hw4]; exact ((BO3.out.alloc _).alloc _).alloc _)
  have BB4 := Lib.hid (show Below w.heap.size w w4 by rw [hw4]; exact seqW_below _ _ BB3.out)
  have hs4 : w4.heap.size = w3.heap.size + 3 := by rw [hw4, seqW_size]
  obtain ⟨G, hG⟩ : ∃ G, G = w3.heap.size := ⟨_, rfl⟩
  have hoG : o < G := by rw [hG]; exact BO3.out.lt
  rw [← hG] at hs4 q0 q1 q2 ⊢
  clear hw4 hG BO3 BB3
  obtain ⟨hS300, hpc⟩ := letters_fit D HLET.out
  rw [← HSS.out] at hS300 hpc
  have hzS : (⟨S.toArray⟩ : ByteArray).size = S.length := by show S.toArray.size = _; simp
  have HM4 := Lib.hid ((BB4.out.cell (p := ⟨0, 0, none⟩) hgm).trans hm)
  have hgo : 0 < o := by have := HWO.out; exact Nat.lt_of_lt_of_le hgm this
  have hfin : accT row (pcs ⟨#[44, 32]⟩ ⟨S.toArray⟩) = textL row := by
    unfold accT textL
    rw [pcs_data, ← HDD.out, ← HSS.out, show (⟨#[44, 32]⟩ : ByteArray).data.toList = [44, 32] from rfl, show (⟨S.toArray⟩ : ByteArray).data.toList = S from by simp]
  have HFIN := Lib.hid hfin
  gi_wp2_with fail
  refine range_box (n := 3) (gf := 65) (lb := _) rfl (enters_of Tryz.func65 (by kernel_rfl) rfl) (b := G) (K := KS G (fun k => k = 0)) (xs := pcs ⟨#[44, 32]⟩ ⟨S.toArray⟩) (by omega) (fun k hk => by rcases hk with h | h <;> omega)
    (split_seq 2 ⟨S.toArray⟩ ⟨#[44, 32]⟩ (by decide) (by rw [hzS]; omega) (by decide) G (fun k => k = 0) (by omega) w4 q0 q1 q2 (idx_two 44 32 _ (by rw [hzS]; omega) w4 m HM4.out)) (fun _ => rfl)
    (BoxI w.heap.size (G + 3) o 9 w (fun pre => .string ⟨(accT row pre).toArray⟩)) (fun _ _ _ => False)
    (boxI_own _ (by have := HWO.out; omega) (Nat.le_refl _)) (fun _ _ _ _ _ hs _ _ => hs) (boxI_minds _ (by omega) (by have := HWO.out; omega) (Nat.le_refl _))
    ⟨⟨by show Boxed w4 o 9 (.string ⟨(accT row []).toArray⟩); rw [← HHD.out]; exact BO4.out, BB4.out⟩, by omega⟩ _ (by intro l x W G hG; gi_wp2; exact hG) ?body ?done ?stop
  case body =>
    rintro l pre x W ⟨⟨hv, hB⟩, hLW⟩ ⟨r, hx⟩
    have hmx : Tryz.prog.follows .mixedOrders = true := by kernel_rfl
    have hpx := hpc x.data.toList (by
      have h1 := pcs_data ⟨#[44, 32]⟩ ⟨S.toArray⟩
      rw [show (⟨#[44, 32]⟩ : ByteArray).data.toList = [44, 32] from rfl, show (⟨S.toArray⟩ : ByteArray).data.toList = S from by simp] at h1
      rw [← h1, hx]; simp)
    have hxs : x.size ≤ 20 := by
      have := hpx.1
      rw [show x.data.toList.length = x.size from by show x.data.toList.length = x.data.size; simp] at this
      exact this
    obtain ⟨R, hR⟩ : ∃ R, R = Lib.replace x.data.toList [47] [32] 1 := ⟨_, rfl⟩
    obtain ⟨P0, hP0⟩ : ∃ P, P = accT row pre := ⟨_, rfl⟩
    obtain ⟨M1, hM1⟩ : ∃ P : List UInt8, P = [109, 111, 110, 116, 104, 32] ++ R := ⟨_, rfl⟩
    obtain ⟨M2, hM2⟩ : ∃ P : List UInt8, P = M1 ++ [10] := ⟨_, rfl⟩
    obtain ⟨P1, hP1⟩ : ∃ P : List UInt8, P = P0 ++ M2 := ⟨_, rfl⟩
    have hacc : accT row (pre ++ [x]) = P1 := by
      unfold accT at hP0 ⊢
      rw [hP1, hP0, hM2, hM1, hR, List.map_append, List.flatMap_append]
      simp [pieceL]
    have hle : P1.length ≤ 400 := by
      have h2 := congrArg List.length hfin
      rw [hx] at h2
      have h3 : accT row (pre ++ x :: r) = accT row (pre ++ [x]) ++ (r.map (·.data.toList)).flatMap pieceL := by unfold accT; simp
      rw [h3, hacc, List.length_append] at h2
      omega
    have m1 := congrArg List.length hM1
    have m2 := congrArg List.length hM2
    have m3 := congrArg List.length hP1
    rw [List.length_append] at m1 m2 m3
    have p1 := addC [109, 111, 110, 116, 104, 32] R M1 hM1.symm (by omega)
    have p2 := addC M1 [10] M2 hM2.symm (by omega)
    have p3 := addC P0 M2 P1 hP1.symm (by omega)
    have CR := Lib.hid (fun (V : World) (hV : Below w.heap.size w V) => show Calls Tryz.prog 104 #[.string x, .string ⟨#[47]⟩, .string ⟨#[32]⟩, .int .i64 1] V (fun e w' => e = .returned (.string ⟨R.toArray⟩) ∧ Below V.heap.size V w') from by
      rw [hR]; exact lib_Replace1 x m V hxs hpx.2 ((hV.cell (p := ⟨0, 0, none⟩) hgm).trans hm))
    have hc : W.cell? ⟨o, 0, none⟩ = some (.string ⟨P0.toArray⟩) := by rw [hP0]; exact hv.cell
    have hf : W.frozen? ⟨o, 0, none⟩ = false := hv.frozen
    have hol : o < W.heap.size := hv.lt
    have HV := Lib.hid hv; have HBW := Lib.hid hB; have HAC := Lib.hid hacc; have HX := Lib.hid hx
    clear hR hM1 hM2 hP1 hP0 m1 m2 m3 hle hpx hxs hacc hv hB hx hfin
    gi_wp2_with fail
    gi_region_with_o (refine ⟨trivial, ?_⟩; gi_at_call 104; refine (CallsIn.inRound l (callsIn_wide.2 (CR.out _ (HBW.out.drew)))).mono ?_; rintro e w' ⟨rfl, hb⟩; have hb2 := below_then ((Below.refl W.heap.size W).drew) hb; have hc2 := (hb2.cell (p := ⟨o, 0, none⟩) hol).trans hc; have hf2 := (hb2.frozen (p := ⟨o, 0, none⟩) hol).trans hf)
    all_goals gi_wp2
    all_goals (try go_bits)
    all_goals
      have hv2 := boxed_of HV.out (hb2.block o hol)
      have hB2 := (HBW.out.trans (hb2.mono HBW.out.size)).setCell (p := ⟨o, 0, none⟩) HWO.out (.string ⟨P1.toArray⟩)
      have hz2 := hb2.size
      refine ⟨(keeps_below hb2).trans ((KeepsOthers.setCell _ _ _).from _), fun k hk => ?_, ⟨?_, hB2⟩, by simp; omega⟩
      · have hk2 : k < G + 3 ∧ k ≠ o := by rcases hk with h | h <;> omega
        exact (Below.heap_setCell _ _ _ k (by intro e; exact hk2.2 e)).trans (hb2.block k (by omega))
      · show Boxed _ o 9 (.string ⟨(accT row (pre ++ [x])).toArray⟩)
        rw [HAC.out]
        exact hv2.set _
  case done =>
    rintro D' W hD ⟨⟨hv, hB⟩, _⟩ hK
    have hc : W.cell? ⟨o, 0, none⟩ = some (.string ⟨(accT row (pcs ⟨#[44, 32]⟩ ⟨S.toArray⟩)).toArray⟩) := hv.cell
    rw [HFIN.out] at hc
    gi_wp2
    refine ⟨by simp, .inl ⟨_, _, rfl, run_takeDeferred hK, ?_⟩⟩
    exact ⟨_, results_tmp rfl _ _ _, rfl, hB.trans (belowK_b (w := w) (Nat.le_refl _) W D' _ _ (by have := HWO.out; omega) hK rfl rfl)⟩
  case stop =>
    rintro D' c pre W _ _ h _
    exact h.elim
end Go.Proofs.YtdmkghgachapaabGreatDoor
