/- Contract of catalog.Names: the names of the rows of the table. -/
import Derived.Test.YtfbmlbenffkpfaaDoorSeq3
import Derived.Test.YtfbmlbenffkpfaaDoorCat0
import Derived.Test.YtfbmlbenffkpfaaDoorTxt1
import Derived.Test.YtfbmlbenffkpfaaDoorStrs
import Derived.Test.YtfbmlbenffkpfaaDoorLayIdx
namespace Go.Proofs.YtfbmlbenffkpfaaDoor
set_option linter.unusedVariables false
set_option maxRecDepth 100000
open Go.RowKit Go.Shelf
attribute [local go_sem] Oper.semAt_some

theorem lib_Index1 (t : ByteArray) (c : UInt8) (W : World) : Calls Tryd.prog 25 #[.string t, .string ⟨#[c]⟩] W fun e w' => e = .returned (.int .i64 (Lib.index t.data.toList [c])) ∧ W = w' := by
  refine (Any.strings_Index_one Tryd.laysn143 t c W).mono ?_
  rintro e w' ⟨rfl, rfl⟩
  exact ⟨by rw [Lib.index_one], rfl⟩
theorem idx_one (c : UInt8) (N : Nat) (Kx : Nat → Prop) (w : World) : IdxOk ⟨#[c]⟩ N Kx w := fun t W _ _ => lib_Index1 t c W
abbrev KB (B : Nat) : Nat → Prop := KS B (fun _ => False)
theorem KB_lt {B k : Nat} (h : KB B k) : B ≤ k ∧ k < B + 3 := by
  rcases h with h | h
  · exact h
  · exact h.elim
def namesL : List (List UInt8) := rowsL.map fun r => cutL r 32
def nameB (x : ByteArray) : List UInt8 := cutL x.data.toList 32
theorem table_pieces {L : Array UInt8} (h : L.toList = tableL) : (pcs ⟨#[10]⟩ ⟨L⟩).map (fun x => x.data.toList) = rowsL := by
  rw [pcs_data, show (⟨L⟩ : ByteArray).data.toList = tableL from h, show (⟨#[10]⟩ : ByteArray).data.toList = [10] from rfl]
  decide +kernel
theorem table_names {L : Array UInt8} (h : L.toList = tableL) : (pcs ⟨#[10]⟩ ⟨L⟩).map (fun x => strV (nameB x)) = namesL.map strV := by
  unfold namesL
  rw [← table_pieces h, List.map_map, List.map_map]
  rfl
theorem table_size {L : Array UInt8} (h : L.toList = tableL) : L.size = 1799 := by
  rw [← Array.length_toList, h]; decide +kernel
theorem row_in {L : Array UInt8} (h : L.toList = tableL) {pre r : List ByteArray} {x : ByteArray} (hx : pcs ⟨#[10]⟩ ⟨L⟩ = pre ++ x :: r) : x.data.toList ∈ rowsL := by
  rw [← table_pieces h, hx]; simp
theorem table_len {L : Array UInt8} (h : L.toList = tableL) : (pcs ⟨#[10]⟩ ⟨L⟩).length = 40 := by
  have := congrArg List.length (table_pieces h)
  rw [List.length_map] at this
  rw [this]; decide +kernel
theorem rows_short : ∀ r ∈ rowsL, r.length ≤ 200 := by decide +kernel

set_option maxHeartbeats 4000000 in
theorem cat_Names (w : World) : Calls Tryd.prog 8 #[] w fun e w' => ∃ v, e = .returned v ∧ w'.ownsRow w.heap.size 9 1 v 40 (namesL.map strV) ∧ Below w.heap.size w w' := by
  obtain ⟨i0, hi, hz0, hz1, hz2⟩ := info_parts infoStr
  refine (callsIn_wide (n := 3)).1 ?_
  refine callsIn_of_wp_marks Tryd.func8 rfl trivial ?_ rfl
  generalize hL : List.toArray (List.append (List.append _ _) _) = L
  have HL : L.toList = tableL := by rw [← hL]; decide +kernel
  clear hL
  have hsz := table_size HL
  simp only [Tryd.ntmps8, List.size_toArray, List.length_nil, Nat.reduceSub, Array.replicate_succ, Array.replicate_zero, List.push_toArray, List.append_toArray, List.nil_append, List.cons_append]
  gi_wp2_with (refine ⟨trivial, ?_⟩; gi_at_call 15; refine (callsIn_wide.2 (str_SplitSeq ⟨L⟩ ⟨#[10]⟩ _)).mono ?_; rintro e w' ⟨rfl, rfl⟩)
  obtain ⟨w1, hw1⟩ : ∃ w1, w1 = w.alloc (.cells #[.slice none 0 0] 32) := ⟨_, rfl⟩
  have hz1' : w1.heap.size = w.heap.size + 1 := by rw [hw1]; simp
  have bO : Boxed w1 w.heap.size 32 (.slice none 0 0) := by rw [hw1]; exact Boxed.new w _ _
  have hB1 : Below w.heap.size w w1 := by rw [hw1]; exact below_new (Below.refl _ _) _
  rw [← hw1]
  obtain ⟨q0, q1, q2⟩ := seqW_boxes ⟨L⟩ ⟨#[10]⟩ w1
  rw [hz1'] at q0 q1 q2
  have bW := bO.alloc (.cells #[.string ⟨L⟩] 9)
  obtain ⟨W2, hW2⟩ : ∃ W2, W2 = seqW ⟨L⟩ ⟨#[10]⟩ w1 := ⟨_, rfl⟩
  have bO2 : Boxed W2 w.heap.size 32 (.slice none 0 0) := by rw [hW2]; exact ((bO.alloc _).alloc _).alloc _
  have hB2 : Below w.heap.size w W2 := by rw [hW2]; exact seqW_below _ _ hB1
  have hs2 : W2.heap.size = w.heap.size + 4 := by rw [hW2, seqW_size, hz1']
  rw [← hW2] at q0 q1 q2 ⊢
  clear hW2 hw1 bO hB1 bW hz1'
  refine range_box (n := 3) (gf := 23) (lb := _) rfl (enters_of Tryd.func23 (by kernel_rfl) rfl) (b := w.heap.size + 1) (K := KB (w.heap.size + 1)) (xs := pcs ⟨#[10]⟩ ⟨L⟩) (by omega) (fun k hk => by have := KB_lt hk; omega)
    (split_seq 2 ⟨L⟩ ⟨#[10]⟩ (by decide) (by show L.size ≤ _; omega) (by decide) (w.heap.size + 1) (fun _ => False) (fun h => h) W2 q0 q1 q2 (idx_one 10 _ _ _)) (fun _ => rfl)
    (RowI w.heap.size (w.heap.size + 4) w.heap.size 32 9 1 w (fun pre : List ByteArray => pre.map fun x => strV (nameB x))) (fun _ _ _ => False)
    (rowI_own _ (by omega) (Nat.le_refl _)) (fun _ _ _ _ _ hs _ _ => hs) (rowI_minds _ (by omega) (by omega) (by omega) (Nat.le_refl _)) (fun _ _ _ _ hs _ => hs)
    ⟨⟨⟨_, bO2, World.ownsRow_nil _ _ _ _⟩, hB2⟩, by omega⟩ _ (by intro l x W G hG; gi_wp2; exact hG) ?body ?done ?stop
  case body =>
    rintro l pre x W ⟨⟨⟨v, hv, hrow⟩, hB⟩, hLW⟩ ⟨r, hx⟩
    have hlen : pre.length < 40 := by rw [← table_len HL, hx]; simp
    have hxs : x.size ≤ 200 := by
      have := rows_short _ (row_in HL hx)
      rw [show x.data.toList.length = x.size from by show x.data.toList.length = x.data.size; simp] at this
      exact this
    gi_wp2_with fail
    refine ⟨trivial, ?_⟩
    gi_at_call 16
    refine (CallsIn.inRound l (callsIn_wide.2 (lib_Cut x 32 _ (by omega)))).mono ?_
    rintro e w' ⟨rfl, nd, rfl⟩
    have hc : (W.drewN nd).cell? ⟨w.heap.size, 0, none⟩ = some v := hv.cell
    have hvd : Boxed (W.drewN nd) w.heap.size 32 v := hv
    have hrd := own_thenS hrow (below_drewN (Below.refl W.heap.size W) nd)
    have hBd : Below w.heap.size w (W.drewN nd) := below_drewN hB nd
    have hszd : (W.drewN nd).heap.size = W.heap.size := rfl
    obtain ⟨Wd, hWd⟩ : ∃ Wd, Wd = W.drewN nd := ⟨_, rfl⟩
    have hkW : KeepsOthers W Wd := by rw [hWd]; exact ⟨Nat.le_refl _, fun _ _ h _ => h⟩
    have hhW : ∀ k : Nat, Wd.heap[k]? = W.heap[k]? := by rw [hWd]; exact fun _ => rfl
    rw [← hWd] at hc hvd hrd hBd hszd ⊢
    have hL4 : w.heap.size + 4 ≤ Wd.heap.size := by omega
    clear hWd hszd
    have HX := Lib.hid hx; have HLL := Lib.hid HL
    have hpl : pre.length + 1 < 42 := by omega
    rw [List.length_map] at hrd
    gi_wp2_with (gi_at_builtin; refine wpListIn_append_own _ rfl _ _ 32 rfl (w.heap.size + 4) 9 i0 (.string ⟨#[]⟩) 1 16 Tryd.underlying32 hi hz0 hz1 hz2 rfl (by decide) _ _ _ rfl (hrd.alloc _) ⟨Wd.heap.size, 0, none⟩ 1 1 [strV (nameB x)] rfl rfl (cell_one_new _ _ _) (by simp [strV, Value.oneCell']) (by unfold maxLen; omega) (by omega) (by simp; omega) ?_; intro v' w1 hown' hgrow _; obtain ⟨g', cap', rfl⟩ := ownsRow_succ hown'; obtain ⟨hv1, hv2, hr2, hk2, hb2, hf2⟩ := grow_box hvd (by decide) hrd (by omega) (by omega) hown' hgrow; have hc1 := hv1.cell; have hf1 := hv1.frozen)
    have hs2 := hk2.size
    exact ⟨(hkW.trans hk2).from _, holds_of (W := W) (L := w.heap.size + 4) (o := w.heap.size) (fun k h1 h2 => (hf2 k h1 h2).trans (hhW k)) (fun k hk => by have := KB_lt hk; omega), ⟨⟨_, hv2, by simpa using hr2⟩, hBd.trans hb2⟩, by omega⟩
  case done =>
    rintro D W hD ⟨⟨⟨v, hv, hrow⟩, hB⟩, _⟩ hK
    have hc := hv.cell
    gi_wp2
    refine ⟨by simp, .inl ⟨_, _, rfl, run_takeDeferred hK, ?_⟩⟩
    rw [List.length_map, table_len HL, table_names HL] at hrow
    exact ⟨_, results_tmp rfl _ _ _, v, rfl, own_low (ownsRow_putObj hrow _ hK rfl) (by omega), hB.trans (belowK_b (w := w) (Nat.le_refl _) W D _ _ (by omega) hK rfl rfl)⟩
  case stop =>
    rintro D c pre W _ _ h _
    exact h.elim
end Go.Proofs.YtfbmlbenffkpfaaDoor
