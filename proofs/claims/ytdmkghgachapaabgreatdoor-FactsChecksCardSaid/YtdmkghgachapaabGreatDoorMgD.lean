/- Several texts in one: Cat1, CatR. -/
import Derived.Test.YtdmkghgachapaabGreatDoorMgK
import Derived.Test.YtdmkghgachapaabGreatDoorTxt1
import Derived.Test.YtdmkghgachapaabGreatDoorLayX
import Derived.Deep.AppendLies
set_option linter.unusedSimpArgs false
namespace Go.Proofs.YtdmkghgachapaabGreatDoor
set_option linter.unusedVariables false
set_option maxRecDepth 100000
open Go.RowKit Go.Shelf
attribute [local go_sem] Oper.semAt_some
theorem lib_Index1 (t : ByteArray) (c : UInt8) (W : World) : Calls Tryz.prog 67 #[.string t, .string ⟨#[c]⟩] W fun e w' => e = .returned (.int .i64 (Lib.index t.data.toList [c])) ∧ W = w' := by
  refine (Any.strings_Index_one Tryz.laysn143 t c W).mono ?_
  rintro e w' ⟨rfl, rfl⟩
  exact ⟨by rw [Lib.index_one], rfl⟩
theorem idx_one (c : UInt8) (N : Nat) (Kx : Nat → Prop) (w : World) : IdxOk ⟨#[c]⟩ N Kx w := fun t W _ _ => lib_Index1 t c W
abbrev KB (B : Nat) : Nat → Prop := KS B (fun _ => False)
theorem KB_lt {B k : Nat} (h : KB B k) : B ≤ k ∧ k < B + 3 := by
  rcases h with h | h
  · exact h
  · exact h.elim
def namesL : List (List UInt8) := rowsL.map fun r => cutL r 32
def nameB (x : ByteArray) : List UInt8 := cutL x.data.toList 32
theorem table_pieces {L : Array UInt8} (h : L.toList = tableL) : (pcs ⟨#[10]⟩ ⟨L⟩).map (fun x => x.data.toList) = rowsL := by
  rw [pcs_data, show (⟨L⟩ : ByteArray).data.toList = tableL from h, show (⟨#[10]⟩ : ByteArray).data.toList = [10] from rfl]
  decide +kernel
theorem table_names {L : Array UInt8} (h : L.toList = tableL) : (pcs ⟨#[10]⟩ ⟨L⟩).map (fun x => strV (nameB x)) = namesL.map strV := by
  unfold namesL
  rw [← table_pieces h, List.map_map, List.map_map]
  rfl
theorem table_size {L : Array UInt8} (h : L.toList = tableL) : L.size = 1799 := by
  rw [← Array.length_toList, h]; decide +kernel
theorem row_in {L : Array UInt8} (h : L.toList = tableL) {pre r : List ByteArray} {x : ByteArray} (hx : pcs ⟨#[10]⟩ ⟨L⟩ = pre ++ x :: r) : x.data.toList ∈ rowsL := by
  rw [← table_pieces h, hx]; simp
theorem table_len {L : Array UInt8} (h : L.toList = tableL) : (pcs ⟨#[10]⟩ ⟨L⟩).length = 40 := by
  have := congrArg List.length (table_pieces h)
  rw [List.length_map] at this
  rw [this]; decide +kernel
theorem rows_short : ∀ r ∈ rowsL, r.length ≤ 200 := by decide +kernel
set_option maxHeartbeats 4000000 in
theorem cat_Names (w : World) : Calls Tryz.prog 14 #[] w fun e w' => ∃ v, e = .returned v ∧ w'.ownsRow w.heap.size 9 1 v 40 (namesL.map strV) ∧ Below w.heap.size w w' := by
  obtain ⟨i0, hi, hz0, hz1, hz2⟩ := info_parts infoStr
  refine (callsIn_wide (n := 3)).1 ?_
  refine callsIn_of_wp_marks Tryz.func14 rfl trivial ?_ rfl
  generalize hL : List.toArray (List.append (List.append _ _) _) = L
  have HL : L.toList = tableL := by rw [← hL]; decide +kernel
  clear hL
  have hsz := table_size HL
  simp only [Tryz.ntmps14, List.size_toArray, List.length_nil, Nat.reduceSub, Array.replicate_succ, Array.replicate_zero, List.push_toArray, List.append_toArray, List.nil_append, List.cons_append]
  gi_wp2_with (refine ⟨trivial, ?_⟩; gi_at_call 31; refine (callsIn_wide.2 (str_SplitSeq ⟨L⟩ ⟨#[10]⟩ _)).mono ?_; rintro e w' ⟨rfl, rfl⟩)
  obtain ⟨w1, hw1⟩ : ∃ w1, w1 = w.alloc (.cells #[.slice none 0 0] 22) := ⟨_, rfl⟩
  have hz1' : w1.heap.size = w.heap.size + 1 := by rw [hw1]; simp
  have bO : Boxed w1 w.heap.size 22 (.slice none 0 0) := by rw [hw1]; exact Boxed.new w _ _
  have hB1 : Below w.heap.size w w1 := by rw [hw1]; exact below_new (Below.refl _ _) _
  rw [← hw1]
  obtain ⟨q0, q1, q2⟩ := seqW_boxes ⟨L⟩ ⟨#[10]⟩ w1
  rw [hz1'] at q0 q1 q2
  have bW := bO.alloc (.cells #[.string ⟨L⟩] 9)
  obtain ⟨W2, hW2⟩ : ∃ W2, W2 = seqW ⟨L⟩ ⟨#[10]⟩ w1 := ⟨_, rfl⟩
  have bO2 : Boxed W2 w.heap.size 22 (.slice none 0 0) := by rw [hW2]; exact ((bO.alloc _).alloc _).alloc _
  have hB2 : Below w.heap.size w W2 := by rw [hW2]; exact seqW_below _ _ hB1
  have hs2 : W2.heap.size = w.heap.size + 4 := by rw [hW2, seqW_size, hz1']
  rw [← hW2] at q0 q1 q2 ⊢
  clear hW2 hw1 bO hB1 bW hz1'
  refine range_box (n := 3) (gf := 65) (lb := _) rfl (enters_of Tryz.func65 (by kernel_rfl) rfl) (b := w.heap.size + 1) (K := KB (w.heap.size + 1)) (xs := pcs ⟨#[10]⟩ ⟨L⟩) (by omega) (fun k hk => by have := KB_lt hk; omega)
    (split_seq 2 ⟨L⟩ ⟨#[10]⟩ (by decide) (by show L.size ≤ _; omega) (by decide) (w.heap.size + 1) (fun _ => False) (fun h => h) W2 q0 q1 q2 (idx_one 10 _ _ _)) (fun _ => rfl)
    (RowI w.heap.size (w.heap.size + 4) w.heap.size 22 9 1 w (fun pre : List ByteArray => pre.map fun x => strV (nameB x))) (fun _ _ _ => False)
    (rowI_own _ (by omega) (Nat.le_refl _)) (fun _ _ _ _ _ hs _ _ => hs) (rowI_minds _ (by omega) (by omega) (by omega) (Nat.le_refl _))
    ⟨⟨⟨_, bO2, World.ownsRow_nil _ _ _ _⟩, hB2⟩, by omega⟩ _ (by intro l x W G hG; gi_wp2; exact hG) ?body ?done ?stop
  case body =>
    rintro l pre x W ⟨⟨⟨v, hv, hrow⟩, hB⟩, hLW⟩ ⟨r, hx⟩
    have hlen : pre.length < 40 := by rw [← table_len HL, hx]; simp
    have hxs : x.size ≤ 200 := by
      have := rows_short _ (row_in HL hx)
      rw [show x.data.toList.length = x.size from by show x.data.toList.length = x.data.size; simp] at this
      exact this
    gi_wp2_with fail
    refine ⟨trivial, ?_⟩
    gi_at_call 32
    refine (CallsIn.inRound l (callsIn_wide.2 (lib_Cut x 32 _ (by omega)))).mono ?_
    rintro e w' ⟨rfl, nd, rfl⟩
    have hc : (W.drewN nd).cell? ⟨w.heap.size, 0, none⟩ = some v := hv.cell
    have hvd : Boxed (W.drewN nd) w.heap.size 22 v := hv
    have hrd := own_thenS hrow (below_drewN (Below.refl W.heap.size W) nd)
    have hBd : Below w.heap.size w (W.drewN nd) := below_drewN hB nd
    have hszd : (W.drewN nd).heap.size = W.heap.size := rfl
    obtain ⟨Wd, hWd⟩ : ∃ Wd, Wd = W.drewN nd := ⟨_, rfl⟩
    have hkW : KeepsOthers W Wd := by rw [hWd]; exact ⟨Nat.le_refl _, fun _ _ h _ => h⟩
    have hhW : ∀ k : Nat, Wd.heap[k]? = W.heap[k]? := by rw [hWd]; exact fun _ => rfl
    rw [← hWd] at hc hvd hrd hBd hszd ⊢
    have hL4 : w.heap.size + 4 ≤ Wd.heap.size := by omega
    clear hWd hszd
    have HX := Lib.hid hx; have HLL := Lib.hid HL
    have hpl : pre.length + 1 < 42 := by omega
    rw [List.length_map] at hrd
    gi_wp2_with (gi_at_builtin; refine wpListIn_append_own _ rfl _ _ 22 rfl (w.heap.size + 4) 9 i0 (.string ⟨#[]⟩) 1 16 Tryz.underlying22 hi hz0 hz1 hz2 rfl (by decide) _ _ _ rfl (hrd.alloc _) ⟨Wd.heap.size, 0, none⟩ 1 1 [strV (nameB x)] rfl rfl (cell_one_new _ _ _) (by simp [strV, Value.oneCell']) (by unfold maxLen; omega) (by omega) (by simp; omega) ?_; intro v' w1 hown' hgrow _; obtain ⟨g', cap', rfl⟩ := ownsRow_succ hown'; obtain ⟨hv1, hv2, hr2, hk2, hb2, hf2⟩ := grow_box hvd (by decide) hrd (by omega) (by omega) hown' hgrow; have hc1 := hv1.cell; have hf1 := hv1.frozen)
    have hs2 := hk2.size
    exact ⟨(hkW.trans hk2).from _, holds_of (W := W) (L := w.heap.size + 4) (o := w.heap.size) (fun k h1 h2 => (hf2 k h1 h2).trans (hhW k)) (fun k hk => by have := KB_lt hk; omega), ⟨⟨_, hv2, by simpa using hr2⟩, hBd.trans hb2⟩, by omega⟩
  case done =>
    rintro D W hD ⟨⟨⟨v, hv, hrow⟩, hB⟩, _⟩ hK
    have hc := hv.cell
    gi_wp2
    refine ⟨by simp, .inl ⟨_, _, rfl, run_takeDeferred hK, ?_⟩⟩
    rw [List.length_map, table_len HL, table_names HL] at hrow
    exact ⟨_, results_tmp rfl _ _ _, v, rfl, own_low (ownsRow_putObj hrow _ hK rfl) (by omega), hB.trans (belowK_b (w := w) (Nat.le_refl _) W D _ _ (by omega) hK rfl rfl)⟩
  case stop =>
    rintro D c pre W _ _ h _
    exact h.elim
end Go.Proofs.YtdmkghgachapaabGreatDoor

set_option linter.unusedSimpArgs false
namespace Go.Proofs.YtdmkghgachapaabGreatDoor
set_option linter.unusedVariables false
set_option maxRecDepth 100000
open Go.RowKit Go.Shelf
def textsL : List (List UInt8) := rowsL.map textL
def catalogL : List UInt8 := [124].intercalate textsL
theorem split_catalog : Lib.splitK [124] 0 (Lib.count catalogL [124]) catalogL = textsL := by decide +kernel
theorem count_catalog : Lib.count catalogL [124] = 39 := by decide +kernel
theorem texts_len : textsL.length = 40 := by decide +kernel
theorem catalog_len : catalogL.length = 9138 := by decide +kernel
def txO : Obj := .cells (textsL.map strV).toArray 9
set_option maxHeartbeats 4000000 in
theorem ref_Texts (w : World) (m : Int) (hm : w.cell? ⟨0, 0, none⟩ = some (.int .i64 m)) :
    Calls Tryz.prog 36 #[] w fun e w' => e = .returned (.slice (some ⟨w.heap.size, 0, none⟩) 40 40) ∧ w' = w.alloc txO := by
  refine calls_of_wp Tryz.func36 rfl ?_
  generalize hL : List.toArray (List.append (List.append _ _) _) = L
  have HL : L.toList = catalogL := by rw [← hL]; decide +kernel
  clear hL
  have hsz : L.size = 9138 := by rw [← Array.length_toList, HL, catalog_len]
  have e1 : Lib.countB ⟨L⟩ ⟨#[124]⟩ + 1 = 40 := by
    show Lib.count L.toList [124] + 1 = 40
    rw [HL, count_catalog]
  have e2 : (Lib.splitB ⟨#[124]⟩ 0 (Lib.countB ⟨L⟩ ⟨#[124]⟩) ⟨L⟩).map Value.string = textsL.map strV := by
    have h := Lib.splitB_data ⟨#[124]⟩ 0 (Lib.countB ⟨L⟩ ⟨#[124]⟩) ⟨L⟩
    rw [show Lib.countB ⟨L⟩ ⟨#[124]⟩ = Lib.count catalogL [124] from by show Lib.count L.toList [124] = _; rw [HL], show (⟨L⟩ : ByteArray).data.toList = catalogL from HL, show (⟨#[124]⟩ : ByteArray).data.toList = [124] from rfl, split_catalog] at h
    rw [show Lib.countB ⟨L⟩ ⟨#[124]⟩ = Lib.count catalogL [124] from by show Lib.count L.toList [124] = _; rw [HL], ← h, List.map_map]
    exact List.map_congr_left fun s _ => rfl
  have C := Lib.hid (show Calls Tryz.prog 56 #[.string ⟨L⟩, .string ⟨#[124]⟩] w (fun e w' => e = .returned (.slice (some ⟨w.heap.size, 0, none⟩) 40 40) ∧ w' = w.alloc txO) from by
    have h1 := Any.strings_Split { Tryz.laysLaysMn146 with } Tryz.laysLaysMn146.i9 ⟨L⟩ ⟨#[124]⟩ m w (by show L.size < _; omega) hm (by decide)
    rw [e1, e2] at h1
    exact h1)
  clear e1 e2 HL hsz
  simp only [Tryz.ntmps36, List.size_toArray, List.length_cons, List.length_nil, Nat.reduceAdd, Nat.reduceSub, Array.replicate_succ, Array.replicate_zero, List.push_toArray, List.append_toArray, List.nil_append, List.cons_append]
  go_wp2_with (go_at_call 56; refine C.out.mono ?_; rintro e w' ⟨rfl, rfl⟩)
  go_ret
  exact ⟨rfl, rfl⟩
theorem slice_low (s r : ByteArray) (i : Int) (h0 : 0 ≤ i) (h1 : i ≤ (s.size : Int)) (he : s.extract i.toNat s.size = r) : ∀ W, (Instr.slice 9 (.string s) (some (.int .i64 i)) none none).run Tryz.prog W = .ok (.string r) W := fun W => by
  rw [run_slice_string_l W 9 s Tryz.underlying9 .i64 i h0 h1, he]
def nameR (t : List UInt8) : List UInt8 := (cutL t 10).drop 9
theorem names_R : textsL.map nameR = namesL := by decide +kernel
theorem texts_fit : ∀ t ∈ textsL, t.length ≤ 400 ∧ 9 ≤ (cutL t 10).length := by decide +kernel
theorem arr_sz (l : List UInt8) : (⟨l.toArray⟩ : ByteArray).size = l.length := by show l.toArray.size = _; simp
theorem txO_cell {w : World} {T : Nat} (h : At w T txO) {j : Nat} {t : List UInt8} (hj : textsL[j]? = some t) : w.cell? ⟨T, j, none⟩ = some (.string ⟨t.toArray⟩) := by
  rw [At.cell h j]
  simp [hj, strV]
set_option maxHeartbeats 4000000 in
theorem ref_Names (w : World) (m : Int) (hm : w.cell? ⟨0, 0, none⟩ = some (.int .i64 m)) :
    Calls Tryz.prog 35 #[] w fun e w' => ∃ v, e = .returned v ∧ w'.ownsRow w.heap.size 9 1 v 40 (namesL.map strV) ∧ Below w.heap.size w w' := by
  obtain ⟨i0, hi, hz0, hz1, hz2⟩ := info_parts infoStr
  go_enter Tryz.func35, Tryz.ntmps35
  go_wp2_with fail
  refine (ref_Texts w m hm).mono ?_
  rintro e w1 ⟨rfl, hw1⟩
  obtain ⟨T, hT⟩ : ∃ T, T = w.heap.size := ⟨_, rfl⟩
  have a1 : At w1 T txO := by rw [hw1, hT]; exact At.new w _
  have B1 := Lib.hid (show Below w.heap.size w w1 by rw [hw1]; exact below_new (Below.refl _ _) _)
  have A1 := Lib.hid a1
  rw [← hT]
  have HT := Lib.hid hT
  have hTl : w.heap.size ≤ T := by omega
  clear hw1 a1 hT hm
  go_wp2_with fail
  go_loopw [1, 3, 4, 5, 6, 9] (fun o s f a b i wr => ∃ j : Nat, j ≤ 40 ∧ i = .int .i64 j ∧ wr.ownsRow (w.heap.size + 1) 9 1 o j (((textsL.take j).map nameR).map strV) ∧ At wr T txO ∧ Below w.heap.size w wr) (fun o s f a b i _ => 40 - (intOf i).toNat)
  case atStart => exact ⟨0, by omega, rfl, World.ownsRow_nil _ _ _ _, A1.out, B1.out⟩
  case round =>
    clear A1 B1
    obtain ⟨j, hj, rfl, hown, hat, hbel⟩ := hrel
    by_cases hlt : j < 40
    · obtain ⟨t, ht⟩ : ∃ t, textsL[j]? = some t := ⟨_, List.getElem?_eq_getElem (by rw [texts_len]; exact hlt)⟩
      have hf := texts_fit t (List.mem_of_getElem? ht)
      have c0 := txO_cell hat ht
      have hsl := slice_low ⟨(cutL t 10).toArray⟩ ⟨(nameR t).toArray⟩ 9 (by omega) (by rw [arr_sz]; omega) (by rw [arr_sz]; apply ByteArray.ext; apply Array.ext'; simp [ByteArray.data_extract, nameR]; apply List.take_of_length_le; simp)
      have hlt2 := hat.lt
      have OW := Lib.hid hown; have AT := Lib.hid hat; have BL := Lib.hid hbel; have HTT := Lib.hid ht
      clear hown hat ht
      go_wp2_with fail
      refine (lib_Cut ⟨t.toArray⟩ 10 _ (by rw [arr_sz]; omega)).mono ?_
      rintro e w2 ⟨rfl, nd, rfl⟩
      have OW2 := Lib.hid (own_thenS OW.out (below_drewN (Below.refl wr.heap.size wr) nd))
      have AT2 := Lib.hid (AT.out.then_ (below_drewN (Below.refl wr.heap.size wr) nd))
      have BL2 := Lib.hid (below_drewN BL.out nd)
      clear OW AT BL c0 hlt2
      generalize wr.drewN nd = W2 at OW2 AT2 BL2 ⊢
      have hz2' := AT2.out.lt
      go_wp2_with (at_builtin; refine wpList_append_own _ rfl _ _ 22 rfl (w.heap.size + 1) 9 i0 (.string ⟨#[]⟩) 1 16 Tryz.underlying22 hi hz0 hz1 hz2 rfl (by decide) _ _ _ rfl (OW2.out.alloc _) ⟨W2.heap.size, 0, none⟩ 1 1 [.string ⟨(nameR t).toArray⟩] rfl rfl (World.news_of_block (cs := #[.string ⟨(nameR t).toArray⟩]) (t := 9) (fr := (0, 0)) (heap_alloc_new W2 _)) (by simp [Value.oneCell']) (by unfold maxLen; omega) (by omega) (by first | omega | (simp; omega)) ?_; intro v' w4 hown' hgrow _)
      have hz3 : w.heap.size + 1 ≤ W2.heap.size := by have := HT.out; omega
      have bw := ((Below.refl (w.heap.size + 1) W2).alloc (by omega) (.cells #[.string ⟨(nameR t).toArray⟩] 9)).grown hgrow (by simp; omega) (fun bb hbb => own_base OW2.out hbb)
      have AT4 := Lib.hid (AT2.out.below bw (by have := HT.out; omega))
      have BL4 := Lib.hid (BL2.out.trans (bw.mono (by omega)))
      have OW4 := Lib.hid hown'
      clear hown' hgrow bw AT2 BL2 OW2 hz2' hsl hz3
      go_wp2_with fail
      go_roundw
      case rel =>
        refine ⟨j + 1, by omega, by go_num, ?_, AT4.out, BL4.out⟩
        rw [List.take_add_one, HTT.out]
        simpa [strV] using OW4.out
      case measure => simp [intOf]; omega
    · obtain rfl : j = 40 := by omega
      have OW := Lib.hid hown; have BL := Lib.hid hbel
      clear hown hat hbel
      go_wp2_with fail
      go_ret
      refine ⟨_, rfl, ?_, BL.out⟩
      have := own_low OW.out (show w.heap.size ≤ w.heap.size + 1 by omega)
      rw [show (textsL.take 40).map nameR = namesL from by rw [← names_R, List.take_of_length_le (by rw [texts_len]; omega)]] at this
      exact this
def textOf (nm : List UInt8) : List UInt8 := textsL[namesL.findIdx (· == nm)]?.getD []
theorem names_len : namesL.length = 40 := by decide +kernel
theorem textOf_hit {nm : List UInt8} {j : Nat} (hj : namesL[j]? = some nm) (hn : ∀ i x, i < j → namesL[i]? = some x → x ≠ nm) {t : List UInt8} (ht : textsL[j]? = some t) : textOf nm = t := by
  obtain ⟨hlt, he⟩ := List.getElem?_eq_some_iff.1 hj
  have h : namesL.findIdx (· == nm) = j := (List.findIdx_eq hlt).2 ⟨by simp [he], fun i hi => by simpa using hn i _ hi (List.getElem?_eq_getElem (by omega))⟩
  unfold textOf
  rw [h, ht]; rfl
theorem textOf_miss {nm : List UInt8} (hn : ∀ i x, i < 40 → namesL[i]? = some x → x ≠ nm) : textOf nm = [] := by
  have h : namesL.findIdx (· == nm) = 40 := by
    rw [← names_len, List.findIdx_eq_length]
    intro x hx
    obtain ⟨i, hi⟩ := List.mem_iff_getElem?.1 hx
    have hlt := (List.getElem?_eq_some_iff.1 hi).1
    rw [names_len] at hlt
    simpa using hn i x hlt hi
  unfold textOf
  rw [h, List.getElem?_eq_none (by rw [texts_len]; omega)]; rfl
set_option maxHeartbeats 4000000 in
theorem ref_Text (w : World) (m : Int) (hm : w.cell? ⟨0, 0, none⟩ = some (.int .i64 m)) (nl : List UInt8) :
    Calls Tryz.prog 19 #[.string ⟨nl.toArray⟩] w fun e w' => e = .returned (.string ⟨(textOf nl).toArray⟩) ∧ Below w.heap.size w w' := by
  go_enter Tryz.func19, Tryz.ntmps19
  go_wp2_with fail
  have hgm := World.block_lt_of_cell? _ _ hm
  refine (ref_Names w m hm).mono ?_
  rintro e w1 ⟨v, rfl, hown, hb⟩
  obtain ⟨g, c, rfl, hc40, hg, hcells⟩ := own_strs hown names_len (by omega)
  have CN := Lib.hid hcells; have BB := Lib.hid hb
  have HM := Lib.hid ((hb.cell (p := ⟨0, 0, none⟩) hgm).trans hm)
  clear hown hcells hb hm hgm
  go_wp2_with fail
  go_loopw [3, 4, 7] (fun a b i wr => ∃ j : Nat, j ≤ 40 ∧ i = .int .i64 j ∧ wr = w1 ∧ ∀ i x, i < j → namesL[i]? = some x → x ≠ nl) (fun a b i _ => 40 - (intOf i).toNat)
  case atStart => exact ⟨0, by omega, rfl, rfl, fun i x hi => by omega⟩
  case round =>
    obtain ⟨j, hj, rfl, rfl, hno⟩ := hrel
    have HN := Lib.hid hno; clear hno
    by_cases hlt : j < 40
    · obtain ⟨x, hx⟩ : ∃ x, namesL[j]? = some x := ⟨_, List.getElem?_eq_getElem (by rw [names_len]; exact hlt)⟩
      obtain ⟨t, ht⟩ : ∃ t, textsL[j]? = some t := ⟨_, List.getElem?_eq_getElem (by rw [texts_len]; exact hlt)⟩
      have c0 := CN.out j x hx
      rw [Nat.zero_add] at c0
      have HX := Lib.hid hx; have HTT := Lib.hid ht
      clear hx ht
      by_cases he : x = nl
      · subst he
        have d1 : (x == x) = true := by simp
        have HR := Lib.hid (textOf_hit HX.out HN.out HTT.out)
        go_wp2_with fail
        refine (ref_Texts _ m HM.out).mono ?_
        rintro e w2 ⟨rfl, hw2⟩
        obtain ⟨T, hT⟩ : ∃ T, T = wr.heap.size := ⟨_, rfl⟩
        have a2 : At w2 T txO := by rw [hw2, hT]; exact At.new wr _
        have B2 := Lib.hid (show Below w.heap.size w w2 by rw [hw2]; exact below_new BB.out _)
        rw [← hT]
        have c2 := txO_cell a2 HTT.out
        have hl2 := a2.lt
        clear hw2 a2 hT
        go_wp2_with fail
        go_ret
        exact ⟨by rw [HR.out]; rfl, B2.out⟩
      · have d1 : (x == nl) = false := by simpa using he
        go_wp2_with fail
        go_roundw
        case rel =>
          refine ⟨j + 1, by omega, by go_num, (by first | trivial | rfl), fun i y hi hy => ?_⟩
          rcases Nat.lt_succ_iff_lt_or_eq.1 hi with h1 | rfl
          · exact HN.out i y h1 hy
          · rw [HX.out] at hy; cases hy; exact he
        case measure => simp [intOf]; omega
    · obtain rfl : j = 40 := by omega
      have HR := Lib.hid (textOf_miss HN.out)
      go_wp2_with fail
      go_ret
      exact ⟨by rw [HR.out]; rfl, BB.out⟩
end Go.Proofs.YtdmkghgachapaabGreatDoor
