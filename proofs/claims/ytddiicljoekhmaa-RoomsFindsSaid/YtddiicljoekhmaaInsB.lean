/- slices.Insert of one element into a row of the call's own (ephemeris/api.Booking). -/
import Derived.Test.YtddiicljoekhmaaCopyS
import Derived.Test.YtddiicljoekhmaaMem2
import Derived.Test.YtddiicljoekhmaaRows2
import Derived.Lib.Overlaps
import Derived.Lib.SliceRun
import Derived.Laws.Externs
import Derived.Deep.AppendLies
import Derived.Deep.RegionLaw
namespace Go.Proofs.Ytddiicljoekhmaa
set_option linter.unusedVariables false
set_option linter.unusedSimpArgs false
set_option maxRecDepth 100000
open Go.RowKit

theorem bkg_info : (Try.prog.info? 39).map (fun i => (i.zero, i.size, i.bytes)) = some (some (.agg #[.string ⟨#[]⟩, .int .i64 0, .int .i64 0, .string ⟨#[]⟩]), 4, 48) := by kernel_rfl
theorem bkg_size : (Try.prog.info? 39).map (·.size) = some 4 := by kernel_rfl
theorem bkg_sizeOf (W : World) : (sizeOf (Try.prog.elem 33)).run Try.prog W = .ok 4 W := by kernel_rfl
theorem bkg_cutL (b len cap i : Nat) (x : Int) (hx : x = (i : Int)) (h : i < len) (hc : len ≤ cap) :
    (∀ W, (Instr.slice 33 (.slice (some ⟨b, 0, none⟩) len cap) (some (.int .i64 x)) none none).run Try.prog W = .ok (.slice (some ⟨b, i * 4, none⟩) (len - i) (cap - i)) W) ∧
    (∀ W, (Instr.sliceAt 33 (.slice (some ⟨b, 0, none⟩) len cap) (some (.int .i64 x)) none none).run Try.prog W = .ok (.slice (some ⟨b, i * 4, none⟩) (len - i) (cap - i)) W) := by
  subst hx
  have hk : ∀ W, (Instr.slice 33 (.slice (some ⟨b, 0, none⟩) len cap) (some (.int .i64 (i : Int))) none none).run Try.prog W = .ok (.slice (some ⟨b, i * 4, none⟩) (len - i) (cap - i)) W := by
    intro W
    rw [run_slice_l W 33 (some ⟨b, 0, none⟩) len cap (by kernel_rfl) .i64 i (by omega) (by omega), bkg_sizeOf]
    have hne : ¬ cap = i := by omega
    by_cases h0 : i = 0
    · subst h0; simp [sliced, Result.andThen, Addr.add, hne]
    · have h3 : ¬ i * 4 = 0 := by omega
      simp [sliced, Result.andThen, Addr.add, hne, h3]
  exact ⟨hk, fun W => by rw [run_sliceAt_slice W 33 _ _ _ _ (by kernel_rfl)]; exact hk W⟩
theorem bkg_cutE (v : Value) (n cap : Nat) (a : Option Addr) (hv : v = .slice a n cap) : ∃ u, (∀ W, (Instr.slice 33 v (some (.int .i64 (n : Int))) none none).run Try.prog W = .ok u W) ∧ (∀ W, (Instr.sliceAt 33 v (some (.int .i64 (n : Int))) none none).run Try.prog W = .ok u W) := by
  subst hv
  have hk : ∀ W, (Instr.slice 33 (.slice a n cap) (some (.int .i64 (n : Int))) none none).run Try.prog W = .ok (sliced a n n cap 4) W := by
    intro W
    rw [run_slice_l W 33 a n cap (by kernel_rfl) .i64 n (by omega) (by omega), bkg_sizeOf]
    simp [Result.andThen]
  exact ⟨_, hk, fun W => by rw [run_sliceAt_slice W 33 _ _ _ _ (by kernel_rfl)]; exact hk W⟩
theorem bkg_cutH (b len cap j : Nat) (x : Int) (hx : x = (j : Int)) (h : j ≤ cap) :
    (∀ W, (Instr.slice 33 (.slice (some ⟨b, 0, none⟩) len cap) none (some (.int .i64 x)) none).run Try.prog W = .ok (.slice (some ⟨b, 0, none⟩) j cap) W) ∧
    (∀ W, (Instr.sliceAt 33 (.slice (some ⟨b, 0, none⟩) len cap) none (some (.int .i64 x)) none).run Try.prog W = .ok (.slice (some ⟨b, 0, none⟩) j cap) W) := by
  subst hx
  have hk : ∀ W, (Instr.slice 33 (.slice (some ⟨b, 0, none⟩) len cap) none (some (.int .i64 (j : Int))) none).run Try.prog W = .ok (.slice (some ⟨b, 0, none⟩) j cap) W := by
    intro W
    rw [run_slice_h W 33 (some ⟨b, 0, none⟩) len cap (by kernel_rfl) .i64 j (by omega) (by omega), bkg_sizeOf]
    simp [sliced, Result.andThen, Addr.add]
  exact ⟨hk, fun W => by rw [run_sliceAt_slice W 33 _ _ _ _ (by kernel_rfl)]; exact hk W⟩
/-- A row that is written from place a on, then from a place further on. -/
theorem bkg_up (X A B C : List Value) (hX : A.length + B.length + C.length ≤ X.length) (hA : X.take A.length = A) :
    (((X.take A.length ++ B ++ X.drop (A.length + B.length)).take (A.length + B.length) ++ C ++ (X.take A.length ++ B ++ X.drop (A.length + B.length)).drop (A.length + B.length + C.length)).take (A.length + B.length + C.length) = A ++ B ++ C) := by
  rw [hA]
  have e1 : (A ++ B ++ X.drop (A.length + B.length)).take (A.length + B.length) = A ++ B := List.take_left' (by simp)
  rw [e1]
  exact List.take_left' (by simp; omega)
theorem bkg_down (X A B C : List Value) (hX : A.length + B.length + C.length ≤ X.length) (hA : X.take A.length = A) :
    (((X.take (A.length + B.length) ++ C ++ X.drop (A.length + B.length + C.length)).take A.length ++ B ++ (X.take (A.length + B.length) ++ C ++ X.drop (A.length + B.length + C.length)).drop (A.length + B.length)).take (A.length + B.length + C.length) = A ++ B ++ C) := by
  have hl : (X.take (A.length + B.length)).length = A.length + B.length := by rw [List.length_take]; omega
  have e1 : (X.take (A.length + B.length) ++ C ++ X.drop (A.length + B.length + C.length)).take A.length = A := by
    rw [List.append_assoc, List.take_append_of_le_length (by omega), List.take_take, Nat.min_eq_left (by omega)]; exact hA
  have e2 : (X.take (A.length + B.length) ++ C ++ X.drop (A.length + B.length + C.length)).drop (A.length + B.length) = C ++ X.drop (A.length + B.length + C.length) := by
    rw [List.append_assoc]; exact List.drop_left' hl
  rw [e1, e2, ← List.append_assoc]
  exact List.take_left' (by simp; omega)
def bkgIns (base i n : Nat) (v : Value) (xs news : List Value) (w : World) (e : Ending) (w' : World) : Prop :=
  ∃ v', e = .returned v' ∧ w'.ownsRow base 39 4 v' (n + 1) (xs.take (i * 4) ++ news ++ xs.drop (i * 4)) ∧ w.grownBy w' v.ownBlock ∧ ∀ g, v'.ownBlock = some g → v.ownBlock = some g ∨ w.heap.size ≤ g
set_option maxHeartbeats 4000000 in
/-- At the end. -/
theorem bkg_ins_end (base n b : Nat) (v : Value) (xs news : List Value) (w : World) (hown : w.ownsRow base 39 4 v n xs) (hbase : base ≤ w.heap.size) (hn : n ≤ 1000000) (hb : At w b (.cells news.toArray 39)) (hl : news.length = 4) (h1 : ∀ u ∈ news, u.oneCell' = true) :
    Calls Try.prog 31 #[v, .int .i64 (n : Int), .slice (some ⟨b, 0, none⟩) 1 1] w (bkgIns base n n v xs news w) := by
  obtain ⟨i0, hi, hz0, hz1, hz2⟩ := info_parts bkg_info
  have hxl : xs.length = n * 4 := hown.1
  have hv : ∃ a cap, v = .slice a n cap := by
    rcases hown.2 with ⟨rfl, rfl⟩ | ⟨g, cap, cur, rfl, -⟩
    · exact ⟨none, 0, rfl⟩
    · exact ⟨_, cap, rfl⟩
  obtain ⟨a, cap, rfl⟩ := hv
  obtain ⟨u, hq1, hq2⟩ := bkg_cutE _ n cap a rfl
  have hnews : ∀ j x, news[j]? = some x → w.cell? ((⟨b, 0, none⟩ : Addr).add j) = some x := fun j x hj => by
    rw [add_none, Nat.zero_add, hb.cell]; simpa using hj
  have HO := Lib.hid hown
  have HT := Lib.hid (show xs.take (n * 4) ++ news ++ xs.drop (n * 4) = xs ++ news by rw [List.take_of_length_le (by omega), List.drop_eq_nil_of_le (by omega)]; simp)
  unfold bkgIns
  go_enter Try.func31, Try.ntmps31
  go_wp2_with (at_builtin; refine wpList_append_lies _ rfl _ _ 33 rfl base 39 i0 (.agg #[.string ⟨#[]⟩, .int .i64 0, .int .i64 0, .string ⟨#[]⟩]) 4 48 Try.underlying33 hi hz0 hz1 hz2 rfl (by decide) _ n xs rfl HO.out ⟨b, 0, none⟩ 1 1 news rfl (by rw [hl]) hnews h1 (by decide) (by unfold maxLen; omega) (by omega) hbase _ rfl ?_; intro g4 cap4 w4 hown' hgrow hlies hglt)
  go_ret
  refine ⟨_, rfl, by rw [HT.out]; exact hown', hgrow, fun g hg => ?_⟩
  have hg' : some g4 = some g := hg
  injection hg' with hg'
  rcases hlies with h | h
  · left; exact h.trans (congrArg some hg')
  · right; omega
theorem setRow_keeps (w : World) (g : Nat) (c1 c2 : Array Value) : w.grownBy ((w.drew.setRow g c1).setRow g c2) (some g) :=
  ⟨rfl, rfl, rfl, by simp [World.setRow], fun k _ hk => by
    have hne : k ≠ g := fun e => hk (by rw [e])
    rw [setRow_other (w.drew.setRow g c1) g k c2 hne, setRow_other w.drew g k c1 hne]; rfl⟩
set_option maxHeartbeats 4000000 in
/-- Before the end, where there is room: in place. -/
theorem bkg_ins_room (base n i g cap b : Nat) (cur : Array Value) (xs news : List Value) (w : World) (hbg : base ≤ g) (hg : w.heap[g]? = some (.cells cur 39 (0, 0))) (hcm : cap ≤ maxLen) (hcs : cur.size = cap * 4) (htk : cur.toList.take (n * 4) = xs) (hxl : xs.length = n * 4)
    (hi : i < n) (hroom : n + 1 ≤ cap) (hn : n ≤ 1000000) (hb : At w b (.cells news.toArray 39)) (hbne : b ≠ g) (hl : news.length = 4) (h1 : ∀ u ∈ news, u.oneCell' = true) (hx1 : ∀ u ∈ xs, u.oneCell' = true) :
    Calls Try.prog 31 #[.slice (some ⟨g, 0, none⟩) n cap, .int .i64 (i : Int), .slice (some ⟨b, 0, none⟩) 1 1] w (bkgIns base i n (.slice (some ⟨g, 0, none⟩) n cap) xs news w) := by
  have hcapm : cap ≤ 9223372036854775807 := by unfold maxLen at hcm; omega
  have hdl : (xs.drop (i * 4)).length = (n - i) * 4 := by rw [List.length_drop, hxl]; omega
  have hA : At w g (.cells cur 39) := hg
  have hcl : cur.toList.length = cap * 4 := by simpa using hcs
  have hcell : ∀ j x, xs[j]? = some x → w.cell? ⟨g, j, none⟩ = some x := fun j x hj => by
    rw [hA.cell, ← htk] at *
    rw [List.getElem?_take] at hj
    split at hj
    · simpa using hj
    · cases hj
  have hsa : w.shape? b = some (39, 4) := by
    have : w.heap[b]? = some (.cells news.toArray 39 (0, 0)) := hb
    simp [World.shape?, this, hl]
  have hsb : w.shape? g = some (39, cap * 4) := by simp [World.shape?, hg, hcs]
  have hov : ∀ lb cb, (callFunc 43 #[.slice (some ⟨b, 0, none⟩) 1 1, .slice (some ⟨g, (i + 1) * 4, none⟩) lb cb]).run Try.prog w = .ok (.value (.bool false)) w := fun lb cb => by
    rw [run_callFunc_extern Try.func43 (by kernel_rfl) (by kernel_rfl) (by kernel_rfl) (e := Extern.SlicesOverlaps.overlaps #[33, 33] #[4]) (by kernel_rfl),
      Lib.run_overlaps_apart w 33 4 39 Try.underlying33 4 (fun W => by kernel_rfl) ⟨b, 0, none⟩ ⟨g, (i + 1) * 4, none⟩ 1 1 lb cb hbne 39 39 4 (cap * 4) hsa hsb (by omega) (hb.frozen 0) (hb.frozen 4)]
    rfl
  obtain ⟨cA, cB⟩ := bkg_cutL g n cap i (i : Int) rfl hi (by omega)
  obtain ⟨cC, cD⟩ := bkg_cutH g n cap (n + 1) ((n : Int) + 1) (by omega) hroom
  obtain ⟨cE, cF⟩ := bkg_cutL g (n + 1) cap (i + 1) ((i : Int) + 1) (by omega) (by omega) hroom
  obtain ⟨cG, cI⟩ := bkg_cutL g (n + 1) cap i (i : Int) rfl (by omega) hroom
  obtain ⟨Y1, hY1⟩ : ∃ Y, Y = (cur.toList.take ((i + 1) * 4) ++ xs.drop (i * 4) ++ cur.toList.drop ((i + 1) * 4 + (xs.drop (i * 4)).length)).toArray := ⟨_, rfl⟩
  have hY1s : Y1.size = cap * 4 := by rw [hY1]; simp [hdl, hcl, hcs]; omega
  have hcp1 : ∀ ty, (Builtin.copy_ #[33, 33] ty #[.slice (some ⟨g, (i + 1) * 4, none⟩) (n + 1 - (i + 1)) (cap - (i + 1)), .slice (some ⟨g, i * 4, none⟩) (n + 1 - i) (cap - i)]).run Try.prog w.drew = .ok (goInt (Nat.min (n + 1 - i) (n + 1 - (i + 1)))) (w.drew.setRow g Y1) := fun ty => by
    rw [hY1]
    exact run_copy_rowS w.drew 33 33 ty 39 4 g ((i + 1) * 4) _ _ ⟨g, i * 4, none⟩ _ _ cur 39 (xs.drop (i * 4)) Try.underlying33 bkg_size hg (by rw [hdl]; congr 1; simp only [Nat.min_def]; split <;> omega)
      (fun j v hj => by rw [add_none]; exact hcell _ v (by rwa [List.getElem?_drop] at hj)) (by rw [hdl, hcs]; have : (n + 1) * 4 ≤ cap * 4 := Nat.mul_le_mul_right _ hroom; omega) (fun v hv => hx1 v (List.mem_of_mem_drop hv))
  have hg1 : (w.drew.setRow g Y1).heap[g]? = some (.cells Y1 39 (0, 0)) := setRow_heap w.drew g cur Y1 39 (0, 0) hg
  have hcp2 : ∀ ty, (Builtin.copy_ #[33, 33] ty #[.slice (some ⟨g, i * 4, none⟩) (n + 1 - i) (cap - i), .slice (some ⟨b, 0, none⟩) 1 1]).run Try.prog (w.drew.setRow g Y1) = .ok (goInt (Nat.min 1 (n + 1 - i))) ((w.drew.setRow g Y1).setRow g (Y1.toList.take (i * 4) ++ news ++ Y1.toList.drop (i * 4 + news.length)).toArray) := fun ty => by
    refine run_copy_rowS (w.drew.setRow g Y1) 33 33 ty 39 4 g (i * 4) _ _ ⟨b, 0, none⟩ 1 1 Y1 39 news Try.underlying33 bkg_size hg1 (by have : Nat.min 1 (n + 1 - i) = 1 := Nat.min_eq_left (by omega); rw [hl, this]) (fun j v hj => ?_) (by rw [hl, hY1s]; have : (n + 1) * 4 ≤ cap * 4 := Nat.mul_le_mul_right _ hroom; omega) h1
    rw [add_none, Nat.zero_add]
    have hb1 : At (w.drew.setRow g Y1) b (.cells news.toArray 39) := (setRow_other w.drew g b Y1 hbne).trans hb
    rw [hb1.cell]; simpa using hj
  obtain ⟨Y2, hY2⟩ : ∃ Y, Y = (Y1.toList.take (i * 4) ++ news ++ Y1.toList.drop (i * 4 + news.length)).toArray := ⟨_, rfl⟩
  rw [← hY2] at hcp2
  have htA : (xs.take (i * 4)).length = i * 4 := by rw [List.length_take]; omega
  have hfin : Y2.toList.take ((n + 1) * 4) = xs.take (i * 4) ++ news ++ xs.drop (i * 4) := by
    have key := bkg_down cur.toList (xs.take (i * 4)) news (xs.drop (i * 4)) (by rw [htA, hl, hdl, hcl]; have : (n + 1) * 4 ≤ cap * 4 := Nat.mul_le_mul_right _ hroom; omega) (by rw [htA, ← htk, List.take_take, Nat.min_eq_left (by omega)])
    rw [htA, hl, hdl] at key
    rw [hY2, hY1]
    simp only [hl, hdl]
    rw [show (i + 1) * 4 = i * 4 + 4 by omega, show (n + 1) * 4 = i * 4 + 4 + (n - i) * 4 by omega]
    simpa using key
  have hY2s : Y2.size = cap * 4 := by rw [hY2]; simp [hl, hY1s]; have : (n + 1) * 4 ≤ cap * 4 := Nat.mul_le_mul_right _ hroom; omega
  have HEND := Lib.hid (show bkgIns base i n (.slice (some ⟨g, 0, none⟩) n cap) xs news w (.returned (.slice (some ⟨g, 0, none⟩) (n + 1) cap)) ((w.drew.setRow g Y1).setRow g Y2) from
    ⟨_, rfl, ⟨by rw [List.length_append, List.length_append, htA, hl, hdl]; omega, .inr ⟨g, cap, Y2, rfl, hbg, setRow_heap (w.drew.setRow g Y1) g Y1 Y2 39 (0, 0) hg1, hroom, hcm, hY2s, hfin⟩⟩, setRow_keeps w g Y1 Y2, fun _ h => .inl h⟩)
  have d1 : ((i : Int) == (n : Int)) = false := by simp; omega
  have d2 : ¬ ((cap : Int) < (n : Int) + 1) := by omega
  have w1 : IntKind.i64.wrap ((i : Int) + 1) = (i : Int) + 1 := IntWalk.i64_in _ (by omega)
  clear hfin hY2 hY2s htA hY1 hY1s hg1 hsa hsb hcell hdl hcl hA htk hxl hg hcs
  go_enter Try.func31, Try.ntmps31
  go_wp2_with (simp only [hov])
  go_region_law (refine step_copy_run rfl _ _ 33 33 rfl _ _ (by simp [Act.eval, Act.put]) (by simp [Act.eval, Act.put]) (hcp1 _) ?_)
  go_wp2_with (at_builtin; refine Lib.wpList_copy_run _ rfl _ _ 33 33 rfl _ _ rfl rfl (hcp2 _) ?_)
  go_ret
  exact HEND.out
set_option maxHeartbeats 4000000 in
/-- Before the end, where there is no room: a new row. -/
theorem bkg_ins_grow (base n i g cap b : Nat) (cur : Array Value) (xs news : List Value) (w : World) (hbase : base ≤ w.heap.size) (hg : w.heap[g]? = some (.cells cur 39 (0, 0))) (htk : cur.toList.take (n * 4) = xs) (hxl : xs.length = n * 4)
    (hi : i < n) (hnc : n ≤ cap) (hroom : cap < n + 1) (hn : n ≤ 1000000) (hb : At w b (.cells news.toArray 39)) (hl : news.length = 4) (h1 : ∀ u ∈ news, u.oneCell' = true) (hx1 : ∀ u ∈ xs, u.oneCell' = true) :
    Calls Try.prog 31 #[.slice (some ⟨g, 0, none⟩) n cap, .int .i64 (i : Int), .slice (some ⟨b, 0, none⟩) 1 1] w (bkgIns base i n (.slice (some ⟨g, 0, none⟩) n cap) xs news w) := by
  obtain ⟨i0, hi0, hz0, hz1, hz2⟩ := info_parts bkg_info
  have hdl : (xs.drop (i * 4)).length = (n - i) * 4 := by rw [List.length_drop, hxl]; omega
  have hA : At w g (.cells cur 39) := hg
  have hcell : ∀ j x, xs[j]? = some x → w.cell? ⟨g, j, none⟩ = some x := fun j x hj => by
    rw [hA.cell, ← htk] at *
    rw [List.getElem?_take] at hj
    split at hj
    · simpa using hj
    · cases hj
  have htA : (xs.take (i * 4)).length = i * 4 := by rw [List.length_take]; omega
  obtain ⟨c2, hc2⟩ : ∃ c, c = grownCap w (n + 1) cap 39 := ⟨_, rfl⟩
  have hc2a : n + 1 ≤ c2 := by rw [hc2]; exact grownCap_ge w (n + 1) cap 39
  have hc2b : c2 ≤ maxLen := by rw [hc2]; exact grownCap_le_maxLen w (n + 1) cap 39 (by unfold maxLen; omega)
  obtain ⟨C0, hC0⟩ : ∃ C, C = (xs.take (i * 4)).toArray ++ Builtin.zeroCells (.agg #[.string ⟨#[]⟩, .int .i64 0, .int .i64 0, .string ⟨#[]⟩] : Value).cells (n + 1 - i) ++ Builtin.zeroCells (.agg #[.string ⟨#[]⟩, .int .i64 0, .int .i64 0, .string ⟨#[]⟩] : Value).cells (c2 - (n + 1)) := ⟨_, rfl⟩
  have hzs : ∀ k, (Builtin.zeroCells (.agg #[.string ⟨#[]⟩, .int .i64 0, .int .i64 0, .string ⟨#[]⟩] : Value).cells k).size = k * 4 := fun k => by simp [Builtin.zeroCells, Value.cells]
  have hC0s : C0.size = c2 * 4 := by
    rw [hC0, Array.size_append, Array.size_append, hzs, hzs, List.size_toArray, htA]; omega
  have hC0t : C0.toList.take (i * 4) = xs.take (i * 4) := by
    rw [hC0]
    simp only [Array.toList_append, List.append_assoc]
    exact List.take_left' htA
  have hz1' : (n + 1 - i) * i0.size ≠ 0 := by rw [hz1]; omega
  have hap : ∀ ty, (Builtin.append_ #[33, 3] ty #[.slice (some ⟨g, 0, none⟩) i cap, .int .i64 ((n : Int) + 1 - (i : Int))]).run Try.prog w = .ok (.slice (some ⟨w.heap.size, 0, none⟩) (n + 1) c2) (w.drew.alloc (.cells C0 39)) := fun ty => by
    have := run_append_zeros w 33 3 ty 39 i0 (.agg #[.string ⟨#[]⟩, .int .i64 0, .int .i64 0, .string ⟨#[]⟩]) Try.underlying33 Try.underlying3 hi0 hz0 ⟨g, 0, none⟩ i cap (xs.take (i * 4)) (by rw [htA, hz1]) (fun j v hj => by
      rw [add_none, Nat.zero_add]
      rw [List.getElem?_take] at hj
      split at hj
      · exact hcell j v hj
      · cases hj) (n + 1 - i) hz1' (by omega) (by omega) (by rw [hz2]; omega) (by rw [hz2]; exact growslice_fits (by omega) (by omega))
    rw [show ((n + 1 - i : Nat) : Int) = (n : Int) + 1 - (i : Int) by omega, show i + (n + 1 - i) = n + 1 by omega, ← hc2, ← hC0] at this
    exact this
  obtain ⟨g2, hg2⟩ : ∃ g2, g2 = w.heap.size := ⟨_, rfl⟩
  rw [← hg2] at hap
  obtain ⟨Wa, hWa⟩ : ∃ W, W = w.drew.alloc (.cells C0 39) := ⟨_, rfl⟩
  rw [← hWa] at hap
  have hgl : g < g2 := by rw [hg2]; exact hA.lt
  have hbl : b < g2 := by rw [hg2]; exact hb.lt
  have hga : Wa.heap[g2]? = some (.cells C0 39 (0, 0)) := by rw [hWa, hg2]; exact heap_alloc_new w.drew _
  have hold : ∀ k, k < g2 → Wa.heap[k]? = w.heap[k]? := fun k hk => by rw [hWa]; rw [hg2] at hk; exact Below.heap_alloc w.drew _ k hk
  obtain ⟨cA, cB⟩ := bkg_cutL g n cap i (i : Int) rfl hi (by omega)
  obtain ⟨cC, cD⟩ := bkg_cutH g n cap i (i : Int) rfl (by omega)
  obtain ⟨cE, cF⟩ := bkg_cutL g2 (n + 1) c2 (i + 1) ((i : Int) + 1) (by omega) (by omega) hc2a
  obtain ⟨cG, cI⟩ := bkg_cutL g2 (n + 1) c2 i (i : Int) rfl (by omega) hc2a
  obtain ⟨Y1, hY1⟩ : ∃ Y, Y = (C0.toList.take (i * 4) ++ news ++ C0.toList.drop (i * 4 + news.length)).toArray := ⟨_, rfl⟩
  have hfit : (n + 1) * 4 ≤ c2 * 4 := Nat.mul_le_mul_right _ hc2a
  have hY1s : Y1.size = c2 * 4 := by rw [hY1]; simp [hl, hC0s]; omega
  have hcp1 : ∀ ty, (Builtin.copy_ #[33, 33] ty #[.slice (some ⟨g2, i * 4, none⟩) (n + 1 - i) (c2 - i), .slice (some ⟨b, 0, none⟩) 1 1]).run Try.prog Wa = .ok (goInt (Nat.min 1 (n + 1 - i))) (Wa.setRow g2 Y1) := fun ty => by
    rw [hY1]
    refine run_copy_rowS Wa 33 33 ty 39 4 g2 (i * 4) _ _ ⟨b, 0, none⟩ 1 1 C0 39 news Try.underlying33 bkg_size hga (by have : Nat.min 1 (n + 1 - i) = 1 := Nat.min_eq_left (by omega); rw [hl, this]) (fun j v hj => ?_) (by rw [hl, hC0s]; omega) h1
    rw [add_none, Nat.zero_add]
    have hb1 : At Wa b (.cells news.toArray 39) := (hold b hbl).trans hb
    rw [hb1.cell]; simpa using hj
  have hg1 : (Wa.setRow g2 Y1).heap[g2]? = some (.cells Y1 39 (0, 0)) := setRow_heap Wa g2 C0 Y1 39 (0, 0) hga
  have hcp2 : ∀ ty, (Builtin.copy_ #[33, 33] ty #[.slice (some ⟨g2, (i + 1) * 4, none⟩) (n + 1 - (i + 1)) (c2 - (i + 1)), .slice (some ⟨g, i * 4, none⟩) (n - i) (cap - i)]).run Try.prog (Wa.setRow g2 Y1).drew = .ok (goInt (Nat.min (n - i) (n + 1 - (i + 1)))) ((Wa.setRow g2 Y1).drew.setRow g2 (Y1.toList.take ((i + 1) * 4) ++ xs.drop (i * 4) ++ Y1.toList.drop ((i + 1) * 4 + (xs.drop (i * 4)).length)).toArray) := fun ty => by
    refine run_copy_rowS (Wa.setRow g2 Y1).drew 33 33 ty 39 4 g2 ((i + 1) * 4) _ _ ⟨g, i * 4, none⟩ _ _ Y1 39 (xs.drop (i * 4)) Try.underlying33 bkg_size hg1 (by rw [hdl]; congr 1; simp only [Nat.min_def]; split <;> omega) (fun j v hj => ?_) (by rw [hdl, hY1s]; omega) (fun v hv => hx1 v (List.mem_of_mem_drop hv))
    rw [add_none]
    have hA1 : At (Wa.setRow g2 Y1) g (.cells cur 39) := ((setRow_other Wa g2 g Y1 (by omega)).trans (hold g hgl)).trans hg
    have h3 := hcell (i * 4 + j) v (by rwa [List.getElem?_drop] at hj)
    rw [hA.cell] at h3
    exact (At.cell hA1.drew _).trans h3
  obtain ⟨Y2, hY2⟩ : ∃ Y, Y = (Y1.toList.take ((i + 1) * 4) ++ xs.drop (i * 4) ++ Y1.toList.drop ((i + 1) * 4 + (xs.drop (i * 4)).length)).toArray := ⟨_, rfl⟩
  rw [← hY2] at hcp2
  have hC0l : C0.toList.length = c2 * 4 := by simpa using hC0s
  have hfin : Y2.toList.take ((n + 1) * 4) = xs.take (i * 4) ++ news ++ xs.drop (i * 4) := by
    have key := bkg_up C0.toList (xs.take (i * 4)) news (xs.drop (i * 4)) (by rw [htA, hl, hdl, hC0l]; omega) (by rw [htA]; exact hC0t)
    rw [htA, hl, hdl] at key
    rw [hY2, hY1]
    simp only [hl, hdl]
    rw [show (i + 1) * 4 = i * 4 + 4 by omega, show (n + 1) * 4 = i * 4 + 4 + (n - i) * 4 by omega]
    simpa using key
  have hY2s : Y2.size = c2 * 4 := by rw [hY2]; simp [hdl, hY1s]; omega
  have HEND := Lib.hid (show bkgIns base i n (.slice (some ⟨g, 0, none⟩) n cap) xs news w (.returned (.slice (some ⟨g2, 0, none⟩) (n + 1) c2)) ((Wa.setRow g2 Y1).drew.setRow g2 Y2) from
    ⟨_, rfl, ⟨by rw [List.length_append, List.length_append, htA, hl, hdl]; omega, .inr ⟨g2, c2, Y2, rfl, by omega, setRow_heap (Wa.setRow g2 Y1).drew g2 Y1 Y2 39 (0, 0) hg1, hc2a, hc2b, hY2s, hfin⟩⟩,
      ⟨by rw [hWa]; rfl, by rw [hWa]; rfl, by rw [hWa]; rfl, by rw [hWa]; simp [World.setRow], fun k hk _ => by
        rw [setRow_other (Wa.setRow g2 Y1).drew g2 k Y2 (by omega)]
        exact (setRow_other Wa g2 k Y1 (by omega)).trans (hold k (by omega))⟩,
      fun k h => .inr (by have h' : g2 = k := Option.some.inj h; omega)⟩)
  have d1 : ((i : Int) == (n : Int)) = false := by simp; omega
  have d2 : (cap : Int) < (n : Int) + 1 := by omega
  have w1 : IntKind.i64.wrap ((i : Int) + 1) = (i : Int) + 1 := IntWalk.i64_in _ (by omega)
  clear hfin hY2 hY2s htA hY1 hY1s hg1 hcell hdl hA htk hxl hg hga hold hWa hC0 hC0s hC0t hzs hz1' hc2 hfit hgl hbl hg2 hC0l
  go_enter Try.func31, Try.ntmps31
  go_wp2_with (first | (at_builtin; refine wpList_append_run _ rfl _ _ 33 3 rfl _ _ rfl rfl (hap _) ?_) | (at_builtin; refine Lib.wpList_copy_run _ rfl _ _ 33 33 rfl _ _ rfl rfl (hcp1 _) ?_))
  go_region_law (refine step_copy_run rfl _ _ 33 33 rfl _ _ (by simp [Act.eval, Act.put]) (by simp [Act.eval, Act.put]) (hcp2 _) ?_)
  go_wp2_with fail
  go_ret
  exact HEND.out
/-- slices.Insert of one element into a row of the call's own. -/
theorem bkg_insert (base n i b : Nat) (v : Value) (xs news : List Value) (w : World) (hown : w.ownsRow base 39 4 v n xs) (hbase : base ≤ w.heap.size) (hi : i ≤ n) (hn : n ≤ 1000000) (hb : At w b (.cells news.toArray 39)) (hbne : v.ownBlock ≠ some b) (hl : news.length = 4) (h1 : ∀ u ∈ news, u.oneCell' = true) (hx1 : ∀ u ∈ xs, u.oneCell' = true) :
    Calls Try.prog 31 #[v, .int .i64 (i : Int), .slice (some ⟨b, 0, none⟩) 1 1] w (bkgIns base i n v xs news w) := by
  by_cases he : i = n
  · subst he
    exact bkg_ins_end base i b v xs news w hown hbase hn hb hl h1
  · rcases hown.2 with ⟨_, h0⟩ | ⟨g, cap, cur, rfl, hbg, hg, hnc, hcm, hcs, htk⟩
    · omega
    · by_cases hroom : n + 1 ≤ cap
      · exact bkg_ins_room base n i g cap b cur xs news w hbg hg hcm hcs htk hown.1 (by omega) hroom hn hb (fun e => hbne (by rw [e]; rfl)) hl h1 hx1
      · exact bkg_ins_grow base n i g cap b cur xs news w hbase hg htk hown.1 (by omega) hnc (by omega) hn hb hl h1 hx1
end Go.Proofs.Ytddiicljoekhmaa
