/- slices.Delete of one element of a row of the call's own (ephemeris/api.Booking). -/
import Derived.Test.YtddiicljoekhmaaInsB
namespace Go.Proofs.Ytddiicljoekhmaa
set_option linter.unusedVariables false
set_option linter.unusedSimpArgs false
set_option maxRecDepth 100000
open Go.RowKit

theorem bkg_cutB (b len cap i j : Nat) (x y : Int) (hx : x = (i : Int)) (hy : y = (j : Int)) (h : i < j) (hj : j ≤ cap) :
    (∀ W, (Instr.slice 33 (.slice (some ⟨b, 0, none⟩) len cap) (some (.int .i64 x)) (some (.int .i64 y)) none).run Try.prog W = .ok (.slice (some ⟨b, i * 4, none⟩) (j - i) (cap - i)) W) ∧
    (∀ W, (Instr.sliceAt 33 (.slice (some ⟨b, 0, none⟩) len cap) (some (.int .i64 x)) (some (.int .i64 y)) none).run Try.prog W = .ok (.slice (some ⟨b, i * 4, none⟩) (j - i) (cap - i)) W) := by
  subst hx hy
  have hk : ∀ W, (Instr.slice 33 (.slice (some ⟨b, 0, none⟩) len cap) (some (.int .i64 (i : Int))) (some (.int .i64 (j : Int))) none).run Try.prog W = .ok (.slice (some ⟨b, i * 4, none⟩) (j - i) (cap - i)) W := by
    intro W
    rw [run_slice_lh W 33 (some ⟨b, 0, none⟩) len cap (by kernel_rfl) .i64 .i64 i j (by omega) (by omega) (by omega), bkg_sizeOf]
    have hne : ¬ cap = i := by omega
    by_cases h0 : i = 0
    · subst h0; simp [sliced, Result.andThen, Addr.add, hne]
    · have h3 : ¬ i * 4 = 0 := by omega
      simp [sliced, Result.andThen, Addr.add, hne, h3]
  exact ⟨hk, fun W => by rw [run_sliceAt_slice W 33 _ _ _ _ (by kernel_rfl)]; exact hk W⟩
theorem bkg_cut3 (b len cap i j : Nat) (x y : Int) (hx : x = (i : Int)) (hy : y = (j : Int)) (h : i ≤ j) (hj : j ≤ len) (hl : len ≤ cap) :
    ∃ u, (∀ W, (Instr.slice 33 (.slice (some ⟨b, 0, none⟩) len cap) (some (.int .i64 x)) (some (.int .i64 y)) (some (.int .i64 (len : Int)))).run Try.prog W = .ok u W) ∧
    (∀ W, (Instr.sliceAt 33 (.slice (some ⟨b, 0, none⟩) len cap) (some (.int .i64 x)) (some (.int .i64 y)) (some (.int .i64 (len : Int)))).run Try.prog W = .ok u W) := by
  subst hx hy
  have hk : ∀ W, (Instr.slice 33 (.slice (some ⟨b, 0, none⟩) len cap) (some (.int .i64 (i : Int))) (some (.int .i64 (j : Int))) (some (.int .i64 (len : Int)))).run Try.prog W = .ok (sliced (some ⟨b, 0, none⟩) i j len 4) W := by
    intro W
    rw [run_slice_lhm W 33 (some ⟨b, 0, none⟩) len cap (by kernel_rfl) .i64 .i64 .i64 i j len (by omega) (by omega) (by omega) (by omega), bkg_sizeOf]
    simp [Result.andThen]
  exact ⟨_, hk, fun W => by rw [run_sliceAt_slice W 33 _ _ _ _ (by kernel_rfl)]; exact hk W⟩
theorem bkg_cutT (b len cap i : Nat) (x : Int) (hx : x = (i : Int)) (h : i ≤ len) (hc : len ≤ cap) : ∃ ad : Addr, (i < len → ad = ⟨b, i * 4, none⟩) ∧
    (∀ W, (Instr.slice 33 (.slice (some ⟨b, 0, none⟩) len cap) (some (.int .i64 x)) none none).run Try.prog W = .ok (.slice (some ad) (len - i) (cap - i)) W) ∧
    (∀ W, (Instr.sliceAt 33 (.slice (some ⟨b, 0, none⟩) len cap) (some (.int .i64 x)) none none).run Try.prog W = .ok (.slice (some ad) (len - i) (cap - i)) W) := by
  subst hx
  have hk : ∀ W, (Instr.slice 33 (.slice (some ⟨b, 0, none⟩) len cap) (some (.int .i64 (i : Int))) none none).run Try.prog W = .ok (.slice (some (if cap = i then ⟨b, 0, none⟩ else ⟨b, i * 4, none⟩)) (len - i) (cap - i)) W := by
    intro W
    rw [run_slice_l W 33 (some ⟨b, 0, none⟩) len cap (by kernel_rfl) .i64 i (by omega) (by omega), bkg_sizeOf]
    by_cases hce : cap = i
    · simp [sliced, Result.andThen, Addr.add, hce]
    · by_cases h0 : i = 0
      · subst h0; simp [sliced, Result.andThen, Addr.add, hce]
      · have h3 : ¬ i * 4 = 0 := by omega
        simp [sliced, Result.andThen, Addr.add, hce, h3]
  exact ⟨_, fun hl => if_neg (by omega), hk, fun W => by rw [run_sliceAt_slice W 33 _ _ _ _ (by kernel_rfl)]; exact hk W⟩
def bkgDel (base i n : Nat) (v : Value) (xs : List Value) (w : World) (e : Ending) (w' : World) : Prop :=
  ∃ v', e = .returned v' ∧ w'.ownsRow base 39 4 v' (n - 1) (xs.take (i * 4) ++ xs.drop ((i + 1) * 4)) ∧ w.grownBy w' v.ownBlock ∧ v'.ownBlock = v.ownBlock
set_option maxHeartbeats 4000000 in
theorem bkg_delete (base n i : Nat) (v : Value) (xs : List Value) (w : World) (hown : w.ownsRow base 39 4 v n xs) (hi : i < n) (hn : n ≤ 1000000) (hx1 : ∀ u ∈ xs, u.oneCell' = true) :
    Calls Try.prog 14 #[v, .int .i64 (i : Int), .int .i64 ((i : Int) + 1)] w (bkgDel base i n v xs w) := by
  obtain ⟨i0, hi0, hz0, hz1, hz2⟩ := info_parts bkg_info
  have hxl : xs.length = n * 4 := hown.1
  rcases hown.2 with ⟨_, h0⟩ | ⟨g, cap, cur, rfl, hbg, hg, hnc, hcm, hcs, htk⟩
  · omega
  have hA : At w g (.cells cur 39) := hg
  have hcapm : cap ≤ 9223372036854775807 := by unfold maxLen at hcm; omega
  have hfitn : n * 4 ≤ cap * 4 := Nat.mul_le_mul_right _ hnc
  have hcell : ∀ j x, xs[j]? = some x → w.cell? ⟨g, j, none⟩ = some x := fun j x hj => by
    rw [hA.cell, ← htk] at *
    rw [List.getElem?_take] at hj
    split at hj
    · simpa using hj
    · cases hj
  have htA : (xs.take (i * 4)).length = i * 4 := by rw [List.length_take]; omega
  have hdl : (xs.drop ((i + 1) * 4)).length = (n - (i + 1)) * i0.size := by rw [List.length_drop, hxl, hz1]; omega
  have hdl3 : (xs.drop ((i + 1) * 4)).length = (n - (i + 1)) * 4 := by rw [hdl, hz1]
  obtain ⟨u3, q1, q2⟩ := bkg_cut3 g n cap i (i + 1) (i : Int) ((i : Int) + 1) rfl (by omega) (by omega) (by omega) hnc
  obtain ⟨c1, c2⟩ := bkg_cutH g n cap i (i : Int) rfl (by omega)
  obtain ⟨ad, had, c3, c4⟩ := bkg_cutT g n cap (i + 1) ((i : Int) + 1) (by omega) (by omega) hnc
  obtain ⟨c5, c6⟩ := bkg_cutB g (n - 1) cap (n - 1) n ((n : Int) - 1) (n : Int) (by omega) rfl (by omega) hnc
  have hnews : ∀ j u, (xs.drop ((i + 1) * 4))[j]? = some u → w.drew.cell? (ad.add j) = some u := fun j u hj => by
    have hlt : j < (xs.drop ((i + 1) * 4)).length := (List.getElem?_eq_some_iff.1 hj).1
    rw [hdl3] at hlt
    have : ad = ⟨g, (i + 1) * 4, none⟩ := had (by omega)
    rw [this, add_none]
    exact hcell _ u (by rwa [List.getElem?_drop] at hj)
  have hap : ∀ ty, (Builtin.append_ #[33, 33] ty #[.slice (some ⟨g, 0, none⟩) i cap, .slice (some ad) (n - (i + 1)) (cap - (i + 1))]).run Try.prog w.drew = .ok (.slice (some ⟨g, 0, none⟩) (i + (n - (i + 1))) cap) (w.drew.setRow g (cur.toList.take (i * i0.size) ++ xs.drop ((i + 1) * 4) ++ cur.toList.drop (i * i0.size + (xs.drop ((i + 1) * 4)).length)).toArray) := fun ty =>
    run_append_room w.drew 33 ty 39 i0 Try.underlying33 hi0 g i cap cur hg ad (n - (i + 1)) (cap - (i + 1)) (xs.drop ((i + 1) * 4)) hdl hnews (fun u hu => hx1 u (List.mem_of_mem_drop hu)) (by omega) (by rw [hdl, hz1, hcs]; omega)
  rw [hz1, show i + (n - (i + 1)) = n - 1 by omega] at hap
  obtain ⟨Y1, hY1⟩ : ∃ Y, Y = (cur.toList.take (i * 4) ++ xs.drop ((i + 1) * 4) ++ cur.toList.drop (i * 4 + (xs.drop ((i + 1) * 4)).length)).toArray := ⟨_, rfl⟩
  rw [← hY1] at hap
  have hcl : cur.toList.length = cap * 4 := by simpa using hcs
  have hY1s : Y1.size = cap * 4 := by rw [hY1]; simp [hdl3, hcl, hcs]; omega
  have hg1 : (w.drew.setRow g Y1).heap[g]? = some (.cells Y1 39 (0, 0)) := setRow_heap w.drew g cur Y1 39 (0, 0) hg
  obtain ⟨ZC, hZC⟩ : ∃ Z, Z = (Builtin.zeroCells (.agg #[.string ⟨#[]⟩, .int .i64 0, .int .i64 0, .string ⟨#[]⟩] : Value).cells 1).toList := ⟨_, rfl⟩
  have hZl : ZC.length = 4 := by rw [hZC]; simp [Builtin.zeroCells, Value.cells]
  have hZ1 : ∀ v ∈ ZC, v.oneCell' = true := by rw [hZC]; decide +kernel
  have hcr : ∀ ty, (Builtin.clear_ #[33] ty #[.slice (some ⟨g, (n - 1) * 4, none⟩) (n - (n - 1)) (cap - (n - 1))]).run Try.prog (w.drew.setRow g Y1) = .ok (.tuple #[]) ((w.drew.setRow g Y1).setRow g (Y1.toList.take ((n - 1) * 4) ++ ZC ++ Y1.toList.drop ((n - 1) * 4 + ZC.length)).toArray) := fun ty =>
    run_clear_rowS (w.drew.setRow g Y1) 33 39 ty (.agg #[.string ⟨#[]⟩, .int .i64 0, .int .i64 0, .string ⟨#[]⟩]) Try.underlying33 (fun W => by kernel_rfl) g ((n - 1) * 4) (n - (n - 1)) (cap - (n - 1)) Y1 39 ZC (by omega) (by rw [hZC, show n - (n - 1) = 1 by omega]) hZ1 hg1 (by rw [hZl, hY1s]; omega)
  obtain ⟨Y2, hY2⟩ : ∃ Y, Y = (Y1.toList.take ((n - 1) * 4) ++ ZC ++ Y1.toList.drop ((n - 1) * 4 + ZC.length)).toArray := ⟨_, rfl⟩
  rw [← hY2] at hcr
  have hY2s : Y2.size = cap * 4 := by rw [hY2]; simp [hZl, hY1s]; omega
  have hfin : Y2.toList.take ((n - 1) * 4) = xs.take (i * 4) ++ xs.drop ((i + 1) * 4) := by
    have e1 : cur.toList.take (i * 4) = xs.take (i * 4) := by rw [← htk, List.take_take, Nat.min_eq_left (by omega)]
    have e2 : Y1.toList.take ((n - 1) * 4) = xs.take (i * 4) ++ xs.drop ((i + 1) * 4) := by
      rw [hY1, e1]
      exact List.take_left' (by rw [List.length_append, htA, hdl3]; omega)
    rw [hY2]
    have e3 : (Y1.toList.take ((n - 1) * 4)).length = (n - 1) * 4 := by rw [e2, List.length_append, htA, hdl3]; omega
    show (Y1.toList.take ((n - 1) * 4) ++ ZC ++ Y1.toList.drop ((n - 1) * 4 + ZC.length)).take ((n - 1) * 4) = _
    rw [List.append_assoc, List.take_left' e3, e2]
  have HEND := Lib.hid (show bkgDel base i n (.slice (some ⟨g, 0, none⟩) n cap) xs w (.returned (.slice (some ⟨g, 0, none⟩) (n - 1) cap)) ((w.drew.setRow g Y1).setRow g Y2) from
    ⟨_, rfl, ⟨by rw [List.length_append, htA, hdl3]; omega, .inr ⟨g, cap, Y2, rfl, hbg, setRow_heap (w.drew.setRow g Y1) g Y1 Y2 39 (0, 0) hg1, by omega, hcm, hY2s, hfin⟩⟩, setRow_keeps w g Y1 Y2, rfl⟩)
  have d1 : ((i : Int) == (i : Int) + 1) = false := by simp; omega
  have w1 : ((n - 1 : Nat) : Int) = (n : Int) - 1 := by omega
  clear hfin hY2 hY2s htA hY1 hY1s hg1 hcell hdl hdl3 hA htk hxl hg hcs hcl hnews hZC hZl hZ1 had hown hfitn
  go_enter Try.func14, Try.ntmps14
  go_wp2_with fail
  go_region_law (refine step_append_run rfl _ _ 33 33 rfl _ _ (by simp [Act.eval, Act.put]) (by simp [Act.eval, Act.put]) (hap _) ?_)
  go_wp2_with (at_builtin; refine wpList_clear_run _ rfl _ 33 rfl _ rfl (hcr _) ?_)
  go_ret
  exact HEND.out
end Go.Proofs.Ytddiicljoekhmaa
