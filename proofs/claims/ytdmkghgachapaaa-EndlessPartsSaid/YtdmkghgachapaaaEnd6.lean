/- The law's rising: a short list of the call's own, whatever was handed in. -/
import Derived.Test.YtdmkghgachapaaaSortI
import Derived.Test.YtdmkghgachapaaaLayComp
import Derived.Test.YtdmkghgachapaaaQuiet
import Derived.Test.YtdmkghgachapaaaRows2
import Derived.Laws.AppendOwnNone
import Derived.Laws.AppendOwn
import Derived.Laws.IdiomCopy
import Derived.Deep.Cut
namespace Go.Proofs.Ytdmkghgachapaaa
set_option linter.unusedVariables false
set_option linter.unusedSimpArgs false
set_option maxRecDepth 100000
open Go.RowKit Go.Shelf

theorem intInfoR : (Try.prog.info? 3).map (fun i => (i.zero, i.size, i.bytes)) = some (some (.int .i64 0), 1, 8) := by kernel_rfl
theorem below_cellsR {B b : Nat} (hb : B ≤ b) {a : World} : ∀ (vs : List Value) (o : Nat) (w : World), Below B a w → Below B a (w.setCells b o vs)
  | [], _, _, h => h
  | v :: vs, o, w, h => by
    show Below B a ((w.setCell ⟨b, o, none⟩ v).setCells b (o + 1) vs)
    exact below_cellsR hb vs (o + 1) _ (below_set h (p := ⟨b, o, none⟩) hb v)
theorem size_cellsR (b : Nat) : ∀ (vs : List Value) (o : Nat) (w : World), (w.setCells b o vs).heap.size = w.heap.size
  | [], _, _ => rfl
  | v :: vs, o, w => by
    show ((w.setCell ⟨b, o, none⟩ v).setCells b (o + 1) vs).heap.size = _
    rw [size_cellsR b vs (o + 1)]; simp [World.setCell]
theorem ints_newsR {w : World} {B : Nat} {ad : Addr} {n : Nat} {xs : List Int} (h : Ints w B (some ad) n xs) : ∀ j u, (xs.map (Value.int .i64))[j]? = some u → w.cell? (ad.add j) = some u := by
  intro j u hj
  have hl := h.1
  have hjn : j < n := by
    rcases Nat.lt_or_ge j n with h' | h'
    · exact h'
    · rw [List.getElem?_eq_none (by simp; omega)] at hj; cases hj
  obtain ⟨b, off, x, e, _, hc, hx, _⟩ := h.at_ hjn
  injection e with e
  subst e
  rw [List.getElem?_map, hx] at hj
  injection hj with hj
  subst hj
  rw [add_none]; exact hc
theorem compact_mem {zs : List Int} {x : Int} (h : x ∈ Lib.compact zs) : x ∈ zs := by
  unfold Lib.compact Lib.compactUpTo at h
  obtain ⟨i, hi, rfl⟩ := List.mem_map.1 h
  have hl : i < zs.length := List.mem_range.1 (List.mem_filter.1 hi).1
  have : zs.toArray[i]! = zs[i] := by simp [hl]
  rw [this]
  exact List.getElem_mem hl
/-- slices.Compact at a row of the call's own. -/
theorem comp_ints (w : World) (g cap n : Nat) (xs : List Int) (h : RowI w g n xs) (hI : ∀ x ∈ xs, I64 x) (hn : n ≤ 100000) (hc : n ≤ cap) {B : Nat} {w0 : World} (hB : B ≤ g) (hb : Below B w0 w) :
    Calls Try.prog 13 #[.slice (some ⟨g, 0, none⟩) n cap] w fun e w' => ∃ m ys, e = .returned (.slice (some ⟨g, 0, none⟩) m cap) ∧ m ≤ n ∧ Ints w' w'.heap.size (some ⟨g, 0, none⟩) m ys ∧ Below B w0 w' ∧ w'.heap.size = w.heap.size := by
  obtain ⟨hl, cur, ha, hs, hcc⟩ := h
  have hcell : ∀ j, j < xs.length → w.cell? ⟨g, 0 + j, none⟩ = some (.int .i64 (xs.getD j 0)) := fun j hj => by
    have hx := List.getElem?_eq_getElem hj
    rw [ha.cell (0 + j), Nat.zero_add, hcc j _ hx, List.getD_eq_getElem?_getD, hx]; rfl
  refine (Any.slices_Compact_int_cells Try.laysLays2n20 g 0 n cap xs w (by omega) (by omega) hc hcell (fun j _ => ha.frozen (0 + j))).mono ?_
  rintro e w' ⟨rfl, q, rfl⟩
  have htk : xs.take n = xs := List.take_of_length_le (by omega)
  rw [htk]
  have hle : (Lib.compact xs).length ≤ n := by rw [← hl]; exact Lib.compact_length_le xs
  refine ⟨_, Lib.compact xs, rfl, hle, ⟨rfl, by omega, fun x hx => hI x (compact_mem hx), fun hm => ⟨g, 0, rfl, ?_, fun i hi => ?_⟩⟩, below_cellsR hB _ _ _ (below_drewN hb q), by rw [size_cellsR]; rfl⟩
  · rw [size_cellsR]; exact ha.lt
  · have hlen : ((Lib.compact xs ++ List.replicate (n - (Lib.compact xs).length) 0).map (Value.int .i64)).length = n := by simp; omega
    have h1 := World.cell?_setCells_in g ((Lib.compact xs ++ List.replicate (n - (Lib.compact xs).length) 0).map (Value.int .i64)) 0 (w.drewN q) (fun j hj => by
      rw [hlen] at hj
      show (w.cell? ⟨g, 0 + j, none⟩).isSome = true
      rw [hcell j (by omega)]; rfl) i (by rw [hlen]; omega)
    rw [h1]
    simp only [List.getElem_map, Option.some.injEq, Value.int.injEq, true_and]
    rw [List.getElem_append_left (by omega), List.getD_eq_getElem?_getD, List.getElem?_eq_getElem (by omega)]
    rfl
def RiseOut (w : World) (e : Ending) (w' : World) : Prop := ∃ a m cap ys, e = .returned (.slice a m cap) ∧ m ≤ 12 ∧ m ≤ cap ∧ cap ≤ 9223372036854775807 ∧ Ints w' w'.heap.size a m ys ∧ (∀ g off sp, a = some ⟨g, off, sp⟩ → w.heap.size ≤ g ∧ g < w'.heap.size) ∧ Below w.heap.size w w'
set_option maxHeartbeats 4000000 in
theorem law_rising (w : World) (a : Option Addr) (n c : Nat) (xs : List Int) (h : Ints w w.heap.size a n xs) (hc : n ≤ c) (hcm : c ≤ 9223372036854775807) :
    Calls Try.prog 7 #[.slice a n c] w (RiseOut w) := by
  obtain ⟨i0, hi, hz0, hz1, hz2⟩ := info_parts intInfoR
  obtain ⟨M, hM⟩ : ∃ M, M = min n 12 := ⟨_, rfl⟩
  have hM1 : M ≤ n := by omega
  have hM2 : M ≤ 12 := by omega
  have hmin : min (n : Int) 12 = (M : Int) := by omega
  have HI := Lib.hid h
  have HT := Lib.hid (show Ints w w.heap.size a M (xs.take M) from by
    refine ⟨by rw [List.length_take, h.1]; omega, by omega, fun x hx => h.2.2.1 x (List.mem_of_mem_take hx), fun hm => ?_⟩
    obtain ⟨b, off, e, hb, hcc⟩ := h.2.2.2 (by omega)
    refine ⟨b, off, e, hb, fun i hi => ?_⟩
    rw [hcc i (by omega), List.getD_eq_getElem?_getD, List.getD_eq_getElem?_getD, List.getElem?_take, if_pos hi])
  clear h hM
  have key : ∀ (v : Value) (w1 : World), w1.ownsRow w.heap.size 3 1 v M ((xs.take M).map (Value.int .i64)) → Below w.heap.size w w1 → (Calls Try.prog 12 #[v] w1 fun e w2 => e = .returned (.tuple #[]) ∧ Below w.heap.size w w2 ∧ Calls Try.prog 13 #[v] w2 (RiseOut w)) := by
    intro v w1 hown hb
    rcases row_own hown HT.out.1 with ⟨rfl, h0⟩ | ⟨g, cap, rfl, hg, hnc, hcp, hrow⟩
    · refine (sort_none w1 none 0).mono ?_
      rintro e w2 ⟨rfl, rfl⟩
      refine ⟨rfl, hb, (Any.slices_Compact_int_empty Try.laysLays2n20 none 0 w2).mono ?_⟩
      rintro e w3 ⟨rfl, rfl⟩
      exact ⟨none, 0, 0, [], rfl, by omega, by omega, by omega, ⟨rfl, by omega, by simp, fun h => absurd h (by omega)⟩, fun g off sp h => (by cases h), hb⟩
    · refine (sort_ints w1 g cap M (xs.take M) hrow (by omega)).mono ?_
      rintro e w2 ⟨rfl, hrow2, hk⟩
      have hb2 : Below w.heap.size w w2 := hk.below hb hg hb.size
      refine ⟨rfl, hb2, (comp_ints w2 g cap M _ hrow2 (fun x hx => HT.out.2.2.1 x (sortI_mem hx)) (by omega) hnc hg hb2).mono ?_⟩
      rintro e w3 ⟨m, ys, rfl, hm, hI, hb3, hszz⟩
      exact ⟨_, m, cap, ys, rfl, by omega, by omega, hcp, hI, fun g' off sp e => (by cases e; exact ⟨hg, by have := hrow2.lt; have := hszz; omega⟩), hb3⟩
  have KEY := Lib.hid key
  clear key
  cases a with
  | none =>
    have hM0 : M = 0 := by
      rcases Nat.eq_zero_or_pos M with h0 | h0
      · exact h0
      · obtain ⟨b, off, e, _⟩ := HT.out.2.2.2 h0; cases e
    have hn0 : n = 0 := by omega
    subst hM0
    subst hn0
    have o0 := World.ownsRow_made (e := 3) (size := 1) (base := w.heap.size) w #[] 0 (Nat.le_refl _) (Nat.zero_le _) rfl
    have b0 := below_new (Below.refl w.heap.size w) (.cells #[] 3)
    have CS := Lib.hid (KEY.out _ _ o0 b0)
    clear o0 b0
    have hnone := World.ownsRow_made (e := 3) (size := 1) (base := w.heap.size) w #[] 0 (Nat.le_refl _) (Nat.zero_le _) rfl
    go_enter Try.func7, Try.ntmps7
    go_upto_region 1 with fail
    go_wp2_with (at_builtin; refine wpList_append_own_none rfl _ _ 22 rfl w.heap.size 3 i0 1 Try.underlying22 hi _ 0 [] rfl hnone rfl ?_)
    refine CS.out.mono ?_
    rintro e W2 ⟨rfl, hb, hcmp⟩
    go_wp2_with fail
    refine hcmp.mono ?_
    rintro e W3 ⟨a', m, cap, ys, rfl, q1, q2, q3, q4, q5, q6⟩
    go_wp2_with fail
    go_ret
    exact ⟨a', m, cap, ys, rfl, q1, q2, q3, q4, q5, q6⟩
  | some ad =>
    obtain ⟨ab, ao, asp⟩ := ad
    have b0 := below_new (Below.refl w.heap.size w) (.cells #[] 3)
    have HTA := Lib.hid ((HT.out.below b0 (Nat.le_refl _)).more b0.size)
    clear b0
    go_enter Try.func7, Try.ntmps7
    go_upto_region 1 with fail
    go_wp2_with (at_builtin; refine wpList_append_own _ rfl _ _ 22 rfl w.heap.size 3 i0 (.int .i64 0) 1 8 Try.underlying22 hi hz0 hz1 hz2 rfl (by decide) _ _ _ rfl (World.ownsRow_made w #[] 0 (Nat.le_refl _) (Nat.zero_le _) rfl) ⟨ab, ao, asp⟩ M c ((xs.take M).map (Value.int .i64)) rfl (by rw [List.length_map, HT.out.1, Nat.mul_one]) (ints_newsR HTA.out) (fun u hu => by obtain ⟨x, _, rfl⟩ := List.mem_map.1 hu; rfl) (by unfold maxLen; omega) (by omega) (by simp) ?_; intro v' w1 hown hgrow hnil)
    have hown2 : w1.ownsRow w.heap.size 3 1 v' M ((xs.take M).map (Value.int .i64)) := by simpa using hown
    have hgrow' : World.grownBy _ w1 (Value.ownBlock (.slice (some ⟨w.heap.size, 0, none⟩) 0 0)) := hgrow
    have hb1 : Below w.heap.size w w1 := ((Below.refl _ w).alloc (Nat.le_refl _) _).grown hgrow' (by simp) (by intro k hk; simp [Value.ownBlock] at hk; omega)
    have CS := Lib.hid (KEY.out _ _ hown2 hb1)
    clear hown hown2 hgrow hgrow' hnil hb1
    refine CS.out.mono ?_
    rintro e W2 ⟨rfl, hb, hcmp⟩
    go_wp2_with fail
    refine hcmp.mono ?_
    rintro e W3 ⟨a', m, cap, ys, rfl, q1, q2, q3, q4, q5, q6⟩
    go_wp2_with fail
    go_ret
    exact ⟨a', m, cap, ys, rfl, q1, q2, q3, q4, q5, q6⟩
end Go.Proofs.Ytdmkghgachapaaa
