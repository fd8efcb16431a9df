/- Contract of ephemerislaw1.year12: a table in memory of its own. -/
import Derived.Test.YtddiicljoekhmabMem2
import Derived.Deep.AppendLies
namespace Go.Proofs.Ytddiicljoekhmab
set_option linter.unusedVariables false
set_option maxRecDepth 100000
open Go.RowKit

theorem Try.infoInt : (Try.prog.info? 3).map (fun i => (i.zero, i.size, i.bytes)) = some (some (.int .i64 0), 1, 8) := by kernel_rfl
def startsTo (k : Nat) : List Int := (List.range k).map fun (j : Nat) => (100 + 30 * (j : Int) : Int)
theorem startsTo_succ (k : Nat) : startsTo (k + 1) = startsTo k ++ [100 + 30 * (k : Int)] := by simp [startsTo, List.range_succ]
/-- An owned row lies above its base. -/
theorem own_far {w : World} {base : Nat} {e : TypeId} {size : Nat} {v : Value} {n : Nat} {xs : List Value} (h : w.ownsRow base e size v n xs) {b : Nat} (hb : b < base) : some b ≠ v.ownBlock := by
  rcases h.2 with ⟨rfl, _⟩ | ⟨g, cap, cur, rfl, hg, _⟩
  · simp [Value.ownBlock]
  · simp [Value.ownBlock]; omega
theorem At.grown {w w' : World} {b : Nat} {o : Obj} {row : Option Nat} (h : At w b o) (hg : w.grownBy w' row) (hne : some b ≠ row) : At w' b o := (hg.block b h.lt hne).trans h
theorem At.set {w : World} {b : Nat} {cs : Array Value} {t : TypeId} {m : Nat × Nat} (h : At w b (.cells cs t m)) (i : Nat) (u : Value) : At (w.setCell ⟨b, i, none⟩ u) b (.cells (cs.setIfInBounds i u) t m) := by
  unfold At at h ⊢
  simp [World.setCell, Array.getElem?_modify, h]
theorem At.far {w : World} {b : Nat} {o : Obj} (h : At w b o) {p : Addr} (hp : b ≠ p.block) (u : Value) : At (w.setCell p u) b o := (Below.heap_setCell w p u b hp).trans h

def Year12 (w : World) (e : Ending) (w' : World) : Prop :=
  ∃ g cap cur, e = .returned (.agg #[.string ⟨#[116, 97, 98, 108, 101]⟩, .int .i64 5, .slice (some ⟨w.heap.size + 1, 0, none⟩) 1 1, .slice (some ⟨g, 0, none⟩) 13 cap]) ∧ At w' (w.heap.size + 1) (.cells #[.int .i64 12] 3) ∧
    At w' g (.cells cur 3) ∧ cur.toList.take 13 = (startsTo 13).map (Value.int .i64) ∧ w.heap.size + 1 < g ∧ 13 ≤ cap ∧ cap ≤ 9223372036854775807 ∧ Below w.heap.size w w'
set_option maxHeartbeats 1000000 in
theorem law_year12 (w : World) : Calls Try.prog 12 #[] w (Year12 w) := by
  obtain ⟨i0, hi, hz0, hz1, hz2⟩ := info_parts Try.infoInt
  go_enter Try.func12, Try.ntmps12
  go_wp2_with fail
  go_loopw [2, 5] (fun _ i wr => ∃ k : Nat, k ≤ 13 ∧ i = .int .i64 k ∧ ∃ v, wr.ownsRow (w.heap.size + 3) 3 1 v k ((startsTo k).map (Value.int .i64)) ∧ At wr w.heap.size (.cells #[.string ⟨#[]⟩, .int .i64 0, .slice none 0 0, .slice none 0 0] 33) ∧
      At wr (w.heap.size + 1) (.cells #[.int .i64 12] 3) ∧ At wr (w.heap.size + 1 + 1) (.cells #[.string ⟨#[116, 97, 98, 108, 101]⟩, .int .i64 5, .slice (some ⟨w.heap.size + 1, 0, none⟩) 1 1, v] 33) ∧ w.heap.size + 3 ≤ wr.heap.size ∧ Below w.heap.size w wr)
    (fun _ i _ => 13 - (intOf i).toNat)
  case atStart =>
    refine ⟨0, by omega, rfl, .slice none 0 0, World.ownsRow_nil _ _ _ _, ?_, ?_, ?_, by simp, ?_⟩
    · exact ((At.new w _).alloc _).alloc _
    · exact (At.new1 w _ _).alloc _
    · exact At.new2 w _ _ _
    · exact (((Below.refl _ _).alloc (Nat.le_refl _) _).alloc (by simp) _).alloc (by simp; omega) _
  case round =>
    obtain ⟨k, hk, rfl, v, hown, at0, at1, at2, hsz, hb⟩ := hrel
    by_cases hlt : k < 13
    · have hc := at2.cell 3
      simp at hc
      have hfz := at2.frozen 3
      have OWN := Lib.hid hown; have A0 := Lib.hid at0; have A1 := Lib.hid at1; have A2 := Lib.hid at2; have HB := Lib.hid hb
      clear hown at0 at1 at2 hb
      go_wp2_with (at_builtin; refine wpList_append_own _ rfl _ _ 22 rfl (w.heap.size + 3) 3 i0 (.int .i64 0) 1 8 Try.underlying22 hi hz0 hz1 hz2 rfl (by decide) _ _ _ rfl (OWN.out.alloc _) ⟨wr.heap.size, 0, none⟩ 1 1 [.int .i64 (100 + 30 * (k : Int))] rfl rfl ?c1 ?c2 ?c3 ?c4 ?c5 ?_)
      case c1 =>
        intro j u hj
        match j, hj with
        | 0, hj => simp at hj; subst hj; simp [Addr.add]
      case c2 => intro u hu; simp at hu; subst hu; rfl
      case c3 => unfold maxLen; omega
      case c4 => omega
      case c5 => simp; omega
      intro v' w1 hown' hgrow _
      obtain ⟨g, cap, hv, hg1, hg2⟩ := hown'.form (by omega)
      subst hv
      have f0 : ∀ b, b < w.heap.size + 3 → some b ≠ v.ownBlock := fun b hb => own_far OWN.out hb
      have at0 := (A0.out.alloc (.cells #[.int .i64 (100 + 30 * (k : Int))] 3)).grown hgrow (f0 _ (by omega))
      have at1 := (A1.out.alloc (.cells #[.int .i64 (100 + 30 * (k : Int))] 3)).grown hgrow (f0 _ (by omega))
      have at2 := (A2.out.alloc (.cells #[.int .i64 (100 + 30 * (k : Int))] 3)).grown hgrow (f0 _ (by omega))
      have hb1 : Below w.heap.size w w1 := (HB.out.alloc (by omega) _).grown hgrow (by simp; omega) (fun b hb => by
        have := f0 b; rcases Nat.lt_or_ge b (w.heap.size + 3) with h | h
        · exact absurd hb.symm (this h)
        · omega)
      have hs1 : w.heap.size + 3 ≤ w1.heap.size := by have := hgrow.size; simp at this; omega
      have hc1 := at2.cell 3
      simp at hc1
      have hf1 := at2.frozen 3
      have A0' := Lib.hid at0; have A1' := Lib.hid at1; have A2' := Lib.hid at2; have HB' := Lib.hid hb1
      have OWN' := Lib.hid hown'
      clear hown' hgrow at0 at1 at2 hb1 f0 A0 A1 A2 HB OWN hc hfz
      go_wp2_with fail
      go_roundw
      case rel =>
        refine ⟨k + 1, by omega, by go_num, _, ?_, A0'.out.far (by simp; omega) _, A1'.out.far (by simp) _, A2'.out.set 3 _, by simpa using hs1, HB'.out.setCell (by simp; omega) _⟩
        rw [startsTo_succ, List.map_append]
        exact ownsRow_setCell_below OWN'.out (by simp) _
      case measure => simp [intOf]; omega
    · obtain rfl : k = 13 := by omega
      obtain ⟨g, cap, hv, hg1, hg2⟩ := hown.form (by omega)
      subst hv
      have r0 := at0.cell 0
      have r1 := at0.cell 1
      have r2 := at0.cell 2
      have r3 := at0.cell 3
      have z0 := at0.frozen 0
      have z1 := at0.frozen 1
      have z2 := at0.frozen 2
      have z3 := at0.frozen 3
      have c0 := at2.cell 0
      have c1 := at2.cell 1
      have c2 := at2.cell 2
      have c3 := at2.cell 3
      simp at r0 r1 r2 r3 c0 c1 c2 c3
      have OWN := Lib.hid hown; have A1 := Lib.hid at1; have HB := Lib.hid hb
      clear hown at0 at1 at2 hb
      go_wp2_with fail
      refine bodyPost_ret (v := .agg #[.string ⟨#[116, 97, 98, 108, 101]⟩, .int .i64 5, .slice (some ⟨w.heap.size + 1, 0, none⟩) 1 1, .slice (some ⟨g, 0, none⟩) 13 cap]) (by simp [results, Try.results12, go_sem, r0, r1, r2, r3]) rfl ?_
      rcases OWN.out.2 with ⟨h, _⟩ | ⟨g', cap', cur, hv, _, hcur, hnc, hcm, hcs, htake⟩
      · cases h
      · injection hv with hv1 _ hv2
        injection hv1 with hv1
        injection hv1 with hv1 _ _
        subst hv1 hv2
        unfold maxLen at hcm
        have hcur' : At wr g (.cells cur 3) := hcur
        exact ⟨g, cap, cur, rfl, (((A1.out.far (by simp) _).far (by simp) _).far (by simp) _).far (by simp) _, (((hcur'.far (by simp; omega) _).far (by simp; omega) _).far (by simp; omega) _).far (by simp; omega) _,
          by simpa using htake, by omega, hnc, by omega, (((HB.out.setCell (by simp) _).setCell (by simp) _).setCell (by simp) _).setCell (by simp) _⟩
/-- A block of the call's own reads as integers. -/
theorem At.ints_of {w : World} {b n : Nat} {t : TypeId} {m : Nat × Nat} {cur : Array Value} (zs : List Int) (h : At w b (.cells cur t m)) (ht : cur.toList.take n = zs.map (Value.int .i64)) (hn : zs.length = n) (hI : ∀ x ∈ zs, I64 x) (hm : n ≤ 9223372036854775807) :
    Ints w w.heap.size (some ⟨b, 0, none⟩) n zs :=
  ⟨hn, hm, hI, fun _ => ⟨b, 0, rfl, h.lt, fun i hi => by
    have h1 : (cur.toList.take n)[i]? = some (.int .i64 (zs.getD i 0)) := by
      rw [ht, List.getElem?_map, List.getD_eq_getElem?_getD, List.getElem?_eq_getElem (by omega)]; rfl
    rw [List.getElem?_take, if_pos hi, Array.getElem?_toList] at h1
    rw [h.cell (0 + i), Nat.zero_add, h1]⟩⟩
end Go.Proofs.Ytddiicljoekhmab
