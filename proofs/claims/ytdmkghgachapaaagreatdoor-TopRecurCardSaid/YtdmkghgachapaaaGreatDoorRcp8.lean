/- Contract of recur.Parse. -/
import Derived.Test.YtdmkghgachapaaaGreatDoorRcp7
import Derived.Test.YtdmkghgachapaaaGreatDoorRcpL
import Derived.Deep.Cut
import Derived.Deep.CutRange
import Derived.Laws.EntriesVeiled
namespace Go.Proofs.YtdmkghgachapaaaGreatDoor
set_option linter.unusedVariables false
set_option linter.unusedSimpArgs false
set_option maxRecDepth 100000
open Go.RowKit Go.Shelf
attribute [local go_sem] Oper.semAt_some

abbrev rec0V : Array Value := #[.int .i64 0, .int .i64 0, .int .i64 0, .int .i64 0, .int .i64 0, .slice none 0 0, .slice none 0 0, .slice none 0 0]
abbrev rec0O : Obj := .cells rec0V 24
theorem At.store8 {w : World} {b : Nat} {x0 x1 x2 x3 x4 x5 x6 x7 : Value} {t : TypeId} {m : Nat × Nat} (h : At w b (.cells #[x0, x1, x2, x3, x4, x5, x6, x7] t m)) (u0 u1 u2 u3 u4 u5 u6 u7 : Value) :
    At ((((((((w.setCell ⟨b, 0, none⟩ u0).setCell ⟨b, 1, none⟩ u1).setCell ⟨b, 2, none⟩ u2).setCell ⟨b, 3, none⟩ u3).setCell ⟨b, 4, none⟩ u4).setCell ⟨b, 5, none⟩ u5).setCell ⟨b, 6, none⟩ u6).setCell ⟨b, 7, none⟩ u7) b (.cells #[u0, u1, u2, u3, u4, u5, u6, u7] t m) := by
  have k := ((((((((h.store 0 u0).store 1 u1).store 2 u2).store 3 u3).store 4 u4).store 5 u5).store 6 u6).store 7 u7)
  simpa using k
theorem below_set8 {B : Nat} {a w : World} (h : Below B a w) {p : Nat} (hp : B ≤ p) (u0 u1 u2 u3 u4 u5 u6 u7 : Value) :
    Below B a ((((((((w.setCell ⟨p, 0, none⟩ u0).setCell ⟨p, 1, none⟩ u1).setCell ⟨p, 2, none⟩ u2).setCell ⟨p, 3, none⟩ u3).setCell ⟨p, 4, none⟩ u4).setCell ⟨p, 5, none⟩ u5).setCell ⟨p, 6, none⟩ u6).setCell ⟨p, 7, none⟩ u7) :=
  below_set (below_set (below_set (below_set (below_set (below_set (below_set (below_set h hp _) hp _) hp _) hp _) hp _) hp _) hp _) hp _
/-- What recur.Parse leaves. -/
def ParsePost (S : List UInt8) (w : World) (e : Ending) (w' : World) : Prop :=
  Below w.heap.size w w' ∧ if parseE S ≠ 0 then e = .returned (.tuple #[.agg rec0V, .int .i64 (parseE S)])
    else ∃ a1 a2 a3 n1 n2 n3 c1 c2 c3, e = .returned (.tuple #[.agg (recV (rawR S).1 (rawR S).2.1 (rawR S).2.2.1 (rawR S).2.2.2.2.1 (rawR S).2.2.2.1 a1 a2 a3 n1 n2 n3 c1 c2 c3), .int .i64 0]) ∧
      RowC w' a1 n1 c1 (rawR S).2.2.2.2.2.1 ∧ RowC w' a2 n2 c2 (rawR S).2.2.2.2.2.2.1 ∧ RowC w' a3 n3 c3 (rawR S).2.2.2.2.2.2.2
set_option maxHeartbeats 8000000 in
theorem recur_Parse (S : List UInt8) (w : World) (m : Int) (hm : w.cell? ⟨3, 0, none⟩ = some (.int .i64 m)) (hS : S.length ≤ 4294960000) (hp : Pow w) (hE : Errs w) (hun : UnitsAt w) :
    Calls Tryz.prog 4 #[.string ⟨S.toArray⟩] w (ParsePost S w) := by
  have HP := Lib.hid hp; have HE := Lib.hid hE; have HU := Lib.hid hun; have HM := Lib.hid hm
  have hml := World.block_lt_of_cell? _ _ hm
  clear hp hE hun hm
  refine (callsIn_wide (n := 3)).1 ?_
  refine callsIn_of_wp_marks Tryz.func4 rfl trivial ?_ rfl
  simp only [Tryz.ntmps4, List.size_toArray, List.length_cons, List.length_nil, Nat.reduceAdd, Nat.reduceSub, Array.replicate_succ, Array.replicate_zero, List.push_toArray, List.append_toArray, List.nil_append, List.cons_append]
  gi_wp2_with fail
  refine ⟨trivial, ?_⟩
  gi_at_call 10
  have b0 := below_new (Below.refl w.heap.size w) rec0O
  have a0 := At.new w rec0O
  have hm0 : (w.alloc rec0O).cell? ⟨3, 0, none⟩ = some (.int .i64 m) := (b0.cell (p := ⟨3, 0, none⟩) hml).trans HM.out
  generalize World.alloc w _ = W1 at b0 a0 hm0 ⊢
  refine (callsIn_wide.2 (lib_Split32 S W1 m hm0 hS)).mono ?_
  rintro e W2 ⟨rfl, hw2⟩
  have hb2 : Below W1.heap.size W1 W2 := by rw [hw2]; exact below_new (Below.refl _ _) _
  have at2 : At W2 W1.heap.size (wdO (spl 32 S)) := by rw [hw2]; exact At.new W1 _
  clear hw2 hm0
  have B2 := Lib.hid (below_then b0 hb2); have R2 := Lib.hid (a0.then_ hb2); have AT2 := Lib.hid at2
  clear b0 a0 at2 hb2
  generalize W1.heap.size = Q at AT2 ⊢
  by_cases h7 : (spl 32 S).length < 7
  · have r2 := R2.out
    have y0 := r2.cell 0; have y1 := r2.cell 1; have y2 := r2.cell 2; have y3 := r2.cell 3; have y4 := r2.cell 4; have y5 := r2.cell 5; have y6 := r2.cell 6; have y7 := r2.cell 7; simp at y0 y1 y2 y3 y4 y5 y6 y7
    have fz0 := r2.frozen 0; have fz1 := r2.frozen 1; have fz2 := r2.frozen 2; have fz3 := r2.frozen 3; have fz4 := r2.frozen 4; have fz5 := r2.frozen 5; have fz6 := r2.frozen 6; have fz7 := r2.frozen 7
    have hRl := r2.lt
    have HPE := Lib.hid (show parseE S = 4 by unfold parseE; rw [if_pos h7])
    have h7' : ((spl 32 S).length : Int) < 7 := by omega
    have zz := r2.store8 (.int .i64 0) (.int .i64 0) (.int .i64 0) (.int .i64 0) (.int .i64 0) (.slice none 0 0) (.slice none 0 0) (.slice none 0 0)
    have BL := Lib.hid (below_set8 B2.out (p := w.heap.size) (Nat.le_refl _) (.int .i64 0) (.int .i64 0) (.int .i64 0) (.int .i64 0) (.int .i64 0) (.slice none 0 0) (.slice none 0 0) (.slice none 0 0))
    have e0 := zz.cell 0; have e1 := zz.cell 1; have e2 := zz.cell 2; have e3 := zz.cell 3; have e4 := zz.cell 4; have e5 := zz.cell 5; have e6 := zz.cell 6; have e7 := zz.cell 7; simp at e0 e1 e2 e3 e4 e5 e6 e7
    clear r2
    gi_wp2_with fail
    generalize World.setCell (World.setCell _ _ _) _ _ = W9 at zz BL e0 e1 e2 e3 e4 e5 e6 e7 ⊢
    refine ⟨.tuple #[.agg rec0V, .int .i64 4], by simp [results, Tryz.results4, go_sem, e0, e1, e2, e3, e4, e5, e6, e7], BL.out, ?_⟩
    rw [HPE.out, if_pos (by decide)]
  obtain ⟨u1, hu1⟩ : ∃ u, (spl 32 S)[1]? = some u := ⟨_, List.getElem?_eq_getElem (by omega)⟩
  obtain ⟨u2, hu2⟩ : ∃ u, (spl 32 S)[2]? = some u := ⟨_, List.getElem?_eq_getElem (by omega)⟩
  obtain ⟨u4, hu4⟩ : ∃ u, (spl 32 S)[4]? = some u := ⟨_, List.getElem?_eq_getElem (by omega)⟩
  obtain ⟨u6, hu6⟩ : ∃ u, (spl 32 S)[6]? = some u := ⟨_, List.getElem?_eq_getElem (by omega)⟩
  gi_wp2_with fail
  have n3 := At.new W2 (.cells #[.func (.func 11) #[] #[]] 43)
  have hb3 := below_new (Below.refl W2.heap.size W2) (.cells #[.func (.func 11) #[] #[]] 43)
  generalize World.alloc W2 _ = W3 at n3 hb3 ⊢
  have i1 : (1 : Int) < ((spl 32 S).length : Int) := by omega
  have i2 : (2 : Int) < ((spl 32 S).length : Int) := by omega
  have i4 : (4 : Int) < ((spl 32 S).length : Int) := by omega
  have i6 : (6 : Int) < ((spl 32 S).length : Int) := by omega
  have B3 := Lib.hid (below_then B2.out hb3); have R3 := Lib.hid (R2.out.then_ hb3); have AT3 := Lib.hid (AT2.out.then_ hb3)
  have AN := Lib.hid (show At W3 W2.heap.size (.cells #[.func (.func 11) #[] #[]] 43) from n3)
  clear n3 hb3
  generalize W2.heap.size = N at AN ⊢
  have HBW := Lib.hid (fun (W : World) (hW : Below W3.heap.size W3 W) => below_then B3.out hW)
  have KK := Lib.hid (fun (W : World) (hW : Below W3.heap.size W3 W) => show W.cell? ⟨Q, 1, none⟩ = some (.string ⟨u1.toArray⟩) ∧ W.cell? ⟨Q, 2, none⟩ = some (.string ⟨u2.toArray⟩) ∧ W.cell? ⟨Q, 4, none⟩ = some (.string ⟨u4.toArray⟩) ∧ W.cell? ⟨Q, 6, none⟩ = some (.string ⟨u6.toArray⟩) ∧ W.cell? ⟨N, 0, none⟩ = some (.func (.func 11) #[] #[]) from ⟨wd_cell (AT3.out.then_ hW) hu1, wd_cell (AT3.out.then_ hW) hu2, wd_cell (AT3.out.then_ hW) hu4, wd_cell (AT3.out.then_ hW) hu6, (AN.out.then_ hW).cell 0⟩)
  have ul : ∀ u, u ∈ spl 32 S → u.length ≤ 4294960000 := fun u hu => by
    have h1 := pcs_spl 32 ⟨S.toArray⟩
    rw [show (⟨S.toArray⟩ : ByteArray).data.toList = S by simp] at h1
    rw [← h1, List.mem_map] at hu
    obtain ⟨x, hx, rfl⟩ := hu
    have h2 := pcs_size 32 ⟨S.toArray⟩ x hx
    have h3 : x.data.toList.length = x.size := by show x.data.toList.length = x.data.size; simp
    have h4 : (⟨S.toArray⟩ : ByteArray).size = S.length := by show S.toArray.size = _; simp
    omega
  have CN := Lib.hid (fun (u : List UInt8) (hu : u ∈ spl 32 S) (W : World) (hW : Below W3.heap.size W3 W) => show Calls Tryz.prog 11 #[.string ⟨u.toArray⟩] W fun e w' => e = .returned (.int .i64 (atoiV u)) ∧ Below W.heap.size W w' from by
    have h := recur_number ⟨u.toArray⟩ W (by have := ul u hu; show u.toArray.size ≤ _; simp; omega) (HE.out.below (HBW.out W hW))
    rw [show (⟨u.toArray⟩ : ByteArray).data.toList = u by simp] at h
    exact h)
  have C1 := Lib.hid (CN.out u1 (List.mem_of_getElem? hu1)); have C4 := Lib.hid (CN.out u4 (List.mem_of_getElem? hu4)); have C6 := Lib.hid (CN.out u6 (List.mem_of_getElem? hu6))
  have CX := Lib.hid (fun (W : World) (hW : Below W3.heap.size W3 W) => show Calls Tryz.prog 13 #[.slice (some ⟨0, 0, none⟩) 5 5, .string ⟨u2.toArray⟩] W fun e w' => e = .returned (.int .i64 (idxU u2)) ∧ Below W.heap.size W w' from by
    have hU := HU.out.below (HBW.out W hW)
    have hx : Txts W W.heap.size (some ⟨0, 0, none⟩) 5 [⟨#[]⟩, ⟨#[100, 97, 121]⟩, ⟨#[119, 101, 101, 107]⟩, ⟨#[109, 111, 110, 116, 104]⟩, ⟨#[121, 101, 97, 114]⟩] := by
      refine ⟨rfl, by omega, fun _ => ⟨_, 0, rfl, World.block_lt_of_cell? _ _ (hU 0 (by omega)), fun i x hx j v hv => ?_⟩⟩
      have hi : i < 5 := (List.getElem?_eq_some_iff.1 hx).1
      have hc := hU i hi
      match j, hv with
      | 0, hv =>
        simp [encT] at hv; subst hv
        rcases (show i = 0 ∨ i = 1 ∨ i = 2 ∨ i = 3 ∨ i = 4 by omega) with rfl | rfl | rfl | rfl | rfl <;> (simp at hx; subst hx; exact hc)
      | j + 1, hv => simp [encT] at hv
    refine (str_Index W _ 5 5 _ ⟨u2.toArray⟩ _ hx (Nat.le_refl _)).mono ?_
    rw [idx_units]
    rintro e w' ⟨rfl, rfl⟩
    exact ⟨by simp, Below.refl _ _⟩)
  refine only_normal (wpIn_wide.2 ?_)
  refine wp_region_held_drew (S := (fun w' => w'.cell? ⟨Q, 1, none⟩ = some (.string ⟨u1.toArray⟩) ∧ w'.cell? ⟨Q, 2, none⟩ = some (.string ⟨u2.toArray⟩) ∧ w'.cell? ⟨Q, 4, none⟩ = some (.string ⟨u4.toArray⟩) ∧ w'.cell? ⟨Q, 6, none⟩ = some (.string ⟨u6.toArray⟩) ∧ w'.cell? ⟨N, 0, none⟩ = some (.func (.func 11) #[] #[]))) (by kernel_rfl) ?_ (fun hHeld => ?_)
  · (try dsimp only); exact KK.out _ ((Below.refl _ _).drew)
  have BV := Lib.hid (Below.refl W3.heap.size W3).drew
  generalize World.drew W3 = V0 at BV hHeld ⊢
  refine' join2 (F := fun Z V => Below W3.heap.size W3 V ∧ At V Z rec0O ∧ W3.heap.size ≤ Z) (fun hj => ?_) ?_
  rotate_left
  · refine lex_take (i := 0) (v := ?_) rfl (by kernel_rfl) (by kernel_rfl) (by kernel_rfl) (fun _ _ _ h => h) (by rfl) ?_ (by assumption) ?_
    rotate_left
    · (intro w hSw; (try dsimp only at hSw); have z1 := hSw.1; have z2 := hSw.2.1; have z4 := hSw.2.2.1; have z6 := hSw.2.2.2.1; have zn := hSw.2.2.2.2; go_simp; try with_reducible rfl)
    try simp only [Act.put, List.setIfInBounds_toArray, List.set_cons_zero, List.set_cons_succ]
    refine lex_take (i := 1) (v := ?_) rfl (by kernel_rfl) (by kernel_rfl) (by kernel_rfl) (fun _ _ _ h => h) (by rfl) ?_ (by assumption) ?_
    rotate_left
    · (intro w hSw; (try dsimp only at hSw); have z1 := hSw.1; have z2 := hSw.2.1; have z4 := hSw.2.2.1; have z6 := hSw.2.2.2.1; have zn := hSw.2.2.2.2; go_simp; try with_reducible rfl)
    try simp only [Act.put, List.setIfInBounds_toArray, List.set_cons_zero, List.set_cons_succ]
    refine lex_take (i := 2) (v := ?_) rfl (by kernel_rfl) (by kernel_rfl) (by kernel_rfl) (fun _ _ _ h => h) (by rfl) ?_ (by assumption) ?_
    rotate_left
    · (intro w hSw; (try dsimp only at hSw); have z1 := hSw.1; have z2 := hSw.2.1; have z4 := hSw.2.2.1; have z6 := hSw.2.2.2.1; have zn := hSw.2.2.2.2; go_simp; try with_reducible rfl)
    try simp only [Act.put, List.setIfInBounds_toArray, List.set_cons_zero, List.set_cons_succ]
    refine lex_take (i := 3) (v := ?_) rfl (by kernel_rfl) (by kernel_rfl) (by kernel_rfl) (fun _ _ _ h => h) (by rfl) ?_ (by assumption) ?_
    rotate_left
    · (intro w hSw; (try dsimp only at hSw); have z1 := hSw.1; have z2 := hSw.2.1; have z4 := hSw.2.2.1; have z6 := hSw.2.2.2.1; have zn := hSw.2.2.2.2; go_simp; try with_reducible rfl)
    try simp only [Act.put, List.setIfInBounds_toArray, List.set_cons_zero, List.set_cons_succ]
    refine lex_take (i := 5) (v := ?_) rfl (by kernel_rfl) (by kernel_rfl) (by kernel_rfl) (fun _ _ _ h => h) (by rfl) ?_ (by assumption) ?_
    rotate_left
    · (intro w hSw; (try dsimp only at hSw); have z1 := hSw.1; have z2 := hSw.2.1; have z4 := hSw.2.2.1; have z6 := hSw.2.2.2.1; have zn := hSw.2.2.2.2; go_simp; try with_reducible rfl)
    try simp only [Act.put, List.setIfInBounds_toArray, List.set_cons_zero, List.set_cons_succ]
    refine lex_take (i := 6) (v := ?_) rfl (by kernel_rfl) (by kernel_rfl) (by kernel_rfl) (fun _ _ _ h => h) (by rfl) ?_ (by assumption) ?_
    rotate_left
    · (intro w hSw; (try dsimp only at hSw); have z1 := hSw.1; have z2 := hSw.2.1; have z4 := hSw.2.2.1; have z6 := hSw.2.2.2.1; have zn := hSw.2.2.2.2; go_simp; try with_reducible rfl)
    try simp only [Act.put, List.setIfInBounds_toArray, List.set_cons_zero, List.set_cons_succ]
    refine lex_take (i := 7) (v := ?_) rfl (by kernel_rfl) (by kernel_rfl) (by kernel_rfl) (fun _ _ _ h => h) (by rfl) ?_ (by assumption) ?_
    rotate_left
    · (intro w hSw; (try dsimp only at hSw); have z1 := hSw.1; have z2 := hSw.2.1; have z4 := hSw.2.2.1; have z6 := hSw.2.2.2.1; have zn := hSw.2.2.2.2; go_simp; try with_reducible rfl)
    try simp only [Act.put, List.setIfInBounds_toArray, List.set_cons_zero, List.set_cons_succ]
    refine lex_take (i := 8) (v := ?_) rfl (by kernel_rfl) (by kernel_rfl) (by kernel_rfl) (fun _ _ _ h => h) (by rfl) ?_ (by assumption) ?_
    rotate_left
    · (intro w hSw; (try dsimp only at hSw); have z1 := hSw.1; have z2 := hSw.2.1; have z4 := hSw.2.2.1; have z6 := hSw.2.2.2.1; have zn := hSw.2.2.2.2; go_simp; try with_reducible rfl)
    try simp only [Act.put, List.setIfInBounds_toArray, List.set_cons_zero, List.set_cons_succ]
    refine lex_take (i := 10) (v := ?_) rfl (by kernel_rfl) (by kernel_rfl) (by kernel_rfl) (fun _ _ _ h => h) (by rfl) ?_ (by assumption) ?_
    rotate_left
    · (intro w hSw; (try dsimp only at hSw); have z1 := hSw.1; have z2 := hSw.2.1; have z4 := hSw.2.2.1; have z6 := hSw.2.2.2.1; have zn := hSw.2.2.2.2; go_simp; try with_reducible rfl)
    try simp only [Act.put, List.setIfInBounds_toArray, List.set_cons_zero, List.set_cons_succ]
    refine lex_take (i := 11) (v := ?_) rfl (by kernel_rfl) (by kernel_rfl) (by kernel_rfl) (fun _ _ _ h => h) (by rfl) ?_ (by assumption) ?_
    rotate_left
    · (intro w hSw; (try dsimp only at hSw); have z1 := hSw.1; have z2 := hSw.2.1; have z4 := hSw.2.2.1; have z6 := hSw.2.2.2.1; have zn := hSw.2.2.2.2; go_simp; try with_reducible rfl)
    try simp only [Act.put, List.setIfInBounds_toArray, List.set_cons_zero, List.set_cons_succ]
    refine lex_take (i := 12) (v := ?_) rfl (by kernel_rfl) (by kernel_rfl) (by kernel_rfl) (fun _ _ _ h => h) (by rfl) ?_ (by assumption) ?_
    rotate_left
    · (intro w hSw; (try dsimp only at hSw); have z1 := hSw.1; have z2 := hSw.2.1; have z4 := hSw.2.2.1; have z6 := hSw.2.2.2.1; have zn := hSw.2.2.2.2; go_simp; try with_reducible rfl)
    try simp only [Act.put, List.setIfInBounds_toArray, List.set_cons_zero, List.set_cons_succ]
    refine lex_take (i := 13) (v := ?_) rfl (by kernel_rfl) (by kernel_rfl) (by kernel_rfl) (fun _ _ _ h => h) (by rfl) ?_ (by assumption) ?_
    rotate_left
    · (intro w hSw; (try dsimp only at hSw); have z1 := hSw.1; have z2 := hSw.2.1; have z4 := hSw.2.2.1; have z6 := hSw.2.2.2.1; have zn := hSw.2.2.2.2; go_simp; try with_reducible rfl)
    try simp only [Act.put, List.setIfInBounds_toArray, List.set_cons_zero, List.set_cons_succ]
    refine lex_take (i := 15) (v := ?_) rfl (by kernel_rfl) (by kernel_rfl) (by kernel_rfl) (fun _ _ _ h => h) (by rfl) ?_ (by assumption) ?_
    rotate_left
    · (intro w hSw; (try dsimp only at hSw); have z1 := hSw.1; have z2 := hSw.2.1; have z4 := hSw.2.2.1; have z6 := hSw.2.2.2.1; have zn := hSw.2.2.2.2; go_simp; try with_reducible rfl)
    try simp only [Act.put, List.setIfInBounds_toArray, List.set_cons_zero, List.set_cons_succ]
    refine lex_take (i := 16) (v := ?_) rfl (by kernel_rfl) (by kernel_rfl) (by kernel_rfl) (fun _ _ _ h => h) (by rfl) ?_ (by assumption) ?_
    rotate_left
    · (intro w hSw; (try dsimp only at hSw); have z1 := hSw.1; have z2 := hSw.2.1; have z4 := hSw.2.2.1; have z6 := hSw.2.2.2.1; have zn := hSw.2.2.2.2; go_simp; try with_reducible rfl)
    try simp only [Act.put, List.setIfInBounds_toArray, List.set_cons_zero, List.set_cons_succ]
    refine lex_take (i := 17) (v := ?_) rfl (by kernel_rfl) (by kernel_rfl) (by kernel_rfl) (fun _ _ _ h => h) (by rfl) ?_ (by assumption) ?_
    rotate_left
    · (intro w hSw; (try dsimp only at hSw); have z1 := hSw.1; have z2 := hSw.2.1; have z4 := hSw.2.2.1; have z6 := hSw.2.2.2.1; have zn := hSw.2.2.2.2; go_simp; try with_reducible rfl)
    try simp only [Act.put, List.setIfInBounds_toArray, List.set_cons_zero, List.set_cons_succ]
    refine lex_take (i := 18) (v := ?_) rfl (by kernel_rfl) (by kernel_rfl) (by kernel_rfl) (fun _ _ _ h => h) (by rfl) ?_ (by assumption) ?_
    rotate_left
    · (intro w hSw; (try dsimp only at hSw); have z1 := hSw.1; have z2 := hSw.2.1; have z4 := hSw.2.2.1; have z6 := hSw.2.2.2.1; have zn := hSw.2.2.2.2; go_simp; try with_reducible rfl)
    try simp only [Act.put, List.setIfInBounds_toArray, List.set_cons_zero, List.set_cons_succ]
    refine lex_n2 (i := 4) (j := 21) rfl rfl (by kernel_rfl) (by rfl) (by rfl) (fun Kx hKx => ?_) (fun Kx hKx => ?_)
    · (go_simp; go_at_call 13; (with_reducible refine (CX.out _ BV.out).mono ?_); rintro e V1 ⟨rfl, hb⟩; try go_wp2_with fail)
      refine hKx.out _ _ ?_ (fun hHeld => ?_)
      · (try dsimp only); exact KK.out _ (below_then BV.out hb)
      clear hKx Kx
      try simp only [Act.put, List.setIfInBounds_toArray, List.set_cons_zero, List.set_cons_succ]
      replace BV := Lib.hid (below_then BV.out hb)
      clear hb
      refine lex_n2 (i := 9) (j := 21) rfl rfl (by kernel_rfl) (by rfl) (by rfl) (fun Kx hKx => ?_) (fun Kx hKx => ?_)
      · (go_simp; go_at_call 11; (with_reducible refine (C1.out _ BV.out).mono ?_); rintro e V2 ⟨rfl, hb⟩; try go_wp2_with fail)
        refine hKx.out _ _ ?_ (fun hHeld => ?_)
        · (try dsimp only); exact KK.out _ (below_then BV.out hb)
        clear hKx Kx
        try simp only [Act.put, List.setIfInBounds_toArray, List.set_cons_zero, List.set_cons_succ]
        replace BV := Lib.hid (below_then BV.out hb)
        clear hb
        refine lex_n2 (i := 14) (j := 21) rfl rfl (by kernel_rfl) (by rfl) (by rfl) (fun Kx hKx => ?_) (fun Kx hKx => ?_)
        · (go_simp; go_at_call 11; (with_reducible refine (C4.out _ BV.out).mono ?_); rintro e V3 ⟨rfl, hb⟩; try go_wp2_with fail)
          refine hKx.out _ _ ?_ (fun hHeld => ?_)
          · (try dsimp only); exact KK.out _ (below_then BV.out hb)
          clear hKx Kx
          try simp only [Act.put, List.setIfInBounds_toArray, List.set_cons_zero, List.set_cons_succ]
          replace BV := Lib.hid (below_then BV.out hb)
          clear hb
          refine lex_n2 (i := 19) (j := 21) rfl rfl (by kernel_rfl) (by rfl) (by rfl) (fun Kx hKx => ?_) (fun Kx hKx => ?_)
          · (go_simp; go_at_call 11; (with_reducible refine (C6.out _ BV.out).mono ?_); rintro e V4 ⟨rfl, hb⟩; try go_wp2_with fail)
            refine hKx.out _ _ ?_ (fun hHeld => ?_)
            · (try dsimp only); exact KK.out _ (below_then BV.out hb)
            clear hKx Kx
            try simp only [Act.put, List.setIfInBounds_toArray, List.set_cons_zero, List.set_cons_succ]
            replace BV := Lib.hid (below_then BV.out hb)
            clear hb
            refine lex_take (i := 20) (v := ?_) rfl (by kernel_rfl) (by kernel_rfl) (by kernel_rfl) (fun _ _ _ h => h) (by rfl) ?_ (by assumption) ?_
            rotate_left
            · (intro w hSw; (try dsimp only at hSw); have z1 := hSw.1; have z2 := hSw.2.1; have z4 := hSw.2.2.1; have z6 := hSw.2.2.2.1; have zn := hSw.2.2.2.2; go_simp; try with_reducible rfl)
            try simp only [Act.put, List.setIfInBounds_toArray, List.set_cons_zero, List.set_cons_succ]
            refine lex_step (i := 21) rfl (by kernel_rfl) (by rfl) (fun Kx hKx => ?_)
            go_simp
            refine hKx.out _ _ ?_ (fun hHeld => ?_)
            · (try dsimp only); exact KK.out _ (below_new BV.out _)
            clear hKx Kx
            try simp only [Act.put, List.setIfInBounds_toArray, List.set_cons_zero, List.set_cons_succ]
            have hz6 := BV.out.size
            replace BV := Lib.hid (below_new BV.out rec0O)
            have A6 := Lib.hid (At.new V4 rec0O)
            obtain ⟨Z6, hZ6⟩ : ∃ Z, Z = V4.heap.size := ⟨_, rfl⟩
            rw [← hZ6] at A6 hz6 ⊢
            clear hZ6
            generalize World.alloc V4 _ = V5 at BV hHeld A6 ⊢
            exact hj Z6 V5 ⟨BV.out, A6.out, hz6⟩
          · go_simp
            refine hKx.out _ _ ?_ (fun hHeld => ?_)
            · (try dsimp only); exact KK.out _ (below_new BV.out _)
            clear hKx Kx
            try simp only [Act.put, List.setIfInBounds_toArray, List.set_cons_zero, List.set_cons_succ]
            have hz6 := BV.out.size
            replace BV := Lib.hid (below_new BV.out rec0O)
            have A6 := Lib.hid (At.new V3 rec0O)
            obtain ⟨Z6, hZ6⟩ : ∃ Z, Z = V3.heap.size := ⟨_, rfl⟩
            rw [← hZ6] at A6 hz6 ⊢
            clear hZ6
            generalize World.alloc V3 _ = V4 at BV hHeld A6 ⊢
            refine lex_step (i := 19) rfl (by kernel_rfl) (by rfl) (fun Kx hKx => ?_)
            (go_simp; go_at_call 11; (with_reducible refine (C6.out _ BV.out).mono ?_); rintro e V5 ⟨rfl, hb⟩; try go_wp2_with fail)
            refine hKx.out _ _ ?_ (fun hHeld => ?_)
            · (try dsimp only); exact KK.out _ (below_then BV.out hb)
            clear hKx Kx
            try simp only [Act.put, List.setIfInBounds_toArray, List.set_cons_zero, List.set_cons_succ]
            replace A6 := Lib.hid (A6.out.then_ hb)
            replace BV := Lib.hid (below_then BV.out hb)
            clear hb
            refine lex_take (i := 20) (v := ?_) rfl (by kernel_rfl) (by kernel_rfl) (by kernel_rfl) (fun _ _ _ h => h) (by rfl) ?_ (by assumption) ?_
            rotate_left
            · (intro w hSw; (try dsimp only at hSw); have z1 := hSw.1; have z2 := hSw.2.1; have z4 := hSw.2.2.1; have z6 := hSw.2.2.2.1; have zn := hSw.2.2.2.2; go_simp; try with_reducible rfl)
            try simp only [Act.put, List.setIfInBounds_toArray, List.set_cons_zero, List.set_cons_succ]
            exact hj Z6 V5 ⟨BV.out, A6.out, hz6⟩
        · go_simp
          refine hKx.out _ _ ?_ (fun hHeld => ?_)
          · (try dsimp only); exact KK.out _ (below_new BV.out _)
          clear hKx Kx
          try simp only [Act.put, List.setIfInBounds_toArray, List.set_cons_zero, List.set_cons_succ]
          have hz6 := BV.out.size
          replace BV := Lib.hid (below_new BV.out rec0O)
          have A6 := Lib.hid (At.new V2 rec0O)
          obtain ⟨Z6, hZ6⟩ : ∃ Z, Z = V2.heap.size := ⟨_, rfl⟩
          rw [← hZ6] at A6 hz6 ⊢
          clear hZ6
          generalize World.alloc V2 _ = V3 at BV hHeld A6 ⊢
          refine lex_step (i := 14) rfl (by kernel_rfl) (by rfl) (fun Kx hKx => ?_)
          (go_simp; go_at_call 11; (with_reducible refine (C4.out _ BV.out).mono ?_); rintro e V4 ⟨rfl, hb⟩; try go_wp2_with fail)
          refine hKx.out _ _ ?_ (fun hHeld => ?_)
          · (try dsimp only); exact KK.out _ (below_then BV.out hb)
          clear hKx Kx
          try simp only [Act.put, List.setIfInBounds_toArray, List.set_cons_zero, List.set_cons_succ]
          replace A6 := Lib.hid (A6.out.then_ hb)
          replace BV := Lib.hid (below_then BV.out hb)
          clear hb
          refine lex_step (i := 19) rfl (by kernel_rfl) (by rfl) (fun Kx hKx => ?_)
          (go_simp; go_at_call 11; (with_reducible refine (C6.out _ BV.out).mono ?_); rintro e V5 ⟨rfl, hb⟩; try go_wp2_with fail)
          refine hKx.out _ _ ?_ (fun hHeld => ?_)
          · (try dsimp only); exact KK.out _ (below_then BV.out hb)
          clear hKx Kx
          try simp only [Act.put, List.setIfInBounds_toArray, List.set_cons_zero, List.set_cons_succ]
          replace A6 := Lib.hid (A6.out.then_ hb)
          replace BV := Lib.hid (below_then BV.out hb)
          clear hb
          refine lex_take (i := 20) (v := ?_) rfl (by kernel_rfl) (by kernel_rfl) (by kernel_rfl) (fun _ _ _ h => h) (by rfl) ?_ (by assumption) ?_
          rotate_left
          · (intro w hSw; (try dsimp only at hSw); have z1 := hSw.1; have z2 := hSw.2.1; have z4 := hSw.2.2.1; have z6 := hSw.2.2.2.1; have zn := hSw.2.2.2.2; go_simp; try with_reducible rfl)
          try simp only [Act.put, List.setIfInBounds_toArray, List.set_cons_zero, List.set_cons_succ]
          exact hj Z6 V5 ⟨BV.out, A6.out, hz6⟩
      · go_simp
        refine hKx.out _ _ ?_ (fun hHeld => ?_)
        · (try dsimp only); exact KK.out _ (below_new BV.out _)
        clear hKx Kx
        try simp only [Act.put, List.setIfInBounds_toArray, List.set_cons_zero, List.set_cons_succ]
        have hz6 := BV.out.size
        replace BV := Lib.hid (below_new BV.out rec0O)
        have A6 := Lib.hid (At.new V1 rec0O)
        obtain ⟨Z6, hZ6⟩ : ∃ Z, Z = V1.heap.size := ⟨_, rfl⟩
        rw [← hZ6] at A6 hz6 ⊢
        clear hZ6
        generalize World.alloc V1 _ = V2 at BV hHeld A6 ⊢
        refine lex_step (i := 9) rfl (by kernel_rfl) (by rfl) (fun Kx hKx => ?_)
        (go_simp; go_at_call 11; (with_reducible refine (C1.out _ BV.out).mono ?_); rintro e V3 ⟨rfl, hb⟩; try go_wp2_with fail)
        refine hKx.out _ _ ?_ (fun hHeld => ?_)
        · (try dsimp only); exact KK.out _ (below_then BV.out hb)
        clear hKx Kx
        try simp only [Act.put, List.setIfInBounds_toArray, List.set_cons_zero, List.set_cons_succ]
        replace A6 := Lib.hid (A6.out.then_ hb)
        replace BV := Lib.hid (below_then BV.out hb)
        clear hb
        refine lex_step (i := 14) rfl (by kernel_rfl) (by rfl) (fun Kx hKx => ?_)
        (go_simp; go_at_call 11; (with_reducible refine (C4.out _ BV.out).mono ?_); rintro e V4 ⟨rfl, hb⟩; try go_wp2_with fail)
        refine hKx.out _ _ ?_ (fun hHeld => ?_)
        · (try dsimp only); exact KK.out _ (below_then BV.out hb)
        clear hKx Kx
        try simp only [Act.put, List.setIfInBounds_toArray, List.set_cons_zero, List.set_cons_succ]
        replace A6 := Lib.hid (A6.out.then_ hb)
        replace BV := Lib.hid (below_then BV.out hb)
        clear hb
        refine lex_step (i := 19) rfl (by kernel_rfl) (by rfl) (fun Kx hKx => ?_)
        (go_simp; go_at_call 11; (with_reducible refine (C6.out _ BV.out).mono ?_); rintro e V5 ⟨rfl, hb⟩; try go_wp2_with fail)
        refine hKx.out _ _ ?_ (fun hHeld => ?_)
        · (try dsimp only); exact KK.out _ (below_then BV.out hb)
        clear hKx Kx
        try simp only [Act.put, List.setIfInBounds_toArray, List.set_cons_zero, List.set_cons_succ]
        replace A6 := Lib.hid (A6.out.then_ hb)
        replace BV := Lib.hid (below_then BV.out hb)
        clear hb
        refine lex_take (i := 20) (v := ?_) rfl (by kernel_rfl) (by kernel_rfl) (by kernel_rfl) (fun _ _ _ h => h) (by rfl) ?_ (by assumption) ?_
        rotate_left
        · (intro w hSw; (try dsimp only at hSw); have z1 := hSw.1; have z2 := hSw.2.1; have z4 := hSw.2.2.1; have z6 := hSw.2.2.2.1; have zn := hSw.2.2.2.2; go_simp; try with_reducible rfl)
        try simp only [Act.put, List.setIfInBounds_toArray, List.set_cons_zero, List.set_cons_succ]
        exact hj Z6 V5 ⟨BV.out, A6.out, hz6⟩
    · go_simp
      refine hKx.out _ _ ?_ (fun hHeld => ?_)
      · (try dsimp only); exact KK.out _ (below_new BV.out _)
      clear hKx Kx
      try simp only [Act.put, List.setIfInBounds_toArray, List.set_cons_zero, List.set_cons_succ]
      have hz6 := BV.out.size
      replace BV := Lib.hid (below_new BV.out rec0O)
      have A6 := Lib.hid (At.new V0 rec0O)
      obtain ⟨Z6, hZ6⟩ : ∃ Z, Z = V0.heap.size := ⟨_, rfl⟩
      rw [← hZ6] at A6 hz6 ⊢
      clear hZ6
      generalize World.alloc V0 _ = V1 at BV hHeld A6 ⊢
      refine lex_step (i := 4) rfl (by kernel_rfl) (by rfl) (fun Kx hKx => ?_)
      (go_simp; go_at_call 13; (with_reducible refine (CX.out _ BV.out).mono ?_); rintro e V2 ⟨rfl, hb⟩; try go_wp2_with fail)
      refine hKx.out _ _ ?_ (fun hHeld => ?_)
      · (try dsimp only); exact KK.out _ (below_then BV.out hb)
      clear hKx Kx
      try simp only [Act.put, List.setIfInBounds_toArray, List.set_cons_zero, List.set_cons_succ]
      replace A6 := Lib.hid (A6.out.then_ hb)
      replace BV := Lib.hid (below_then BV.out hb)
      clear hb
      refine lex_step (i := 9) rfl (by kernel_rfl) (by rfl) (fun Kx hKx => ?_)
      (go_simp; go_at_call 11; (with_reducible refine (C1.out _ BV.out).mono ?_); rintro e V3 ⟨rfl, hb⟩; try go_wp2_with fail)
      refine hKx.out _ _ ?_ (fun hHeld => ?_)
      · (try dsimp only); exact KK.out _ (below_then BV.out hb)
      clear hKx Kx
      try simp only [Act.put, List.setIfInBounds_toArray, List.set_cons_zero, List.set_cons_succ]
      replace A6 := Lib.hid (A6.out.then_ hb)
      replace BV := Lib.hid (below_then BV.out hb)
      clear hb
      refine lex_step (i := 14) rfl (by kernel_rfl) (by rfl) (fun Kx hKx => ?_)
      (go_simp; go_at_call 11; (with_reducible refine (C4.out _ BV.out).mono ?_); rintro e V4 ⟨rfl, hb⟩; try go_wp2_with fail)
      refine hKx.out _ _ ?_ (fun hHeld => ?_)
      · (try dsimp only); exact KK.out _ (below_then BV.out hb)
      clear hKx Kx
      try simp only [Act.put, List.setIfInBounds_toArray, List.set_cons_zero, List.set_cons_succ]
      replace A6 := Lib.hid (A6.out.then_ hb)
      replace BV := Lib.hid (below_then BV.out hb)
      clear hb
      refine lex_step (i := 19) rfl (by kernel_rfl) (by rfl) (fun Kx hKx => ?_)
      (go_simp; go_at_call 11; (with_reducible refine (C6.out _ BV.out).mono ?_); rintro e V5 ⟨rfl, hb⟩; try go_wp2_with fail)
      refine hKx.out _ _ ?_ (fun hHeld => ?_)
      · (try dsimp only); exact KK.out _ (below_then BV.out hb)
      clear hKx Kx
      try simp only [Act.put, List.setIfInBounds_toArray, List.set_cons_zero, List.set_cons_succ]
      replace A6 := Lib.hid (A6.out.then_ hb)
      replace BV := Lib.hid (below_then BV.out hb)
      clear hb
      refine lex_take (i := 20) (v := ?_) rfl (by kernel_rfl) (by kernel_rfl) (by kernel_rfl) (fun _ _ _ h => h) (by rfl) ?_ (by assumption) ?_
      rotate_left
      · (intro w hSw; (try dsimp only at hSw); have z1 := hSw.1; have z2 := hSw.2.1; have z4 := hSw.2.2.1; have z6 := hSw.2.2.2.1; have zn := hSw.2.2.2.2; go_simp; try with_reducible rfl)
      try simp only [Act.put, List.setIfInBounds_toArray, List.set_cons_zero, List.set_cons_succ]
      exact hj Z6 V5 ⟨BV.out, A6.out, hz6⟩
  intro Z6 V6 ⟨bv, a6, hz6⟩
  have y0 := a6.cell 0; have y1 := a6.cell 1; have y2 := a6.cell 2; have y3 := a6.cell 3; have y4 := a6.cell 4; have y5 := a6.cell 5; have y6 := a6.cell 6; have y7 := a6.cell 7; simp at y0 y1 y2 y3 y4 y5 y6 y7
  have fz0 := a6.frozen 0; have fz1 := a6.frozen 1; have fz2 := a6.frozen 2; have fz3 := a6.frozen 3; have fz4 := a6.frozen 4; have fz5 := a6.frozen 5; have fz6 := a6.frozen 6; have fz7 := a6.frozen 7
  have hly := a6.lt
  refine lex_step (i := 22) rfl (by kernel_rfl) (by rfl) (fun Kx hKx => ?_)
  go_simp
  try go_wp2_with fail
  refine hKx.out _ _ ?_ (fun hHeld => ?_)
  · (try dsimp only); exact KK.out _ (below_set8 bv (p := Z6) hz6 _ _ _ _ _ _ _ _)
  clear hKx Kx
  refine wpAnyH_done (by kernel_rfl) ?_ _
  have a7 := a6.store8 (.int .i64 (idxU u2)) (.int .i64 (atoiV u1)) (.int .i64 (atoiV u4)) (.int .i64 0) (.int .i64 (atoiV u6)) (.slice none 0 0) (.slice none 0 0) (.slice none 0 0)
  have bv7 := below_set8 bv (p := Z6) hz6 (.int .i64 (idxU u2)) (.int .i64 (atoiV u1)) (.int .i64 (atoiV u4)) (.int .i64 0) (.int .i64 (atoiV u6)) (.slice none 0 0) (.slice none 0 0) (.slice none 0 0)
  clear a6 bv
  generalize World.setCell (World.setCell _ _ _) _ _ = W7 at a7 bv7 ⊢
  have bw := HBW.out W7 bv7
  have q1 := AN.out.lt; have q2 := AT3.out.lt; have q3 := R3.out.lt
  have I7 := Lib.hid (PI.start hu1 hu2 hu4 hu6 bw (R3.out.then_ bv7) (AT3.out.then_ bv7) (AN.out.then_ bv7) (by omega) (by omega) (by omega) a7)
  clear a7 bv7 bw q1 q2 q3 C1 C4 C6 CX KK BV hz6 hly y0 y1 y2 y3 y4 y5 y6 y7 fz0 fz1 fz2 fz3 fz4 fz5 fz6 fz7 R3 AT3 AN i1 i2 i4 i6 hHeld
  simp only [onlyN, Exit.then]
  apply_assumption
  gi_wp2_with fail
  have hlen : (spl 32 S).length ≤ 4294960001 := Nat.le_trans (spl_len 32 S) (by omega)
  have HI7 := Lib.hid (show (7 : Nat) ≤ (spl 32 S).length by omega)
  obtain ⟨i0, hi, hz0, hz1, hz2⟩ := info_parts intInfo
  refine wpIn_loop (fun a' w' => ∃ (j : Nat) (Ds : List Nat) (u8 u38 u39 u40 u41 u42 u43 u44 u45 u46 u47 u48 u49 u50 u58 u59 u60 u61 u62 u63 u64 u65 u66 u67 u68 u69 u70 u71 u72 u73 u74 u75 u76 u77 u78 u79 u80 u81 u82 u83 : Value), PI S w Q N Z6 j Ds w' ∧ j ≤ (spl 32 S).length + 1 ∧ a' = { tmps := #[.string ⟨S.toArray⟩, undef, .pointer (some ⟨w.heap.size, 0, none⟩), .int .i64 0, .slice (some ⟨Q, 0, none⟩) (spl 32 S).length (spl 32 S).length, .pointer (some ⟨N, 0, none⟩), .pointer (some ⟨Z6, 0, none⟩), .int .i64 (j : Int), u8, undef, undef, .string ⟨S.toArray⟩, .slice (some ⟨Q, 0, none⟩) (spl 32 S).length (spl 32 S).length, .slice (some ⟨Q, 0, none⟩) (spl 32 S).length (spl 32 S).length, .int .i64 ((spl 32 S).length : Int), .bool (decide (((spl 32 S).length : Int) < 7)), undef, .slice (some ⟨0, 0, none⟩) 5 5, .slice (some ⟨Q, 0, none⟩) (spl 32 S).length (spl 32 S).length, .pointer (some ⟨Q, 2, none⟩), .string ⟨u2.toArray⟩, .int .i64 (idxU u2), .func (.func 11) #[] #[], .slice (some ⟨Q, 0, none⟩) (spl 32 S).length (spl 32 S).length, .pointer (some ⟨Q, 1, none⟩), .string ⟨u1.toArray⟩, .int .i64 (atoiV u1), .func (.func 11) #[] #[], .slice (some ⟨Q, 0, none⟩) (spl 32 S).length (spl 32 S).length, .pointer (some ⟨Q, 4, none⟩), .string ⟨u4.toArray⟩, .int .i64 (atoiV u4), .func (.func 11) #[] #[], .slice (some ⟨Q, 0, none⟩) (spl 32 S).length (spl 32 S).length, .pointer (some ⟨Q, 6, none⟩), .string ⟨u6.toArray⟩, .int .i64 (atoiV u6), .agg #[.int .i64 (idxU u2), .int .i64 (atoiV u1), .int .i64 (atoiV u4), .int .i64 0, .int .i64 (atoiV u6), .slice none 0 0, .slice none 0 0, .slice none 0 0], u38, u39, u40, u41, u42, u43, u44, u45, u46, u47, u48, u49, u50, undef, undef, undef, undef, undef, undef, undef, u58, u59, u60, u61, u62, u63, u64, u65, u66, u67, u68, u69, u70, u71, u72, u73, u74, u75, u76, u77, u78, u79, u80, u81, u82, u83, undef, undef, undef, undef, undef, undef, undef, undef, undef, undef, undef, undef, undef, undef, undef, undef, undef], defers := Ds.map markD })
    (fun a' _ => (spl 32 S).length + 3 - (intOf (a'.tmps.getD 7 undef)).toNat) ?h0 ?round
  case h0 => exact ⟨7, [], _, _, _, _, _, _, _, _, _, _, _, _, _, _, _, _, _, _, _, _, _, _, _, _, _, _, _, _, _, _, _, _, _, _, _, _, _, _, _, _, I7.out, by have := HI7.out; omega, rfl⟩
  case round =>
    rintro a' wr ⟨j, Ds, u8, u38, u39, u40, u41, u42, u43, u44, u45, u46, u47, u48, u49, u50, u58, u59, u60, u61, u62, u63, u64, u65, u66, u67, u68, u69, u70, u71, u72, u73, u74, u75, u76, u77, u78, u79, u80, u81, u82, u83, hPI, hj, rfl⟩
    have HP0 := Lib.hid hPI
    clear hPI I7 HI7
    by_cases hlt : j + 1 < (spl 32 S).length
    · obtain ⟨k, hk0⟩ : ∃ k, (spl 32 S)[j]? = some k := ⟨_, List.getElem?_eq_getElem (by omega)⟩
      obtain ⟨v, hv0⟩ : ∃ v, (spl 32 S)[j + 1]? = some v := ⟨_, List.getElem?_eq_getElem (by omega)⟩
      have t1 : (j : Int) + 1 < ((spl 32 S).length : Int) := by omega
      have HBr := Lib.hid HP0.out.1.1
      have AQr := Lib.hid HP0.out.1.2.2.1
      have ANr := Lib.hid HP0.out.1.2.2.2.1
      have hwr := HBr.out.size
      have hQr := AQr.out.lt
      have cv := wd_cell AQr.out hv0
      gi_wp2_with fail
      refine ⟨trivial, ?_⟩
      gi_at_call 14
      refine (callsIn_wide.2 (str_SplitSeq ⟨v.toArray⟩ ⟨#[44]⟩ _)).mono ?_
      rintro e W2 ⟨rfl, hw2⟩
      have bO := Boxed.new wr 22 (.slice none 0 0)
      have hb1 := below_new (Below.refl wr.heap.size wr) (.cells #[.slice none 0 0] 22)
      obtain ⟨q0, q1, q2⟩ := seqW_boxes ⟨v.toArray⟩ ⟨#[44]⟩ (wr.alloc (.cells #[.slice none 0 0] 22))
      have hw3 : W2 = seqW ⟨v.toArray⟩ ⟨#[44]⟩ (wr.alloc (.cells #[.slice none 0 0] 22)) := hw2
      clear hw2
      rw [← hw3] at q0 q1 q2
      simp only [World.size_alloc] at q0 q1 q2 ⊢
      have BO2 := Lib.hid (show Boxed W2 wr.heap.size 22 (.slice none 0 0) by rw [hw3]; exact ((bO.alloc _).alloc _).alloc _)
      have B2r := Lib.hid (show Below wr.heap.size wr W2 by rw [hw3]; exact seqW_below _ _ hb1)
      have hs2 : W2.heap.size = wr.heap.size + 4 := by rw [hw3, seqW_size]; simp only [World.size_alloc]
      clear hw3 bO hb1
      gi_wp2_with fail
      refine range_box (n := 3) (gf := 52) (lb := _) rfl (enters_of Tryz.func52 (by kernel_rfl) rfl) (b := wr.heap.size + 1) (K := KB1 (wr.heap.size + 1)) (xs := pcs ⟨#[44]⟩ ⟨v.toArray⟩) (by omega) (fun k hk => by have := KB1_lt hk; omega)
        (split_seq 2 ⟨v.toArray⟩ ⟨#[44]⟩ (by decide) (by show v.toArray.size ≤ _; simp; have := ul v (List.mem_of_getElem? hv0); omega) (by decide) (wr.heap.size + 1) (fun _ => False) (fun h => h) W2 q0 q1 q2 (idx_byte 44 _ _ _)) (fun _ => rfl)
        (RowP wr.heap.size wr) (fun _ _ _ => False) (rowI_own _ (by omega) (Nat.le_refl _)) (fun _ _ _ _ _ hs _ _ => hs) (rowI_minds _ (by omega) (by omega) (by omega) (Nat.le_refl _))
        ⟨⟨⟨_, BO2.out, World.ownsRow_nil _ _ _ _⟩, B2r.out⟩, by omega⟩ _ (by intro l x W G hG; gi_wp2; exact hG) ?body ?done ?stop
      case body =>
        rintro l pre x W ⟨⟨⟨v1, hv, hrow⟩, hB⟩, hLW⟩ ⟨r, hx⟩
        have hrow := (show W.ownsRow (wr.heap.size + 4) 3 1 v1 pre.length (pre.map fun x => Value.int .i64 (atoiV x.data.toList)) by simpa using hrow)
        have hxs : x.size ≤ 4294960000 := by
          have h1 := pcs_size 44 ⟨v.toArray⟩ x (by rw [hx]; simp)
          have h2 : (⟨v.toArray⟩ : ByteArray).size = v.length := by show v.toArray.size = _; simp
          have h3 := ul v (List.mem_of_getElem? hv0)
          omega
        have hpl : pre.length + 1 ≤ 4294960001 := by
          have h1 := pcs_len 44 ⟨v.toArray⟩
          rw [hx] at h1
          have h2 : (⟨v.toArray⟩ : ByteArray).size = v.length := by show v.toArray.size = _; simp
          have h3 := ul v (List.mem_of_getElem? hv0)
          simp at h1
          omega
        have hsW := hB.size
        have CA := Lib.hid (fun (V : World) (hV : Below W.heap.size W V) => show Calls Tryz.prog 11 #[.string x] V (fun e w' => e = .returned (.int .i64 (atoiV x.data.toList)) ∧ Below V.heap.size V w') from recur_number x V (by omega) (HE.out.below ((HBr.out.trans (hB.mono hwr)).trans (hV.mono (by omega)))))
        have HN0 := Lib.hid ((ANr.out.cell 0 : wr.cell? ⟨N, 0, none⟩ = _))
        have hNl := ANr.out.lt
        have KN := Lib.hid (fun (V : World) (hV : Below W.heap.size W V) => show V.cell? ⟨N, 0, none⟩ = some (.func (.func 11) #[] #[]) from (hV.cell (p := ⟨N, 0, none⟩) (by show N < _; omega)).trans ((hB.cell (p := ⟨N, 0, none⟩) hNl).trans HN0.out))
        replace HN0 := Lib.hid (KN.out W (Below.refl _ _))
        gi_wp2_with fail
        refine only_normal ?_
        refine round_held (S := fun w' => w'.cell? ⟨N, 0, none⟩ = some (.func (.func 11) #[] #[])) (by kernel_rfl) (by kernel_rfl) ?_ (fun hHeld => ?_)
        · exact KN.out _ (Below.refl _ _).drew
        have BV := Lib.hid (Below.refl W.heap.size W).drew
        have BX := Lib.hid (show Boxed W.drew wr.heap.size 22 v1 from hv)
        have OW := Lib.hid (own_thenS hrow (Below.refl W.heap.size W).drew)
        have hc := BX.out.cell
        generalize World.drew W = V0 at BV BX OW hc hHeld ⊢
        refine lex_take (i := 1) (v := ?_) rfl (by kernel_rfl) (by kernel_rfl) (by kernel_rfl) (fun _ _ _ h => h) (by rfl) ?_ (by assumption) ?_
        rotate_left
        · (intro w hSw; (try dsimp only at hSw); have zN := hSw; go_simp; try with_reducible rfl)
        try simp only [Act.put, List.setIfInBounds_toArray, List.set_cons_zero, List.set_cons_succ]
        refine lex_take (i := 2) (v := ?_) rfl (by kernel_rfl) (by kernel_rfl) (by kernel_rfl) (fun _ _ _ h => h) (by rfl) ?_ (by assumption) ?_
        rotate_left
        · (intro w hSw; (try dsimp only at hSw); go_simp; try with_reducible rfl)
        try simp only [Act.put, List.setIfInBounds_toArray, List.set_cons_zero, List.set_cons_succ]
        refine lex_n2 (i := 0) (j := 3) rfl rfl (by kernel_rfl) (by rfl) (by rfl) (fun Kx hKx => ?_) (fun Kx hKx => ?_)
        · go_simp
          refine hKx.out _ _ ?_ (fun hHeld => ?_)
          · (try dsimp only); assumption
          clear hKx Kx
          try simp only [Act.put, List.setIfInBounds_toArray, List.set_cons_zero, List.set_cons_succ]
          refine lex_step (i := 3) rfl (by kernel_rfl) (by rfl) (fun Kx hKx => ?_)
          (go_simp; go_at_call 11; (with_reducible refine (CA.out _ BV.out).mono ?_); rintro e V2 ⟨rfl, hb⟩; try go_wp2_with fail)
          refine hKx.out _ _ ?_ (fun hHeld => ?_)
          · (try dsimp only); exact KN.out _ (below_then BV.out hb)
          clear hKx Kx
          try simp only [Act.put, List.setIfInBounds_toArray, List.set_cons_zero, List.set_cons_succ]
          replace BX := Lib.hid (boxed_of BX.out (hb.block _ BX.out.lt))
          replace OW := Lib.hid (own_thenS OW.out hb)
          replace BV := Lib.hid (below_then BV.out hb)
          replace hc := BX.out.cell
          clear hb
          refine lex_step (i := 4) rfl (by kernel_rfl) (by rfl) (fun Kx hKx => ?_)
          go_simp
          refine hKx.out _ _ ?_ (fun hHeld => ?_)
          · (try dsimp only); exact KN.out _ (below_new BV.out _)
          clear hKx Kx
          try simp only [Act.put, List.setIfInBounds_toArray, List.set_cons_zero, List.set_cons_succ]
          have ZN := World.size_alloc V2 (.cells #[.int .i64 (atoiV x.data.toList)] 3)
          have CZ := Lib.hid (cell_one_new V2 (.int .i64 (atoiV x.data.toList)) 3)
          have AO := Lib.hid (OW.out.alloc (.cells #[.int .i64 (atoiV x.data.toList)] 3))
          replace hc := (show Boxed (V2.alloc (.cells #[.int .i64 (atoiV x.data.toList)] 3)) _ _ _ from BX.out.alloc (.cells #[.int .i64 (atoiV x.data.toList)] 3)).cell
          obtain ⟨V3, hV4⟩ : ∃ W, W = World.alloc V2 (.cells #[.int .i64 (atoiV x.data.toList)] 3) := ⟨_, rfl⟩
          rw [← hV4] at ZN CZ AO hc hHeld ⊢
          have HV4 := Lib.hid hV4
          have BV4 := Lib.hid (show Below W.heap.size W V3 by rw [hV4]; exact below_new BV.out (.cells #[.int .i64 (atoiV x.data.toList)] 3))
          obtain ⟨ZC, hZC⟩ : ∃ Z, Z = V2.heap.size := ⟨_, rfl⟩
          rw [← hZC] at ZN CZ ⊢
          have HZC := Lib.hid hZC
          have BXp := Lib.hid (show Boxed V2 _ _ _ from BX.out)
          clear hV4 hZC
          refine lex_step (i := 5) rfl (by kernel_rfl) (by rfl) (fun Kx hKx => ?_)
          (refine wp_append_lies (w := V3) _ _ _ (by rfl) (wr.heap.size + 4) 3 i0 (.int .i64 0) 1 8 Tryz.underlying22 hi hz0 hz1 hz2 rfl (by decide) v1 pre.length _ (by rfl) AO.out ⟨ZC, 0, none⟩ 1 1 [.int .i64 (atoiV x.data.toList)] (by rfl) (by rfl) CZ.out (by simp [Value.oneCell']) (by decide) (by unfold maxLen; omega) (by omega) (by have := BV4.out.size; omega) _ rfl ?_; intro g10 cap10 V4 own10 hgrow _ _; obtain ⟨hv1, hv2, hr2, hk2, hb2, hf2⟩ := grow_box BXp.out (by decide) OW.out (by omega) (by have := BV.out.size; omega) own10 (by rw [← HV4.out]; exact hgrow); have hlo := hv1.lt; have hf1 := hv1.frozen; replace hc := hv1.cell; have hN1 := (hf2 N (by omega) (by omega)).trans (BV.out.block N (by omega)))
          refine hKx.out _ _ ?_ (fun hHeld => ?_)
          · (try dsimp only); exact (cell_same ((Below.heap_setCell _ _ _ N (by show N ≠ wr.heap.size; omega)).symm.trans hN1)).trans HN0.out
          clear hKx Kx
          try simp only [Act.put, List.setIfInBounds_toArray, List.set_cons_zero, List.set_cons_succ]
          refine lex_step (i := 6) rfl (by kernel_rfl) (by rfl) (fun Kx hKx => ?_)
          go_simp
          refine hKx.out _ _ ?_ (fun hHeld => ?_)
          · (try dsimp only); exact (cell_same hN1).trans HN0.out
          clear hKx Kx
          try simp only [Act.put, List.setIfInBounds_toArray, List.set_cons_zero, List.set_cons_succ]
          refine wpAnyH_done (by kernel_rfl) ?_ _
          have hsz := hk2.size
          have hsV := BV.out.size
          exact ⟨(keepsB BV.out).trans (hk2.from _), holds_of (W := W) (L := wr.heap.size + 4) (o := wr.heap.size) (fun k h1 h2 => (hf2 k h1 h2).trans (BV.out.block k (by omega))) (fun k hk => by have := KB1_lt hk; omega), ⟨⟨_, hv2, by simpa using hr2⟩, (hB.trans (BV.out.mono hB.size)).trans hb2⟩, by omega⟩
        · (go_simp; go_at_call 11; (with_reducible refine (CA.out _ BV.out).mono ?_); rintro e V1 ⟨rfl, hb⟩; try go_wp2_with fail)
          refine hKx.out _ _ ?_ (fun hHeld => ?_)
          · (try dsimp only); exact KN.out _ (below_then BV.out hb)
          clear hKx Kx
          try simp only [Act.put, List.setIfInBounds_toArray, List.set_cons_zero, List.set_cons_succ]
          replace BX := Lib.hid (boxed_of BX.out (hb.block _ BX.out.lt))
          replace OW := Lib.hid (own_thenS OW.out hb)
          replace BV := Lib.hid (below_then BV.out hb)
          replace hc := BX.out.cell
          clear hb
          refine lex_n2 (i := 0) (j := 4) rfl rfl (by kernel_rfl) (by rfl) (by rfl) (fun Kx hKx => ?_) (fun Kx hKx => ?_)
          · go_simp
            refine hKx.out _ _ ?_ (fun hHeld => ?_)
            · (try dsimp only); assumption
            clear hKx Kx
            try simp only [Act.put, List.setIfInBounds_toArray, List.set_cons_zero, List.set_cons_succ]
            refine lex_step (i := 4) rfl (by kernel_rfl) (by rfl) (fun Kx hKx => ?_)
            go_simp
            refine hKx.out _ _ ?_ (fun hHeld => ?_)
            · (try dsimp only); exact KN.out _ (below_new BV.out _)
            clear hKx Kx
            try simp only [Act.put, List.setIfInBounds_toArray, List.set_cons_zero, List.set_cons_succ]
            have ZN := World.size_alloc V1 (.cells #[.int .i64 (atoiV x.data.toList)] 3)
            have CZ := Lib.hid (cell_one_new V1 (.int .i64 (atoiV x.data.toList)) 3)
            have AO := Lib.hid (OW.out.alloc (.cells #[.int .i64 (atoiV x.data.toList)] 3))
            replace hc := (show Boxed (V1.alloc (.cells #[.int .i64 (atoiV x.data.toList)] 3)) _ _ _ from BX.out.alloc (.cells #[.int .i64 (atoiV x.data.toList)] 3)).cell
            obtain ⟨V3, hV4⟩ : ∃ W, W = World.alloc V1 (.cells #[.int .i64 (atoiV x.data.toList)] 3) := ⟨_, rfl⟩
            rw [← hV4] at ZN CZ AO hc hHeld ⊢
            have HV4 := Lib.hid hV4
            have BV4 := Lib.hid (show Below W.heap.size W V3 by rw [hV4]; exact below_new BV.out (.cells #[.int .i64 (atoiV x.data.toList)] 3))
            obtain ⟨ZC, hZC⟩ : ∃ Z, Z = V1.heap.size := ⟨_, rfl⟩
            rw [← hZC] at ZN CZ ⊢
            have HZC := Lib.hid hZC
            have BXp := Lib.hid (show Boxed V1 _ _ _ from BX.out)
            clear hV4 hZC
            refine lex_step (i := 5) rfl (by kernel_rfl) (by rfl) (fun Kx hKx => ?_)
            (refine wp_append_lies (w := V3) _ _ _ (by rfl) (wr.heap.size + 4) 3 i0 (.int .i64 0) 1 8 Tryz.underlying22 hi hz0 hz1 hz2 rfl (by decide) v1 pre.length _ (by rfl) AO.out ⟨ZC, 0, none⟩ 1 1 [.int .i64 (atoiV x.data.toList)] (by rfl) (by rfl) CZ.out (by simp [Value.oneCell']) (by decide) (by unfold maxLen; omega) (by omega) (by have := BV4.out.size; omega) _ rfl ?_; intro g10 cap10 V4 own10 hgrow _ _; obtain ⟨hv1, hv2, hr2, hk2, hb2, hf2⟩ := grow_box BXp.out (by decide) OW.out (by omega) (by have := BV.out.size; omega) own10 (by rw [← HV4.out]; exact hgrow); have hlo := hv1.lt; have hf1 := hv1.frozen; replace hc := hv1.cell; have hN1 := (hf2 N (by omega) (by omega)).trans (BV.out.block N (by omega)))
            refine hKx.out _ _ ?_ (fun hHeld => ?_)
            · (try dsimp only); exact (cell_same ((Below.heap_setCell _ _ _ N (by show N ≠ wr.heap.size; omega)).symm.trans hN1)).trans HN0.out
            clear hKx Kx
            try simp only [Act.put, List.setIfInBounds_toArray, List.set_cons_zero, List.set_cons_succ]
            refine lex_step (i := 6) rfl (by kernel_rfl) (by rfl) (fun Kx hKx => ?_)
            go_simp
            refine hKx.out _ _ ?_ (fun hHeld => ?_)
            · (try dsimp only); exact (cell_same hN1).trans HN0.out
            clear hKx Kx
            try simp only [Act.put, List.setIfInBounds_toArray, List.set_cons_zero, List.set_cons_succ]
            refine wpAnyH_done (by kernel_rfl) ?_ _
            have hsz := hk2.size
            have hsV := BV.out.size
            exact ⟨(keepsB BV.out).trans (hk2.from _), holds_of (W := W) (L := wr.heap.size + 4) (o := wr.heap.size) (fun k h1 h2 => (hf2 k h1 h2).trans (BV.out.block k (by omega))) (fun k hk => by have := KB1_lt hk; omega), ⟨⟨_, hv2, by simpa using hr2⟩, (hB.trans (BV.out.mono hB.size)).trans hb2⟩, by omega⟩
          · go_simp
            refine hKx.out _ _ ?_ (fun hHeld => ?_)
            · (try dsimp only); exact KN.out _ (below_new BV.out _)
            clear hKx Kx
            try simp only [Act.put, List.setIfInBounds_toArray, List.set_cons_zero, List.set_cons_succ]
            have ZN := World.size_alloc V1 (.cells #[.int .i64 (atoiV x.data.toList)] 3)
            have CZ := Lib.hid (cell_one_new V1 (.int .i64 (atoiV x.data.toList)) 3)
            have AO := Lib.hid (OW.out.alloc (.cells #[.int .i64 (atoiV x.data.toList)] 3))
            replace hc := (show Boxed (V1.alloc (.cells #[.int .i64 (atoiV x.data.toList)] 3)) _ _ _ from BX.out.alloc (.cells #[.int .i64 (atoiV x.data.toList)] 3)).cell
            obtain ⟨V2, hV4⟩ : ∃ W, W = World.alloc V1 (.cells #[.int .i64 (atoiV x.data.toList)] 3) := ⟨_, rfl⟩
            rw [← hV4] at ZN CZ AO hc hHeld ⊢
            have HV4 := Lib.hid hV4
            have BV4 := Lib.hid (show Below W.heap.size W V2 by rw [hV4]; exact below_new BV.out (.cells #[.int .i64 (atoiV x.data.toList)] 3))
            obtain ⟨ZC, hZC⟩ : ∃ Z, Z = V1.heap.size := ⟨_, rfl⟩
            rw [← hZC] at ZN CZ ⊢
            have HZC := Lib.hid hZC
            have BXp := Lib.hid (show Boxed V1 _ _ _ from BX.out)
            clear hV4 hZC
            refine lex_step (i := 0) rfl (by kernel_rfl) (by rfl) (fun Kx hKx => ?_)
            go_simp
            refine hKx.out _ _ ?_ (fun hHeld => ?_)
            · (try dsimp only); assumption
            clear hKx Kx
            try simp only [Act.put, List.setIfInBounds_toArray, List.set_cons_zero, List.set_cons_succ]
            refine lex_step (i := 5) rfl (by kernel_rfl) (by rfl) (fun Kx hKx => ?_)
            (refine wp_append_lies (w := V2) _ _ _ (by rfl) (wr.heap.size + 4) 3 i0 (.int .i64 0) 1 8 Tryz.underlying22 hi hz0 hz1 hz2 rfl (by decide) v1 pre.length _ (by rfl) AO.out ⟨ZC, 0, none⟩ 1 1 [.int .i64 (atoiV x.data.toList)] (by rfl) (by rfl) CZ.out (by simp [Value.oneCell']) (by decide) (by unfold maxLen; omega) (by omega) (by have := BV4.out.size; omega) _ rfl ?_; intro g10 cap10 V4 own10 hgrow _ _; obtain ⟨hv1, hv2, hr2, hk2, hb2, hf2⟩ := grow_box BXp.out (by decide) OW.out (by omega) (by have := BV.out.size; omega) own10 (by rw [← HV4.out]; exact hgrow); have hlo := hv1.lt; have hf1 := hv1.frozen; replace hc := hv1.cell; have hN1 := (hf2 N (by omega) (by omega)).trans (BV.out.block N (by omega)))
            refine hKx.out _ _ ?_ (fun hHeld => ?_)
            · (try dsimp only); exact (cell_same ((Below.heap_setCell _ _ _ N (by show N ≠ wr.heap.size; omega)).symm.trans hN1)).trans HN0.out
            clear hKx Kx
            try simp only [Act.put, List.setIfInBounds_toArray, List.set_cons_zero, List.set_cons_succ]
            refine lex_step (i := 6) rfl (by kernel_rfl) (by rfl) (fun Kx hKx => ?_)
            go_simp
            refine hKx.out _ _ ?_ (fun hHeld => ?_)
            · (try dsimp only); exact (cell_same hN1).trans HN0.out
            clear hKx Kx
            try simp only [Act.put, List.setIfInBounds_toArray, List.set_cons_zero, List.set_cons_succ]
            refine wpAnyH_done (by kernel_rfl) ?_ _
            have hsz := hk2.size
            have hsV := BV.out.size
            exact ⟨(keepsB BV.out).trans (hk2.from _), holds_of (W := W) (L := wr.heap.size + 4) (o := wr.heap.size) (fun k h1 h2 => (hf2 k h1 h2).trans (BV.out.block k (by omega))) (fun k hk => by have := KB1_lt hk; omega), ⟨⟨_, hv2, by simpa using hr2⟩, (hB.trans (BV.out.mono hB.size)).trans hb2⟩, by omega⟩
      case stop =>
        rintro D c pre W _ _ h _
        exact h.elim
      case done =>
          rintro D W hD ⟨⟨⟨v1, hv, hrow⟩, hB⟩, hLW⟩ hK
          have hrow2 : W.ownsRow (wr.heap.size + 4) 3 1 v1 (numsOf v).length ((numsOf v).map (Value.int .i64)) := by
            rw [← nums_pcs v, List.map_map, List.length_map]
            simpa [Function.comp_def] using hrow
          have hvI : ∀ x ∈ numsOf v, I64 x := by
            intro x hx
            unfold numsOf at hx
            obtain ⟨y, _, rfl⟩ := List.mem_map.1 hx
            exact atoiV_i64 y
          obtain ⟨ar, cr, rfl, _, _, _⟩ := own_ints hrow2 hvI rfl
          have hZ6 := HP0.out.1.2.2.2.2.2.2.2.2.2
          have PR := Lib.hid (PInts.own (Z := Z6) hrow2 (by omega) rfl hvI (nums_len v (ul v (List.mem_of_getElem? hv0))))
          have PD := Lib.hid ((HP0.out.then_ hB).mark hK (by omega) (HP0.out.fresh (by omega)))
          have HBW0 := Lib.hid hB
          have cb := hv.cell
          have AQW := Lib.hid (AQr.out.then_ hB)
          have cv1 := wd_cell AQW.out hv0
          have ck1 := wd_cell AQW.out hk0
          have hQW := AQW.out.lt
          obtain ⟨⟨-, -, -, -, -, -, qZ0, qZ1, qZ2, hzl⟩, cn, xs, ys, zs, a1, a2, a3, n1, n2, n3, c1, c2, c3, kz, -⟩ := PD.out
          have z0 := kz.cell 0; have z1 := kz.cell 1; have z2 := kz.cell 2; have z3 := kz.cell 3; have z4 := kz.cell 4; have z5 := kz.cell 5; have z6 := kz.cell 6; have z7 := kz.cell 7; simp at z0 z1 z2 z3 z4 z5 z6 z7
          have f0 := kz.frozen 0; have f1 := kz.frozen 1; have f2 := kz.frozen 2; have f3 := kz.frozen 3; have f4 := kz.frozen 4; have f5 := kz.frozen 5; have f6 := kz.frozen 6; have f7 := kz.frozen 7
          obtain ⟨NV, hNV⟩ : ∃ n, n = (numsOf v).length := ⟨_, rfl⟩
          rw [← hNV] at cb
          have HNV := Lib.hid hNV
          clear hNV hv hrow hrow2 hB hK kz hvI cv q0 q1 q2
          have ME := Lib.hid (show (spl 32 S).length + 3 - (j + 2) < (spl 32 S).length + 3 - j by omega)
          by_cases e1 : k = wTimes
          · subst e1
            gi_wp2_with fail
            have KK15 := Lib.hid (fun (V : World) (hV : Below W.heap.size W V) => show V.cell? ⟨Q, j + 1, none⟩ = some (.string ⟨v.toArray⟩) ∧ V.cell? ⟨N, 0, none⟩ = some (.func (.func 11) #[] #[]) from ⟨wd_cell (AQW.out.then_ hV) hv0, (PD.out.then_ hV).1.2.2.2.1.cell 0⟩)
            have CV := Lib.hid (fun (V : World) (hV : Below W.heap.size W V) => show Calls Tryz.prog 11 #[.string ⟨v.toArray⟩] V (fun e w' => e = .returned (.int .i64 (atoiV v)) ∧ Below V.heap.size V w') from by
              have h := recur_number ⟨v.toArray⟩ V (by have := ul v (List.mem_of_getElem? hv0); show v.toArray.size ≤ _; simp; omega) (HE.out.below (PD.out.then_ hV).1.1)
              rw [show (⟨v.toArray⟩ : ByteArray).data.toList = v by simp] at h
              exact h)
            have wj : IntKind.i64.wrap ((j : Int) + 1) = (j : Int) + 1 := IntWalk.i64_in _ (by omega)
            have wj0 : (0 : Int) ≤ (j : Int) + 1 := by omega
            have wj2 : ((j : Int) + 1).toNat = j + 1 := by omega
            refine only_normal (wpIn_wide.2 ?_)
            refine wp_region_held_drew (S := (fun w' => w'.cell? ⟨Q, j + 1, none⟩ = some (.string ⟨v.toArray⟩) ∧ w'.cell? ⟨N, 0, none⟩ = some (.func (.func 11) #[] #[]))) (by kernel_rfl) ?_ (fun hHeld => ?_)
            · (try dsimp only); exact KK15.out _ (Below.refl _ _).drew
            have BV := Lib.hid (Below.refl W.heap.size W).drew
            clear z0 z1 z2 z3 z4 z5 z6 z7 f0 f1 f2 f3 f4 f5 f6 f7 hzl
            generalize World.drew W = V0 at BV hHeld ⊢
            refine lex_take (i := 0) (v := ?_) rfl (by kernel_rfl) (by kernel_rfl) (by kernel_rfl) (fun _ _ _ h => h) (by rfl) ?_ (by assumption) ?_
            rotate_left
            · (intro w hSw; (try dsimp only at hSw); have zv := hSw.1; have zn := hSw.2; go_simp; try with_reducible rfl)
            try simp only [Act.put, List.setIfInBounds_toArray, List.set_cons_zero, List.set_cons_succ]
            refine lex_take (i := 1) (v := ?_) rfl (by kernel_rfl) (by kernel_rfl) (by kernel_rfl) (fun _ _ _ h => h) (by rfl) ?_ (by assumption) ?_
            rotate_left
            · (intro w hSw; (try dsimp only at hSw); have zv := hSw.1; have zn := hSw.2; go_simp; try with_reducible rfl)
            try simp only [Act.put, List.setIfInBounds_toArray, List.set_cons_zero, List.set_cons_succ]
            refine lex_take (i := 2) (v := ?_) rfl (by kernel_rfl) (by kernel_rfl) (by kernel_rfl) (fun _ _ _ h => h) (by rfl) ?_ (by assumption) ?_
            rotate_left
            · (intro w hSw; (try dsimp only at hSw); have zv := hSw.1; have zn := hSw.2; go_simp; try with_reducible rfl)
            try simp only [Act.put, List.setIfInBounds_toArray, List.set_cons_zero, List.set_cons_succ]
            refine lex_take (i := 3) (v := ?_) rfl (by kernel_rfl) (by kernel_rfl) (by kernel_rfl) (fun _ _ _ h => h) (by rfl) ?_ (by assumption) ?_
            rotate_left
            · (intro w hSw; (try dsimp only at hSw); have zv := hSw.1; have zn := hSw.2; go_simp; try with_reducible rfl)
            try simp only [Act.put, List.setIfInBounds_toArray, List.set_cons_zero, List.set_cons_succ]
            refine lex_take (i := 4) (v := ?_) rfl (by kernel_rfl) (by kernel_rfl) (by kernel_rfl) (fun _ _ _ h => h) (by rfl) ?_ (by assumption) ?_
            rotate_left
            · (intro w hSw; (try dsimp only at hSw); have zv := hSw.1; have zn := hSw.2; go_simp; try with_reducible rfl)
            try simp only [Act.put, List.setIfInBounds_toArray, List.set_cons_zero, List.set_cons_succ]
            refine lex_take (i := 5) (v := ?_) rfl (by kernel_rfl) (by kernel_rfl) (by kernel_rfl) (fun _ _ _ h => h) (by rfl) ?_ (by assumption) ?_
            rotate_left
            · (intro w hSw; (try dsimp only at hSw); have zv := hSw.1; have zn := hSw.2; go_simp; try with_reducible rfl)
            try simp only [Act.put, List.setIfInBounds_toArray, List.set_cons_zero, List.set_cons_succ]
            refine lex_step (i := 6) rfl (by kernel_rfl) (by rfl) (fun Kx hKx => ?_)
            (go_simp; go_at_call 11; (with_reducible refine (CV.out _ BV.out).mono ?_); rintro e V5 ⟨rfl, hb⟩; try go_wp2_with fail)
            refine hKx.out _ _ ?_ (fun hHeld => ?_)
            · (try dsimp only); exact KK15.out _ (below_then BV.out hb)
            clear hKx Kx
            try simp only [Act.put, List.setIfInBounds_toArray, List.set_cons_zero, List.set_cons_succ]
            refine lex_take (i := 7) (v := ?_) rfl (by kernel_rfl) (by kernel_rfl) (by kernel_rfl) (fun _ _ _ h => h) (by rfl) ?_ (by assumption) ?_
            rotate_left
            · (intro w hSw; (try dsimp only at hSw); go_simp; try with_reducible rfl)
            try simp only [Act.put, List.setIfInBounds_toArray, List.set_cons_zero, List.set_cons_succ]
            have PV5 := Lib.hid (PD.out.then_ (below_then BV.out hb))
            obtain ⟨⟨-, -, -, -, -, -, -, -, -, hzl⟩, cn, xs, ys, zs, a1, a2, a3, n1, n2, n3, c1, c2, c3, kz, -⟩ := PV5.out
            have z3 := kz.cell 3; have f3 := kz.frozen 3
            clear kz
            refine lex_step (i := 8) rfl (by kernel_rfl) (by rfl) (fun Kx hKx => ?_)
            go_simp
            refine hKx.out _ _ ?_ (fun hHeld => ?_)
            · (try dsimp only); exact ⟨(cell_same (Below.heap_setCell _ _ _ Q (by show Q ≠ Z6; omega))).trans hHeld.1, (cell_same (Below.heap_setCell _ _ _ N (by show N ≠ Z6; omega))).trans hHeld.2⟩
            clear hKx Kx
            try simp only [Act.put, List.setIfInBounds_toArray, List.set_cons_zero, List.set_cons_succ]
            refine wpAnyH_done (by kernel_rfl) ?_ _
            have PEE := Lib.hid (PV5.out.times hk0 hv0)
            clear z3 f3 hzl hHeld
            simp only [onlyN, Exit.then]
            apply_assumption
            gi_wp2_with fail
            exact ⟨⟨j + 2, D :: Ds, _, _, _, _, _, _, _, _, _, _, _, _, _, _, _, _, _, _, _, _, _, _, _, _, _, _, _, _, _, _, _, _, _, _, _, _, _, _, _, _, PEE.out, by omega, rfl⟩, by simp [intOf]; omega⟩

          have d1 : (k == [116, 105, 109, 101, 115]) = false := by simpa using e1
          by_cases e2 : k = wWeek
          · subst e2
            have PE := PD.out.weeks hk0 hv0 PR.out
            rw [← HNV.out] at PE
            have PEE := Lib.hid PE
            clear PE
            gi_wp2_with fail
            exact ⟨⟨j + 2, D :: Ds, _, _, _, _, _, _, _, _, _, _, _, _, _, _, _, _, _, _, _, _, _, _, _, _, _, _, _, _, _, _, _, _, _, _, _, _, _, _, _, _, PEE.out, by omega, rfl⟩, by simp [intOf]; omega⟩

          have d2 : (k == [119, 101, 101, 107, 100, 97, 121, 115]) = false := by simpa using e2
          by_cases e3 : k = wMonth
          · subst e3
            have PE := PD.out.monthdays hk0 hv0 PR.out
            rw [← HNV.out] at PE
            have PEE := Lib.hid PE
            clear PE
            gi_wp2_with fail
            exact ⟨⟨j + 2, D :: Ds, _, _, _, _, _, _, _, _, _, _, _, _, _, _, _, _, _, _, _, _, _, _, _, _, _, _, _, _, _, _, _, _, _, _, _, _, _, _, _, _, PEE.out, by omega, rfl⟩, by simp [intOf]; omega⟩

          have d3 : (k == [109, 111, 110, 116, 104, 100, 97, 121, 115]) = false := by simpa using e3
          by_cases e4 : k = wMonths
          · subst e4
            have PE := PD.out.months hk0 hv0 PR.out
            rw [← HNV.out] at PE
            have PEE := Lib.hid PE
            clear PE
            gi_wp2_with fail
            exact ⟨⟨j + 2, D :: Ds, _, _, _, _, _, _, _, _, _, _, _, _, _, _, _, _, _, _, _, _, _, _, _, _, _, _, _, _, _, _, _, _, _, _, _, _, _, _, _, _, PEE.out, by omega, rfl⟩, by simp [intOf]; omega⟩

          have d4 : (k == [109, 111, 110, 116, 104, 115]) = false := by simpa using e4
          have PEE := Lib.hid (PD.out.skip hk0 hv0 e1 e2 e3 e4)
          clear e1 e2 e3 e4
          gi_wp2_with fail
          exact ⟨⟨j + 2, D :: Ds, _, _, _, _, _, _, _, _, _, _, _, _, _, _, _, _, _, _, _, _, _, _, _, _, _, _, _, _, _, _, _, _, _, _, _, _, _, _, _, _, PEE.out, by omega, rfl⟩, by simp [intOf]; omega⟩

    · have HO := Lib.hid (HP0.out.off (by omega))
      obtain ⟨a1, a2, a3, n1, n2, n3, c1, c2, c3, kz0, p1, p2, p3, hcn⟩ := HO.out
      have hRW := rawR_words hu1 hu2 hu4 hu6
      have HX := Lib.hid (show (rawR S).1 ≤ 4 ∧ I64 (rawR S).2.1 ∧ I64 (rawR S).2.2.1 ∧ I64 (rawR S).2.2.2.1 by rw [hRW]; exact ⟨idxU_le u2, atoiV_i64 u1, atoiV_i64 u4, atoiV_i64 u6⟩)
      clear hRW
      obtain ⟨RU, REV, RF0, RUN, RCN, RXS, RYS, RZS, hRR⟩ : ∃ a b c d e f g h, rawR S = (a, b, c, d, e, f, g, h) := ⟨_, _, _, _, _, _, _, _, rfl⟩
      have HRR := Lib.hid hRR
      rw [hRR] at kz0 p1 p2 p3 hcn
      have HX2 := HX.out
      rw [hRR] at HX2
      obtain ⟨x1, x2, x3, x4⟩ := HX2
      simp only at kz0 p1 p2 p3 hcn x1 x2 x3 x4
      have HBK := Lib.hid (show backS S = recS RU REV RF0 RCN RUN RXS RYS RZS by unfold backS; rw [hRR])
      have HRE := Lib.hid (show rawE S = recurErr RU REV RF0 RCN RUN RXS RYS RZS by unfold rawE; rw [hRR])
      have HPE := Lib.hid (show parseE S = if RU < 1 then 4 else if recS RU REV RF0 RCN RUN RXS RYS RZS ≠ S then 4 else recurErr RU REV RF0 RCN RUN RXS RYS RZS by unfold parseE; rw [if_neg h7, HBK.out, HRE.out, hRR])
      have P1 := Lib.hid p1; have P2 := Lib.hid p2; have P3 := Lib.hid p3
      have HCN := Lib.hid hcn; have X2 := Lib.hid x2; have X3 := Lib.hid x3; have X4 := Lib.hid x4
      have KZ := Lib.hid kz0
      have RR0 := Lib.hid HP0.out.1.2.1
      have MK := Lib.hid HP0.out.1.2.2.2.2.1
      have MD := Lib.hid HP0.out.1.2.2.2.2.2.1
      have HBr := Lib.hid HP0.out.1.1
      have hZ0 := HP0.out.1.2.2.2.2.2.2.1
      have t1 : ¬ ((j : Int) + 1 < ((spl 32 S).length : Int)) := by omega
      clear hRR HX HO p1 p2 p3 hcn x2 x3 x4
      by_cases hU : RU < 1
      · have z0 := kz0.cell 0; have z1 := kz0.cell 1; have z2 := kz0.cell 2; have z3 := kz0.cell 3; have z4 := kz0.cell 4; have z5 := kz0.cell 5; have z6 := kz0.cell 6; have z7 := kz0.cell 7; simp at z0 z1 z2 z3 z4 z5 z6 z7
        have r2 := RR0.out
        have y0 := r2.cell 0; have y1 := r2.cell 1; have y2 := r2.cell 2; have y3 := r2.cell 3; have y4 := r2.cell 4; have y5 := r2.cell 5; have y6 := r2.cell 6; have y7 := r2.cell 7; simp at y0 y1 y2 y3 y4 y5 y6 y7
        have f0 := r2.frozen 0; have f1 := r2.frozen 1; have f2 := r2.frozen 2; have f3 := r2.frozen 3; have f4 := r2.frozen 4; have f5 := r2.frozen 5; have f6 := r2.frozen 6; have f7 := r2.frozen 7
        have hly := r2.lt
        have HP4 := Lib.hid (HPE.out.trans (if_pos hU))
        have hFL := fill8 (Z := Z6) HBr.out (Nat.le_refl _) r2 MK.out (.int .i64 0) (.int .i64 0) (.int .i64 0) (.int .i64 0) (.int .i64 0) (.slice none 0 0) (.slice none 0 0) (.slice none 0 0)
        have HFL := Lib.hid hFL
        clear r2 kz0 hFL
        gi_wp2_with fail
        refine ⟨trivial, ?_⟩
        apply_assumption
        gi_wp2_with fail
        have hFL := HFL.out
        generalize World.setCell (World.setCell _ _ _) _ _ = W9 at hFL ⊢
        refine leaves_marks Ds W9 hFL.2.1 (fun W' hs => ?_)
        have t8 := hs.at_ hFL.2.1 hFL.1 rfl
        have e0 := t8.cell 0; have e1 := t8.cell 1; have e2 := t8.cell 2; have e3 := t8.cell 3; have e4 := t8.cell 4; have e5 := t8.cell 5; have e6 := t8.cell 6; have e7 := t8.cell 7; simp at e0 e1 e2 e3 e4 e5 e6 e7
        refine ⟨.tuple #[.agg rec0V, .int .i64 4], by simp [results, Tryz.results4, go_sem, e0, e1, e2, e3, e4, e5, e6, e7], hs.below hFL.2.2.1 MD.out, ?_⟩
        rw [HP4.out, if_pos (by decide)]
      obtain ⟨ru, rfl⟩ : ∃ n : Nat, RU = (n : Int) := ⟨RU.toNat, by omega⟩
      have hru : ru < 5 := by omega
      have CS := Lib.hid (recur_show wr ru hru REV RF0 RCN RUN a1 a2 a3 n1 n2 n3 c1 c2 c3 RXS RYS RZS X2.out X3.out HCN.out X4.out P1.out.ints P2.out.ints P3.out.ints (by have := P1.out.few; omega) (by have := P2.out.few; omega) (by have := P3.out.few; omega) (HP.out.below HBr.out) (HU.out.below HBr.out))
      obtain ⟨BS, hBS⟩ : ∃ B, B = recS (ru : Int) REV RF0 RCN RUN RXS RYS RZS := ⟨_, rfl⟩
      rw [← hBS] at CS HPE HBK
      have HBSE := Lib.hid hBS
      clear hBS
      have hU2 : ((ru : Int) < 1) = False := by simp; omega
      have HPE2 := Lib.hid (HPE.out.trans (if_neg hU))
      have z0 := kz0.cell 0; have z1 := kz0.cell 1; have z2 := kz0.cell 2; have z3 := kz0.cell 3; have z4 := kz0.cell 4; have z5 := kz0.cell 5; have z6 := kz0.cell 6; have z7 := kz0.cell 7; simp at z0 z1 z2 z3 z4 z5 z6 z7
      have hZl := KZ.out.lt
      clear kz0 hU
      gi_wp2_with fail
      refine ⟨trivial, ?_⟩
      gi_at_call 15
      refine (callsIn_wide.2 CS.out).mono ?_
      rintro e W5 ⟨rfl, hb5⟩
      have KZ5 := Lib.hid (KZ.out.then_ hb5)
      have RR5 := Lib.hid (RR0.out.then_ hb5)
      have MK5 := Lib.hid (show MarksOk Ds W5 from ⟨MK.out.1, fun D hD => (hb5.block D (Array.getElem?_eq_some_iff.1 (MK.out.2 D hD)).1).trans (MK.out.2 D hD)⟩)
      have HB5 := Lib.hid (below_then HBr.out hb5)
      have P15 := Lib.hid (P1.out.then_ hb5); have P25 := Lib.hid (P2.out.then_ hb5); have P35 := Lib.hid (P3.out.then_ hb5)
      clear hb5 z0 z1 z2 z3 z4 z5 z6 z7 CS
      by_cases hq : BS = S
      case neg =>
        have dq : (BS == S) = false := by simpa using hq
        have HP4 := Lib.hid (HPE2.out.trans (if_pos hq))
        have r2 := RR5.out
        have y0 := r2.cell 0; have y1 := r2.cell 1; have y2 := r2.cell 2; have y3 := r2.cell 3; have y4 := r2.cell 4; have y5 := r2.cell 5; have y6 := r2.cell 6; have y7 := r2.cell 7; simp at y0 y1 y2 y3 y4 y5 y6 y7
        have f0 := r2.frozen 0; have f1 := r2.frozen 1; have f2 := r2.frozen 2; have f3 := r2.frozen 3; have f4 := r2.frozen 4; have f5 := r2.frozen 5; have f6 := r2.frozen 6; have f7 := r2.frozen 7
        have hly := r2.lt
        have HFL := Lib.hid (fill8 (Z := Z6) HB5.out (Nat.le_refl _) r2 MK5.out (.int .i64 0) (.int .i64 0) (.int .i64 0) (.int .i64 0) (.int .i64 0) (.slice none 0 0) (.slice none 0 0) (.slice none 0 0))
        clear r2 hq
        gi_wp2_with fail
        have hFL := HFL.out
        generalize World.setCell (World.setCell _ _ _) _ _ = W9 at hFL ⊢
        refine leaves_marks Ds W9 hFL.2.1 (fun W' hs => ?_)
        have t8 := hs.at_ hFL.2.1 hFL.1 rfl
        have e0 := t8.cell 0; have e1 := t8.cell 1; have e2 := t8.cell 2; have e3 := t8.cell 3; have e4 := t8.cell 4; have e5 := t8.cell 5; have e6 := t8.cell 6; have e7 := t8.cell 7; simp at e0 e1 e2 e3 e4 e5 e6 e7
        refine ⟨.tuple #[.agg rec0V, .int .i64 4], by simp [results, Tryz.results4, go_sem, e0, e1, e2, e3, e4, e5, e6, e7], hs.below hFL.2.2.1 MD.out, ?_⟩
        rw [HP4.out, if_pos (by decide)]
      have HP5 := Lib.hid (HPE2.out.trans (if_neg (fun h => h hq)))
      have dq : (BS == S) = true := by simpa using hq
      clear hq HPE2 HPE
      have CK := Lib.hid (recur_Check W5 (ru : Int) REV RF0 RCN RUN a1 a2 a3 n1 n2 n3 c1 c2 c3 RXS RYS RZS P15.out.ints P25.out.ints P35.out.ints P15.out.cap P25.out.cap P35.out.cap P15.out.top P25.out.top P35.out.top)
      obtain ⟨ER, hER⟩ : ∃ E, E = recurErr (ru : Int) REV RF0 RCN RUN RXS RYS RZS := ⟨_, rfl⟩
      rw [← hER] at CK HP5
      clear hER HRE
      have kz5 := KZ5.out
      have z0 := kz5.cell 0; have z1 := kz5.cell 1; have z2 := kz5.cell 2; have z3 := kz5.cell 3; have z4 := kz5.cell 4; have z5 := kz5.cell 5; have z6 := kz5.cell 6; have z7 := kz5.cell 7; simp at z0 z1 z2 z3 z4 z5 z6 z7
      have hZl5 := kz5.lt
      clear kz5
      gi_wp2_with fail
      refine ⟨trivial, ?_⟩
      gi_at_call 16
      refine (callsIn_wide.2 CK.out).mono ?_
      rintro e W6 ⟨rfl, hb6⟩
      have KZ6 := Lib.hid (KZ5.out.then_ hb6)
      have RR6 := Lib.hid (RR5.out.then_ hb6)
      have MK6 := Lib.hid (show MarksOk Ds W6 from ⟨MK5.out.1, fun D hD => (hb6.block D (Array.getElem?_eq_some_iff.1 (MK5.out.2 D hD)).1).trans (MK5.out.2 D hD)⟩)
      have HB6 := Lib.hid (below_then HB5.out hb6)
      have P16 := Lib.hid (P15.out.then_ hb6); have P26 := Lib.hid (P25.out.then_ hb6); have P36 := Lib.hid (P35.out.then_ hb6)
      clear hb6 z0 z1 z2 z3 z4 z5 z6 z7 CK hZl5
      have r2 := RR6.out
      have y0 := r2.cell 0; have y1 := r2.cell 1; have y2 := r2.cell 2; have y3 := r2.cell 3; have y4 := r2.cell 4; have y5 := r2.cell 5; have y6 := r2.cell 6; have y7 := r2.cell 7; simp at y0 y1 y2 y3 y4 y5 y6 y7
      have f0 := r2.frozen 0; have f1 := r2.frozen 1; have f2 := r2.frozen 2; have f3 := r2.frozen 3; have f4 := r2.frozen 4; have f5 := r2.frozen 5; have f6 := r2.frozen 6; have f7 := r2.frozen 7
      have hly := r2.lt
      by_cases hE : ER = 0
      · subst hE
        have kz5 := KZ6.out
        have z0 := kz5.cell 0; have z1 := kz5.cell 1; have z2 := kz5.cell 2; have z3 := kz5.cell 3; have z4 := kz5.cell 4; have z5 := kz5.cell 5; have z6 := kz5.cell 6; have z7 := kz5.cell 7; simp at z0 z1 z2 z3 z4 z5 z6 z7
        have hZl5 := kz5.lt
        have HFL := Lib.hid (fill8 (Z := Z6) HB6.out (Nat.le_refl _) r2 MK6.out (.int .i64 (ru : Int)) (.int .i64 REV) (.int .i64 RF0) (.int .i64 RCN) (.int .i64 RUN) (.slice a1 n1 c1) (.slice a2 n2 c2) (.slice a3 n3 c3))
        clear r2 kz5
        gi_wp2_with fail
        have hFL := HFL.out
        generalize World.setCell (World.setCell _ _ _) _ _ = W9 at hFL ⊢
        refine leaves_marks Ds W9 hFL.2.1 (fun W' hs => ?_)
        have t8 := hs.at_ hFL.2.1 hFL.1 rfl
        have e0 := t8.cell 0; have e1 := t8.cell 1; have e2 := t8.cell 2; have e3 := t8.cell 3; have e4 := t8.cell 4; have e5 := t8.cell 5; have e6 := t8.cell 6; have e7 := t8.cell 7; simp at e0 e1 e2 e3 e4 e5 e6 e7
        refine ⟨.tuple #[.agg #[.int .i64 (ru : Int), .int .i64 REV, .int .i64 RF0, .int .i64 RCN, .int .i64 RUN, .slice a1 n1 c1, .slice a2 n2 c2, .slice a3 n3 c3], .int .i64 0], by simp [results, Tryz.results4, go_sem, e0, e1, e2, e3, e4, e5, e6, e7], hs.below hFL.2.2.1 MD.out, ?_⟩
        rw [HP5.out, if_neg (by simp), HRR.out]
        exact ⟨a1, a2, a3, n1, n2, n3, c1, c2, c3, rfl, ((hFL.2.2.2 (by omega) P16.out).shut hFL.2.1 hs).row, ((hFL.2.2.2 (by omega) P26.out).shut hFL.2.1 hs).row, ((hFL.2.2.2 (by omega) P36.out).shut hFL.2.1 hs).row⟩
      · have hEb : (ER != 0) = true := by simpa using hE
        have HE9 := Lib.hid hE
        have HFL := Lib.hid (fill8 (Z := Z6) HB6.out (Nat.le_refl _) r2 MK6.out (.int .i64 0) (.int .i64 0) (.int .i64 0) (.int .i64 0) (.int .i64 0) (.slice none 0 0) (.slice none 0 0) (.slice none 0 0))
        clear r2 hE
        gi_wp2_with fail
        have hFL := HFL.out
        generalize World.setCell (World.setCell _ _ _) _ _ = W9 at hFL ⊢
        refine leaves_marks Ds W9 hFL.2.1 (fun W' hs => ?_)
        have t8 := hs.at_ hFL.2.1 hFL.1 rfl
        have e0 := t8.cell 0; have e1 := t8.cell 1; have e2 := t8.cell 2; have e3 := t8.cell 3; have e4 := t8.cell 4; have e5 := t8.cell 5; have e6 := t8.cell 6; have e7 := t8.cell 7; simp at e0 e1 e2 e3 e4 e5 e6 e7
        refine ⟨.tuple #[.agg rec0V, .int .i64 ER], by simp [results, Tryz.results4, go_sem, e0, e1, e2, e3, e4, e5, e6, e7], hs.below hFL.2.2.1 MD.out, ?_⟩
        rw [HP5.out, if_pos HE9.out]
end Go.Proofs.YtdmkghgachapaaaGreatDoor
