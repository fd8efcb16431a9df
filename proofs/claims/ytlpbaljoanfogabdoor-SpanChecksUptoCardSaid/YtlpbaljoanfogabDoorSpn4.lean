/- Contract of span.Read. -/
import Derived.Test.YtlpbaljoanfogabDoorSpn3
import Derived.Test.YtlpbaljoanfogabDoorIdx1
namespace Go.Proofs.YtlpbaljoanfogabDoor
set_option linter.unusedVariables false
set_option linter.unusedSimpArgs false
set_option maxRecDepth 100000
open Go.RowKit Go.Shelf
attribute [local go_sem] Oper.semAt_some

theorem At.growC {W W' : World} {b : Nat} {o : Obj} {row : Option Nat} (h : At W b o) (hg : W.grownBy W' row) (hr : ∀ r, row = some r → ∃ o : Obj, W.heap[r]? = some o ∧ o.isCells = false) (ho : o.isCells = true) : At W' b o := by
  refine (hg.block b h.lt fun e => ?_).trans h
  obtain ⟨q, hq, hc⟩ := hr b e.symm
  rw [show W.heap[b]? = some o from h] at hq
  cases hq
  rw [ho] at hc; cases hc
theorem At.mindsC {W W' : World} {b c : Nat} {o : Obj} (h : At W b o) (hg : W.grownBy W' (some c)) (hne : c ≠ b) : At W' b o := (hg.block b h.lt (by simp; omega)).trans h
theorem keeps_below {B : Nat} {W W' : World} (h : Below W.heap.size W W') : KeepsFrom B W W' := ⟨h.size, fun k o _ hk _ => (h.block k (Array.getElem?_eq_some_iff.1 hk).1).trans hk⟩
theorem at_put {W : World} {b D : Nat} {o : Obj} (h : At W b o) (hne : b ≠ D) (o' : Obj) : At (W.putObj D o') b o := (World.putObj_heap_other hne).trans h
theorem setsInfo : (Tryd.prog.info? (Tryd.laysn162_ren.t 116)).map (fun i => (i.zero, i.size)) = some (some (.agg (Array.replicate 256 (.bool false))), 256) := by kernel_rfl
theorem setsInfoL : (Tryd.prog.info? (Tryd.laysn161_ren.t 116)).map (fun i => (i.zero, i.size)) = some (some (.agg (Array.replicate 256 (.bool false))), 256) := by kernel_rfl
theorem lib_TrimRightU (s : ByteArray) (w : World) (hs : s.size ≤ 9223372036854775807) : Calls Tryd.prog 22 #[.string s, .string ⟨#[121, 109, 100, 115]⟩] w fun e w' => e = .returned (.string ⟨(digW s.data.toList).toArray⟩) ∧ Below w.heap.size w w' :=
  Any.strings_TrimRight_laid Tryd.laysn162 setsInfo s ⟨#[121, 109, 100, 115]⟩ w hs (by decide) (by
    intro j b hb
    have hm : b ∈ [121, 109, 100, 115] := List.mem_of_getElem? hb
    simp at hm
    rcases hm with rfl | rfl | rfl | rfl <;> decide)
theorem lib_TrimLeftD (s : ByteArray) (w : World) : Calls Tryd.prog 25 #[.string s, .string ⟨#[45, 48, 49, 50, 51, 52, 53, 54, 55, 56, 57]⟩] w fun e w' => e = .returned (.string ⟨(unitW s.data.toList).toArray⟩) ∧ Below w.heap.size w w' :=
  Any.strings_TrimLeft_laid Tryd.laysn161 setsInfoL s ⟨#[45, 48, 49, 50, 51, 52, 53, 54, 55, 56, 57]⟩ w (by decide) (by
    intro j b hb
    have hm : b ∈ [45, 48, 49, 50, 51, 52, 53, 54, 55, 56, 57] := List.mem_of_getElem? hb
    simp at hm
    rcases hm with rfl | rfl | rfl | rfl | rfl | rfl | rfl | rfl | rfl | rfl | rfl <;> decide)
theorem digW_pre (w : List UInt8) : ∃ u, w = digW w ++ u := by
  refine ⟨(w.reverse.takeWhile (setU.contains ·)).reverse, ?_⟩
  unfold digW Lib.trimRightS
  rw [← List.reverse_append, List.takeWhile_append_dropWhile, List.reverse_reverse]
theorem digW_len (w : List UInt8) : (digW w).length ≤ w.length := by
  obtain ⟨u, hu⟩ := digW_pre w
  have := congrArg List.length hu
  rw [List.length_append] at this
  omega
/-- The fields behind these words. -/
def readF (pre : List ByteArray) : Nat → Int := (pre.map fun x => x.data.toList).foldl stepL zeroV
theorem readF_step (pre : List ByteArray) (x : ByteArray) : readF (pre ++ [x]) = stepL (readF pre) x.data.toList := by unfold readF; simp
theorem readF_all (s : ByteArray) : readF (pcs ⟨#[32]⟩ s) = readL s.data.toList := by unfold readF readL; rw [pcs_spl]
theorem atoiV_I64 (l : List UInt8) : I64 (atoiV l) := by
  unfold atoiV
  split
  · rename_i v h; exact Lib.atoiAll_bounds h
  · exact Lib.atoiSat_bounds l
  · exact ⟨by decide, by decide⟩
theorem stepL_I64 {v : Nat → Int} (h : ∀ j, I64 (v j)) (x : List UInt8) : ∀ j, I64 (stepL v x j) := by
  have key : ∀ k j, I64 (setK v k (atoiV (digW x)) j) := fun k j => by
    unfold setK; split
    · exact atoiV_I64 _
    · exact h j
  unfold stepL
  intro j
  split
  · exact key 0 j
  split
  · exact key 1 j
  split
  · exact key 2 j
  split
  · exact key 3 j
  · exact h j
theorem readL_I64 (s : List UInt8) : ∀ j, I64 (readL s j) := by
  unfold readL
  have : ∀ (l : List (List UInt8)) (v : Nat → Int), (∀ j, I64 (v j)) → ∀ j, I64 (l.foldl stepL v j) := by
    intro l
    induction l with
    | nil => intro v h; exact h
    | cons a r ih => intro v h; exact ih _ (stepL_I64 h a)
  exact this _ _ fun j => ⟨by show _ ≤ (0 : Int); decide, by show (0 : Int) ≤ _; decide⟩
def SpI (w : World) (L : Nat) (pre : List ByteArray) (W : World) : Prop :=
  At W w.heap.size (lenO zeroV) ∧ At W (w.heap.size + 1) (lenO (readF pre)) ∧ Below w.heap.size w W ∧ L ≤ W.heap.size
theorem spI_own (w : World) (L B : Nat) (hB : w.heap.size ≤ B) : OwnFrom B (SpI w L) := by
  rintro s W W' row ⟨h1, h2, h3, h4⟩ hg hr
  have hr2 : ∀ r, row = some r → ∃ o : Obj, W.heap[r]? = some o ∧ o.isCells = false := fun r e => (hr r e).2
  exact ⟨h1.growC hg hr2 rfl, h2.growC hg hr2 rfl, h3.grown hg h3.size (fun k e => by have := (hr k e).1; omega), Nat.le_trans h4 hg.size⟩
theorem spI_minds (w : World) (L b : Nat) (hb : w.heap.size + 1 < b) : Minds b (SpI w L) := by
  rintro s A C ⟨h1, h2, h3, h4⟩ hg
  exact ⟨h1.mindsC hg (by omega), h2.mindsC hg (by omega), h3.grown hg h3.size (fun k e => by cases e; omega), Nat.le_trans h4 hg.size⟩
def ReadPost (s : List UInt8) (w : World) (e : Ending) (w' : World) : Prop :=
  (if okSp s then e = .returned (.tuple #[.agg (lenV (readL s)), .int .i64 0]) else e = .returned (.tuple #[.agg (lenV zeroV), .int .i64 4])) ∧ Below w.heap.size w w'
theorem at_setK {W : World} {b : Nat} {v : Nat → Int} (h : At W b (lenO v)) (n : Int) : At (W.setCell ⟨b, 0, none⟩ (.int .i64 n)) b (lenO (setK v 0 n)) ∧ At (W.setCell ⟨b, 1, none⟩ (.int .i64 n)) b (lenO (setK v 1 n)) ∧ At (W.setCell ⟨b, 2, none⟩ (.int .i64 n)) b (lenO (setK v 2 n)) ∧ At (W.setCell ⟨b, 3, none⟩ (.int .i64 n)) b (lenO (setK v 3 n)) :=
  ⟨h.store 0 _, h.store 1 _, h.store 2 _, h.store 3 _⟩
theorem sp_keep {W w5 : World} {G B : Nat} (hb : Below W.heap.size W w5) (h4 : G + 3 ≤ W.heap.size) : KeepsFrom B W w5 ∧ HoldsK (KB1 G) W w5 ∧ G + 3 ≤ w5.heap.size :=
  ⟨keeps_below hb, HoldsK.of_below hb (fun k hk => by have := KB1_lt hk; omega), by have := hb.size; omega⟩
theorem sp_round {W w5 : World} {G B b : Nat} (k : Nat) (u : Value) (hb : Below W.heap.size W w5) (h1 : b < G) (h2 : b < B) (h4 : G + 3 ≤ W.heap.size) :
    KeepsFrom B W (w5.setCell ⟨b, k, none⟩ u) ∧ HoldsK (KB1 G) W (w5.setCell ⟨b, k, none⟩ u) ∧ G + 3 ≤ (w5.setCell ⟨b, k, none⟩ u).heap.size := by
  have hz : (w5.setCell ⟨b, k, none⟩ u).heap.size = w5.heap.size := by simp [World.setCell]
  have hs := hb.size
  refine ⟨⟨by rw [hz]; exact hs, fun q o hq h0 ho => (Below.heap_setCell _ _ _ q (by simp only; omega)).trans ((hb.block q (Array.getElem?_eq_some_iff.1 h0).1).trans h0)⟩, fun q hq => ?_, by rw [hz]; omega⟩
  have := KB1_lt hq
  exact (Below.heap_setCell _ _ _ q (by simp only; omega)).trans (hb.block q (by omega))
theorem At.storeL4 {w : World} {b : Nat} {x0 x1 x2 x3 : Value} {t : TypeId} {m : Nat × Nat} (h : At w b (.cells #[x0, x1, x2, x3] t m)) (u0 u1 u2 u3 : Value) : At ((((w.setCell ⟨b, 0, none⟩ u0).setCell ⟨b, 1, none⟩ u1).setCell ⟨b, 2, none⟩ u2).setCell ⟨b, 3, none⟩ u3) b (.cells #[u0, u1, u2, u3] t m) := (((h.store 0 u0).store 1 u1).store 2 u2).store 3 u3
theorem heap_setL4 {w : World} {B q : Nat} (hne : q ≠ B) (u0 u1 u2 u3 : Value) : ((((w.setCell ⟨B, 0, none⟩ u0).setCell ⟨B, 1, none⟩ u1).setCell ⟨B, 2, none⟩ u2).setCell ⟨B, 3, none⟩ u3).heap[q]? = w.heap[q]? :=
  (Below.heap_setCell _ _ _ q hne).trans ((Below.heap_setCell _ _ _ q hne).trans ((Below.heap_setCell _ _ _ q hne).trans (Below.heap_setCell _ _ _ q hne)))
theorem below_setL4 {B : Nat} {a w : World} (h : Below B a w) {p : Nat} (hp : B ≤ p) (u0 u1 u2 u3 : Value) : Below B a ((((w.setCell ⟨p, 0, none⟩ u0).setCell ⟨p, 1, none⟩ u1).setCell ⟨p, 2, none⟩ u2).setCell ⟨p, 3, none⟩ u3) := below_set (below_set (below_set (below_set h hp _) hp _) hp _) hp _
theorem stepL_at {v : Nat → Int} {X D U : List UInt8} (hD : D = digW X) (hU : X.drop D.length = U) : stepL v X = if U = [121] then setK v 0 (atoiV D) else if U = [109] then setK v 1 (atoiV D) else if U = [100] then setK v 2 (atoiV D) else if U = [109, 115] then setK v 3 (atoiV D) else v := by
  subst hD; subst hU; rfl
set_option maxHeartbeats 8000000 in
theorem span_Read (S : List UInt8) (w : World) (hS : S.length ≤ 140737488355328) (hp : Pow w) (hE : Errs w) :
    Calls Tryd.prog 9 #[.string ⟨S.toArray⟩] w (ReadPost S w) := by
  obtain ⟨s, hsS⟩ : ∃ s : ByteArray, s = ⟨S.toArray⟩ := ⟨_, rfl⟩
  have hs : s.size ≤ 140737488355328 := by rw [hsS]; show S.toArray.size ≤ _; simpa using hS
  have HSS := Lib.hid hsS
  have HRA := Lib.hid (show readF (pcs ⟨#[32]⟩ s) = readL S by rw [readF_all, hsS])
  rw [← hsS]
  clear hsS
  have HP := Lib.hid hp; have HE := Lib.hid hE; have HS := Lib.hid hs
  clear hp hE
  refine (callsIn_wide (n := 3)).1 ?_
  refine callsIn_of_wp_marks Tryd.func9 rfl trivial ?_ rfl
  simp only [Tryd.ntmps9, List.size_toArray, List.length_cons, List.length_nil, Nat.reduceAdd, Nat.reduceSub, Array.replicate_succ, Array.replicate_zero, List.push_toArray, List.append_toArray, List.nil_append, List.cons_append]
  gi_wp2_with fail
  refine ⟨trivial, ?_⟩
  gi_at_call 21
  refine (callsIn_wide.2 (str_SplitSeq s ⟨#[32]⟩ _)).mono ?_
  rintro e W2 ⟨rfl, hw2⟩
  have a1 := At.new w (lenO zeroV)
  have a2 := At.new (w.alloc (lenO zeroV)) (lenO zeroV)
  have b3 : Below w.heap.size w ((w.alloc (lenO zeroV)).alloc (lenO zeroV)) := below_new (below_new (Below.refl _ _) _) _
  obtain ⟨q0, q1, q2⟩ := seqW_boxes s ⟨#[32]⟩ ((w.alloc (lenO zeroV)).alloc (lenO zeroV))
  have hw3 : W2 = seqW s ⟨#[32]⟩ ((w.alloc (lenO zeroV)).alloc (lenO zeroV)) := hw2
  clear hw2
  rw [← hw3] at q0 q1 q2
  simp only [World.size_alloc] at q0 q1 q2 a2 ⊢
  have A1 := Lib.hid (show At W2 w.heap.size (lenO zeroV) by rw [hw3]; exact (((a1.alloc _).alloc _).alloc _).alloc _)
  have A2 := Lib.hid (show At W2 (w.heap.size + 1) (lenO zeroV) by rw [hw3]; exact ((a2.alloc _).alloc _).alloc _)
  have B2 := Lib.hid (show Below w.heap.size w W2 by rw [hw3]; exact seqW_below _ _ b3)
  have hs2 : W2.heap.size = w.heap.size + 5 := by rw [hw3, seqW_size]; simp only [World.size_alloc]
  obtain ⟨G, hG⟩ : ∃ G, G = w.heap.size + 1 + 1 := ⟨_, rfl⟩
  rw [← hG] at q0 q1 q2 ⊢
  have HG := Lib.hid hG
  have hG2 : w.heap.size + 1 < G := by omega
  have hG3 : w.heap.size + 5 = G + 3 := by omega
  clear hw3 a1 a2 b3 hG
  gi_wp2_with fail
  refine range_box (n := 3) (gf := 57) (lb := _) rfl (enters_of Tryd.func57 (by kernel_rfl) rfl) (b := G) (K := KB1 G) (xs := pcs ⟨#[32]⟩ s) (by omega) (fun k hk => by have := KB1_lt hk; omega)
    (split_seq 2 s ⟨#[32]⟩ (by decide) (by omega) (by decide) G (fun _ => False) (fun h => h) W2 q0 q1 q2 (idx_byte 32 _ _ _)) (fun _ => rfl)
    (SpI w (G + 3)) (fun _ _ _ => False) (spI_own _ _ _ (by omega)) (fun _ _ _ _ _ hs _ _ => hs) (spI_minds _ _ _ hG2)
    ⟨A1.out, A2.out, B2.out, by omega⟩ _ (by intro l x W G hG; gi_wp2; exact hG) ?body ?done ?stop
  case body =>
    rintro l pre x W ⟨h1, h2, h3, h4⟩ ⟨r, hx⟩
    have hxs : x.size ≤ s.size := pcs_size 32 s x (by rw [hx]; simp)
    have H1 := Lib.hid h1; have H2 := Lib.hid h2; have H3 := Lib.hid h3; have H4 := Lib.hid h4; have HXS := Lib.hid hxs
    obtain ⟨X, hX⟩ : ∃ X, X = x.data.toList := ⟨_, rfl⟩
    have hXl : X.length = x.size := by rw [hX]; show x.data.toList.length = x.data.size; simp
    obtain ⟨D, hD⟩ : ∃ D, D = digW X := ⟨_, rfl⟩
    have hDl : D.length ≤ x.size := by rw [hD, ← hXl]; exact digW_len X
    have CT := Lib.hid (fun W : World => show Calls Tryd.prog 22 #[.string x, .string ⟨#[121, 109, 100, 115]⟩] W (fun e w' => e = .returned (.string ⟨D.toArray⟩) ∧ Below W.heap.size W w') from by rw [hD, hX]; exact lib_TrimRightU x W (by omega))
    have CA := Lib.hid (fun (W : World) (hW : Below w.heap.size w W) => show Calls Tryd.prog 23 #[.string ⟨D.toArray⟩] W (AtoiPost D W) from lib_Atoi ⟨D.toArray⟩ W (by show D.toArray.size ≤ _; rw [List.size_toArray]; omega) (HE.out.below hW))
    have HXD := Lib.hid hX; have HDD := Lib.hid hD; have HXL := Lib.hid hXl; have HDL := Lib.hid hDl
    clear h1 h2 h3 h4 hx hX hD hXl hxs
    gi_wp2_with fail
    refine ⟨trivial, ?_⟩
    gi_at_call 22
    refine (CallsIn.inRound l (callsIn_wide.2 (CT.out _))).mono ?_
    rintro e w4 ⟨rfl, hb4⟩
    have B4 := Lib.hid (below_then H3.out hb4)
    gi_wp2_with fail
    refine ⟨trivial, ?_⟩
    gi_at_call 23
    refine (CallsIn.inRound l (callsIn_wide.2 (CA.out _ B4.out))).mono ?_
    rintro e w5 ⟨er, _, rfl, hb5⟩
    have HBB := Lib.hid (show Below W.heap.size W w5 from below_then hb4 hb5)
    have V1 := Lib.hid (H1.out.then_ HBB.out)
    have V2 := Lib.hid (H2.out.then_ HBB.out)
    have V3 := Lib.hid (below_then H3.out HBB.out)
    clear hb4 hb5 B4 H1 H2 H3 CT CA
    obtain ⟨U, hU⟩ : ∃ U, X.drop D.length = U := ⟨_, rfl⟩
    have hE : x.extract D.length x.size = ⟨U.toArray⟩ := by
      apply ByteArray.ext
      rw [ByteArray.data_extract, ← hU, HXD.out]
      apply Array.ext'
      simp
      exact List.take_of_length_le (by rw [List.length_drop, Array.length_toList]; exact Nat.le_refl _)
    have HST := Lib.hid (stepL_at (v := readF pre) HDD.out hU)
    clear hU
    have z0 := V2.out.frozen 0; have z1 := V2.out.frozen 1; have z2 := V2.out.frozen 2; have z3 := V2.out.frozen 3
    have y0 := V2.out.cell 0; have y1 := V2.out.cell 1; have y2 := V2.out.cell 2; have y3 := V2.out.cell 3
    simp at y0 y1 y2 y3
    have hlt := V2.out.lt
    have HRS := Lib.hid (show readF (pre ++ [x]) = stepL (readF pre) X by rw [readF_step, HXD.out])
    by_cases u0 : U = [121]
    · subst u0
      have hR : stepL (readF pre) X = setK (readF pre) 0 (atoiV D) := by rw [HST.out]; simp
      have HRR := Lib.hid (HRS.out.trans hR)
      clear hR
      gi_wp2_with fail
      have k9 := sp_round (B := W2.heap.size) (b := w.heap.size + 1) 0 (.int .i64 (atoiV D)) HBB.out hG2 (by omega) H4.out
      refine ⟨k9.1, k9.2.1, V1.out.apart (p := ⟨w.heap.size + 1, 0, none⟩) (by simp) _, by rw [HRR.out]; exact (at_setK V2.out _).1, below_set V3.out (by simp) _, k9.2.2⟩
    have d0 : (U == [121]) = false := by simpa using u0
    by_cases u1 : U = [109]
    · subst u1
      have hR : stepL (readF pre) X = setK (readF pre) 1 (atoiV D) := by rw [HST.out]; simp
      have HRR := Lib.hid (HRS.out.trans hR)
      clear hR
      gi_wp2_with fail
      have k9 := sp_round (B := W2.heap.size) (b := w.heap.size + 1) 1 (.int .i64 (atoiV D)) HBB.out hG2 (by omega) H4.out
      refine ⟨k9.1, k9.2.1, V1.out.apart (p := ⟨w.heap.size + 1, 1, none⟩) (by simp) _, by rw [HRR.out]; exact (at_setK V2.out _).2.1, below_set V3.out (by simp) _, k9.2.2⟩
    have d1 : (U == [109]) = false := by simpa using u1
    by_cases u2 : U = [100]
    · subst u2
      have hR : stepL (readF pre) X = setK (readF pre) 2 (atoiV D) := by rw [HST.out]; simp
      have HRR := Lib.hid (HRS.out.trans hR)
      clear hR
      gi_wp2_with fail
      have k9 := sp_round (B := W2.heap.size) (b := w.heap.size + 1) 2 (.int .i64 (atoiV D)) HBB.out hG2 (by omega) H4.out
      refine ⟨k9.1, k9.2.1, V1.out.apart (p := ⟨w.heap.size + 1, 2, none⟩) (by simp) _, by rw [HRR.out]; exact (at_setK V2.out _).2.2.1, below_set V3.out (by simp) _, k9.2.2⟩
    have d2 : (U == [100]) = false := by simpa using u2
    by_cases u3 : U = [109, 115]
    · subst u3
      have hR : stepL (readF pre) X = setK (readF pre) 3 (atoiV D) := by rw [HST.out]; simp
      have HRR := Lib.hid (HRS.out.trans hR)
      clear hR
      gi_wp2_with fail
      have k9 := sp_round (B := W2.heap.size) (b := w.heap.size + 1) 3 (.int .i64 (atoiV D)) HBB.out hG2 (by omega) H4.out
      refine ⟨k9.1, k9.2.1, V1.out.apart (p := ⟨w.heap.size + 1, 3, none⟩) (by simp) _, by rw [HRR.out]; exact (at_setK V2.out _).2.2.2, below_set V3.out (by simp) _, k9.2.2⟩
    have d3 : (U == [109, 115]) = false := by simpa using u3
    have HRR := Lib.hid (show readF (pre ++ [x]) = readF pre by rw [HRS.out, HST.out, if_neg u0, if_neg u1, if_neg u2, if_neg u3])
    clear u0 u1 u2 u3
    gi_wp2_with fail
    have k9 := sp_keep (B := W2.heap.size) HBB.out H4.out
    exact ⟨k9.1, k9.2.1, V1.out, by rw [HRR.out]; exact V2.out, V3.out, k9.2.2⟩
  case done =>
    rintro D W hD ⟨h1, h2, h3, h4⟩ hK
    obtain rfl := HSS.out
    rw [HRA.out] at h2
    obtain ⟨V, hV⟩ : ∃ V, V = readL S := ⟨_, rfl⟩
    have CC := Lib.hid (fun W : World => span_Check V W)
    have CS0 := Lib.hid (fun (W : World) (hW : Below w.heap.size w W) => span_show V W (by rw [hV]; exact readL_I64 S) (HP.out.below hW))
    rw [← hV] at h2
    obtain ⟨R, hR⟩ : ∃ R, R = lenS V := ⟨_, rfl⟩
    obtain ⟨b, hb⟩ : ∃ b, b = okLen V := ⟨_, rfl⟩
    have HOK0 := Lib.hid (show okSp S = (b && (R == S)) by rw [hb, hR, hV]; rfl)
    have CS := Lib.hid (show ∀ W : World, Below w.heap.size w W → Calls Tryd.prog 16 #[.agg (lenV V)] W (fun e w' => e = .returned (.string ⟨R.toArray⟩) ∧ Below W.heap.size W w') from fun W hW => by rw [hR]; exact CS0.out W hW)
    rw [← hb] at CC
    have HV := Lib.hid hV
    have H1 := Lib.hid h1; have H2 := Lib.hid h2; have H3 := Lib.hid h3; have HK := Lib.hid hK
    have hDl : D < W.heap.size := (Array.getElem?_eq_some_iff.1 hK).1
    have x0 := h2.cell 0; have x1 := h2.cell 1; have x2 := h2.cell 2; have x3 := h2.cell 3
    simp at x0 x1 x2 x3
    clear hV hR hb CS0 h1 h2 h3 hK h4
    gi_wp2_with fail
    refine ⟨trivial, ?_⟩
    gi_at_call 7
    refine (callsIn_wide.2 (CC.out _)).mono ?_
    clear x0 x1 x2 x3
    cases b with
    | false =>
      rintro e W5 ⟨he, hb5⟩
      obtain rfl : e = .returned (.int .i64 3) := he
      have HOK := Lib.hid (show okSp S = false by rw [HOK0.out]; rfl)
      have G1 := Lib.hid (H1.out.then_ hb5)
      have K5 := Lib.hid ((hb5.block D hDl).trans HK.out)
      have B5 := Lib.hid (below_then H3.out hb5)
      clear hb5 HOK0
      have hlt := (G1.out).lt
      have z0 := (G1.out).frozen 0; have z1 := (G1.out).frozen 1; have z2 := (G1.out).frozen 2; have z3 := (G1.out).frozen 3
      have y0 := (G1.out).cell 0; have y1 := (G1.out).cell 1; have y2 := (G1.out).cell 2; have y3 := (G1.out).cell 3
      simp at y0 y1 y2 y3
      gi_wp2_with fail
      refine ⟨trivial, ?_⟩
      gi_wp2_with fail
      have t9 := (G1.out).storeL4 (.int .i64 0) (.int .i64 0) (.int .i64 0) (.int .i64 0)
      have k9 := (heap_setL4 (w := W5) (B := w.heap.size) (q := D) (by omega) (.int .i64 0) (.int .i64 0) (.int .i64 0) (.int .i64 0)).trans K5.out
      have b9 := below_setL4 (p := w.heap.size) B5.out (Nat.le_refl _) (.int .i64 0) (.int .i64 0) (.int .i64 0) (.int .i64 0)
      generalize World.setCell (World.setCell _ _ _) _ _ = W9 at t9 k9 b9 ⊢
      refine ⟨by simp, .inl ⟨_, _, rfl, run_takeDeferred k9, ?_⟩⟩
      have t8 := at_put t9 (D := D) (by omega) (.deferred none)
      have c0 := t8.cell 0; have c1 := t8.cell 1; have c2 := t8.cell 2; have c3 := t8.cell 3
      simp at c0 c1 c2 c3
      refine ⟨.tuple #[.agg #[.int .i64 0, .int .i64 0, .int .i64 0, .int .i64 0], .int .i64 4], by simp [results, Tryd.results9, go_sem, c0, c1, c2, c3], ?_⟩
      refine ⟨?_, b9.trans (belowK_b (w := w) (Nat.le_refl _) W9 D _ _ (by omega) k9 rfl rfl)⟩
      rw [HOK.out, if_neg Bool.false_ne_true]
      rfl
    | true =>
      rintro e W5 ⟨he, hb5⟩
      obtain rfl : e = .returned (.int .i64 0) := he
      have G1 := Lib.hid (H1.out.then_ hb5)
      have G2 := Lib.hid (H2.out.then_ hb5)
      have K5 := Lib.hid ((hb5.block D hDl).trans HK.out)
      have B5 := Lib.hid (below_then H3.out hb5)
      have hDl5 : D < W5.heap.size := Nat.lt_of_lt_of_le hDl hb5.size
      have x0 := G2.out.cell 0; have x1 := G2.out.cell 1; have x2 := G2.out.cell 2; have x3 := G2.out.cell 3
      simp at x0 x1 x2 x3
      clear hb5
      by_cases hq : R = S
      · have HOK := Lib.hid (show okSp S = true by rw [HOK0.out, hq]; simp)
        subst hq
        clear HOK0
        gi_wp2_with fail
        refine ⟨trivial, ?_⟩
        gi_at_call 16
        refine (callsIn_wide.2 (CS.out _ B5.out)).mono ?_
        rintro e W6 ⟨rfl, hb6⟩
        clear x0 x1 x2 x3
        have G3 := Lib.hid (G1.out.then_ hb6)
        have G4 := Lib.hid (G2.out.then_ hb6)
        have K6 := Lib.hid ((hb6.block D hDl5).trans K5.out)
        have B6 := Lib.hid (below_then B5.out hb6)
        have x0 := G4.out.cell 0; have x1 := G4.out.cell 1; have x2 := G4.out.cell 2; have x3 := G4.out.cell 3
        simp at x0 x1 x2 x3
        clear hb6
        have hlt := (G3.out).lt
        have z0 := (G3.out).frozen 0; have z1 := (G3.out).frozen 1; have z2 := (G3.out).frozen 2; have z3 := (G3.out).frozen 3
        have y0 := (G3.out).cell 0; have y1 := (G3.out).cell 1; have y2 := (G3.out).cell 2; have y3 := (G3.out).cell 3
        simp at y0 y1 y2 y3
        gi_wp2_with fail
        have t9 := (G3.out).storeL4 (.int .i64 (V 0)) (.int .i64 (V 1)) (.int .i64 (V 2)) (.int .i64 (V 3))
        have k9 := (heap_setL4 (w := W6) (B := w.heap.size) (q := D) (by omega) (.int .i64 (V 0)) (.int .i64 (V 1)) (.int .i64 (V 2)) (.int .i64 (V 3))).trans K6.out
        have b9 := below_setL4 (p := w.heap.size) B6.out (Nat.le_refl _) (.int .i64 (V 0)) (.int .i64 (V 1)) (.int .i64 (V 2)) (.int .i64 (V 3))
        generalize World.setCell (World.setCell _ _ _) _ _ = W9 at t9 k9 b9 ⊢
        refine ⟨by simp, .inl ⟨_, _, rfl, run_takeDeferred k9, ?_⟩⟩
        have t8 := at_put t9 (D := D) (by omega) (.deferred none)
        have c0 := t8.cell 0; have c1 := t8.cell 1; have c2 := t8.cell 2; have c3 := t8.cell 3
        simp at c0 c1 c2 c3
        refine ⟨.tuple #[.agg #[.int .i64 (V 0), .int .i64 (V 1), .int .i64 (V 2), .int .i64 (V 3)], .int .i64 0], by simp [results, Tryd.results9, go_sem, c0, c1, c2, c3], ?_⟩
        refine ⟨?_, b9.trans (belowK_b (w := w) (Nat.le_refl _) W9 D _ _ (by omega) k9 rfl rfl)⟩
        rw [HOK.out, if_pos rfl]
        rw [← HV.out]
      · have HOK := Lib.hid (show okSp S = false by rw [HOK0.out]; simpa using hq)
        have dq : (R == S) = false := by simpa using hq
        clear hq HOK0
        gi_wp2_with fail
        refine ⟨trivial, ?_⟩
        gi_at_call 16
        refine (callsIn_wide.2 (CS.out _ B5.out)).mono ?_
        rintro e W6 ⟨rfl, hb6⟩
        clear x0 x1 x2 x3
        have G3 := Lib.hid (G1.out.then_ hb6)
        have K6 := Lib.hid ((hb6.block D hDl5).trans K5.out)
        have B6 := Lib.hid (below_then B5.out hb6)
        clear hb6
        have hlt := (G3.out).lt
        have z0 := (G3.out).frozen 0; have z1 := (G3.out).frozen 1; have z2 := (G3.out).frozen 2; have z3 := (G3.out).frozen 3
        have y0 := (G3.out).cell 0; have y1 := (G3.out).cell 1; have y2 := (G3.out).cell 2; have y3 := (G3.out).cell 3
        simp at y0 y1 y2 y3
        gi_wp2_with fail
        have t9 := (G3.out).storeL4 (.int .i64 0) (.int .i64 0) (.int .i64 0) (.int .i64 0)
        have k9 := (heap_setL4 (w := W6) (B := w.heap.size) (q := D) (by omega) (.int .i64 0) (.int .i64 0) (.int .i64 0) (.int .i64 0)).trans K6.out
        have b9 := below_setL4 (p := w.heap.size) B6.out (Nat.le_refl _) (.int .i64 0) (.int .i64 0) (.int .i64 0) (.int .i64 0)
        generalize World.setCell (World.setCell _ _ _) _ _ = W9 at t9 k9 b9 ⊢
        refine ⟨by simp, .inl ⟨_, _, rfl, run_takeDeferred k9, ?_⟩⟩
        have t8 := at_put t9 (D := D) (by omega) (.deferred none)
        have c0 := t8.cell 0; have c1 := t8.cell 1; have c2 := t8.cell 2; have c3 := t8.cell 3
        simp at c0 c1 c2 c3
        refine ⟨.tuple #[.agg #[.int .i64 0, .int .i64 0, .int .i64 0, .int .i64 0], .int .i64 4], by simp [results, Tryd.results9, go_sem, c0, c1, c2, c3], ?_⟩
        refine ⟨?_, b9.trans (belowK_b (w := w) (Nat.le_refl _) W9 D _ _ (by omega) k9 rfl rfl)⟩
        rw [HOK.out, if_neg Bool.false_ne_true]
        rfl
  case stop =>
    rintro D c pre W _ _ h _
    exact h.elim
end Go.Proofs.YtlpbaljoanfogabDoor
