/- Several texts in one: Cell, Cat5. -/
import Derived.Test.YtdmkghgachapaabGreatDoorPar13
import Derived.Test.YtdmkghgachapaabGreatDoorCat4
set_option linter.unusedSimpArgs false
namespace Go.Proofs.YtdmkghgachapaabGreatDoor
set_option linter.unusedVariables false
set_option maxRecDepth 100000
open Go.RowKit
def CellsLe (w w' : World) : Prop := ∀ p v, w.cell? p = some v → w'.cell? p = some v
theorem CellsLe.refl (w : World) : CellsLe w w := fun _ _ h => h
theorem CellsLe.trans {a b c : World} (h : CellsLe a b) (k : CellsLe b c) : CellsLe a c := fun p v x => k p v (h p v x)
theorem CellsLe.of_grown {W W' : World} {row : Option Nat} (hg : W.grownBy W' row) (hr : ∀ r, row = some r → ∃ o : Obj, W.heap[r]? = some o ∧ o.isCells = false) : CellsLe W W' := fun p v h => cell_kept h hg hr
theorem CellsLe.of_below {W W' : World} (h : Below W.heap.size W W') : CellsLe W W' := fun p v hv => (h.cell (World.block_lt_of_cell? _ _ hv)).trans hv
mutual
theorem SubAt.cells {w w' : World} {B B2 : Nat} (hb : CellsLe w w') (hB2 : B ≤ B2) : ∀ (t : Tree) (a : Option Addr) (n : Nat), SubAt w B t a n → SubAt w' B2 t a n
  | .node k n ks, a, len, h => by
    rw [SubAt] at h ⊢
    obtain ⟨i1, i2, h1, h2, h3⟩ := h
    refine ⟨i1, i2, h1, h2, fun hn => ?_⟩
    obtain ⟨b, off, e, hlt, hr⟩ := h3 hn
    exact ⟨b, off, e, by omega, RowAt.cells hb hB2 ks b off hr⟩
theorem RowAt.cells {w w' : World} {B B2 : Nat} (hb : CellsLe w w') (hB2 : B ≤ B2) : ∀ (ts : List Tree) (b off : Nat), RowAt w B ts b off → RowAt w' B2 ts b off
  | [], b, off, h => by rw [RowAt]; trivial
  | t :: ts, b, off, h => by
    rw [RowAt] at h ⊢
    obtain ⟨⟨c0, c1, a, n, c, c2, h1, h2, h3⟩, h4⟩ := h
    exact ⟨⟨hb _ _ c0, hb _ _ c1, a, n, c, hb _ _ c2, h1, h2, SubAt.cells hb hB2 t a n h3⟩, RowAt.cells hb hB2 ts b (off + 3) h4⟩
end
theorem Months.cells {w w' : World} {B B2 : Nat} {a : Option Addr} {n : Nat} {xs : List Mon} (h : Months w B a n xs) (hb : CellsLe w w') (hB2 : B ≤ B2) : Months w' B2 a n xs :=
  ⟨⟨h.1.1, h.1.2.1, fun hn => by
    obtain ⟨b, off, e, hlt, hc⟩ := h.1.2.2 hn
    exact ⟨b, off, e, by omega, fun i x hx j v hv => hb _ _ (hc i x hx j v hv)⟩⟩, h.2⟩
theorem TreeV.cells {w w' : World} {t : PRule} {k n : Int} {a : Option Addr} {m d : Nat} {am : Option Addr} {nm cm : Nat} (h : TreeV w t k n a m d am nm cm) (hb : CellsLe w w') (hz : w.heap.size ≤ w'.heap.size) : TreeV w' t k n a m d am nm cm := by
  obtain ⟨h1, h2, h3, h4, h5, h6, h7, h8⟩ := h
  exact ⟨h1, h2, h3, h4, h5, h6, SubAt.cells hb hz _ _ _ h7, h8.cells hb hz⟩
theorem At.growC {W W' : World} {b : Nat} {o : Obj} {row : Option Nat} (h : At W b o) (hg : W.grownBy W' row) (hr : ∀ r, row = some r → ∃ o : Obj, W.heap[r]? = some o ∧ o.isCells = false) (ho : o.isCells = true) : At W' b o := by
  refine (hg.block b h.lt fun e => ?_).trans h
  obtain ⟨q, hq, hc⟩ := hr b e.symm
  rw [show W.heap[b]? = some o from h] at hq
  cases hq
  rw [ho] at hc; cases hc
theorem At.mindsC {W W' : World} {b c : Nat} {o : Obj} (h : At W b o) (hg : W.grownBy W' (some c)) (hne : c ≠ b) : At W' b o := (hg.block b h.lt (by simp; omega)).trans h
def ruleL (row : List UInt8) : PRule := match parseP 60 (textL row) with | .good (.inr t) => t | _ => rule0
def goodP (row : List UInt8) : Bool := match parseP 60 (textL row) with | .good (.inr _) => true | _ => false
theorem rows_good : rowsL.all goodP = true := by decide +kernel
theorem rows_parse {row : List UInt8} (h : row ∈ rowsL) : parseP 60 (textL row) = .good (.inr (ruleL row)) := by
  have := List.all_eq_true.1 rows_good row h
  unfold goodP at this
  unfold ruleL
  cases hp : parseP 60 (textL row) with
  | stuck => rw [hp] at this; cases this
  | bad e => rw [hp] at this; cases this
  | good x =>
    cases x with
    | inl q => rw [hp] at this; cases this
    | inr t => rfl
end Go.Proofs.YtdmkghgachapaabGreatDoor

set_option linter.unusedSimpArgs false
namespace Go.Proofs.YtdmkghgachapaabGreatDoor
set_option linter.unusedVariables false
set_option maxRecDepth 100000
open Go.RowKit Go.Shelf
attribute [local go_sem] Oper.semAt_some
abbrev zTree : Value := .agg #[.string ⟨#[]⟩, .int .i64 0, .int .i64 0, .int .i64 0, .int .i64 0, .slice none 0 0, .slice none 0 0]
def rowOf (nl : List UInt8) : Option (List UInt8) := rowsL.find? fun r => cutL r 32 == nl
def TreePost (nl : List UInt8) (w : World) (e : Ending) (w' : World) : Prop := match rowOf nl with
  | none => e = .returned (.tuple #[zTree, .int .i64 5]) ∧ Below w.heap.size w w'
  | some row => (∃ k n a m d am nm cm, e = .returned (.tuple #[.agg #[.string (tkS (ruleL row).nm), .int .i64 (ruleL row).ep, .int .i64 (ruleL row).cy, .int .i64 k, .int .i64 n, .slice a m d, .slice am nm cm], .int .i64 0]) ∧ TreeV w' (ruleL row) k n a m d am nm cm) ∧ Below w.heap.size w w'
theorem rowOf_some {nl row : List UInt8} {pre r : List (List UInt8)} (h : rowsL = pre ++ row :: r) (hp : ∀ x ∈ pre, cutL x 32 ≠ nl) (he : cutL row 32 = nl) : rowOf nl = some row := by
  unfold rowOf
  rw [h, List.find?_append, List.find?_eq_none.2 (by intro x hx; simpa using hp x hx), List.find?_cons_of_pos (by simpa using he)]
  rfl
theorem rowOf_none {nl : List UInt8} (hp : ∀ x ∈ rowsL, cutL x 32 ≠ nl) : rowOf nl = none := by
  unfold rowOf
  exact List.find?_eq_none.2 (by intro x hx; simpa using hp x hx)
def missI (nl : List UInt8) (pre : List ByteArray) : Prop := ∀ x ∈ pre, nameB x ≠ nl
abbrev nmO (nl : List UInt8) : Obj := .cells #[.string ⟨nl.toArray⟩] 9
abbrev trZ : Obj := .cells #[.string ⟨#[]⟩, .int .i64 0, .int .i64 0, .int .i64 0, .int .i64 0, .slice none 0 0, .slice none 0 0] 113
abbrev erO (e : Int) : Obj := .cells #[.int .i64 e] 26
def TreeI (nl : List UInt8) (w : World) (L : Nat) (pre : List ByteArray) (W : World) : Prop :=
  At W w.heap.size (nmO nl) ∧ At W (w.heap.size + 1) trZ ∧ At W (w.heap.size + 1 + 1) (erO 0) ∧ Below w.heap.size w W ∧ L ≤ W.heap.size ∧ missI nl pre
def TreeX (nl : List UInt8) (w : World) (L : Nat) (c : Code) (pre : List ByteArray) (W : World) : Prop :=
  c = .ret ∧ ∃ row k n a m d am nm cm, rowOf nl = some row ∧ At W (w.heap.size + 1) (trO (ruleL row) k n a m d (.slice am nm cm)) ∧ At W (w.heap.size + 1 + 1) (erO 0) ∧ TreeV W (ruleL row) k n a m d am nm cm ∧ Below w.heap.size w W ∧ L ≤ W.heap.size
theorem treeI_own (nl : List UInt8) (w : World) (L B : Nat) (hB : w.heap.size ≤ B) : OwnFrom B (TreeI nl w L) := by
  rintro s W W' row ⟨h1, h2, h3, h4, h5, h6⟩ hg hr
  have hr2 : ∀ r, row = some r → ∃ o : Obj, W.heap[r]? = some o ∧ o.isCells = false := fun r e => (hr r e).2
  exact ⟨h1.growC hg hr2 rfl, h2.growC hg hr2 rfl, h3.growC hg hr2 rfl, h4.grown hg h4.size (fun k e => by have := (hr k e).1; omega), Nat.le_trans h5 hg.size, h6⟩
theorem treeX_own (nl : List UInt8) (w : World) (L B : Nat) (hB : w.heap.size ≤ B) (c : Code) : OwnFrom B (TreeX nl w L c) := by
  rintro s W W' r0 ⟨hc, row, k, n, a, m, d, am, nm, cm, h1, h2, h3, h4, h5, h6⟩ hg hr
  have hr2 : ∀ r, r0 = some r → ∃ o : Obj, W.heap[r]? = some o ∧ o.isCells = false := fun r e => (hr r e).2
  exact ⟨hc, row, k, n, a, m, d, am, nm, cm, h1, h2.growC hg hr2 rfl, h3.growC hg hr2 rfl, h4.cells (CellsLe.of_grown hg hr2) hg.size, h5.grown hg h5.size (fun k e => by have := (hr k e).1; omega), Nat.le_trans h6 hg.size⟩
theorem treeI_minds (nl : List UInt8) (w : World) (L b : Nat) (hb : w.heap.size + 2 < b) : Minds b (TreeI nl w L) := by
  rintro s A C ⟨h1, h2, h3, h4, h5, h6⟩ hg
  exact ⟨h1.mindsC hg (by omega), h2.mindsC hg (by omega), h3.mindsC hg (by omega), h4.grown hg h4.size (fun k e => by cases e; omega), Nat.le_trans h5 hg.size, h6⟩
theorem At.apart7 {w : World} {b B : Nat} {o : Obj} (h : At w b o) (hne : b ≠ B) (u0 u1 u2 u3 u4 u5 u6 : Value) : At (((((((w.setCell ⟨B, 0, none⟩ u0).setCell ⟨B, 1, none⟩ u1).setCell ⟨B, 2, none⟩ u2).setCell ⟨B, 3, none⟩ u3).setCell ⟨B, 4, none⟩ u4).setCell ⟨B, 5, none⟩ u5).setCell ⟨B, 6, none⟩ u6) b o :=
  ((((((h.apart (p := ⟨B, 0, none⟩) hne u0).apart (p := ⟨B, 1, none⟩) hne u1).apart (p := ⟨B, 2, none⟩) hne u2).apart (p := ⟨B, 3, none⟩) hne u3).apart (p := ⟨B, 4, none⟩) hne u4).apart (p := ⟨B, 5, none⟩) hne u5).apart (p := ⟨B, 6, none⟩) hne u6
theorem at_put {W : World} {b D : Nat} {o : Obj} (h : At W b o) (hne : b ≠ D) (o' : Obj) : At (W.putObj D o') b o := (World.putObj_heap_other hne).trans h
theorem heap_set7 {w : World} {B q : Nat} (hne : q ≠ B) (u0 u1 u2 u3 u4 u5 u6 : Value) : (((((((w.setCell ⟨B, 0, none⟩ u0).setCell ⟨B, 1, none⟩ u1).setCell ⟨B, 2, none⟩ u2).setCell ⟨B, 3, none⟩ u3).setCell ⟨B, 4, none⟩ u4).setCell ⟨B, 5, none⟩ u5).setCell ⟨B, 6, none⟩ u6).heap[q]? = w.heap[q]? :=
  (Below.heap_setCell _ _ _ q hne).trans ((Below.heap_setCell _ _ _ q hne).trans ((Below.heap_setCell _ _ _ q hne).trans ((Below.heap_setCell _ _ _ q hne).trans ((Below.heap_setCell _ _ _ q hne).trans ((Below.heap_setCell _ _ _ q hne).trans (Below.heap_setCell _ _ _ q hne))))))
set_option maxHeartbeats 8000000 in
theorem cat_tree (nl : List UInt8) (w : World) (m : Int) (hm : w.cell? ⟨0, 0, none⟩ = some (.int .i64 m)) (hlv : Lvl w) (hsg : Sgn w) :
    Calls Tryz.prog 69 #[.string ⟨nl.toArray⟩] w (TreePost nl w) := by
  have hgm := World.block_lt_of_cell? _ _ hm
  have HLV := Lib.hid hlv; have HSG := Lib.hid hsg
  have HM := Lib.hid hm; have HGM := Lib.hid hgm
  clear hlv hsg
  refine (callsIn_wide (n := 3)).1 ?_
  refine callsIn_of_wp_marks Tryz.func69 rfl trivial ?_ rfl
  generalize hL : List.toArray (List.append (List.append _ _) _) = L
  have HL : L.toList = tableL := by rw [← hL]; decide +kernel
  clear hL
  have hsz := table_size HL
  simp only [Tryz.ntmps69, List.size_toArray, List.length_cons, List.length_nil, Nat.reduceAdd, Nat.reduceSub, Array.replicate_succ, Array.replicate_zero, List.push_toArray, List.append_toArray, List.nil_append, List.cons_append]
  gi_wp2_with fail
  refine ⟨trivial, ?_⟩
  gi_at_call 31
  refine (callsIn_wide.2 (str_SplitSeq ⟨L⟩ ⟨#[10]⟩ _)).mono ?_
  rintro e W2 ⟨rfl, hw2⟩
  have a1 := At.new w (nmO nl)
  have a2 := At.new (w.alloc (nmO nl)) trZ
  have a3 := At.new ((w.alloc (nmO nl)).alloc trZ) (erO 0)
  have b3 : Below w.heap.size w (((w.alloc (nmO nl)).alloc trZ).alloc (erO 0)) := below_new (below_new (below_new (Below.refl _ _) _) _) _
  obtain ⟨q0, q1, q2⟩ := seqW_boxes ⟨L⟩ ⟨#[10]⟩ (((w.alloc (nmO nl)).alloc trZ).alloc (erO 0))
  rw [← hw2] at q0 q1 q2
  simp only [World.size_alloc] at q0 q1 q2 a2 a3 ⊢
  have A1 := Lib.hid (show At W2 w.heap.size (nmO nl) by rw [hw2]; exact ((((a1.alloc _).alloc _).alloc _).alloc _).alloc _)
  have A2 := Lib.hid (show At W2 (w.heap.size + 1) trZ by rw [hw2]; exact (((a2.alloc _).alloc _).alloc _).alloc _)
  have A3 := Lib.hid (show At W2 (w.heap.size + 1 + 1) (erO 0) by rw [hw2]; exact ((a3.alloc _).alloc _).alloc _)
  have B2 := Lib.hid (show Below w.heap.size w W2 by rw [hw2]; exact seqW_below _ _ b3)
  have hs2 : W2.heap.size = w.heap.size + 6 := by rw [hw2, seqW_size]; simp only [World.size_alloc]
  obtain ⟨G, hG⟩ : ∃ G, G = w.heap.size + 1 + 1 + 1 := ⟨_, rfl⟩
  rw [← hG] at q0 q1 q2 ⊢
  have HG := Lib.hid hG
  have hG2 : w.heap.size + 2 < G := by omega
  have hG3 : w.heap.size + 6 = G + 3 := by omega
  clear hw2 a1 a2 a3 b3 hG hm hgm
  gi_wp2_with fail
  refine range_box (n := 3) (gf := 65) (lb := _) rfl (enters_of Tryz.func65 (by kernel_rfl) rfl) (b := G) (K := KB G) (xs := pcs ⟨#[10]⟩ ⟨L⟩) (by omega) (fun k hk => by have := KB_lt hk; omega)
    (split_seq 2 ⟨L⟩ ⟨#[10]⟩ (by decide) (by show L.size ≤ _; omega) (by decide) G (fun _ => False) (fun h => h) W2 q0 q1 q2 (idx_one 10 _ _ _)) (fun _ => rfl)
    (TreeI nl w (G + 3)) (TreeX nl w (G + 3)) (treeI_own _ _ _ _ (by omega)) (treeX_own _ _ _ _ (by omega)) (treeI_minds _ _ _ _ hG2)
    ⟨A1.out, A2.out, A3.out, B2.out, by omega, fun x hx => by cases hx⟩ _ (by intro l x W G hG; gi_wp2; exact hG) ?body ?done ?stop
  case body =>
    rintro l pre x W ⟨h1, h2, h3, h4, h5, h6⟩ ⟨r, hx⟩
    have hrow := row_in HL hx
    have hxs : x.size ≤ 200 := by
      have := rows_short _ hrow
      rw [show x.data.toList.length = x.size from by show x.data.toList.length = x.data.size; simp] at this
      exact this
    have H1 := Lib.hid h1; have H2 := Lib.hid h2; have H3 := Lib.hid h3; have H4 := Lib.hid h4; have H6 := Lib.hid h6; have HX := Lib.hid hx
    clear h1 h2 h3 h4 h6 hx
    gi_wp2_with fail
    refine ⟨trivial, ?_⟩
    gi_at_call 32
    refine (CallsIn.inRound l (callsIn_wide.2 (lib_Cut x 32 _ (by omega)))).mono ?_
    rintro e w' ⟨rfl, nd, rfl⟩
    have bd := below_drewN (Below.refl W.heap.size W) nd
    have V1 := Lib.hid (H1.out.then_ bd)
    have V2 := Lib.hid (H2.out.then_ bd)
    have V3 := Lib.hid (H3.out.then_ bd)
    have V4 := Lib.hid (below_then H4.out bd)
    have HBD := Lib.hid bd
    obtain ⟨V, hV⟩ : ∃ V, V = W.drewN nd := ⟨_, rfl⟩
    rw [← hV] at V1 V2 V3 V4 HBD ⊢
    have HVW := Lib.hid (show V.heap.size = W.heap.size by rw [hV]; rfl)
    clear hV bd H1 H2 H3 H4
    have x0 : V.cell? ⟨w.heap.size, 0, none⟩ = some (.string ⟨nl.toArray⟩) := V1.out.cell 0
    by_cases he : nameB x = nl
    · have d1 : (cutL x.data.toList 32 == nl) = true := by simpa [nameB] using he
      have CT := Lib.hid (show Calls Tryz.prog 83 #[.string x] V (fun e w' => e = .returned (.string ⟨(textL x.data.toList).toArray⟩) ∧ Below V.heap.size V w') from by
        have h := cat_text x.data.toList hrow V m ((V4.out.cell (p := ⟨0, 0, none⟩) HGM.out).trans HM.out)
        rw [show (⟨x.data.toList.toArray⟩ : ByteArray) = x from by simp] at h
        exact h)
      obtain ⟨R, hR⟩ : ∃ R, R = x.data.toList := ⟨_, rfl⟩
      have HRW := Lib.hid (show R ∈ rowsL by rw [hR]; exact hrow)
      rw [← hR] at CT
      have HRO := Lib.hid (show rowOf nl = some R by
        have hp := table_pieces HL
        rw [HX.out, List.map_append, List.map_cons] at hp
        have h := rowOf_some hp.symm (fun y hy => by
          obtain ⟨z, hz, rfl⟩ := List.mem_map.1 hy
          exact H6.out z hz) (show cutL x.data.toList 32 = nl from he)
        rw [h, hR])
      clear hR he hrow hxs
      gi_wp2_with fail
      refine ⟨trivial, ?_⟩
      gi_at_call 83
      refine (CallsIn.inRound l (callsIn_wide.2 CT.out)).mono ?_
      rintro e w5 ⟨rfl, hb5⟩
      have U1 := Lib.hid (V1.out.then_ hb5)
      have U2 := Lib.hid (V2.out.then_ hb5)
      have U3 := Lib.hid (V3.out.then_ hb5)
      have U4 := Lib.hid (below_then V4.out hb5)
      have HB5 := Lib.hid (HBD.out.trans (hb5.mono (by rw [HVW.out]; exact Nat.le_refl _)))
      clear hb5 CT V1 V2 V3 V4 x0
      have CP := Lib.hid (show Calls Tryz.prog 82 #[.string ⟨(textL R).toArray⟩] w5 (PPostS w5 (.good (.inr (ruleL R)))) from by
        have hz : (⟨(textL R).toArray⟩ : ByteArray).size = (textL R).length := by show (textL R).toArray.size = _; simp
        have h := rule_ParseS ⟨(textL R).toArray⟩ 60 w5 (by rw [hz]; have := (texts_short R HRW.out).1; omega) (HLV.out.below U4.out) (HSG.out.below U4.out) (by rw [show (⟨(textL R).toArray⟩ : ByteArray).data.toList = textL R from by simp, rows_parse HRW.out]; simp)
        rw [show (⟨(textL R).toArray⟩ : ByteArray).data.toList = textL R from by simp, rows_parse HRW.out] at h
        exact h)
      gi_wp2_with fail
      refine ⟨trivial, ?_⟩
      gi_at_call 82
      refine (CallsIn.inRound l (callsIn_wide.2 CP.out)).mono ?_
      rintro e w6 ⟨⟨k, n, a, m', d, am, nm, cm, rfl, htv⟩, hb6⟩
      have X2 := Lib.hid (U2.out.then_ hb6)
      have X3 := Lib.hid (U3.out.then_ hb6)
      have X4 := Lib.hid (below_then U4.out hb6)
      have HB6 := Lib.hid (HB5.out.trans (hb6.mono (by have := HB5.out.size; omega)))
      have HTV := Lib.hid htv
      have HZ6 := Lib.hid hb6.size
      have HW5 := Lib.hid (show w.heap.size + 1 + 1 < w5.heap.size from U3.out.lt)
      clear hb6 htv CP U1 U2 U3 U4 HB5
      have z0 := X2.out.frozen 0; have z1 := X2.out.frozen 1; have z2 := X2.out.frozen 2; have z3 := X2.out.frozen 3; have z4 := X2.out.frozen 4; have z5 := X2.out.frozen 5; have z6 := X2.out.frozen 6
      have y0 := X2.out.cell 0; have y1 := X2.out.cell 1; have y2 := X2.out.cell 2; have y3 := X2.out.cell 3; have y4 := X2.out.cell 4; have y5 := X2.out.cell 5; have y6 := X2.out.cell 6
      have g0 := X3.out.cell 0; have gz := X3.out.frozen 0
      simp at y0 y1 y2 y3 y4 y5 y6 g0
      have l2 := X2.out.lt; have l3 := X3.out.lt
      gi_wp2_with fail
      have t9 := ((tree_store X2.out (.string (tkS (ruleL R).nm)) (.int .i64 (ruleL R).ep) (.int .i64 (ruleL R).cy) (.int .i64 k) (.int .i64 n) (.slice a m' d) (.slice am nm cm)).apart (p := ⟨w.heap.size + 1 + 1, 0, none⟩) (by simp) (.int .i64 0)).alloc (trO (ruleL R) k n a m' d (.slice am nm cm))
      have e9 := ((X3.out.apart7 (B := w.heap.size + 1) (by omega) (.string (tkS (ruleL R).nm)) (.int .i64 (ruleL R).ep) (.int .i64 (ruleL R).cy) (.int .i64 k) (.int .i64 n) (.slice a m' d) (.slice am nm cm)).store 0 (.int .i64 0)).alloc (trO (ruleL R) k n a m' d (.slice am nm cm))
      generalize hW9 : World.alloc (World.setCell (World.setCell _ _ _) _ _) _ = W9
      rw [hW9] at t9 e9
      have hz9 : w6.heap.size ≤ W9.heap.size := by rw [← hW9]; simp [World.setCell]
      have hk9 : ∀ q, q < w6.heap.size → q ≠ w.heap.size + 1 → q ≠ w.heap.size + 1 + 1 → W9.heap[q]? = w6.heap[q]? := fun q h1 h2 h3 => by
        rw [← hW9]
        exact (Below.heap_alloc _ _ _ (by simpa [World.setCell] using h1)).trans ((Below.heap_setCell _ _ _ q h3).trans (heap_set7 h2 _ _ _ _ _ _ _))
      have hb9 : Below w.heap.size w6 W9 := by
        rw [← hW9]
        exact (below_set (below_set7 (Below.refl _ _) (by omega) _ _ _ _ _ _ _) (by simp; omega) _).alloc (by simp [World.setCell]; omega) _
      have htv9 : TreeV W9 (ruleL R) k n a m' d am nm cm := HTV.out W9 hz9 fun q h1 h2 => hk9 q h2 (by have := HW5.out; omega) (by have := HW5.out; omega)
      have hzW := HB6.out.size
      refine ⟨(keeps_below HB6.out).trans ⟨hz9, fun q o hq h0 ho => (hk9 q (Array.getElem?_eq_some_iff.1 h0).1 (by omega) (by omega)).trans h0⟩, rfl, R, k, n, a, m', d, am, nm, cm, HRO.out, t9, e9, htv9, X4.out.trans hb9, by omega⟩
    · have d1 : (cutL x.data.toList 32 == nl) = false := by simpa [nameB] using he
      gi_wp2
      refine ⟨keeps_below HBD.out, HoldsK.of_below HBD.out (fun k hk => by have := KB_lt hk; omega), V1.out, V2.out, V3.out, V4.out, by rw [HVW.out]; exact h5, fun y hy => ?_⟩
      rcases List.mem_append.1 hy with hy | hy
      · exact H6.out y hy
      · simp at hy; subst hy; exact he
  case done =>
    rintro D W hD ⟨h1, h2, h3, h4, h5, h6⟩ hK
    have HNO := Lib.hid (show rowOf nl = none from rowOf_none (fun y hy => by
      have hp := table_pieces HL
      rw [← hp] at hy
      obtain ⟨z, hz, rfl⟩ := List.mem_map.1 hy
      exact h6 z hz))
    clear h6
    have z0 := h2.frozen 0; have z1 := h2.frozen 1; have z2 := h2.frozen 2; have z3 := h2.frozen 3; have z4 := h2.frozen 4; have z5 := h2.frozen 5; have z6 := h2.frozen 6
    have y0 := h2.cell 0; have y1 := h2.cell 1; have y2 := h2.cell 2; have y3 := h2.cell 3; have y4 := h2.cell 4; have y5 := h2.cell 5; have y6 := h2.cell 6
    have g0 := h3.cell 0; have gz := h3.frozen 0
    simp at y0 y1 y2 y3 y4 y5 y6 g0
    have l2 := h2.lt; have l3 := h3.lt
    gi_wp2_with fail
    have t9 := (tree_store h2 (.string ⟨#[]⟩) (.int .i64 0) (.int .i64 0) (.int .i64 0) (.int .i64 0) (.slice none 0 0) (.slice none 0 0)).apart (p := ⟨w.heap.size + 1 + 1, 0, none⟩) (by simp) (.int .i64 5)
    have e9 := (h3.apart7 (B := w.heap.size + 1) (by omega) (.string ⟨#[]⟩) (.int .i64 0) (.int .i64 0) (.int .i64 0) (.int .i64 0) (.slice none 0 0) (.slice none 0 0)).store 0 (.int .i64 5)
    have k9 := (Below.heap_setCell _ ⟨w.heap.size + 1 + 1, 0, none⟩ (.int .i64 5) D (by simp; omega)).trans ((heap_set7 (w := W) (B := w.heap.size + 1) (q := D) (by omega) (.string ⟨#[]⟩) (.int .i64 0) (.int .i64 0) (.int .i64 0) (.int .i64 0) (.slice none 0 0) (.slice none 0 0)).trans hK)
    have b9 := below_set (p := ⟨w.heap.size + 1 + 1, 0, none⟩) (below_set7 (b := w.heap.size + 1) h4 (by omega) (.string ⟨#[]⟩) (.int .i64 0) (.int .i64 0) (.int .i64 0) (.int .i64 0) (.slice none 0 0) (.slice none 0 0)) (by simp; omega) (.int .i64 5)
    generalize World.setCell (World.setCell _ _ _) _ _ = W9 at t9 e9 k9 b9 ⊢
    refine ⟨by simp, .inl ⟨_, _, rfl, run_takeDeferred k9, ?_⟩⟩
    have t8 := at_put t9 (D := D) (by omega) (.deferred none)
    have e8 := at_put e9 (D := D) (by omega) (.deferred none)
    have c0 := t8.cell 0; have c1 := t8.cell 1; have c2 := t8.cell 2; have c3 := t8.cell 3; have c4 := t8.cell 4; have c5 := t8.cell 5; have c6 := t8.cell 6
    have d0 := e8.cell 0
    simp at c0 c1 c2 c3 c4 c5 c6 d0
    refine ⟨.tuple #[zTree, .int .i64 5], by simp [results, Tryz.results69, go_sem, c0, c1, c2, c3, c4, c5, c6, d0], ?_⟩
    show TreePost nl w _ _
    unfold TreePost
    rw [HNO.out]
    exact ⟨rfl, b9.trans (belowK_b (w := w) (Nat.le_refl _) W9 D _ _ (by omega) k9 rfl rfl)⟩
  case stop =>
    rintro D c pre W hD _ ⟨rfl, row, k, n, a, m, d, am, nm, cm, hro, h2, h3, h4, h5, h6⟩ hK
    gi_wp2_with fail
    refine ⟨by simp, .inl ⟨_, _, rfl, run_takeDeferred hK, ?_⟩⟩
    have t8 := at_put h2 (D := D) (by omega) (.deferred none)
    have e8 := at_put h3 (D := D) (by omega) (.deferred none)
    have c0 := t8.cell 0; have c1 := t8.cell 1; have c2 := t8.cell 2; have c3 := t8.cell 3; have c4 := t8.cell 4; have c5 := t8.cell 5; have c6 := t8.cell 6
    have d0 := e8.cell 0
    simp at c0 c1 c2 c3 c4 c5 c6 d0
    refine ⟨.tuple #[.agg #[.string (tkS (ruleL row).nm), .int .i64 (ruleL row).ep, .int .i64 (ruleL row).cy, .int .i64 k, .int .i64 n, .slice a m d, .slice am nm cm], .int .i64 0], by simp [results, Tryz.results69, go_sem, c0, c1, c2, c3, c4, c5, c6, d0], ?_⟩
    show TreePost nl w _ _
    unfold TreePost
    rw [hro]
    exact ⟨⟨k, n, a, m, d, am, nm, cm, rfl, h4.cells (CellsLe.of_grown (grownBy_putObj' W D (.deferred none)) (fun r e => by cases e; exact ⟨_, hK, rfl⟩)) (by simp)⟩, h5.trans (belowK_b (w := w) (Nat.le_refl _) W D _ _ (by omega) hK rfl rfl)⟩
end Go.Proofs.YtdmkghgachapaabGreatDoor
