/- Several texts in one: CatK, Cat7, Cat8, Cat9. -/
import Derived.Test.YtdmkghgachapaabGreatDoorMgL
import Derived.Test.YtdmkghgachapaabGreatDoorMgD
import Derived.Test.YtdmkghgachapaabGreatDoorComp3
import Derived.Test.YtdmkghgachapaabGreatDoorMgU
import Derived.Test.YtdmkghgachapaabGreatDoorMgY
import Derived.Test.YtdmkghgachapaabGreatDoorMg5
import Derived.Test.YtdmkghgachapaabGreatDoorRfp2
set_option linter.unusedSimpArgs false
namespace Go.Proofs.YtdmkghgachapaabGreatDoor
set_option linter.unusedVariables false
set_option maxRecDepth 100000
open Go.RowKit Go.Shelf
theorem compTo_fine {t : Tree} : ∀ k : Nat, (∀ i, i < k → (evalGo t ((i : Int) + 1)).2 = 0) → (compTo t k).1 = 0
  | 0, _ => rfl
  | k + 1, h => by
    have ih := compTo_fine k fun i hi => h i (by omega)
    rw [compTo_succ, if_neg (by rw [ih]; simp), if_neg (by rw [h k (by omega)]; simp)]
theorem compTo_sorted {t : Tree} : ∀ k : Nat, (compTo t k).2.Pairwise (· < ·)
  | 0 => by simp [compTo]
  | k + 1 => by
    have ih := compTo_sorted (t := t) k
    rw [compTo_succ]
    split
    · exact ih
    · split
      · simp
      · rw [List.pairwise_append]
        refine ⟨ih, by split <;> simp, fun a ha b hb => ?_⟩
        have := compTo_mem k a ha
        split at hb
        · simp at hb; omega
        · simp at hb
theorem incErr_fine (lo hi : Int) : ∀ (l : List Int) (p : Option Int), (∀ z ∈ l, lo ≤ z ∧ z ≤ hi) → l.Pairwise (· < ·) → (∀ q, p = some q → ∀ z ∈ l, q < z) → incErr lo hi p l = 0
  | [], _, _, _, _ => by rw [incErr]
  | y :: l, p, h1, h2, h3 => by
    have hy := h1 y (by simp)
    rw [incErr_cons, if_neg (by rw [inB_yes hy.1 hy.2]; simp), if_neg ?_]
    · rw [List.pairwise_cons] at h2
      exact incErr_fine lo hi l (some y) (fun z hz => h1 z (by simp [hz])) h2.2 (fun q hq z hz => by cases hq; exact h2.1 z hz)
    · cases p with
      | none => simp
      | some q => have := h3 q rfl y (by simp); simpa using this
def calN (row : List UInt8) : Nat := (ruleL row).cy.toNat
def lsL (row : List UInt8) : List Int := (compTo (ruleL row).lp (calN row)).2
def msL (row : List UInt8) : List Mon := (ruleL row).ms.map monO
def compB (r : List UInt8) : Bool := decide (perr (ruleL r) = 0) && (List.range (calN r)).all (fun i => (evalGo (ruleL r).lp ((i : Int) + 1)).2 == 0) && decide (1 ≤ (ruleL r).cy ∧ (ruleL r).cy ≤ 3000 ∧ (ruleL r).nm.length ≤ 4000)
theorem rows_comp : rowsL.all compB = true := by decide +kernel
theorem row_comp {r : List UInt8} (h : r ∈ rowsL) : perr (ruleL r) = 0 ∧ (compTo (ruleL r).lp (calN r)).1 = 0 ∧ (ruleL r).cy = (calN r : Int) ∧ (ruleL r).nm.length ≤ 4000 := by
  have := List.all_eq_true.1 rows_comp r h
  unfold compB at this
  rw [Bool.and_eq_true, Bool.and_eq_true, decide_eq_true_eq, decide_eq_true_eq, List.all_eq_true] at this
  obtain ⟨⟨h1, h2⟩, h3, h4, h5⟩ := this
  refine ⟨h1, compTo_fine _ fun i hi => by simpa using h2 i (List.mem_range.2 hi), ?_, h5⟩
  unfold calN
  omega
end Go.Proofs.YtdmkghgachapaabGreatDoor

set_option linter.unusedSimpArgs false
namespace Go.Proofs.YtdmkghgachapaabGreatDoor
set_option linter.unusedVariables false
set_option maxRecDepth 100000
open Go.RowKit Go.Shelf
theorem row_cal {r : List UInt8} (h : r ∈ rowsL) : calErr (tkS (ruleL r).nm) (ruleL r).ep (calN r : Int) (msL r) (lsL r) = 0 := by
  obtain ⟨h1, h2, h3, _⟩ := row_comp h
  unfold perr at h1
  obtain ⟨e1, e2, e3⟩ := ruleErr_parts h1
  rw [h3] at e1
  show calErr (tkS (ruleL r).nm) (ruleL r).ep (calN r : Int) ((ruleL r).ms.map monO) (lsL r) = 0
  rw [calErr_leaps e1 e3]
  exact incErr_fine _ _ _ none (fun z hz => compTo_mem _ z hz) (compTo_sorted _) (fun q hq => by cases hq)
theorem row_compErr {r : List UInt8} (h : r ∈ rowsL) : compErr (tkS (ruleL r).nm) (ruleL r).ep (ruleL r).cy (ruleL r).lp (msL r) = 0 := by
  obtain ⟨h1, h2, h3, _⟩ := row_comp h
  unfold perr at h1
  unfold compErr msL
  rw [if_neg (by rw [h1]; simp)]
  exact h2
theorem tkS_le {r : List UInt8} (h : r ∈ rowsL) : (tkS (ruleL r).nm).size ≤ 9223372036854775807 := by
  have h4 := (row_comp h).2.2.2
  have : (tkS (ruleL r).nm).size = (ruleL r).nm.length := by show (ruleL r).nm.toArray.size = _; simp
  omega
def CalRet (row : List UInt8) (w : World) (v : Value) (w' : World) : Prop := ∃ a1 n1 c1 a2 n2 c2, v = .agg #[.string (tkS (ruleL row).nm), .int .i64 (ruleL row).ep, .int .i64 (calN row : Int), .slice a1 n1 c1, .slice a2 n2 c2] ∧ n1 ≤ c1 ∧ n2 ≤ c2 ∧ CalAt w' a1 a2 n1 n2 (msL row) (lsL row) ∧ Below w.heap.size w w'
theorem comp_c {row : List UInt8} (hr : row ∈ rowsL) {k n : Int} {a am : Option Addr} {m' d nm cm : Nat} (W : World) (h : TreeV W (ruleL row) k n a m' d am nm cm) :
    Calls Tryz.prog 70 #[.agg #[.string (tkS (ruleL row).nm), .int .i64 (ruleL row).ep, .int .i64 (ruleL row).cy, .int .i64 k, .int .i64 n, .slice a m' d, .slice am nm cm]] W (fun e w' => ∃ v, e = .returned (.tuple #[v, .int .i64 0]) ∧ CalRet row W v w') ∧
    Calls Tryz.prog 74 #[.agg #[.string (tkS (ruleL row).nm), .int .i64 (ruleL row).ep, .int .i64 (ruleL row).cy, .int .i64 k, .int .i64 n, .slice a m' d, .slice am nm cm]] W (fun e w' => ∃ v, e = .returned (.tuple #[v, .int .i64 0]) ∧ CalRet row W v w') := by
  obtain ⟨p1, p2, p3, p4⟩ := row_comp hr
  have pe := row_compErr hr
  obtain ⟨h1, h2, h3, h4, h5, h6, h7, h8⟩ := h
  have key : ∀ e w', CompPost (tkS (ruleL row).nm) (ruleL row).ep (ruleL row).cy (ruleL row).lp (msL row) W e w' → ∃ v, e = .returned (.tuple #[v, .int .i64 0]) ∧ CalRet row W v w' := by
    rintro e w' (⟨hne, _⟩ | ⟨_, a1, n1, c1, a2, n2, c2, rfl, k1, k2, m1, m2, hb⟩)
    · exact absurd pe hne
    · exact ⟨_, rfl, a1, n1, c1, a2, n2, c2, by rw [p3], k1, k2, ⟨m1, m2⟩, hb⟩
  unfold msL at key
  cases hlp : (ruleL row).lp with
  | node K N KS =>
    rw [hlp] at h1 h2 h7 key
    obtain rfl : k = K := h1
    obtain rfl : n = N := h2
    exact ⟨(compile_Compile W (tkS (ruleL row).nm) (ruleL row).ep (ruleL row).cy k n KS a am m' d nm cm ((ruleL row).ms.map monO) (tkS_le hr) h3 h4 h5 h7 h8).mono key,
      (ref_Compile W (tkS (ruleL row).nm) (ruleL row).ep (ruleL row).cy k n KS a am m' d nm cm ((ruleL row).ms.map monO) (tkS_le hr) h3 h4 h5 h7 h8).mono key⟩
abbrev zCalV : Value := .agg #[.string ⟨#[]⟩, .int .i64 0, .int .i64 0, .slice none 0 0, .slice none 0 0]
def CalPost (nl : List UInt8) (w : World) (e : Ending) (w' : World) : Prop := match rowOf nl with
  | none => e = .returned (.tuple #[zCalV, .int .i64 5]) ∧ Below w.heap.size w w'
  | some row => ∃ v, e = .returned (.tuple #[v, .int .i64 0]) ∧ CalRet row w v w'
abbrev zCalO : Obj := .cells #[.string ⟨#[]⟩, .int .i64 0, .int .i64 0, .slice none 0 0, .slice none 0 0] 92
theorem CalRet.after {row : List UInt8} {w W W' : World} {v : Value} (h : CalRet row W v W') (hb : Below w.heap.size w W) : CalRet row w v W' := by
  obtain ⟨a1, n1, c1, a2, n2, c2, e, k1, k2, h1, h2⟩ := h
  exact ⟨a1, n1, c1, a2, n2, c2, e, k1, k2, h1, below_then hb h2⟩
end Go.Proofs.YtdmkghgachapaabGreatDoor

set_option linter.unusedSimpArgs false
namespace Go.Proofs.YtdmkghgachapaabGreatDoor
set_option linter.unusedVariables false
set_option maxRecDepth 100000
open Go.RowKit Go.Shelf
theorem rows_named : ∀ r ∈ rowsL, ((msL r).all fun x => decide (x.1.size ≠ 0)) = true := by decide +kernel
theorem row_named {r : List UInt8} (h : r ∈ rowsL) : ∀ x ∈ msL r, x.1.size ≠ 0 := fun x hx => by
  have := List.all_eq_true.1 (rows_named r h) x hx
  simpa using this
theorem cal_far {row : List UInt8} (hr : row ∈ rowsL) {W W' : World} {b : Nat} {xs : Array Value} {ty : TypeId} {m : Nat × Nat} (hat : At W b (.cells xs ty m)) (hs : ∀ (i : Nat) (s : ByteArray), xs[i]? = some (Value.string s) → s.size = 0) (hi : ∀ (i : Nat) (v : Int), xs[i]? = some (Value.int .i64 v) → v = 0)
    (hk : OneKept b W W') {a1 a2 : Option Addr} {n1 n2 : Nat} (h : CalAt W a1 a2 n1 n2 (msL row) (lsL row)) : CalAt W' a1 a2 n1 n2 (msL row) (lsL row) := by
  obtain ⟨⟨⟨l1, l2, l3⟩, ho⟩, m1, m2, m3, m4⟩ := h
  refine ⟨⟨⟨l1, l2, fun hn => ?_⟩, ho⟩, m1, m2, m3, fun hn => ?_⟩
  · obtain ⟨b', off, e, hlt, hc⟩ := l3 hn
    have hne : b' ≠ b := by
      rintro rfl
      have h0 : 0 < (msL row).length := by omega
      have h1 := hc 0 _ (List.getElem?_eq_getElem h0) 0 _ rfl
      rw [At.cell hat] at h1
      exact row_named hr _ (List.getElem_mem h0) (hs _ _ h1)
    exact ⟨b', off, e, by have := hk.size; omega, fun i x hx j v hv => cell_heap (hk.block b' hlt hne) (hc i x hx j v hv)⟩
  · obtain ⟨b', off, e, hlt, hc⟩ := m4 hn
    have hne : b' ≠ b := by
      rintro rfl
      have h0 : 0 < (lsL row).length := by omega
      have h1 := hc 0 hn
      rw [At.cell hat] at h1
      have h2 := hi _ _ h1
      have h3 := compTo_mem (t := (ruleL row).lp) (calN row) ((lsL row)[0]) (List.getElem_mem h0)
      rw [List.getD_eq_getElem?_getD, List.getElem?_eq_getElem h0, Option.getD_some] at h2
      omega
    exact ⟨b', off, e, by have := hk.size; omega, fun i hi' => cell_heap (hk.block b' hlt hne) (hc i hi')⟩
theorem one_set5 (w : World) (b : Nat) (u0 u1 u2 u3 u4 : Value) : OneKept b w (((((w.setCell ⟨b, 0, none⟩ u0).setCell ⟨b, 1, none⟩ u1).setCell ⟨b, 2, none⟩ u2).setCell ⟨b, 3, none⟩ u3).setCell ⟨b, 4, none⟩ u4) :=
  (((((OneKept.refl b w).set 0 u0).set 1 u1).set 2 u2).set 3 u3).set 4 u4
theorem one_set9 (w : World) (b : Nat) (u0 u1 u2 u3 u4 u5 u6 u7 u8 : Value) : OneKept b w (((((((((w.setCell ⟨b, 0, none⟩ u0).setCell ⟨b, 1, none⟩ u1).setCell ⟨b, 2, none⟩ u2).setCell ⟨b, 3, none⟩ u3).setCell ⟨b, 4, none⟩ u4).setCell ⟨b, 5, none⟩ u5).setCell ⟨b, 6, none⟩ u6).setCell ⟨b, 7, none⟩ u7).setCell ⟨b, 8, none⟩ u8) :=
  (((((((((OneKept.refl b w).set 0 u0).set 1 u1).set 2 u2).set 3 u3).set 4 u4).set 5 u5).set 6 u6).set 7 u7).set 8 u8
abbrev zTr : Obj := .cells #[.string ⟨#[]⟩, .int .i64 0, .int .i64 0, .int .i64 0, .int .i64 0, .slice none 0 0, .slice none 0 0] 113
abbrev zCals : Array Value := #[.string ⟨#[]⟩, .int .i64 0, .int .i64 0, .slice none 0 0, .slice none 0 0]
theorem zCals_s : ∀ (i : Nat) (s : ByteArray), zCals[i]? = some (Value.string s) → s.size = 0 := by
  intro i s h
  match i with
  | 0 => cases h; rfl
  | 1 => cases h
  | 2 => cases h
  | 3 => cases h
  | 4 => cases h
  | _ + 5 => cases h
theorem zCals_i : ∀ (i : Nat) (v : Int), zCals[i]? = some (Value.int .i64 v) → v = 0 := by
  intro i s h
  match i with
  | 0 => cases h
  | 1 => cases h; rfl
  | 2 => cases h; rfl
  | 3 => cases h
  | 4 => cases h
  | _ + 5 => cases h
set_option maxHeartbeats 2000000 in
theorem cat_Calendar (nl : List UInt8) (w : World) (m : Int) (hm : w.cell? ⟨0, 0, none⟩ = some (.int .i64 m)) (hlv : Lvl w) (hsg : Sgn w) :
    Calls Tryz.prog 54 #[.string ⟨nl.toArray⟩] w (CalPost nl w) := by
  have hgm := World.block_lt_of_cell? _ _ hm
  have b0 : Below w.heap.size w (w.alloc zCalO) := below_new (Below.refl _ _) zCalO
  have CT := Lib.hid (cat_tree nl (w.alloc zCalO) m ((b0.cell (p := ⟨0, 0, none⟩) hgm).trans hm) (hlv.below b0) (hsg.below b0))
  have B0 := Lib.hid b0
  have A0 := Lib.hid (At.new w zCalO)
  clear hm hgm hlv hsg b0
  cases hro : rowOf nl with
  | none =>
    have HRO := Lib.hid hro
    have CC := CT.out
    unfold TreePost at CC
    rw [hro] at CC
    have CX := Lib.hid CC; clear CC CT hro
    go_enter Tryz.func54, Tryz.ntmps54
    go_wp2_with fail
    refine CX.out.mono ?_
    rintro e w1 ⟨rfl, hb⟩
    have A1 := Lib.hid ((A0.out.then_ hb).alloc zTr)
    have B1 := Lib.hid (below_new (below_then B0.out hb) zTr)
    clear hb CX A0 B0
    go_upto_region 2 with fail
    generalize World.alloc w1 _ = W2 at A1 B1 ⊢
    have f0 := A1.out.frozen 0; have f1 := A1.out.frozen 1; have f2 := A1.out.frozen 2; have f3 := A1.out.frozen 3; have f4 := A1.out.frozen 4
    have a1 := A1.out
    have z0 := a1.cell 0; have z1 := a1.cell 1; have z2 := a1.cell 2; have z3 := a1.cell 3; have z4 := a1.cell 4; simp at z0 z1 z2 z3 z4
    clear a1
    have hl := A1.out.lt
    go_wp2_with fail
    have AF := A1.out.store5 (.string ⟨#[]⟩) (.int .i64 0) (.int .i64 0) (.slice none 0 0) (.slice none 0 0)
    have BF := Lib.hid (below_set5 B1.out (p := w.heap.size) (by omega) (.string ⟨#[]⟩) (.int .i64 0) (.int .i64 0) (.slice none 0 0) (.slice none 0 0))
    clear f0 f1 f2 f3 f4 z0 z1 z2 z3 z4
    generalize World.setCell (World.setCell _ _ _) _ _ = W3 at AF BF ⊢
    have y0 := AF.cell 0; have y1 := AF.cell 1; have y2 := AF.cell 2; have y3 := AF.cell 3; have y4 := AF.cell 4; simp at y0 y1 y2 y3 y4
    exact bodyPost_ret (v := .tuple #[zCalV, .int .i64 5]) (by simp [results, Tryz.results54, go_sem, y0, y1, y2, y3, y4]) rfl (by unfold CalPost; rw [HRO.out]; exact ⟨rfl, BF.out⟩)
  | some row =>
    have hrow := (show row ∈ rowsL from List.mem_of_find?_eq_some hro)
    have HRO := Lib.hid hro
    have CC := CT.out
    unfold TreePost at CC
    rw [hro] at CC
    have CX := Lib.hid CC; clear CC CT hro
    go_enter Tryz.func54, Tryz.ntmps54
    go_wp2_with fail
    refine CX.out.mono ?_
    rintro e w1 ⟨⟨k, n, a, m', d, am, nm, cm, rfl, htv⟩, hb⟩
    have o1 := At.new w1 (trO (ruleL row) k n a m' d (.slice am nm cm))
    have A1 := Lib.hid ((A0.out.then_ hb).alloc (trO (ruleL row) k n a m' d (.slice am nm cm)))
    have B1 := Lib.hid (below_new (below_then B0.out hb) (trO (ruleL row) k n a m' d (.slice am nm cm)))
    have V2 := Lib.hid (show TreeV (w1.alloc (trO (ruleL row) k n a m' d (.slice am nm cm))) (ruleL row) k n a m' d am nm cm from htv.cells (CellsLe.of_below (below_new (Below.refl _ _) _)) (by simp))
    clear hb htv CX A0 B0
    obtain ⟨T, hT⟩ : ∃ T, T = w1.heap.size := ⟨_, rfl⟩
    rw [← hT] at o1
    go_upto_region 2 with fail
    rw [← hT]
    generalize World.alloc w1 _ = W2 at o1 A1 B1 V2 ⊢
    have x0 := o1.cell 0; have x1 := o1.cell 1; have x2 := o1.cell 2; have x3 := o1.cell 3; have x4 := o1.cell 4; have x5 := o1.cell 5; have x6 := o1.cell 6
    simp at x0 x1 x2 x3 x4 x5 x6
    have hl := o1.lt
    have CP := Lib.hid (comp_c hrow W2 V2.out).1
    clear hT o1
    go_wp2_with fail
    refine CP.out.mono ?_
    rintro e w3 ⟨v, rfl, a1, n1, c1, a2, n2, c2, rfl, k1, k2, hcal, hb⟩
    have A3 := Lib.hid (A1.out.then_ hb)
    have B3 := Lib.hid (below_then B1.out hb)
    have HC := Lib.hid hcal; have K1 := Lib.hid k1; have K2 := Lib.hid k2
    clear hb hcal k1 k2 CP V2 A1 B1 x0 x1 x2 x3 x4 x5 x6
    have f0 := A3.out.frozen 0; have f1 := A3.out.frozen 1; have f2 := A3.out.frozen 2; have f3 := A3.out.frozen 3; have f4 := A3.out.frozen 4
    have a3 := A3.out
    have z0 := a3.cell 0; have z1 := a3.cell 1; have z2 := a3.cell 2; have z3 := a3.cell 3; have z4 := a3.cell 4; simp at z0 z1 z2 z3 z4
    clear a3
    have hl3 := A3.out.lt
    go_wp2_with fail
    have AF := A3.out.store5 (.string (tkS (ruleL row).nm)) (.int .i64 (ruleL row).ep) (.int .i64 (calN row : Int)) (.slice a1 n1 c1) (.slice a2 n2 c2)
    have BF := Lib.hid (below_set5 B3.out (p := w.heap.size) (by omega) (.string (tkS (ruleL row).nm)) (.int .i64 (ruleL row).ep) (.int .i64 (calN row : Int)) (.slice a1 n1 c1) (.slice a2 n2 c2))
    have HF := Lib.hid (cal_far hrow A3.out zCals_s zCals_i (one_set5 w3 w.heap.size (.string (tkS (ruleL row).nm)) (.int .i64 (ruleL row).ep) (.int .i64 (calN row : Int)) (.slice a1 n1 c1) (.slice a2 n2 c2)) HC.out)
    clear f0 f1 f2 f3 f4 z0 z1 z2 z3 z4 A3 B3 HC
    generalize World.setCell (World.setCell _ _ _) _ _ = W5 at AF BF HF ⊢
    have y0 := AF.cell 0; have y1 := AF.cell 1; have y2 := AF.cell 2; have y3 := AF.cell 3; have y4 := AF.cell 4; simp at y0 y1 y2 y3 y4
    exact bodyPost_ret (v := .tuple #[.agg #[.string (tkS (ruleL row).nm), .int .i64 (ruleL row).ep, .int .i64 (calN row : Int), .slice a1 n1 c1, .slice a2 n2 c2], .int .i64 0]) (by simp [results, Tryz.results54, go_sem, y0, y1, y2, y3, y4]) rfl
      (by unfold CalPost; rw [HRO.out]; exact ⟨_, rfl, a1, n1, c1, a2, n2, c2, rfl, K1.out, K2.out, HF.out, BF.out⟩)
end Go.Proofs.YtdmkghgachapaabGreatDoor

set_option linter.unusedSimpArgs false
namespace Go.Proofs.YtdmkghgachapaabGreatDoor
set_option linter.unusedVariables false
set_option maxRecDepth 100000
open Go.RowKit Go.Shelf
theorem find_map9 {α : Type} [BEq α] [LawfulBEq α] (f g : List UInt8 → α) (d : α) (nl : α) : ∀ L : List (List UInt8), ((L.map f)[(L.map g).findIdx (· == nl)]?).getD d = ((L.find? fun r => g r == nl).map f).getD d
  | [] => rfl
  | r :: L => by
    rw [List.map_cons, List.map_cons, List.findIdx_cons, List.find?_cons]
    cases h : g r == nl with
    | true => simp
    | false => simp only [cond_false, List.getElem?_cons_succ]; exact find_map9 f g d nl L
theorem textOf_row9 (nl : List UInt8) : textOf nl = ((rowOf nl).map textL).getD [] := find_map9 textL (fun r => cutL r 32) [] nl rowsL
def fuelR (r : List UInt8) : Option (Res (Tree × List Tok)) := (linesOf (textL r))[3]?.map fun T => expR 60 1 (toks T).tail 0
def fuelP (r : List UInt8) : Option (Res (Tree × List Tok)) := (linesOf (textL r))[3]?.map fun T => expP 60 0 (toks T).tail 0
theorem rows_agree : rowsL.map fuelR = rowsL.map fuelP := by kernel_rfl
theorem row_agree {r : List UInt8} (h : r ∈ rowsL) : ∀ T, (linesOf (textL r))[3]? = some T → expR 60 1 (toks T).tail 0 = expP 60 0 (toks T).tail 0 := fun T hT => by
  have h1 := (List.map_inj_left.1 rows_agree) r h
  unfold fuelR fuelP at h1
  rw [hT] at h1
  injection h1
abbrev zYv : Array Value := #[.string ⟨#[]⟩, .int .i64 0, .int .i64 0, .slice none 0 0, .slice none 0 0, .slice none 0 0, .int .i64 0, .int .i64 0, .int .i64 0]
abbrev zYo : Obj := .cells zYv 100
theorem zYv_s : ∀ (i : Nat) (s : ByteArray), zYv[i]? = some (Value.string s) → s.size = 0 := by
  intro i s h
  match i with
  | 0 => cases h; rfl
  | 1 => cases h
  | 2 => cases h
  | 3 => cases h
  | 4 => cases h
  | 5 => cases h
  | 6 => cases h
  | 7 => cases h
  | 8 => cases h
  | _ + 9 => cases h
theorem zYv_i : ∀ (i : Nat) (v : Int), zYv[i]? = some (Value.int .i64 v) → v = 0 := by
  intro i s h
  match i with
  | 0 => cases h
  | 1 => cases h; rfl
  | 2 => cases h; rfl
  | 3 => cases h
  | 4 => cases h
  | 5 => cases h
  | 6 => cases h; rfl
  | 7 => cases h; rfl
  | 8 => cases h; rfl
  | _ + 9 => cases h
def YearsRet (row : List UInt8) (w : World) (v : Value) (w' : World) : Prop := ∃ a1 n1 c1 a2 n2 c2 g, v = .agg #[.string (tkS (ruleL row).nm), .int .i64 (ruleL row).ep, .int .i64 (calN row : Int), .slice a1 n1 c1, .slice a2 n2 c2, .slice (some ⟨g, 0, none⟩) (calN row) (calN row), .int .i64 (shortOf (msL row)), .int .i64 (longOf (msL row)), .int .i64 (daysTo (shortOf (msL row)) (longOf (msL row)) (lsL row) (calN row : Int))] ∧ n1 ≤ c1 ∧ n2 ≤ c2 ∧ CalAt w' a1 a2 n1 n2 (msL row) (lsL row) ∧ MarksAt w' g (calN row) (lsL row) ∧ Below w.heap.size w w'
def NamedPost (nl : List UInt8) (w : World) (e : Ending) (w' : World) : Prop := match rowOf nl with
  | none => e = .returned (.tuple #[.agg zYv, .bool false]) ∧ Below w.heap.size w w'
  | some row => ∃ v, e = .returned (.tuple #[v, .bool true]) ∧ YearsRet row w v w'
theorem rule_c {row : List UInt8} (hr : row ∈ rowsL) (W : World) (m : Int) (hm : W.cell? ⟨0, 0, none⟩ = some (.int .i64 m)) :
    Calls Tryz.prog 73 #[.string ⟨(textL row).toArray⟩] W (fun e w' => (∃ k n a m d am nm cm, e = .returned (.tuple #[.agg #[.string (tkS (ruleL row).nm), .int .i64 (ruleL row).ep, .int .i64 (ruleL row).cy, .int .i64 k, .int .i64 n, .slice a m d, .slice am nm cm], .int .i64 0, .int .i64 0]) ∧ TreeV w' (ruleL row) k n a m d am nm cm) ∧ Below W.heap.size W w') := by
  have hz : (⟨(textL row).toArray⟩ : ByteArray).size = (textL row).length := by show (textL row).toArray.size = _; simp
  have hd : (⟨(textL row).toArray⟩ : ByteArray).data.toList = textL row := by simp
  have h := ref_RuleParse ⟨(textL row).toArray⟩ 60 W (by rw [hz]; have := (texts_short row hr).1; omega) ⟨m, hm⟩ (by rw [hd, rows_parse hr]; simp) (by rw [hd]; exact row_agree hr)
  rw [hd, rows_parse hr] at h
  exact h
set_option maxHeartbeats 2000000 in
theorem ref_Named (nl : List UInt8) (w : World) (m : Int) (hm : w.cell? ⟨0, 0, none⟩ = some (.int .i64 m)) :
    Calls Tryz.prog 57 #[.string ⟨nl.toArray⟩] w (NamedPost nl w) := by
  have hgm := World.block_lt_of_cell? _ _ hm
  have b0 : Below w.heap.size w (w.alloc zYo) := below_new (Below.refl _ _) zYo
  have CT := Lib.hid (ref_Text (w.alloc zYo) m ((b0.cell (p := ⟨0, 0, none⟩) hgm).trans hm) nl)
  have HT := Lib.hid (textOf_row9 nl)
  have B0 := Lib.hid b0
  have A0 := Lib.hid (At.new w zYo)
  have HM := Lib.hid hm
  have HGM := Lib.hid hgm
  clear hm hgm b0
  cases hro : rowOf nl with
  | none =>
    have HRO := Lib.hid hro
    have CC := CT.out
    have hn := HT.out
    rw [hro] at hn
    rw [hn] at CC
    have CX := Lib.hid (show Calls Tryz.prog 19 #[.string ⟨nl.toArray⟩] (w.alloc zYo) fun e w' => e = .returned (.string ⟨#[]⟩) ∧ Below (w.alloc zYo).heap.size (w.alloc zYo) w' from CC)
    clear CC CT hro hn HT
    go_enter Tryz.func57, Tryz.ntmps57
    go_wp2_with fail
    refine CX.out.mono ?_
    rintro e w1 ⟨rfl, hb⟩
    have A1 := Lib.hid (A0.out.then_ hb)
    have B1 := Lib.hid (below_then B0.out hb)
    clear hb CX A0 B0
    have a1 := A1.out
    have z0 := a1.cell 0; have z1 := a1.cell 1; have z2 := a1.cell 2; have z3 := a1.cell 3; have z4 := a1.cell 4; have z5 := a1.cell 5; have z6 := a1.cell 6; have z7 := a1.cell 7; have z8 := a1.cell 8; simp at z0 z1 z2 z3 z4 z5 z6 z7 z8
    have f0 := a1.frozen 0; have f1 := a1.frozen 1; have f2 := a1.frozen 2; have f3 := a1.frozen 3; have f4 := a1.frozen 4; have f5 := a1.frozen 5; have f6 := a1.frozen 6; have f7 := a1.frozen 7; have f8 := a1.frozen 8
    clear a1
    have hl := A1.out.lt
    go_wp2_with fail
    have AF := A1.out.store9 (.string ⟨#[]⟩) (.int .i64 0) (.int .i64 0) (.slice none 0 0) (.slice none 0 0) (.slice none 0 0) (.int .i64 0) (.int .i64 0) (.int .i64 0)
    have BF := Lib.hid (below_set9 B1.out (p := w.heap.size) (by omega) (.string ⟨#[]⟩) (.int .i64 0) (.int .i64 0) (.slice none 0 0) (.slice none 0 0) (.slice none 0 0) (.int .i64 0) (.int .i64 0) (.int .i64 0))
    clear f0 f1 f2 f3 f4 f5 f6 f7 f8 z0 z1 z2 z3 z4 z5 z6 z7 z8
    generalize World.setCell (World.setCell _ _ _) _ _ = W3 at AF BF ⊢
    have y0 := AF.cell 0; have y1 := AF.cell 1; have y2 := AF.cell 2; have y3 := AF.cell 3; have y4 := AF.cell 4; have y5 := AF.cell 5; have y6 := AF.cell 6; have y7 := AF.cell 7; have y8 := AF.cell 8; simp at y0 y1 y2 y3 y4 y5 y6 y7 y8
    exact bodyPost_ret (v := .tuple #[.agg zYv, .bool false]) (by simp [results, Tryz.results57, go_sem, y0, y1, y2, y3, y4, y5, y6, y7, y8]) rfl (by unfold NamedPost; rw [HRO.out]; exact ⟨rfl, BF.out⟩)
  | some row =>
    have hrow : row ∈ rowsL := List.mem_of_find?_eq_some hro
    have HRO := Lib.hid hro
    have CC := CT.out
    have hn := HT.out
    rw [hro] at hn
    rw [hn] at CC
    have CX := Lib.hid (show Calls Tryz.prog 19 #[.string ⟨nl.toArray⟩] (w.alloc zYo) fun e w' => e = .returned (.string ⟨(textL row).toArray⟩) ∧ Below (w.alloc zYo).heap.size (w.alloc zYo) w' from CC)
    clear CC CT hro hn HT
    obtain ⟨tl, htl⟩ : ∃ tl, textL row = 99 :: tl := ⟨_, rfl⟩
    have RC := Lib.hid (fun (W : World) (hW : W.cell? ⟨0, 0, none⟩ = some (.int .i64 m)) => show Calls Tryz.prog 73 #[.string ⟨(99 :: tl).toArray⟩] W (fun e w' => (∃ k n a m d am nm cm, e = .returned (.tuple #[.agg #[.string (tkS (ruleL row).nm), .int .i64 (ruleL row).ep, .int .i64 (ruleL row).cy, .int .i64 k, .int .i64 n, .slice a m d, .slice am nm cm], .int .i64 0, .int .i64 0]) ∧ TreeV w' (ruleL row) k n a m d am nm cm) ∧ Below W.heap.size W w') from by
      have h := rule_c hrow W m hW
      rw [htl] at h
      exact h)
    rw [htl] at CX
    clear htl
    go_enter Tryz.func57, Tryz.ntmps57
    go_wp2_with fail
    refine CX.out.mono ?_
    rintro e w1 ⟨rfl, hb⟩
    have A1 := Lib.hid (A0.out.then_ hb)
    have B1 := Lib.hid (below_then B0.out hb)
    have CP := Lib.hid (RC.out w1 (((below_then B0.out hb).cell (p := ⟨0, 0, none⟩) HGM.out).trans HM.out))
    clear hb CX A0 B0
    go_wp2_with fail
    refine CP.out.mono ?_
    rintro e w2 ⟨⟨k, n, a, m', d, am, nm, cm, rfl, htv⟩, hb⟩
    have o1 := At.new w2 (trO (ruleL row) k n a m' d (.slice am nm cm))
    have A2 := Lib.hid ((A1.out.then_ hb).alloc (trO (ruleL row) k n a m' d (.slice am nm cm)))
    have B2 := Lib.hid (below_new (below_then B1.out hb) (trO (ruleL row) k n a m' d (.slice am nm cm)))
    have V2 := Lib.hid (show TreeV (w2.alloc (trO (ruleL row) k n a m' d (.slice am nm cm))) (ruleL row) k n a m' d am nm cm from htv.cells (CellsLe.of_below (below_new (Below.refl _ _) _)) (by simp))
    clear hb htv CP A1 B1 RC
    obtain ⟨T, hT⟩ : ∃ T, T = w2.heap.size := ⟨_, rfl⟩
    rw [← hT] at o1
    go_upto_region 5 with fail
    rw [← hT]
    generalize World.alloc w2 _ = W2 at o1 A2 B2 V2 ⊢
    have x0 := o1.cell 0; have x1 := o1.cell 1; have x2 := o1.cell 2; have x3 := o1.cell 3; have x4 := o1.cell 4; have x5 := o1.cell 5; have x6 := o1.cell 6
    simp at x0 x1 x2 x3 x4 x5 x6
    have hl := o1.lt
    have CP := Lib.hid (comp_c hrow W2 V2.out).2
    clear hT o1
    go_wp2_with fail
    refine CP.out.mono ?_
    rintro e w3 ⟨v, rfl, a1, n1, c1, a2, n2, c2, rfl, k1, k2, hcal, hb⟩
    have o3 := At.new w3 (.cells #[.string (tkS (ruleL row).nm), .int .i64 (ruleL row).ep, .int .i64 (calN row : Int), .slice a1 n1 c1, .slice a2 n2 c2] 92)
    have A3 := Lib.hid ((A2.out.then_ hb).alloc (.cells #[.string (tkS (ruleL row).nm), .int .i64 (ruleL row).ep, .int .i64 (calN row : Int), .slice a1 n1 c1, .slice a2 n2 c2] 92))
    have B3 := Lib.hid (below_new (below_then B2.out hb) (.cells #[.string (tkS (ruleL row).nm), .int .i64 (ruleL row).ep, .int .i64 (calN row : Int), .slice a1 n1 c1, .slice a2 n2 c2] 92))
    have HC := Lib.hid (hcal.alloc (.cells #[.string (tkS (ruleL row).nm), .int .i64 (ruleL row).ep, .int .i64 (calN row : Int), .slice a1 n1 c1, .slice a2 n2 c2] 92)); have K1 := Lib.hid k1; have K2 := Lib.hid k2
    clear hb hcal k1 k2 CP V2 A2 B2 x0 x1 x2 x3 x4 x5 x6 hl
    obtain ⟨T3, hT3⟩ : ∃ T, T = w3.heap.size := ⟨_, rfl⟩
    rw [← hT3] at o3
    go_upto_region 6 with fail
    rw [← hT3]
    generalize World.alloc w3 _ = W3 at o3 A3 B3 HC ⊢
    have x0 := o3.cell 0; have x1 := o3.cell 1; have x2 := o3.cell 2; have x3 := o3.cell 3; have x4 := o3.cell 4
    simp at x0 x1 x2 x3 x4
    have hl := o3.lt
    have CA := Lib.hid (ref_Apart W3 (tkS (ruleL row).nm) (ruleL row).ep (calN row) a1 a2 n1 c1 n2 c2 (msL row) (lsL row) (calOk_of (row_cal hrow)) HC.out)
    clear hT3 o3
    go_wp2_with fail
    refine CA.out.mono ?_
    rintro e w4 ⟨g, rfl, hg, hb⟩
    have A4 := Lib.hid (A3.out.then_ hb)
    have B4 := Lib.hid (below_then B3.out hb)
    have HC4 := Lib.hid (HC.out.then_ hb)
    have HG := Lib.hid hg
    clear hb CA A3 B3 x0 x1 x2 x3 x4 HC hl hg
    have a4 := A4.out
    have z0 := a4.cell 0; have z1 := a4.cell 1; have z2 := a4.cell 2; have z3 := a4.cell 3; have z4 := a4.cell 4; have z5 := a4.cell 5; have z6 := a4.cell 6; have z7 := a4.cell 7; have z8 := a4.cell 8; simp at z0 z1 z2 z3 z4 z5 z6 z7 z8
    have f0 := a4.frozen 0; have f1 := a4.frozen 1; have f2 := a4.frozen 2; have f3 := a4.frozen 3; have f4 := a4.frozen 4; have f5 := a4.frozen 5; have f6 := a4.frozen 6; have f7 := a4.frozen 7; have f8 := a4.frozen 8
    clear a4
    have hl := A4.out.lt
    go_wp2_with fail
    have hgB : g ≠ w.heap.size := by
      rintro rfl
      have h1 := HG.out.symm.trans A4.out
      injection h1 with h1
      injection h1 with h1
      have h2 : (boolCells (marks (calN row) (lsL row)))[0]? = some (.string ⟨#[]⟩) := by rw [h1]; rfl
      unfold boolCells at h2
      simp at h2
    have AF := A4.out.store9 (.string (tkS (ruleL row).nm)) (.int .i64 (ruleL row).ep) (.int .i64 (calN row : Int)) (.slice a1 n1 c1) (.slice a2 n2 c2) (.slice (some ⟨g, 0, none⟩) (calN row) (calN row)) (.int .i64 (shortOf (msL row))) (.int .i64 (longOf (msL row))) (.int .i64 (daysTo (shortOf (msL row)) (longOf (msL row)) (lsL row) (calN row : Int)))
    have BF := Lib.hid (below_set9 B4.out (p := w.heap.size) (by omega) (.string (tkS (ruleL row).nm)) (.int .i64 (ruleL row).ep) (.int .i64 (calN row : Int)) (.slice a1 n1 c1) (.slice a2 n2 c2) (.slice (some ⟨g, 0, none⟩) (calN row) (calN row)) (.int .i64 (shortOf (msL row))) (.int .i64 (longOf (msL row))) (.int .i64 (daysTo (shortOf (msL row)) (longOf (msL row)) (lsL row) (calN row : Int))))
    have HO := one_set9 w4 w.heap.size (.string (tkS (ruleL row).nm)) (.int .i64 (ruleL row).ep) (.int .i64 (calN row : Int)) (.slice a1 n1 c1) (.slice a2 n2 c2) (.slice (some ⟨g, 0, none⟩) (calN row) (calN row)) (.int .i64 (shortOf (msL row))) (.int .i64 (longOf (msL row))) (.int .i64 (daysTo (shortOf (msL row)) (longOf (msL row)) (lsL row) (calN row : Int)))
    have HF := Lib.hid (cal_far hrow A4.out zYv_s zYv_i HO HC4.out)
    have HGF := Lib.hid (show MarksAt _ g (calN row) (lsL row) from At.oneKept HG.out HO hgB)
    clear f0 f1 f2 f3 f4 f5 f6 f7 f8 z0 z1 z2 z3 z4 z5 z6 z7 z8 A4 B4 HC4 HG HO
    generalize World.setCell (World.setCell _ _ _) _ _ = W5 at AF BF HF HGF ⊢
    have y0 := AF.cell 0; have y1 := AF.cell 1; have y2 := AF.cell 2; have y3 := AF.cell 3; have y4 := AF.cell 4; have y5 := AF.cell 5; have y6 := AF.cell 6; have y7 := AF.cell 7; have y8 := AF.cell 8; simp at y0 y1 y2 y3 y4 y5 y6 y7 y8
    exact bodyPost_ret (v := .tuple #[.agg #[.string (tkS (ruleL row).nm), .int .i64 (ruleL row).ep, .int .i64 (calN row : Int), .slice a1 n1 c1, .slice a2 n2 c2, .slice (some ⟨g, 0, none⟩) (calN row) (calN row), .int .i64 (shortOf (msL row)), .int .i64 (longOf (msL row)), .int .i64 (daysTo (shortOf (msL row)) (longOf (msL row)) (lsL row) (calN row : Int))], .bool true]) (by simp [results, Tryz.results57, go_sem, y0, y1, y2, y3, y4, y5, y6, y7, y8]) rfl
      (by unfold NamedPost; rw [HRO.out]; exact ⟨_, rfl, a1, n1, c1, a2, n2, c2, g, rfl, K1.out, K2.out, HF.out, HGF.out, BF.out⟩)
end Go.Proofs.YtdmkghgachapaabGreatDoor
