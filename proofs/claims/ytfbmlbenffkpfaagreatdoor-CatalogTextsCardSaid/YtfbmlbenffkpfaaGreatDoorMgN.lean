/- Several texts in one: SameT, Cat6, CatLaid. -/
import Derived.Test.YtfbmlbenffkpfaaGreatDoorBase
import Derived.Test.YtfbmlbenffkpfaaGreatDoorTxt0
import Derived.Test.YtfbmlbenffkpfaaGreatDoorMgL
import Derived.Test.YtfbmlbenffkpfaaGreatDoorMgD
import Derived.Test.YtfbmlbenffkpfaaGreatDoorMgJ
import Derived.Test.YtfbmlbenffkpfaaGreatDoorRows
import Derived.Test.YtfbmlbenffkpfaaGreatDoorMgI
import Derived.Test.YtfbmlbenffkpfaaGreatDoorShow1
import Derived.Test.YtfbmlbenffkpfaaGreatDoorMgE
/- The reference's SameTexts at two rows that hold the same strings. -/
namespace Go.Proofs.YtfbmlbenffkpfaaGreatDoor
set_option linter.unusedVariables false
set_option maxRecDepth 100000
open Go.RowKit

set_option maxHeartbeats 2000000 in
theorem ref_SameTexts_same (w : World) (g1 g2 n c1 c2 : Nat) (ls : List (List UInt8)) (hn : n ≤ 9223372036854775807) (hl : ls.length = n) (hg1 : g1 < w.heap.size) (hg2 : g2 < w.heap.size)
    (h1 : ∀ (j : Nat) (l : List UInt8), ls[j]? = some l → w.cell? ⟨g1, 0 + j, none⟩ = some (.string ⟨l.toArray⟩)) (h2 : ∀ (j : Nat) (l : List UInt8), ls[j]? = some l → w.cell? ⟨g2, 0 + j, none⟩ = some (.string ⟨l.toArray⟩)) :
    Calls Tryz.prog 15 #[.slice (some ⟨g1, 0, none⟩) n c1, .slice (some ⟨g2, 0, none⟩) n c2] w fun e w' => e = .returned (.bool true) ∧ Below w.heap.size w w' := by
  have H1 := Lib.hid h1; have H2 := Lib.hid h2; have HL := Lib.hid hl
  clear h1 h2 hl
  go_enter Tryz.func15, Tryz.ntmps15
  go_wp2_with fail
  go_loopw [5, 13] (fun a i wr => ∃ j : Nat, j ≤ n ∧ i = .int .i64 j ∧ Below w.heap.size w wr) (fun a i _ => n - (intOf i).toNat)
  case atStart => exact ⟨0, by omega, rfl, Below.refl _ _⟩
  case round =>
    obtain ⟨j, hj, rfl, hb⟩ := hrel
    by_cases hlt : j < n
    · obtain ⟨x, hx⟩ : ∃ x, ls[j]? = some x := ⟨_, List.getElem?_eq_getElem (by rw [HL.out]; exact hlt)⟩
      have c1' := (hb.cell (p := ⟨g1, 0 + j, none⟩) hg1).trans (H1.out j x hx)
      have c2' := (hb.cell (p := ⟨g2, 0 + j, none⟩) hg2).trans (H2.out j x hx)
      rw [Nat.zero_add] at c1' c2'
      have hz := hb.size
      have k1 : g1 < wr.heap.size := by omega
      have k2 : g2 < wr.heap.size := by omega
      have d1 : (x != x) = false := by simp
      have HB := Lib.hid hb
      clear hx hz hb
      go_wp2_with fail
      go_quiet (fail)
      go_wp2_with fail
      go_roundw
      case rel => exact ⟨j + 1, by omega, by go_num, below_drewN HB.out _⟩
      case measure => simp [intOf]; omega
    · obtain rfl : j = n := by omega
      have HB := Lib.hid hb
      clear hb
      go_wp2_with fail
      go_ret
      exact ⟨rfl, HB.out⟩
end Go.Proofs.YtfbmlbenffkpfaaGreatDoor

/- Contract of catalog.Text. -/
namespace Go.Proofs.YtfbmlbenffkpfaaGreatDoor
set_option linter.unusedVariables false
set_option maxRecDepth 100000
open Go.RowKit Go.Shelf

def printB (r : List UInt8) : Bool := decide (perr (ruleL r) = 0) && (rulL (ruleL r).nm (ruleL r).ep (ruleL r).cy (ruleL r).lp ((ruleL r).ms.map monO) ((ruleL r).ms.map monO).length == textL r) && decide (-9223372036854775808 ≤ (ruleL r).ep ∧ (ruleL r).ep ≤ 9223372036854775807 ∧ -9223372036854775808 ≤ (ruleL r).cy ∧ (ruleL r).cy ≤ 9223372036854775807 ∧ (ruleL r).nm.length ≤ 4000)
theorem rows_print : rowsL.all printB = true := by decide +kernel
theorem row_print {r : List UInt8} (h : r ∈ rowsL) : perr (ruleL r) = 0 ∧ rulS (ruleL r).nm (ruleL r).ep (ruleL r).cy (ruleL r).lp ((ruleL r).ms.map monO) = ⟨(textL r).toArray⟩ ∧ I64 (ruleL r).ep ∧ I64 (ruleL r).cy ∧ (ruleL r).nm.length ≤ 4000 := by
  have := List.all_eq_true.1 rows_print r h
  unfold printB at this
  rw [Bool.and_eq_true, Bool.and_eq_true, decide_eq_true_eq, decide_eq_true_eq, beq_iff_eq] at this
  obtain ⟨⟨h1, h2⟩, h3, h4, h5, h6, h7⟩ := this
  exact ⟨h1, by unfold rulS; rw [h2], ⟨h3, h4⟩, ⟨h5, h6⟩, h7⟩
theorem find_row {nl row : List UInt8} (h : rowOf nl = some row) : row ∈ rowsL := List.mem_of_find?_eq_some h
theorem find_map {α : Type} [BEq α] [LawfulBEq α] (f g : List UInt8 → α) (d : α) (nl : α) : ∀ L : List (List UInt8), ((L.map f)[(L.map g).findIdx (· == nl)]?).getD d = ((L.find? fun r => g r == nl).map f).getD d
  | [] => rfl
  | r :: L => by
    rw [List.map_cons, List.map_cons, List.findIdx_cons, List.find?_cons]
    cases h : g r == nl with
    | true => simp
    | false => simp only [cond_false, List.getElem?_cons_succ]; exact find_map f g d nl L
/-- The reference's text of a name is the text of its row. -/
theorem textOf_row (nl : List UInt8) : textOf nl = ((rowOf nl).map textL).getD [] := find_map textL (fun r => cutL r 32) [] nl rowsL
def catText (nl : List UInt8) : Value := match rowOf nl with
  | none => .tuple #[.string ⟨#[]⟩, .int .i64 5]
  | some row => .tuple #[.string ⟨(textL row).toArray⟩, .int .i64 0]
theorem print_c {row : List UInt8} (hr : row ∈ rowsL) {k n : Int} {a am : Option Addr} {m' d nm cm : Nat} (W : World) (h : TreeV W (ruleL row) k n a m' d am nm cm) (hlv : Lvl W) (hsg : Sgn W) (ht : Pow W) :
    Calls Tryz.prog 45 #[.agg #[.string (tkS (ruleL row).nm), .int .i64 (ruleL row).ep, .int .i64 (ruleL row).cy, .int .i64 k, .int .i64 n, .slice a m' d, .slice am nm cm]] W fun e w' => e = .returned (.tuple #[.string ⟨(textL row).toArray⟩, .int .i64 0]) ∧ Below W.heap.size W w' := by
  obtain ⟨p1, p2, p3, p4, p5⟩ := row_print hr
  obtain ⟨h1, h2, h3, h4, h5, h6, h7, h8⟩ := h
  unfold perr at p1
  cases hlp : (ruleL row).lp with
  | node K N KS =>
    rw [hlp] at h1 h2 h7 p1 p2
    obtain rfl : k = K := h1
    obtain rfl : n = N := h2
    have hz : (⟨(ruleL row).nm.toArray⟩ : ByteArray).size = (ruleL row).nm.length := by show (ruleL row).nm.toArray.size = _; simp
    have c := rule_Print W (ruleL row).nm (ruleL row).ep (ruleL row).cy k n KS a am m' d nm cm ((ruleL row).ms.map monO) (by rw [hz]; omega) p3 p4 h3 h4 h5 h7 h8 ht hlv hsg
    have e : rprintOut (ruleL row).nm (ruleL row).ep (ruleL row).cy (.node k n KS) ((ruleL row).ms.map monO) = .tuple #[.string ⟨(textL row).toArray⟩, .int .i64 0] := by
      unfold rprintOut
      rw [if_pos p1, p2]
    rw [e] at c
    exact c
set_option maxHeartbeats 4000000 in
theorem cat_Text (nl : List UInt8) (w : World) (m : Int) (hm : w.cell? ⟨2, 0, none⟩ = some (.int .i64 m)) (hlv : Lvl w) (hsg : Sgn w) (ht : Pow w) :
    Calls Tryz.prog 13 #[.string ⟨nl.toArray⟩] w fun e w' => e = .returned (catText nl) ∧ Below w.heap.size w w' := by
  have CT := Lib.hid (cat_tree nl w m hm hlv hsg)
  have HLV := Lib.hid hlv; have HSG := Lib.hid hsg; have HT := Lib.hid ht
  clear hlv hsg ht hm
  cases hro : rowOf nl with
  | none =>
    have HR := Lib.hid (show catText nl = .tuple #[.string ⟨#[]⟩, .int .i64 5] by unfold catText; rw [hro])
    have CC := CT.out
    unfold TreePost at CC
    rw [hro] at CC
    have CX := Lib.hid CC; clear CC CT
    go_enter Tryz.func13, Tryz.ntmps13
    go_wp2_with fail
    refine CX.out.mono ?_
    rintro e w1 ⟨rfl, hb⟩
    have HB := Lib.hid (below_new hb (.cells #[.string ⟨#[]⟩, .int .i64 0, .int .i64 0, .int .i64 0, .int .i64 0, .slice none 0 0, .slice none 0 0] 94))
    clear hb
    go_wp2_with fail
    go_ret2
    exact ⟨by rw [HR.out]; rfl, HB.out⟩
  | some row =>
    have hrow := find_row hro
    have HR := Lib.hid (show catText nl = .tuple #[.string ⟨(textL row).toArray⟩, .int .i64 0] by unfold catText; rw [hro])
    have CC := CT.out
    unfold TreePost at CC
    rw [hro] at CC
    have CX := Lib.hid CC; clear CC CT
    obtain ⟨p1, p2, p3, p4, p5⟩ := row_print hrow
    go_enter Tryz.func13, Tryz.ntmps13
    go_wp2_with fail
    refine CX.out.mono ?_
    rintro e w1 ⟨⟨k, n, a, m', d, am, nm, cm, rfl, htv⟩, hb⟩
    have o1 := At.new w1 (trO (ruleL row) k n a m' d (.slice am nm cm))
    have B2 := Lib.hid (below_new hb (trO (ruleL row) k n a m' d (.slice am nm cm)))
    have V2 := Lib.hid (show TreeV (w1.alloc (trO (ruleL row) k n a m' d (.slice am nm cm))) (ruleL row) k n a m' d am nm cm from htv.cells (CellsLe.of_below (below_new (Below.refl _ _) _)) (by simp))
    clear hb htv CX
    obtain ⟨T, hT⟩ : ∃ T, T = w1.heap.size := ⟨_, rfl⟩
    rw [← hT] at o1
    go_upto_region 2 with fail
    rw [← hT]
    generalize World.alloc w1 _ = W2 at o1 B2 V2 ⊢
    have x0 := o1.cell 0; have x1 := o1.cell 1; have x2 := o1.cell 2; have x3 := o1.cell 3; have x4 := o1.cell 4; have x5 := o1.cell 5; have x6 := o1.cell 6
    simp at x0 x1 x2 x3 x4 x5 x6
    have hl := o1.lt
    have CP := Lib.hid (print_c hrow W2 V2.out (HLV.out.below B2.out) (HSG.out.below B2.out) (HT.out.below B2.out))
    clear hT o1 p1 p2 p3 p4 p5
    go_wp2_with fail
    refine CP.out.mono ?_
    rintro e w3 ⟨rfl, hb⟩
    have B3 := Lib.hid (below_then B2.out hb)
    clear hb
    go_wp2_with fail
    go_ret2
    exact ⟨by rw [HR.out]; rfl, B3.out⟩
end Go.Proofs.YtfbmlbenffkpfaaGreatDoor

/- What the rows over the catalog list: the tables of rule and of strconv. -/
namespace Go.Proofs.YtfbmlbenffkpfaaGreatDoor
set_option linter.unusedVariables false
set_option maxRecDepth 100000
open Go.RowKit Go.ChangeShapes Go.WideShapes Go.Shelf

theorem cat_lvl {W : World} {rest : List (String × DataW Unit)} {d : DataW Unit} (hd : d = Lib.tabData .i64 lvlL) (h : laidMet Tryz.prog (("ephemeris/rule.levels", d) :: rest) W) : Lvl W := by
  subst hd
  exact Lib.tabIs_of_head (g := 0) (t := 155) (e := 3) (n := 14) (by kernel_rfl) (by kernel_rfl) Tryz.underlying155 Tryz.underlying3 (by kernel_rfl) (by kernel_rfl) h
theorem cat_sgn {W : World} {rest : List (String × DataW Unit)} {d : DataW Unit} (hd : d = strData sgnL) (h : laidMet Tryz.prog (("ephemeris/rule.signs", d) :: rest) W) : Sgn W := by
  subst hd
  exact laid_strs (g := 1) (t := 156) (e := 9) (n := 14) (by kernel_rfl) (by kernel_rfl) Tryz.underlying156 Tryz.underlying9 (by kernel_rfl) (by kernel_rfl) h
theorem cat_pow : (Rows.laid_internal_strconv_uint64pow10 : DataW Unit) = Lib.tabData .u64 Lib.pow10Tab := by kernel_rfl
end Go.Proofs.YtfbmlbenffkpfaaGreatDoor
