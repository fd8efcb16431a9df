/- Several texts in one: Cat11, Lex2. -/
import Derived.Test.YtlpbaljoanfogaaGreatDoorMgX
import Derived.Test.YtlpbaljoanfogaaGreatDoorMgZ
import Derived.Test.YtlpbaljoanfogaaGreatDoorMgA
set_option linter.unusedSimpArgs false
namespace Go.Proofs.YtlpbaljoanfogaaGreatDoor
set_option linter.unusedVariables false
set_option maxRecDepth 100000
open Go.RowKit Go.Shelf
abbrev yrV (row : List UInt8) (a1 a2 : Option Addr) (n1 c1 n2 c2 g : Nat) : Value := .agg #[.string (tkS (ruleL row).nm), .int .i64 (ruleL row).ep, .int .i64 (calN row : Int), .slice a1 n1 c1, .slice a2 n2 c2, .slice (some ⟨g, 0, none⟩) (calN row) (calN row), .int .i64 (shortOf (msL row)), .int .i64 (longOf (msL row)), .int .i64 (daysTo (shortOf (msL row)) (longOf (msL row)) (lsL row) (calN row : Int))]
abbrev yrW (row : List UInt8) (a1 a2 : Option Addr) (n1 c1 n2 c2 g : Nat) : Obj := .cells #[.string (tkS (ruleL row).nm), .int .i64 (ruleL row).ep, .int .i64 (calN row : Int), .slice a1 n1 c1, .slice a2 n2 c2, .slice (some ⟨g, 0, none⟩) (calN row) (calN row), .int .i64 (shortOf (msL row)), .int .i64 (longOf (msL row)), .int .i64 (daysTo (shortOf (msL row)) (longOf (msL row)) (lsL row) (calN row : Int))] 40
def FromY (row : List UInt8) (x a b d ee : Int) : Prop := ∀ (w : World) (g : Nat) (a1 a2 : Option Addr) (n1 c1 n2 c2 : Nat), MarksAt w g (calN row) (lsL row) → CalAt w a1 a2 n1 n2 (msL row) (lsL row) → Calls Tryz.prog 15 #[yrV row a1 a2 n1 c1 n2 c2 g, .int .i64 x] w fun e w' => e = .returned (.tuple #[.agg #[.int .i64 a, .int .i64 b, .int .i64 d], .int .i64 ee]) ∧ Below w.heap.size w w'
def ToY (row : List UInt8) (y m d n ee : Int) : Prop := ∀ (w : World) (g : Nat) (a1 a2 : Option Addr) (n1 c1 n2 c2 : Nat), MarksAt w g (calN row) (lsL row) → CalAt w a1 a2 n1 n2 (msL row) (lsL row) → Calls Tryz.prog 21 #[yrV row a1 a2 n1 c1 n2 c2 g, .agg #[.int .i64 y, .int .i64 m, .int .i64 d]] w fun e w' => e = .returned (.tuple #[.int .i64 n, .int .i64 ee]) ∧ Below w.heap.size w w'
theorem str_back (s : ByteArray) : (⟨s.data.toList.toArray⟩ : ByteArray) = s := by simp
theorem date_at {s : ByteArray} {row : List UInt8} (hro : rowOf s.data.toList = some row) {x a b d ee : Int} (hf : FromC row x a b d ee) (w : World) (m : Int) (hm : w.cell? ⟨0, 0, none⟩ = some (.int .i64 m)) (hlv : Lvl w) (hsg : Sgn w) :
    Calls Tryz.prog 33 #[.string s, .int .i64 x] w fun e w' => e = .returned (.tuple #[.agg #[.int .i64 a, .int .i64 b, .int .i64 d], .int .i64 ee]) ∧ Below w.heap.size w w' := by
  have h := cat_Date_some s.data.toList row hro x a b d ee hf w m hm hlv hsg
  rw [str_back] at h
  exact h
theorem day_at {s : ByteArray} {row : List UInt8} (hro : rowOf s.data.toList = some row) {y mo d n ee : Int} (hf : ToC row y mo d n ee) (w : World) (m : Int) (hm : w.cell? ⟨0, 0, none⟩ = some (.int .i64 m)) (hlv : Lvl w) (hsg : Sgn w) :
    Calls Tryz.prog 42 #[.string s, .agg #[.int .i64 y, .int .i64 mo, .int .i64 d]] w fun e w' => e = .returned (.tuple #[.int .i64 n, .int .i64 ee]) ∧ Below w.heap.size w w' := by
  have h := cat_Day_some s.data.toList row hro y mo d n ee hf w m hm hlv hsg
  rw [str_back] at h
  exact h
theorem named_at {s : ByteArray} {row : List UInt8} (hro : rowOf s.data.toList = some row) (w : World) (m : Int) (hm : w.cell? ⟨0, 0, none⟩ = some (.int .i64 m)) :
    Calls Tryz.prog 13 #[.string s] w fun e w' => ∃ v, e = .returned (.tuple #[v, .bool true]) ∧ YearsRet row w v w' := by
  have h := ref_Named s.data.toList w m hm
  rw [str_back] at h
  unfold NamedPost at h
  rw [hro] at h
  exact h
theorem from_at {row : List UInt8} (hrow : row ∈ rowsL) (x : Int) : ∃ a b d ee, FromC row x a b d ee ∧ FromY row x a b d ee := from_both (tkS_le hrow) (row_cal hrow) x
end Go.Proofs.YtlpbaljoanfogaaGreatDoor

set_option linter.unusedSimpArgs false
namespace Go.Proofs.YtlpbaljoanfogaaGreatDoor
set_option linter.unusedVariables false
open Go.RowKit
section
variable {P : Program} {l : List Oper} {Q : Exit → Act → World → Prop} {md : Region.Mode} {S : World → Prop}
theorem lex_step2 {i j : Nat} {oi oj : Oper} {fuel : Nat} {listed : Array Bool} {a : Act} {w : World} (hi : l[i]? = some oi) (hj : l[j]? = some oj) (hr : Region.ready md l.toArray listed = [i, j]) (hw : Region.wanted oi (yielded l.toArray a.tmps) = true) (hw' : Region.wanted oj (yielded l.toArray a.tmps) = true)
    (h : ∀ K' : Act → World → Prop, Shut (∀ a w, S w → (S w → wpAnyH P md l.toArray Q S fuel (listed.setIfInBounds i true) a w) → K' a w) → Oper.wp P oi a w K' Q)
    (h' : ∀ K' : Act → World → Prop, Shut (∀ a w, S w → (S w → wpAnyH P md l.toArray Q S fuel (listed.setIfInBounds j true) a w) → K' a w) → Oper.wp P oj a w K' Q) : wpAnyH P md l.toArray Q S (fuel + 1) listed a w :=
  wpAnyH_ready hr (by simp) (AllReadyH.cons (o := oi) (by simpa using hi) (fun K hK => by rw [if_pos hw]; exact h K hK) (AllReadyH.cons (o := oj) (by simpa using hj) (fun K hK => by rw [if_pos hw']; exact h' K hK) AllReadyH.nil))
end
theorem one_set3 (w : World) (b : Nat) (u0 u1 u2 : Value) : OneKept b w (((w.setCell ⟨b, 0, none⟩ u0).setCell ⟨b, 1, none⟩ u1).setCell ⟨b, 2, none⟩ u2) := ((((OneKept.refl b w).set 0 u0).set 1 u1).set 2 u2)
theorem years_store {row : List UInt8} (hr : row ∈ rowsL) {W : World} {T : Nat} (hT : At W T zYo) {a1 a2 : Option Addr} {n1 c1 n2 c2 g : Nat} (hc : CalAt W a1 a2 n1 n2 (msL row) (lsL row)) (hm : MarksAt W g (calN row) (lsL row)) {W' : World}
    (hW : W' = (((((((((W.setCell ⟨T, 0, none⟩ (.string (tkS (ruleL row).nm))).setCell ⟨T, 1, none⟩ (.int .i64 (ruleL row).ep)).setCell ⟨T, 2, none⟩ (.int .i64 (calN row : Int))).setCell ⟨T, 3, none⟩ (.slice a1 n1 c1)).setCell ⟨T, 4, none⟩ (.slice a2 n2 c2)).setCell ⟨T, 5, none⟩ (.slice (some ⟨g, 0, none⟩) (calN row) (calN row))).setCell ⟨T, 6, none⟩ (.int .i64 (shortOf (msL row)))).setCell ⟨T, 7, none⟩ (.int .i64 (longOf (msL row)))).setCell ⟨T, 8, none⟩ (.int .i64 (daysTo (shortOf (msL row)) (longOf (msL row)) (lsL row) (calN row : Int))))) :
    At W' T (yrW row a1 a2 n1 c1 n2 c2 g) ∧ CalAt W' a1 a2 n1 n2 (msL row) (lsL row) ∧ MarksAt W' g (calN row) (lsL row) ∧ OneKept T W W' := by
  subst hW
  have HO := one_set9 W T (.string (tkS (ruleL row).nm)) (.int .i64 (ruleL row).ep) (.int .i64 (calN row : Int)) (.slice a1 n1 c1) (.slice a2 n2 c2) (.slice (some ⟨g, 0, none⟩) (calN row) (calN row)) (.int .i64 (shortOf (msL row))) (.int .i64 (longOf (msL row))) (.int .i64 (daysTo (shortOf (msL row)) (longOf (msL row)) (lsL row) (calN row : Int)))
  have hgT : g ≠ T := by
    rintro rfl
    have h1 := Eq.symm hm |>.trans hT
    injection h1 with h1
    injection h1 with h1
    have h2 : (boolCells (marks (calN row) (lsL row)))[0]? = some (.string ⟨#[]⟩) := by rw [h1]; rfl
    unfold boolCells at h2
    simp at h2
  exact ⟨hT.store9 _ _ _ _ _ _ _ _ _, cal_far hr hT zYv_s zYv_i HO hc, At.oneKept hm HO hgT, HO⟩
end Go.Proofs.YtlpbaljoanfogaaGreatDoor
