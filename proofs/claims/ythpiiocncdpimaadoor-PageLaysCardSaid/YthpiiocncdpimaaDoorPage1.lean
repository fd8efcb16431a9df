/- Contract of page.checkText. -/
import Derived.Test.YthpiiocncdpimaaDoorPage0
import Derived.Test.YthpiiocncdpimaaDoorTxt0
import Derived.Test.YthpiiocncdpimaaDoorLayPage
namespace Go.Proofs.YthpiiocncdpimaaDoor
set_option linter.unusedVariables false
set_option maxRecDepth 100000
open Go.RowKit Go.Shelf

def isCtl (x : Nat) : Bool := decide (x < 32) || decide (x = 127)
/-- The error of a text of a table, as the code finds it. -/
def cellBad (s : ByteArray) : Bool := !Lib.validD s.data.toList || ([32].isPrefixOf s.data.toList || (Lib.hasSuffix s.data.toList [32] || decide (0 ≤ Lib.idxFunc isCtl true s)))
def cellErr (s : ByteArray) : Int := if 120 < s.size then 2 else if cellBad s = true then 8 else 0
set_option maxHeartbeats 1000000 in
theorem ctl_pred (w : World) : PredAtRunes Tryd.prog 78 #[] isCtl w := fun W x hx hb => by
  show Calls Tryd.prog 78 #[.int .i32 (x : Int)] W fun e w' => e = .returned (.bool (isCtl x)) ∧ ∃ q, w' = W.drewN q
  by_cases h1 : x < 32
  · have d1 : (x : Int) < 32 := by omega
    have hr : isCtl x = true := by unfold isCtl; rw [decide_eq_true h1]; rfl
    clear h1
    go_enter Tryd.func78, Tryd.ntmps78
    go_wp2_with fail
    go_ret
    exact ⟨ret_bool (by first | rfl | exact hr.symm), 0, rfl⟩
  · have d1 : ¬ (x : Int) < 32 := by omega
    by_cases h2 : x = 127
    · subst h2
      go_enter Tryd.func78, Tryd.ntmps78
      go_wp2_with fail
      go_ret
      exact ⟨rfl, 0, rfl⟩
    · have d2 : ((x : Int) == 127) = false := by simp; omega
      have hr : isCtl x = false := by unfold isCtl; rw [decide_eq_false h1, decide_eq_false h2]; rfl
      clear h1 h2
      go_enter Tryd.func78, Tryd.ntmps78
      go_wp2_with fail
      go_ret
      exact ⟨ret_bool (by first | rfl | exact hr.symm), 0, rfl⟩
theorem lib_ContainsCtl (s : ByteArray) (w : World) : Calls Tryd.prog 77 #[.string s, .func (.func 78) #[] #[]] w fun e w' => e = .returned (.bool (decide (0 ≤ Lib.idxFunc isCtl true s))) ∧ Below w.heap.size w w' :=
  Any.strings_ContainsFunc_runes Tryd.laysLaysGwn17 78 #[] (enters_of Tryd.func78 (by kernel_rfl) rfl) isCtl s w (ctl_pred w)
set_option maxHeartbeats 4000000 in
theorem page_checkText (s : ByteArray) (w : World) (hs : s.size ≤ 9223372036854775807) (hT : Lib.Utf8Tabs 0 1 w) :
    Calls Tryd.prog 56 #[.string s] w fun e w' => e = .returned (.int .i64 (cellErr s)) ∧ Below w.heap.size w w' := by
  have VA := Lib.hid (show Calls Tryd.prog 60 #[.string s] w (fun e w' => e = .returned (.bool (Lib.validD s.data.toList)) ∧ Below w.heap.size w w') from Any.utf8_ValidString Tryd.laysn196 s w hs hT)
  have HP := Lib.hid (fun W => show Calls Tryd.prog 58 #[.string s, .string ⟨#[32]⟩] W (fun e w' => e = .returned (.bool ([32].isPrefixOf s.data.toList)) ∧ w' = W) from Any.strings_HasPrefix Tryd.laysn99 s ⟨#[32]⟩ W)
  have HSU := Lib.hid (fun W => show Calls Tryd.prog 76 #[.string s, .string ⟨#[32]⟩] W (fun e w' => e = .returned (.bool (Lib.hasSuffix s.data.toList [32])) ∧ w' = W) from Any.strings_HasSuffix Tryd.laysn100 s ⟨#[32]⟩ W hs)
  have CF := Lib.hid (fun W => lib_ContainsCtl s W)
  unfold cellErr cellBad
  by_cases hbig : 120 < s.size
  · rw [if_pos hbig]
    have d1 : (120 : Int) < s.size := by omega
    clear VA HP HSU CF hbig
    go_enter Tryd.func56, Tryd.ntmps56
    go_wp2_with fail
    go_ret
    exact ⟨rfl, Below.refl _ _⟩
  · rw [if_neg hbig]
    have d1 : ¬ (120 : Int) < s.size := by omega
    have d1' : (s.size : Int) ≤ 120 := by omega
    generalize Lib.validD s.data.toList = b1 at VA ⊢
    generalize [32].isPrefixOf s.data.toList = b2 at HP ⊢
    generalize Lib.hasSuffix s.data.toList [32] = b3 at HSU ⊢
    generalize decide (0 ≤ Lib.idxFunc isCtl true s) = b4 at CF ⊢
    clear hbig hT
    cases b1 with
    | false =>
      go_enter Tryd.func56, Tryd.ntmps56
      go_wp2_with fail
      refine VA.out.mono ?_
      rintro e w1 ⟨rfl, hb⟩
      go_wp2_with fail
      go_ret
      exact ⟨rfl, hb⟩
    | true =>
      cases b2 with
      | true =>
        go_enter Tryd.func56, Tryd.ntmps56
        go_wp2_with fail
        refine VA.out.mono ?_
        rintro e w1 ⟨rfl, hb⟩
        go_wp2_with fail
        refine (HP.out _).mono ?_
        rintro e w2 ⟨rfl, rfl⟩
        go_wp2_with fail
        go_ret
        exact ⟨rfl, hb⟩
      | false =>
        cases b3 with
        | true =>
          go_enter Tryd.func56, Tryd.ntmps56
          go_wp2_with fail
          refine VA.out.mono ?_
          rintro e w1 ⟨rfl, hb⟩
          go_wp2_with fail
          refine (HP.out _).mono ?_
          rintro e w2 ⟨rfl, rfl⟩
          go_wp2_with fail
          refine (HSU.out _).mono ?_
          rintro e w3 ⟨rfl, rfl⟩
          go_wp2_with fail
          go_ret
          exact ⟨rfl, hb⟩
        | false =>
          cases b4
          all_goals
            go_enter Tryd.func56, Tryd.ntmps56
            go_wp2_with fail
            refine VA.out.mono ?_
            rintro e w1 ⟨rfl, hb⟩
            go_wp2_with fail
            refine (HP.out _).mono ?_
            rintro e w2 ⟨rfl, rfl⟩
            go_wp2_with fail
            refine (HSU.out _).mono ?_
            rintro e w3 ⟨rfl, rfl⟩
            go_wp2_with fail
            refine (CF.out _).mono ?_
            rintro e w4 ⟨rfl, hb4⟩
            go_wp2_with fail
            go_ret
            exact ⟨rfl, below_then hb hb4⟩
end Go.Proofs.YthpiiocncdpimaaDoor
