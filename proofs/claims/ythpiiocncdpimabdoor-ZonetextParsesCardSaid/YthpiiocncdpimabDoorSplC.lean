/- strings.Split at one byte, for a text that is not too long. -/
import Derived.Test.YthpiiocncdpimabDoorSpl
import Derived.Test.YthpiiocncdpimabDoorStrs
import Derived.Test.YthpiiocncdpimabDoorLaySplit
import Derived.Lib.Split
namespace Go.Proofs.YthpiiocncdpimabDoor
set_option linter.unusedVariables false
set_option linter.unusedSimpArgs false
set_option maxRecDepth 100000
open Go.RowKit Go.Shelf

abbrev wdO (l : List (List UInt8)) : Obj := .cells (l.map strV).toArray 9
theorem sb_spl (c : UInt8) (t : ByteArray) : (Lib.splitB ⟨#[c]⟩ 0 (Lib.count t.data.toList [c]) t).map (fun x => x.data.toList) = spl c t.data.toList := by
  rw [show (Lib.splitB ⟨#[c]⟩ 0 (Lib.count t.data.toList [c]) t).map (fun x => x.data.toList) = Lib.split t.data.toList [c] from Lib.splitB_data _ _ _ _]
  exact splitK_spl c _
theorem sb_strs (c : UInt8) (t : ByteArray) : (Lib.splitB ⟨#[c]⟩ 0 (Lib.count t.data.toList [c]) t).map Value.string = (spl c t.data.toList).map strV := by
  rw [← sb_spl, List.map_map]
  refine List.map_congr_left fun x _ => ?_
  show Value.string x = .string ⟨x.data.toList.toArray⟩
  simp
theorem sb_count (c : UInt8) (t : ByteArray) : (spl c t.data.toList).length = Lib.countB t ⟨#[c]⟩ + 1 := by
  have h := Lib.splitB_all ⟨#[c]⟩ (show 1 ≤ (⟨#[c]⟩ : ByteArray).size from Nat.le_refl 1) 0 (Lib.count t.data.toList [c]) t (by simp [Lib.countB])
  have h2 := congrArg List.length (sb_spl c t)
  rw [List.length_map] at h2
  rw [← h2]
  exact h
theorem lib_SplitC (c : UInt8) (S : List UInt8) (W : World) (m : Int) (hm : W.cell? ⟨0, 0, none⟩ = some (.int .i64 m)) (hS : S.length ≤ 4294960000) :
    Calls Tryd.prog 15 #[.string ⟨S.toArray⟩, .string ⟨#[c]⟩] W fun e w' => e = .returned (.slice (some ⟨W.heap.size, 0, none⟩) (spl c S).length (spl c S).length) ∧ w' = W.alloc (wdO (spl c S)) := by
  have hz : (⟨S.toArray⟩ : ByteArray).size = S.length := by show S.toArray.size = _; simp
  have h1 := Any.strings_Split { Tryd.laysLaysMn146 with } Tryd.laysLaysMn146.i9 ⟨S.toArray⟩ ⟨#[c]⟩ m W (by rw [hz]; omega) hm (show (1 : Nat) ≤ 1 from Nat.le_refl 1)
  have e1 := sb_count c ⟨S.toArray⟩
  have e2 := sb_strs c ⟨S.toArray⟩
  rw [show (⟨S.toArray⟩ : ByteArray).data.toList = S from by simp] at e1 e2
  rw [← e1, show (Lib.splitB ⟨#[c]⟩ 0 (Lib.countB ⟨S.toArray⟩ ⟨#[c]⟩) ⟨S.toArray⟩).map Value.string = (spl c S).map strV from e2] at h1
  exact h1
theorem wd_cell {w : World} {T : Nat} {l : List (List UInt8)} (h : At w T (wdO l)) {j : Nat} {t : List UInt8} (hj : l[j]? = some t) : w.cell? ⟨T, j, none⟩ = some (.string ⟨t.toArray⟩) := by
  rw [At.cell h j]
  simp [hj, strV]
theorem wd_lt {w : World} {T : Nat} {l : List (List UInt8)} (h : At w T (wdO l)) : T < w.heap.size := h.lt
end Go.Proofs.YthpiiocncdpimabDoor
