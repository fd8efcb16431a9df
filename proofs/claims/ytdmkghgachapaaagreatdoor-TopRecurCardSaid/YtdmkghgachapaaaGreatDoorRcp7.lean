/- Contract of recur.Parse: under way. -/
import Derived.Test.YtdmkghgachapaaaGreatDoorMgP
import Derived.Test.YtdmkghgachapaaaGreatDoorIdx1
import Derived.Test.YtdmkghgachapaaaGreatDoorLayX
import Derived.Test.YtdmkghgachapaaaGreatDoorMgK
namespace Go.Proofs.YtdmkghgachapaaaGreatDoor
set_option linter.unusedVariables false
set_option linter.unusedSimpArgs false
set_option maxRecDepth 100000
open Go.RowKit Go.Shelf
attribute [local go_sem] Oper.semAt_some

abbrev wdO (l : List (List UInt8)) : Obj := .cells (l.map strV).toArray 9
theorem pcs_strs (c : UInt8) (t : ByteArray) : (pcs ⟨#[c]⟩ t).map Value.string = (spl c t.data.toList).map strV := by
  rw [← pcs_spl, List.map_map]
  refine List.map_congr_left fun x _ => ?_
  show Value.string x = .string ⟨x.data.toList.toArray⟩
  simp
theorem pcs_count (c : UInt8) (t : ByteArray) : (spl c t.data.toList).length = Lib.countB t ⟨#[c]⟩ + 1 := by
  have h := Lib.splitB_all ⟨#[c]⟩ (show 1 ≤ (⟨#[c]⟩ : ByteArray).size from Nat.le_refl 1) 0 (Lib.count t.data.toList [c]) t (by simp [Lib.countB])
  have h2 := congrArg List.length (pcs_spl c t)
  rw [List.length_map] at h2
  rw [← h2]
  exact h
theorem lib_Split32 (S : List UInt8) (W : World) (m : Int) (hm : W.cell? ⟨3, 0, none⟩ = some (.int .i64 m)) (hS : S.length ≤ 4294960000) :
    Calls Tryz.prog 10 #[.string ⟨S.toArray⟩, .string ⟨#[32]⟩] W fun e w' => e = .returned (.slice (some ⟨W.heap.size, 0, none⟩) (spl 32 S).length (spl 32 S).length) ∧ w' = W.alloc (wdO (spl 32 S)) := by
  have hz : (⟨S.toArray⟩ : ByteArray).size = S.length := by show S.toArray.size = _; simp
  have h1 := Any.strings_Split { Tryz.laysLaysMn146 with } Tryz.laysLaysMn146.i9 ⟨S.toArray⟩ ⟨#[32]⟩ m W (by rw [hz]; omega) hm (by decide)
  have e1 := pcs_count 32 ⟨S.toArray⟩
  have e2 := pcs_strs 32 ⟨S.toArray⟩
  rw [show (⟨S.toArray⟩ : ByteArray).data.toList = S from by simp] at e1 e2
  rw [← e1, show (Lib.splitB ⟨#[32]⟩ 0 (Lib.countB ⟨S.toArray⟩ ⟨#[32]⟩) ⟨S.toArray⟩).map Value.string = (spl 32 S).map strV from e2] at h1
  exact h1
theorem wd_cell {w : World} {T : Nat} {l : List (List UInt8)} (h : At w T (wdO l)) {j : Nat} {t : List UInt8} (hj : l[j]? = some t) : w.cell? ⟨T, j, none⟩ = some (.string ⟨t.toArray⟩) := by
  rw [At.cell h j]
  simp [hj, strV]
theorem wd_txts {w : World} {T : Nat} {l : List (List UInt8)} (h : At w T (wdO l)) (hl : l.length ≤ 9223372036854775807) : Txts w w.heap.size (some ⟨T, 0, none⟩) l.length (l.map fun x => (⟨x.toArray⟩ : ByteArray)) := by
  refine ⟨by simp, hl, fun _ => ⟨T, 0, rfl, h.lt, fun i x hx j v hv => ?_⟩⟩
  rw [List.getElem?_map, Option.map_eq_some_iff] at hx
  obtain ⟨y, hy, rfl⟩ := hx
  match j, hv with
  | 0, hv =>
    simp [encT] at hv; subst hv
    have := wd_cell h hy
    simpa using this
  | j + 1, hv => simp [encT] at hv
end Go.Proofs.YtdmkghgachapaaaGreatDoor
