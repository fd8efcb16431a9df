/- strings.Index at one byte, in the form that the law for strings.SplitSeq wants. -/
import Derived.Test.YtdmkghgachapaaaGreatDoorMgK
import Derived.Test.YtdmkghgachapaaaGreatDoorMg2
import Derived.Test.YtdmkghgachapaaaGreatDoorLayX
namespace Go.Proofs.YtdmkghgachapaaaGreatDoor
set_option linter.unusedVariables false
set_option linter.unusedSimpArgs false
set_option maxRecDepth 100000
open Go.RowKit Go.Shelf

theorem lib_IndexB (t : ByteArray) (c : UInt8) (W : World) : Calls Tryz.prog 46 #[.string t, .string ⟨#[c]⟩] W fun e w' => e = .returned (.int .i64 (Lib.index t.data.toList [c])) ∧ W = w' := by
  refine (Any.strings_Index_one Tryz.laysn143 t c W).mono ?_
  rintro e w' ⟨rfl, rfl⟩
  exact ⟨by rw [Lib.index_one], rfl⟩
theorem idx_byte (c : UInt8) (N : Nat) (Kx : Nat → Prop) (w : World) : IdxOk ⟨#[c]⟩ N Kx w := fun t W _ _ => lib_IndexB t c W
theorem pcs_spl (c : UInt8) (t : ByteArray) : (pcs ⟨#[c]⟩ t).map (fun x => x.data.toList) = spl c t.data.toList := by
  rw [pcs_data]
  exact splitK_spl c _
abbrev KB1 (B : Nat) : Nat → Prop := KS B (fun _ => False)
theorem KB1_lt {B k : Nat} (h : KB1 B k) : B ≤ k ∧ k < B + 3 := by
  rcases h with h | h
  · exact h
  · exact h.elim
theorem pcs_len (c : UInt8) (t : ByteArray) : (pcs ⟨#[c]⟩ t).length ≤ t.size + 1 := by
  have h1 := congrArg List.length (pcs_spl c t)
  rw [List.length_map] at h1
  rw [h1]
  have h2 := spl_len c t.data.toList
  have h3 : t.data.toList.length = t.size := by show t.data.toList.length = t.data.size; simp
  omega
theorem pcs_size (c : UInt8) (t : ByteArray) : ∀ x ∈ pcs ⟨#[c]⟩ t, x.size ≤ t.size := by
  intro x hx
  have h1 : x.data.toList ∈ spl c t.data.toList := by rw [← pcs_spl]; exact List.mem_map_of_mem hx
  have h2 := spl_size c t.data.toList _ h1
  have h3 : t.data.toList.length = t.size := by show t.data.toList.length = t.data.size; simp
  have h4 : x.data.toList.length = x.size := by show x.data.toList.length = x.data.size; simp
  omega
end Go.Proofs.YtdmkghgachapaaaGreatDoor
