/- The end of a region that draws its order: what is left goes in the lexical order alone, and is walked as a list. -/
import Derived.StillTail
import Derived.Test.YtdmkghgachapaaaGreatDoorMgA
namespace Go.Proofs.YtdmkghgachapaaaGreatDoor
set_option linter.unusedVariables false
open Go.RowKit

theorem anyH_of_any {P : Program} {ops : Array Oper} {md : Region.Mode} {Q : Exit → Act → World → Prop} {S : World → Prop} (hS : ∀ w, S w) :
    ∀ (fuel : Nat) (listed : Array Bool) (a : Act) (w : World), wpAny P md ops Q fuel listed a w → wpAnyH P md ops Q S fuel listed a w
  | 0, listed, a, w, h => h
  | fuel + 1, listed, a, w, h => ⟨h.1, fun i hi => wpOp_mono (fun a' w' h' => ⟨hS w', anyH_of_any hS fuel _ a' w' h'⟩) (h.2 i hi)⟩
theorem lex_seq {P : Program} {ops : List Oper} {md : Region.Mode} {Q : Exit → Act → World → Prop} {S : World → Prop} (hS : ∀ w, S w) (k : Nat) {n : Nat} {listed : Array Bool} {a : Act} {w : World} (hn : (ops.drop k).length = n)
    (hB : Region.seqB md ops.toArray n k listed = true) (h : wpList P ops.toArray Q (ops.drop k) a w) : wpAnyH P md ops.toArray Q S n listed a w := by
  subst hn
  exact anyH_of_any hS _ _ _ _ (wpAny_of_seq (Q' := Q) (ops.drop k) k listed a w (fun j => by simp [List.getElem?_drop]) hB h)
end Go.Proofs.YtdmkghgachapaaaGreatDoor
