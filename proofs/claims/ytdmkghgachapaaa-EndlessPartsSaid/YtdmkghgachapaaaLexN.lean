/- A region that draws its order: two, three or four operations may come up. -/
import Derived.Test.YtdmkghgachapaaaLex
namespace Go.Proofs.Ytdmkghgachapaaa
set_option linter.unusedVariables false
open Go.RowKit

section
variable {P : Program} {l : List Oper} {Q : Exit → Act → World → Prop} {md : Region.Mode} {S : World → Prop}
/-- What an operation must do when it comes up. -/
abbrev UpAt (P : Program) (l : List Oper) (Q : Exit → Act → World → Prop) (md : Region.Mode) (S : World → Prop) (fuel : Nat) (listed : Array Bool) (a : Act) (w : World) (i : Nat) (oi : Oper) : Prop :=
  ∀ K' : Act → World → Prop, Shut (∀ a w, S w → (S w → wpAnyH P md l.toArray Q S fuel (listed.setIfInBounds i true) a w) → K' a w) → Oper.wp P oi a w K' Q
theorem lex_n2 {i j : Nat} {oi oj : Oper} {fuel : Nat} {listed : Array Bool} {a : Act} {w : World} (hi : l[i]? = some oi) (hj : l[j]? = some oj) (hr : Region.ready md l.toArray listed = [i, j]) (hw : Region.wanted oi (yielded l.toArray a.tmps) = true) (hw' : Region.wanted oj (yielded l.toArray a.tmps) = true)
    (h : UpAt P l Q md S fuel listed a w i oi) (h' : UpAt P l Q md S fuel listed a w j oj) : wpAnyH P md l.toArray Q S (fuel + 1) listed a w :=
  wpAnyH_ready hr (by simp) (AllReadyH.cons (o := oi) (by simpa using hi) (fun K hK => by rw [if_pos hw]; exact h K hK) (AllReadyH.cons (o := oj) (by simpa using hj) (fun K hK => by rw [if_pos hw']; exact h' K hK) AllReadyH.nil))
theorem lex_n3 {i j k : Nat} {oi oj ok : Oper} {fuel : Nat} {listed : Array Bool} {a : Act} {w : World} (hi : l[i]? = some oi) (hj : l[j]? = some oj) (hk : l[k]? = some ok) (hr : Region.ready md l.toArray listed = [i, j, k]) (hw : Region.wanted oi (yielded l.toArray a.tmps) = true) (hw' : Region.wanted oj (yielded l.toArray a.tmps) = true) (hw'' : Region.wanted ok (yielded l.toArray a.tmps) = true)
    (h : UpAt P l Q md S fuel listed a w i oi) (h' : UpAt P l Q md S fuel listed a w j oj) (h'' : UpAt P l Q md S fuel listed a w k ok) : wpAnyH P md l.toArray Q S (fuel + 1) listed a w :=
  wpAnyH_ready hr (by simp) (AllReadyH.cons (o := oi) (by simpa using hi) (fun K hK => by rw [if_pos hw]; exact h K hK) (AllReadyH.cons (o := oj) (by simpa using hj) (fun K hK => by rw [if_pos hw']; exact h' K hK) (AllReadyH.cons (o := ok) (by simpa using hk) (fun K hK => by rw [if_pos hw'']; exact h'' K hK) AllReadyH.nil)))
theorem join2 {G F : Nat → World → Prop} {R : Prop} (h : (∀ Z V, F Z V → G Z V) → R) (k : ∀ Z V, F Z V → G Z V) : R := h k
end
end Go.Proofs.Ytdmkghgachapaaa
