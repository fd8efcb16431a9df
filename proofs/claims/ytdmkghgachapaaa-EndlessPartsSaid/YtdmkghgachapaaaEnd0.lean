/- A range over a function whose iterator tells how far it has gone, and which touches nothing of its consumer's: the law for the caller. -/
import Derived.Test.YtdmkghgachapaaaSeq
namespace Go.Proofs.Ytdmkghgachapaaa
set_option linter.unusedVariables false
set_option linter.unusedSimpArgs false
set_option maxRecDepth 100000
open Go.RowKit Go.Shelf

/-- Nothing but the heap has turned. -/
def SameO (A C : World) : Prop := C.os = A.os ∧ C.tape = A.tape ∧ C.output = A.output
/-- J rests on blocks below B other than b, and on its own row r. -/
def RestsOn {β : Type} (B b : Nat) (J : β → Option Nat → World → Prop) : Prop := ∀ s r A C, J s r A → SameO A C → A.heap.size ≤ C.heap.size → (∀ k : Nat, k < A.heap.size → k ≠ b → (k < B ∨ r = some k) → C.heap[k]? = A.heap[k]?) → J s r C
/-- The own row stays, or it is a new one. -/
def NewR (A : World) (r r' : Option Nat) : Prop := r' = r ∨ ∃ k, r' = some k ∧ A.heap.size ≤ k
/-- Nothing has turned but the blocks of F and the own row. -/
def OnlyF (F : Nat → Prop) (r : Option Nat) (A C : World) : Prop := A.heap.size ≤ C.heap.size ∧ ∀ k : Nat, k < A.heap.size → ¬ F k → r ≠ some k → C.heap[k]? = A.heap[k]?
theorem OnlyF.refl (F : Nat → Prop) (r : Option Nat) (A : World) : OnlyF F r A A := ⟨Nat.le_refl _, fun _ _ _ _ => rfl⟩
/-- An iterator whose state lies in the blocks of K, of which it turns b alone: it yields xs, one after the other; St says what b tells of what was yielded. -/
def SeqSt {α : Type} (n : Nat) (P : Program) (g : Nat) (lb : Array Value) (encs : α → Array Value) (b : Nat) (K : Nat → Prop) (St : List α → World → Prop) (xs : List α) (w : World) : Prop :=
  ∀ (l : Nat) (F : Nat → Prop) (J Jx : List α → Option Nat → World → Prop) (W : World), w.heap.size ≤ W.heap.size → HoldsK K w W → St [] W → (∀ k, F k → k < W.heap.size ∧ ¬ K k) → RestsOn W.heap.size b J → RestsOn W.heap.size b Jx →
    (∀ pre x r W1, J pre r W1 → St (pre ++ [x]) W1 → (∃ t, xs = pre ++ x :: t) → W.heap.size ≤ W1.heap.size → (∀ q, r = some q → W.heap.size ≤ q) → YieldAt Fence.wide (n - 1) P l (encs x) W1 fun e W' =>
      ∃ r', NewR W1 r r' ∧ OnlyF F r W1 W' ∧ ((e = .returned (.bool true) ∧ J (pre ++ [x]) r' W') ∨ (e = .returned (.bool false) ∧ Jx (pre ++ [x]) r' W'))) →
    J [] none W →
    CallsIn Fence.wide n P g (#[.func (.yield l) #[] #[]] ++ lb) W fun e W' => (∃ v, e = .returned v) ∧ ∃ r, (∀ q, r = some q → W.heap.size ≤ q) ∧ ((J xs r W' ∧ St xs W') ∨ (∃ pre, (∃ t, xs = pre ++ t) ∧ Jx pre r W' ∧ St pre W'))
/-- How the body of a round may be left. -/
def roundS {α : Type} (F : Nat → Prop) (I : List α → Option Nat → World → Prop) (Ix : Code → List α → Option Nat → World → Prop) (ys : List α) (r : Option Nat) (W : World) : Exit → Act → World → Prop
  | .normal, _, W' => ∃ r', NewR W r r' ∧ OnlyF F r W W' ∧ I ys r' W'
  | .ret, _, W' => ∃ r', NewR W r r' ∧ OnlyF F r W W' ∧ Ix .ret ys r' W'
  | .exit id, _, W' => ∃ r', NewR W r r' ∧ OnlyF F r W W' ∧ Ix (.exit id) ys r' W'
  | .goto t, _, W' => ∃ r', NewR W r r' ∧ OnlyF F r W W' ∧ Ix (.goto t) ys r' W'
  | .panic _, _, _ => False
  | .outgrown, _, _ => False

variable {P : Program} {n : Nat}
theorem RestsOn.putObj {β : Type} {B b l : Nat} {J : β → Option Nat → World → Prop} (hJ : RestsOn B b J) {s : β} {r : Option Nat} {A : World} (h : J s r A) (o : Obj) (hl : B ≤ l) (hr : r ≠ some l) : J s r (A.putObj l o) :=
  hJ s r A _ h ⟨rfl, rfl, rfl⟩ (by simp [World.putObj]) fun k _ _ hk => World.putObj_heap_other (by rcases hk with hk | hk; omega; intro e; subst e; exact hr hk)

theorem range_st {α : Type} {g : Operand} {ps : Array Tmp} {assign body : Code} {Q : Exit → Act → World → Prop} {a : Act} {w : World} {gf : Nat} {lb : Array Value}
    (hg : a.eval g = .func (.func gf) #[] lb) (eg : ∀ args w, (callFunc gf args).run P w = .ok (.enter gf args) w)
    {encs : α → Array Value} {b : Nat} {K : Nat → Prop} {St : List α → World → Prop} {xs : List α} (hbw : b < w.heap.size) (hK : ∀ k, K k → k < w.heap.size) (hseq : SeqSt (n - 1) P gf lb encs b K St xs w) (hps : ∀ x, (encs x).size = ps.size)
    (hSt : ∀ s (A C : World), St s A → C.heap[b]? = A.heap[b]? → St s C) (hSt0 : St [] w) (F : Nat → Prop) (hF : ∀ k, F k → k < w.heap.size ∧ ¬ K k) (hFb : ¬ F b)
    (I : List α → Option Nat → World → Prop) (Ix : Code → List α → Option Nat → World → Prop) (hI : RestsOn w.heap.size b I) (hIx : ∀ c, RestsOn w.heap.size b (Ix c)) (h0 : I [] none w) (a₁ : α → Act)
    (hassign : ∀ (l : Nat) (x : α) (W : World) (G : Act → World → Prop), G (a₁ x) W →
      assign.wpIn (Fence.wide.inRound l) (n - 1 - 1) P (Exit.then G (fun _ _ _ => False)) { tmps := (ps.zip (encs x)).foldl (fun t (p, v) => t.setIfInBounds p v) a.tmps, defers := [] } W)
    (hbody : ∀ (l : Nat) (pre : List α) (x : α) (r : Option Nat) (W : World), I pre r W → St (pre ++ [x]) W → (∃ t, xs = pre ++ x :: t) → w.heap.size ≤ W.heap.size → (∀ q, r = some q → w.heap.size ≤ q) → body.wpIn (Fence.wide.inRound l) (n - 1 - 1) P (roundS F I Ix (pre ++ [x]) r W) (a₁ x) W)
    (hdone : ∀ (D : Nat) (r : Option Nat) (W : World), w.heap.size ≤ D → (∀ q, r = some q → D < q) → I xs r W → St xs W → W.heap[D]? = some (.deferred (some [])) → Q .normal { a with defers := { target := .collected D, args := #[] } :: a.defers } W)
    (hstop : ∀ (D : Nat) (c : Code) (pre : List α) (r : Option Nat) (W : World), w.heap.size ≤ D → (∀ q, r = some q → D < q) → (∃ t, xs = pre ++ t) → Ix c pre r W → St pre W → W.heap[D]? = some (.deferred (some [])) → c.wpIn Fence.wide n P Q { a with defers := { target := .collected D, args := #[] } :: a.defers } W) :
    (Code.rangeFunc g ps assign body).wpIn Fence.wide n P Q a w := by
  obtain ⟨D, hD⟩ : ∃ D, D = w.heap.size := ⟨_, rfl⟩
  refine wpIn_rangeFunc fun fn hfn => ?_
  have hround : Fence.wide.round = none := rfl
  rw [hround]
  obtain ⟨rec, hrec⟩ : ∃ rec : LoopState → Option Code → Loop, rec = fun st pe => { state := st, pending := pe, fn, tmps := a.tmps, params := ps, assign, body, defers := D } := ⟨_, rfl⟩
  obtain ⟨W1, hW1⟩ : ∃ W1, (w.alloc (.deferred (some []))).alloc (.loop (rec .ready none)) = W1 := ⟨_, rfl⟩
  have rdy : W1.heap[D + 1]? = some (.loop (rec .ready none)) := by
    have := World.alloc_heap_new (w.alloc (.deferred (some []))) (.loop (rec .ready none))
    rw [World.size_alloc, ← hD] at this
    rw [← hW1]; exact this
  have opn : W1.heap[D]? = some (.deferred (some [])) := by
    rw [← hW1, hD]; exact (Below.heap_alloc _ _ _ (by simp)).trans (World.alloc_heap_new w _)
  have bel : Below w.heap.size w W1 := by rw [← hW1]; exact ((Below.refl _ w).alloc (Nat.le_refl _) _).alloc (by simp) _
  have hs1 : W1.heap.size = D + 2 := by rw [← hW1, World.size_alloc, World.size_alloc, hD]
  refine ⟨D + 1, [{ target := .collected D, args := #[] }], W1, { target := .fn (.func gf) lb, args := #[.func (.yield (D + 1)) #[] #[]] }, W1, gf, #[.func (.yield (D + 1)) #[] #[]] ++ lb, W1, ?_, ?_, fun _ _ => trivial, ?_, fun h => by simp [Fence.wide] at h, ?_⟩
  · rw [← hW1, hrec, hD]; exact run_enterLoop_outer _ _ _ _ _
  · simp only [resolve, hg]; simp [go_sem]
  · simp [invoke, go_sem, eg]
  refine (hseq (D + 1) (fun k => F k ∨ k = D + 1) (fun pre r W => I pre r W ∧ W.heap[D + 1]? = some (.loop (rec .ready none)) ∧ W.heap[D]? = some (.deferred (some [])))
    (fun pre r W => ∃ c, Ix c pre r W ∧ W.heap[D + 1]? = some (.loop (rec .done (some c))) ∧ W.heap[D]? = some (.deferred (some []))) W1 bel.size (HoldsK.of_below bel hK)
    (hSt _ _ _ hSt0 (bel.block b hbw)) (fun k hk => ?_) ?_ ?_ ?_ ⟨?_, rdy, opn⟩).mono ?_
  · rcases hk with hk | rfl
    · exact ⟨by have := (hF k hk).1; omega, (hF k hk).2⟩
    · exact ⟨by omega, fun h => by have := hK _ h; omega⟩
  · rintro s r A C ⟨i1, i2, i3⟩ hso hs hag
    have q1 := (Array.getElem?_eq_some_iff.1 i2).1; have q2 := (Array.getElem?_eq_some_iff.1 i3).1
    exact ⟨hI s r A C i1 hso hs fun k hk hne hor => hag k hk hne (hor.imp (by omega) id), (hag _ q1 (by omega) (.inl (by omega))).trans i2, (hag _ q2 (by omega) (.inl (by omega))).trans i3⟩
  · rintro s r A C ⟨c, i1, i2, i3⟩ hso hs hag
    have q1 := (Array.getElem?_eq_some_iff.1 i2).1; have q2 := (Array.getElem?_eq_some_iff.1 i3).1
    exact ⟨c, hIx c s r A C i1 hso hs fun k hk hne hor => hag k hk hne (hor.imp (by omega) id), (hag _ q1 (by omega) (.inl (by omega))).trans i2, (hag _ q2 (by omega) (.inl (by omega))).trans i3⟩
  · rintro pre x r W ⟨hi, hl, hk⟩ hst hlt hsW hr
    have hsz : D + 1 < W.heap.size := (Array.getElem?_eq_some_iff.1 hl).1
    have hrD : ∀ j, j ≤ D + 1 → r ≠ some j := fun j hj e => by have := hr _ e; omega
    have hy := run_yield (P := P) (args := encs x) hl (by rw [hrec]; exact hps x)
    rw [hrec] at hy
    refine ⟨fn, _, assign, body, hy, roundIn_of_wpIn hfn (hassign _ x W _ ⟨_, run_beginRound hl (by rw [hrec]), ?_⟩)⟩
    obtain ⟨V, hV⟩ : ∃ V, V = W.putObj (D + 1) (.loop { rec .ready none with state := .busy }) := ⟨_, rfl⟩
    rw [← hV]
    have hl2 : V.heap[D + 1]? = some (.loop { rec .ready none with state := .busy }) := by rw [hV]; exact World.putObj_heap_same hsz
    have hoV : ∀ k, k ≠ D + 1 → V.heap[k]? = W.heap[k]? := fun k hk => by rw [hV]; exact World.putObj_heap_other hk
    have hk2 : V.heap[D]? = some (.deferred (some [])) := (hoV D (by omega)).trans hk
    have hiV : I pre r V := by rw [hV]; exact hI.putObj hi _ (by omega) (hrD _ (Nat.le_refl _))
    have hsV : V.heap.size = W.heap.size := by rw [hV]; simp [World.putObj]
    have hstV : St (pre ++ [x]) V := hSt _ _ _ hst (hoV b (by omega))
    clear hV
    refine wpIn_mono (hbody _ pre x r V hiV hstV hlt (by omega) (fun q hq => by have := hr q hq; omega)) ?_
    have fin : ∀ (jump : Option Code) (r' : Option Nat) (W3 : World), OnlyF F r V W3 →
        (Instr.endRound (D + 1) jump).run P W3 = .ok (.bool jump.isNone) (W3.putObj (D + 1) (.loop (rec (if jump.isNone then .ready else .done) jump))) ∧
        (W3.putObj (D + 1) (.loop (rec (if jump.isNone then .ready else .done) jump))).heap[D + 1]? = some (.loop (rec (if jump.isNone then .ready else .done) jump)) ∧
        (W3.putObj (D + 1) (.loop (rec (if jump.isNone then .ready else .done) jump))).heap[D]? = some (.deferred (some [])) ∧
        OnlyF (fun k => F k ∨ k = D + 1) r W (W3.putObj (D + 1) (.loop (rec (if jump.isNone then .ready else .done) jump))) := fun jump r' W3 ho3 => by
      have hnf : ∀ j, D ≤ j → ¬ F j := fun j hj h => by have := (hF j h).1; omega
      have hl3 := (ho3.2 (D + 1) (by omega) (hnf _ (by omega)) (hrD _ (Nat.le_refl _))).trans hl2
      have hk3 := (ho3.2 D (by omega) (hnf _ (Nat.le_refl _)) (hrD _ (by omega))).trans hk2
      have he := run_endRound (P := P) jump hl3
      rw [hrec] at he ⊢
      refine ⟨he, World.putObj_heap_same (Array.getElem?_eq_some_iff.1 hl3).1, (World.putObj_heap_other (by omega)).trans hk3, by have := ho3.1; simp [World.putObj]; omega, fun k hk hnk hrk => ?_⟩
      have hkD : k ≠ D + 1 := fun e => hnk (.inr e)
      exact (World.putObj_heap_other hkD).trans ((ho3.2 k (by omega) (fun h => hnk (.inl h)) hrk).trans (hoV k hkD))
    have newr : ∀ {r'}, NewR V r r' → NewR W r r' ∧ ∀ j, j ≤ D + 1 → r' ≠ some j := fun {r'} h => by
      rcases h with rfl | ⟨k, rfl, hk⟩
      · exact ⟨.inl rfl, hrD⟩
      · exact ⟨.inr ⟨k, rfl, by omega⟩, fun j hj e => by injection e with e; omega⟩
    have left : ∀ (c : Code) (r' : Option Nat) (W3 : World), NewR V r r' → OnlyF F r V W3 → Ix c (pre ++ [x]) r' W3 → ∃ v w', (Instr.endRound (D + 1) (some c)).run P W3 = .ok v w' ∧
        (∃ r', NewR W r r' ∧ OnlyF (fun k => F k ∨ k = D + 1) r W w' ∧ ((Ending.returned v = .returned (.bool true) ∧ (I (pre ++ [x]) r' w' ∧ w'.heap[D + 1]? = some (.loop (rec .ready none)) ∧ w'.heap[D]? = some (.deferred (some [])))) ∨
         (Ending.returned v = .returned (.bool false) ∧ ∃ c, Ix c (pre ++ [x]) r' w' ∧ w'.heap[D + 1]? = some (.loop (rec .done (some c))) ∧ w'.heap[D]? = some (.deferred (some []))))) := fun c r' W3 hn3 ho3 hi3 => by
      obtain ⟨hr3, hl4, hk4, ho4⟩ := fin (some c) r' W3 ho3
      obtain ⟨n1, n2⟩ := newr hn3
      exact ⟨_, _, hr3, r', n1, ho4, .inr ⟨rfl, c, (hIx _).putObj hi3 _ (by omega) (n2 _ (Nat.le_refl _)), hl4, hk4⟩⟩
    rintro e a3 W3 hp
    cases e with
    | normal =>
      obtain ⟨r', hn3, ho3, hi3⟩ := hp
      obtain ⟨hr3, hl4, hk4, ho4⟩ := fin none r' W3 ho3
      obtain ⟨n1, n2⟩ := newr hn3
      exact ⟨_, _, hr3, r', n1, ho4, .inl ⟨rfl, hI.putObj hi3 _ (by omega) (n2 _ (Nat.le_refl _)), hl4, hk4⟩⟩
    | ret => obtain ⟨r', hn3, ho3, hi3⟩ := hp; exact left _ r' _ hn3 ho3 hi3
    | exit id => obtain ⟨r', hn3, ho3, hi3⟩ := hp; exact left _ r' _ hn3 ho3 hi3
    | goto t => obtain ⟨r', hn3, ho3, hi3⟩ := hp; exact left _ r' _ hn3 ho3 hi3
    | panic ch => exact hp.elim
    | outgrown => exact hp.elim
  · exact hI _ _ _ _ h0 ⟨bel.os, bel.tape, bel.output⟩ bel.size fun k _ _ hk => bel.block k (by rcases hk with hk | hk; exact hk; cases hk)
  · rintro e W2 ⟨⟨v, rfl⟩, r, hr, (⟨⟨hi, hl, hk⟩, hst⟩ | ⟨pre, hpre, ⟨c, hi, hl, hk⟩, hst⟩)⟩
    · have he := run_endLoop (P := P) hl (by rw [hrec]; simp)
      rw [hrec] at he
      exact ⟨none, _, he, hdone D r _ (by omega) (fun q hq => by have := hr q hq; omega) (hI.putObj hi _ (by omega) (fun e => by have := hr _ e; omega)) (hSt _ _ _ hst (World.putObj_heap_other (by omega))) ((World.putObj_heap_other (by omega)).trans hk)⟩
    · have he := run_endLoop (P := P) hl (by rw [hrec]; simp)
      rw [hrec] at he
      exact ⟨some c, _, he, hstop D c pre r _ (by omega) (fun q hq => by have := hr q hq; omega) hpre ((hIx c).putObj hi _ (by omega) (fun e => by have := hr _ e; omega)) (hSt _ _ _ hst (World.putObj_heap_other (by omega))) ((World.putObj_heap_other (by omega)).trans hk)⟩
end Go.Proofs.Ytdmkghgachapaaa
