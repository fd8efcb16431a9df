/- strings.SplitSeq as its callers meet it; the caller's own row in a box while it ranges. -/
import Derived.Test.YtdmkghgachapaaaDoorSeq2
import Derived.Test.YtdmkghgachapaaaDoorStore
import Derived.Laws.AppendOwn
import Derived.RangeFuncBox
namespace Go.Proofs.YtdmkghgachapaaaDoor
set_option linter.unusedVariables false
set_option maxRecDepth 100000
open Go.RowKit Go.Shelf

/-- The world behind the making of the iterator: three boxes. -/
def seqW (S sep : ByteArray) (w : World) : World := ((w.alloc (.cells #[.string S] 9)).alloc (.cells #[.string sep] 9)).alloc (.cells #[.int .i64 0] 3)
theorem seqW_size (S sep : ByteArray) (w : World) : (seqW S sep w).heap.size = w.heap.size + 3 := by simp [seqW]
theorem seqW_below {a w : World} (S sep : ByteArray) (h : Below a.heap.size a w) : Below a.heap.size a (seqW S sep w) := below_new (below_new (below_new h _) _) _
theorem seqW_boxes (S sep : ByteArray) (w : World) : Boxed (seqW S sep w) w.heap.size 9 (.string S) ∧ Boxed (seqW S sep w) (w.heap.size + 1) 9 (.string sep) ∧ Boxed (seqW S sep w) (w.heap.size + 2) 3 (.int .i64 0) := by
  have h1 := Boxed.new (w.alloc (.cells #[.string S] 9)) 9 (.string sep)
  have h2 := Boxed.new ((w.alloc (.cells #[.string S] 9)).alloc (.cells #[.string sep] 9)) 3 (.int .i64 0)
  simp only [World.size_alloc] at h1 h2
  exact ⟨((Boxed.new w _ _).alloc _).alloc _, h1.alloc _, h2⟩
def seqV (B : Nat) : Value := .func (.func 36) #[] #[.pointer (some ⟨B + 1, 0, none⟩), .pointer (some ⟨B, 0, none⟩), .pointer (some ⟨B + 2, 0, none⟩)]
set_option maxHeartbeats 1000000 in
theorem str_splitSeq (S sep : ByteArray) (w : World) : Calls Tryd.prog 23 #[.string S, .string sep, .int .i64 0] w fun e w' => e = .returned (seqV w.heap.size) ∧ w' = seqW S sep w := by
  go_enter Tryd.func23, Tryd.ntmps23
  go_wp2
  go_ret
  exact ⟨rfl, rfl⟩
set_option maxHeartbeats 1000000 in
theorem str_SplitSeq (S sep : ByteArray) (w : World) : Calls Tryd.prog 13 #[.string S, .string sep] w fun e w' => e = .returned (seqV w.heap.size) ∧ w' = seqW S sep w := by
  go_enter Tryd.func13, Tryd.ntmps13
  go_wp2_with (go_at_call 23; refine (str_splitSeq S sep _).mono ?_; rintro e w' ⟨rfl, rfl⟩)
  go_ret
  exact ⟨rfl, rfl⟩

theorem own_low {w : World} {base base' : Nat} {e : TypeId} {size : Nat} {v : Value} {n : Nat} {xs : List Value} (h : w.ownsRow base e size v n xs) (hb : base' ≤ base) : w.ownsRow base' e size v n xs := by
  refine ⟨h.1, ?_⟩
  rcases h.2 with h0 | ⟨g, cap, cur, hv, hg, rest⟩
  · exact .inl h0
  · exact .inr ⟨g, cap, cur, hv, by omega, rest⟩
theorem own_base {w : World} {base : Nat} {e : TypeId} {size : Nat} {v : Value} {n : Nat} {xs : List Value} (h : w.ownsRow base e size v n xs) {b : Nat} (hb : v.ownBlock = some b) : base ≤ b := by
  rcases h.2 with ⟨rfl, _⟩ | ⟨g, cap, cur, rfl, hg, _⟩
  · cases hb
  · cases hb; exact hg
/-- What a body leaves that appends to its own row in box o: of what lay below L nothing but o has turned. -/
theorem grow_box {W w1 : World} {L o : Nat} {t e : TypeId} {size : Nat} {v v' : Value} {k m : Nat} {xs ys : List Value} {tmp : Obj}
    (hv : Boxed W o t v) (hte : t ≠ e) (hrow : W.ownsRow L e size v k xs) (ho : o < L) (hL : L ≤ W.heap.size) (hown' : w1.ownsRow L e size v' m ys) (hgrow : (W.alloc tmp).grownBy w1 v.ownBlock) :
    Boxed w1 o t v ∧ Boxed (w1.setCell ⟨o, 0, none⟩ v') o t v' ∧ (w1.setCell ⟨o, 0, none⟩ v').ownsRow L e size v' m ys ∧ KeepsOthers W (w1.setCell ⟨o, 0, none⟩ v') ∧ Below o W (w1.setCell ⟨o, 0, none⟩ v') ∧ ∀ k, k < L → k ≠ o → (w1.setCell ⟨o, 0, none⟩ v').heap[k]? = W.heap[k]? := by
  obtain ⟨h1, h2, h3, h4, h5⟩ := Boxed.appended (n₀ := o) hv hte (own_low hrow (by omega)) (by omega) (Nat.le_refl _) (own_low hown' (by omega)) hgrow
  refine ⟨h1, h2, hown'.kept (grownBy_setCell' w1 o v') (.inr (h1.not_row hte hown').symm), h4, h5, fun k hk hne => ?_⟩
  refine (Below.heap_setCell _ _ _ k (by intro e; exact hne e)).trans ((hgrow.block k (by simp; omega) ?_).trans (Below.heap_alloc _ _ _ (by omega)))
  intro hb
  have := own_base hrow hb.symm
  omega
theorem holds_of {K : Nat → Prop} {W W' : World} {L o : Nat} (h : ∀ k, k < L → k ≠ o → W'.heap[k]? = W.heap[k]?) (hK : ∀ k, K k → k < L ∧ k ≠ o) : HoldsK K W W' := fun k hk => h k (hK k hk).1 (hK k hk).2
/-- Between two rounds: the box o holds a row of the call's own, all of it laid at or beyond L; below n₀ nothing has turned. -/
def RowI {β : Type} (n₀ L o : Nat) (t e : TypeId) (size : Nat) (w : World) (f : β → List Value) (s : β) (W : World) : Prop :=
  ((∃ v, Boxed W o t v ∧ W.ownsRow L e size v (f s).length (f s)) ∧ Below n₀ w W) ∧ L ≤ W.heap.size
theorem rowI_own {β : Type} {n₀ L o B : Nat} {t e : TypeId} {size : Nat} {w : World} (f : β → List Value) (hB : n₀ ≤ B) (hw : n₀ ≤ w.heap.size) : OwnFrom B (RowI n₀ L o t e size w f) := by
  rintro s W W' row ⟨⟨⟨v, hv, hr⟩, hb⟩, hL⟩ hg hrow
  obtain ⟨v', q1, q2, _⟩ := holdsRow_own L o t e size (fun s : β => (f s).length) f (fun _ u => u = v) s W W' row ⟨v, hv, hr, rfl⟩ hg (fun r h => (hrow r h).2)
  exact ⟨⟨⟨v', q1, q2⟩, hb.grown hg (by have := hb.size; omega) (fun k h => by have := (hrow k h).1; omega)⟩, Nat.le_trans hL hg.size⟩
theorem rowI_minds {β : Type} {n₀ L o b : Nat} {t e : TypeId} {size : Nat} {w : World} (f : β → List Value) (hbL : b < L) (hbo : b ≠ o) (hn : n₀ ≤ b) (hw : n₀ ≤ w.heap.size) : Minds b (RowI n₀ L o t e size w f) := by
  rintro s A C ⟨⟨⟨v, hv, hr⟩, hB⟩, hL⟩ hg
  refine ⟨⟨⟨v, hv.kept hg (by simp; omega), hr.kept hg ?_⟩, hB.grown hg (by have := hB.size; omega) fun k e => by cases e; exact hn⟩, Nat.le_trans hL hg.size⟩
  rcases hr.2 with ⟨rfl, _⟩ | ⟨g, cap, cur, rfl, h1, _⟩
  · exact .inl rfl
  · exact .inr (by simp [Value.ownBlock]; omega)
end Go.Proofs.YtdmkghgachapaaaDoor
