/- endless.all, Take and Until at a sequence that tells how far it has gone. -/
import Derived.Test.YtdmkghgachapaaaEnd1
import Derived.Test.YtdmkghgachapaaaQuiet
import Derived.Deep.AppendLies
import Derived.RangeFuncLeaves
import Derived.Laws.AppendOwn
namespace Go.Proofs.Ytdmkghgachapaaa
set_option linter.unusedVariables false
set_option linter.unusedSimpArgs false
set_option maxRecDepth 100000
open Go.RowKit Go.Shelf
attribute [local go_sem] Oper.semAt_some

theorem wpListIn_append_lies {F : Fence} {n : Nat} {P : Program} (w : World) {ops : Array Oper} {rest : List Oper} {o : Oper} {a : Act} {Q : Exit → Act → World → Prop}
    (hg : o.guard = none) (s x : Operand) (t : TypeId) (hop : o.op = Op.call { callee := Callee.builtin Builtin.append, args := #[s, x], argTypes := #[t, t] })
    (base : Nat) (e : TypeId) (i : TypeInfo) (z : Value) (size bytes : Nat) (h1 : P.underlying t = some (.slice e)) (h2 : P.info? e = some i) (h3 : i.zero = some z) (h4 : i.size = size) (h5 : i.bytes = bytes) (h6 : z.cells.size = size) (h7 : 0 < size)
    (v : Value) (k : Nat) (xs : List Value) (hs : a.eval s = v) (hown : w.ownsRow base e size v k xs) (ad : Addr) (m c : Nat) (news : List Value) (hx : a.eval x = .slice (some ad) m c) (hn : news.length = m * size)
    (hc : ∀ j u, news[j]? = some u → w.cell? (ad.add j) = some u) (h1c : ∀ u ∈ news, u.oneCell' = true) (hm : 0 < m) (b1 : k + m ≤ maxLen) (b2 : (k + m) * bytes ≤ 140737488355328) (b3 : base ≤ w.heap.size)
    (hK : ∀ g cap w', w'.ownsRow base e size (.slice (some ⟨g, 0, none⟩) (k + m) cap) (k + m) (xs ++ news) → w.grownBy w' v.ownBlock → (v.ownBlock = some g ∨ g = w.heap.size) → wpListIn F n P ops Q rest (a.put o.dst (.slice (some ⟨g, 0, none⟩) (k + m) cap)) w') :
    wpListIn F n P ops Q (o :: rest) a w := by
  refine wpListIn_plain hg fun K hK' => ?_
  obtain ⟨g, cap, w', hrun, r1, r2, r3, _⟩ := run_append_lies (P := P) w t o.type base e i z size bytes h1 h2 h3 h4 h5 h6 h7 v k xs hown ad m c news hn hc h1c hm b1 b2 b3 _ rfl
  unfold Oper.wpIn
  refine ⟨?_, ?_⟩
  · simp [Oper.about, hop, resolve, Target.leads, Sem.run_pure]
  · rw [Oper.semAt_plain F _ _ (by rw [hop]; intro c hc'; cases hc')]
    simp [execOp, hop, resolve, invoke, builtin, hs, hx, hrun, Result.andThen]
    exact hK' _ _ (hK g cap w' r1 r2 r3)
theorem intInfoE : (Try.prog.info? 3).map (fun i => (i.zero, i.size, i.bytes)) = some (some (.int .i64 0), 1, 8) := by kernel_rfl
theorem cell_sameE {w w' : World} {p : Addr} (h : w'.heap[p.block]? = w.heap[p.block]?) : w'.cell? p = w.cell? p := by
  unfold World.cell?; rw [h]
/-- Below n nothing but b has turned. -/
structure Less (b n : Nat) (w W : World) : Prop where
  same : SameO w W
  size : w.heap.size ≤ W.heap.size
  block : ∀ k : Nat, k < n → k ≠ b → W.heap[k]? = w.heap[k]?
theorem Less.refl (b n : Nat) (w : World) : Less b n w w := ⟨⟨rfl, rfl, rfl⟩, Nat.le_refl _, fun _ _ _ => rfl⟩
theorem SameO.trans {A B C : World} (h : SameO A B) (k : SameO B C) : SameO A C := ⟨k.1.trans h.1, k.2.1.trans h.2.1, k.2.2.trans h.2.2⟩
theorem SameO.of_below {n : Nat} {A B : World} (h : Below n A B) : SameO A B := ⟨h.os, h.tape, h.output⟩
theorem Less.go {b n : Nat} {w W W' : World} (h : Less b n w W) (so : SameO W W') (hs : W.heap.size ≤ W'.heap.size) (hk : ∀ k : Nat, k < n → k ≠ b → W'.heap[k]? = W.heap[k]?) : Less b n w W' :=
  ⟨h.same.trans so, by have := h.size; omega, fun k hk1 hk2 => (hk k hk1 hk2).trans (h.block k hk1 hk2)⟩
theorem Less.of_below {b n : Nat} {w W : World} (h : Below n w W) : Less b n w W := ⟨SameO.of_below h, h.size, fun k hk _ => h.block k hk⟩
theorem own_same {A C : World} {L : Nat} {e : TypeId} {size : Nat} {v : Value} {n : Nat} {xs : List Value} (h : A.ownsRow L e size v n xs) (hk : ∀ g, v.ownBlock = some g → C.heap[g]? = A.heap[g]?) : C.ownsRow L e size v n xs := by
  refine ⟨h.1, ?_⟩
  rcases h.2 with h0 | ⟨g, cap, cur, rfl, hg, hcur, r⟩
  · exact .inl h0
  · exact .inr ⟨g, cap, cur, rfl, hg, (hk g rfl).trans hcur, r⟩
theorem own_blockE {A : World} {L : Nat} {e : TypeId} {size : Nat} {v : Value} {n : Nat} {xs : List Value} (h : A.ownsRow L e size v n xs) {g : Nat} (hg : v.ownBlock = some g) : L ≤ g ∧ g < A.heap.size := by
  rcases h.2 with ⟨rfl, _⟩ | ⟨g', cap, cur, rfl, hL, hcur, r⟩
  · cases hg
  · cases hg; exact ⟨hL, (Array.getElem?_eq_some_iff.1 hcur).1⟩
theorem own_lowE {w : World} {base base' : Nat} {e : TypeId} {size : Nat} {v : Value} {n : Nat} {xs : List Value} (h : w.ownsRow base e size v n xs) (hb : base' ≤ base) : w.ownsRow base' e size v n xs := by
  refine ⟨h.1, ?_⟩
  rcases h.2 with h0 | ⟨g, cap, cur, hv, hg, rest⟩
  · exact .inl h0
  · exact .inr ⟨g, cap, cur, hv, by omega, rest⟩
theorem own_baseE {w : World} {base : Nat} {e : TypeId} {size : Nat} {v : Value} {n : Nat} {xs : List Value} (h : w.ownsRow base e size v n xs) {b : Nat} (hb : v.ownBlock = some b) : base ≤ b := by
  rcases h.2 with ⟨rfl, _⟩ | ⟨g, cap, cur, rfl, hg, _⟩
  · cases hb
  · cases hb; exact hg
/-- What a body leaves that appends to its own row in box o: of what lay below L nothing but o has turned. -/
theorem grow_boxE {W w1 : World} {L o : Nat} {t e : TypeId} {size : Nat} {v v' : Value} {k m : Nat} {xs ys : List Value} {tmp : Obj}
    (hv : Boxed W o t v) (hte : t ≠ e) (hrow : W.ownsRow L e size v k xs) (ho : o < L) (hL : L ≤ W.heap.size) (hown' : w1.ownsRow L e size v' m ys) (hgrow : (W.alloc tmp).grownBy w1 v.ownBlock) :
    Boxed w1 o t v ∧ Boxed (w1.setCell ⟨o, 0, none⟩ v') o t v' ∧ (w1.setCell ⟨o, 0, none⟩ v').ownsRow L e size v' m ys ∧ KeepsOthers W (w1.setCell ⟨o, 0, none⟩ v') ∧ Below o W (w1.setCell ⟨o, 0, none⟩ v') ∧ ∀ k, k < L → k ≠ o → (w1.setCell ⟨o, 0, none⟩ v').heap[k]? = W.heap[k]? := by
  obtain ⟨h1, h2, h3, h4, h5⟩ := Boxed.appended (n₀ := o) hv hte (own_lowE hrow (by omega)) (by omega) (Nat.le_refl _) (own_lowE hown' (by omega)) hgrow
  refine ⟨h1, h2, hown'.kept (grownBy_setCell' w1 o v') (.inr (h1.not_row hte hown').symm), h4, h5, fun k hk hne => ?_⟩
  refine (Below.heap_setCell _ _ _ k (by intro e; exact hne e)).trans ((hgrow.block k (by simp; omega) ?_).trans (Below.heap_alloc _ _ _ (by omega)))
  intro hb
  have := own_baseE hrow hb.symm
  omega
/-- The box o holds the list that has grown so far, in the row r of the call's own. -/
def RowO (o L : Nat) (pre : List Int) (r : Option Nat) (W : World) : Prop := ∃ v, Boxed W o 22 v ∧ W.ownsRow L 3 1 v pre.length (pre.map (Value.int .i64)) ∧ v.ownBlock = r
theorem RowO.rests {o L B b : Nat} (ho : o < B) (hob : o ≠ b) (hb : b < L) : RestsOn B b (RowO o L) := by
  rintro s r A C ⟨v, h1, h2, h3⟩ _ hs hk
  have hl := h1.lt
  refine ⟨v, (hk o hl hob (.inl ho)).trans h1, own_same h2 fun g hg => ?_, h3⟩
  have := own_blockE h2 hg
  exact hk g this.2 (by omega) (.inr (by rw [← h3, hg]))
/-- What an append to the row in the box leaves. -/
theorem RowO.grow {o L : Nat} {pre : List Int} {r : Option Nat} {W w1 : World} {v : Value} {x : Int} {g cap : Nat} {tmp : Obj} (hv : Boxed W o 22 v) (hrow : W.ownsRow L 3 1 v pre.length (pre.map (Value.int .i64))) (hr : v.ownBlock = r) (hoL : o < L) (hL : L ≤ W.heap.size)
    (hown' : w1.ownsRow L 3 1 (.slice (some ⟨g, 0, none⟩) (pre.length + 1) cap) (pre.length + 1) (pre.map (Value.int .i64) ++ [.int .i64 x])) (hgrow : (W.alloc tmp).grownBy w1 v.ownBlock) (hlies : v.ownBlock = some g ∨ g = (W.alloc tmp).heap.size) :
    Boxed w1 o 22 v ∧ RowO o L (pre ++ [x]) (some g) (w1.setCell ⟨o, 0, none⟩ (.slice (some ⟨g, 0, none⟩) (pre.length + 1) cap)) ∧ NewR W r (some g) ∧ OnlyF (fun k => k = o) r W (w1.setCell ⟨o, 0, none⟩ (.slice (some ⟨g, 0, none⟩) (pre.length + 1) cap)) ∧ SameO W (w1.setCell ⟨o, 0, none⟩ (.slice (some ⟨g, 0, none⟩) (pre.length + 1) cap)) := by
  obtain ⟨a1, a2, a3, a4, a5, a6⟩ := grow_boxE hv (by decide) hrow hoL hL hown' hgrow
  refine ⟨a1, ⟨_, a2, ?_, rfl⟩, ?_, ⟨a4.size, fun k hk hf hrk => ?_⟩, SameO.of_below a5⟩
  · rw [List.length_append, List.length_singleton, List.map_append]; exact a3
  · rcases hlies with h | h
    · left; rw [← hr, h]
    · right; exact ⟨g, rfl, by rw [h]; simp⟩
  · refine (Below.heap_setCell _ _ _ k (by intro e; exact hf e)).trans ((hgrow.block k (by simp; omega) ?_).trans (Below.heap_alloc _ _ _ (by omega)))
    rw [hr]
    exact fun e => hrk e.symm
end Go.Proofs.Ytdmkghgachapaaa
