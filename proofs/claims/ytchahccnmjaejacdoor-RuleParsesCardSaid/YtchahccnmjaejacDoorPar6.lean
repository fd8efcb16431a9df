/- Expressions that a reader makes: trees in memory that outlive what the reader's own box goes through; contract of (*reader).leaf. -/
import Derived.Test.YtchahccnmjaejacDoorPar5
namespace Go.Proofs.YtchahccnmjaejacDoor
set_option linter.unusedVariables false
set_option maxRecDepth 100000
open Go.RowKit Go.Shelf

/-- A value that holds the tree t, in the blocks D; these lie from block lo on. -/
def TG (lo : Nat) (D : Nat → Prop) (w : World) (t : Tree) (v : Value) : Prop :=
  (∃ a m c, v = .agg #[.int .i64 t.kind, .int .i64 t.num, .slice a m c] ∧ m ≤ c ∧ c ≤ 9223372036854775807 ∧ ∀ W, w.heap.size ≤ W.heap.size → (∀ b, D b → W.heap[b]? = w.heap[b]?) → SubAt W W.heap.size t a m) ∧ ∀ b, D b → lo ≤ b ∧ b < w.heap.size
theorem TG.keep {lo : Nat} {D : Nat → Prop} {w w' : World} {t : Tree} {v : Value} (h : TG lo D w t v) (hs : w.heap.size ≤ w'.heap.size) (hk : ∀ b, D b → w'.heap[b]? = w.heap[b]?) : TG lo D w' t v := by
  obtain ⟨⟨a, m, c, e, h1, h2, h3⟩, hd⟩ := h
  exact ⟨⟨a, m, c, e, h1, h2, fun W hW hk' => h3 W (Nat.le_trans hs hW) (fun b hb => (hk' b hb).trans (hk b hb))⟩, fun b hb => ⟨(hd b hb).1, Nat.lt_of_lt_of_le (hd b hb).2 hs⟩⟩
theorem TG.one {lo g : Nat} {D : Nat → Prop} {w w' : World} {t : Tree} {v : Value} (h : TG lo D w t v) (k : OneKept g w w') (hg : g < lo) : TG lo D w' t v :=
  h.keep k.size fun b hb => k.block b (h.2 b hb).2 (by have := (h.2 b hb).1; omega)
theorem TG.then_ {lo : Nat} {D : Nat → Prop} {w w' : World} {t : Tree} {v : Value} (h : TG lo D w t v) (k : Below w.heap.size w w') : TG lo D w' t v :=
  h.keep k.size fun b hb => k.block b (h.2 b hb).2
theorem TG.set {lo : Nat} {D : Nat → Prop} {w : World} {t : Tree} {v : Value} (h : TG lo D w t v) {p : Nat} (hp : ¬ D p) (i : Nat) (u : Value) : TG lo D (w.setCell ⟨p, i, none⟩ u) t v :=
  h.keep (by simp [World.setCell]) fun b hb => Below.heap_setCell w ⟨p, i, none⟩ u b (by rintro rfl; exact hp hb)
theorem TG.set3 {lo : Nat} {D : Nat → Prop} {w : World} {t : Tree} {v : Value} (h : TG lo D w t v) {p : Nat} (hp : ¬ D p) (x y z : Value) : TG lo D (((w.setCell ⟨p, 0, none⟩ x).setCell ⟨p, 1, none⟩ y).setCell ⟨p, 2, none⟩ z) t v :=
  ((h.set hp 0 x).set hp 1 y).set hp 2 z
theorem TG.weak {lo lo' : Nat} {D : Nat → Prop} {w : World} {t : Tree} {v : Value} (h : TG lo D w t v) (hl : lo' ≤ lo) : TG lo' D w t v := ⟨h.1, fun b hb => ⟨Nat.le_trans hl (h.2 b hb).1, (h.2 b hb).2⟩⟩
theorem TG.leaf (lo : Nat) (w : World) {k n : Int} (hk : I64 k) (hn : I64 n) : TG lo (fun _ => False) w (.node k n []) (.agg #[.int .i64 k, .int .i64 n, .slice none 0 0]) :=
  ⟨⟨none, 0, 0, rfl, by omega, by omega, fun W _ _ => by rw [SubAt]; exact ⟨hk, hn, rfl, by omega, fun h => absurd h (by omega)⟩⟩, fun _ h => h.elim⟩
theorem arr3 {a b c a' b' c' : Value} (h : #[a, b, c] = #[a', b', c']) : a = a' ∧ b = b' ∧ c = c' := by simpa using h
theorem I64_zero : I64 0 := by unfold I64; omega
theorem TG.node1 {lo : Nat} {D : Nat → Prop} {w : World} {t : Tree} {k' n' s' : Value} {k : Int} (h : TG lo D w t (.agg #[k', n', s'])) (hl : lo ≤ w.heap.size) (hk : I64 k) :
    TG lo (fun b => D b ∨ b = w.heap.size) (w.alloc (.cells #[k', n', s'] 24)) (.node k 0 [t]) (.agg #[.int .i64 k, .int .i64 0, .slice (some ⟨w.heap.size, 0, none⟩) 1 1]) := by
  obtain ⟨⟨a, m, c, e, h1, h2, h3⟩, hd⟩ := h
  injection e with e
  obtain ⟨e1, e2, e3⟩ := arr3 e
  subst e1 e2 e3
  have hsz : (w.alloc (.cells #[.int .i64 t.kind, .int .i64 t.num, .slice a m c] 24)).heap.size = w.heap.size + 1 := World.size_alloc w _
  refine ⟨⟨_, 1, 1, rfl, by omega, by omega, fun W hW hk' => ?_⟩, fun b hb => ?_⟩
  · have hat : At W w.heap.size (.cells #[.int .i64 t.kind, .int .i64 t.num, .slice a m c] 24) := (hk' _ (.inr rfl)).trans (At.new w _)
    have hs := h3 W (by omega) (fun b hb => (hk' b (.inl hb)).trans (Below.heap_alloc w _ b (hd b hb).2))
    rw [SubAt]
    refine ⟨hk, I64_zero, rfl, by omega, fun _ => ⟨w.heap.size, 0, rfl, hat.lt, ?_⟩⟩
    rw [RowAt, RowAt]
    exact ⟨⟨hat.cell 0, hat.cell 1, a, m, c, hat.cell 2, h1, h2, hs⟩, trivial⟩
  · rcases hb with hb | rfl
    · have := hd b hb; omega
    · omega
theorem TG.node2 {lo : Nat} {D E : Nat → Prop} {w : World} {t u : Tree} {k' n' s' k'' n'' s'' : Value} {k : Int} (h : TG lo D w t (.agg #[k', n', s'])) (hu : TG lo E w u (.agg #[k'', n'', s''])) (hl : lo ≤ w.heap.size) (hk : I64 k) :
    TG lo (fun b => D b ∨ E b ∨ b = w.heap.size) (w.alloc (.cells #[k', n', s', k'', n'', s''] 24)) (.node k 0 [t, u]) (.agg #[.int .i64 k, .int .i64 0, .slice (some ⟨w.heap.size, 0, none⟩) 2 2]) := by
  obtain ⟨⟨a, m, c, e, h1, h2, h3⟩, hd⟩ := h
  obtain ⟨⟨b, p, d, f, q1, q2, q3⟩, he⟩ := hu
  injection e with e
  injection f with f
  obtain ⟨e1, e2, e3⟩ := arr3 e
  obtain ⟨f1, f2, f3⟩ := arr3 f
  subst e1 e2 e3 f1 f2 f3
  have hsz : (w.alloc (.cells #[.int .i64 t.kind, .int .i64 t.num, .slice a m c, .int .i64 u.kind, .int .i64 u.num, .slice b p d] 24)).heap.size = w.heap.size + 1 := World.size_alloc w _
  refine ⟨⟨_, 2, 2, rfl, by omega, by omega, fun W hW hk' => ?_⟩, fun b hb => ?_⟩
  · have hat : At W w.heap.size (.cells #[.int .i64 t.kind, .int .i64 t.num, .slice a m c, .int .i64 u.kind, .int .i64 u.num, .slice b p d] 24) := (hk' _ (.inr (.inr rfl))).trans (At.new w _)
    have hs := h3 W (by omega) (fun b hb => (hk' b (.inl hb)).trans (Below.heap_alloc w _ b (hd b hb).2))
    have hs2 := q3 W (by omega) (fun b hb => (hk' b (.inr (.inl hb))).trans (Below.heap_alloc w _ b (he b hb).2))
    rw [SubAt]
    refine ⟨hk, I64_zero, rfl, by omega, fun _ => ⟨w.heap.size, 0, rfl, hat.lt, ?_⟩⟩
    rw [RowAt, RowAt, RowAt]
    exact ⟨⟨hat.cell 0, hat.cell 1, a, m, c, hat.cell 2, h1, h2, hs⟩, ⟨hat.cell 3, hat.cell 4, b, p, d, hat.cell 5, q1, q2, hs2⟩, trivial⟩
  · rcases hb with hb | hb | rfl
    · have := hd b hb; omega
    · have := he b hb; omega
    · omega
theorem TG.form {lo : Nat} {D : Nat → Prop} {w : World} {t : Tree} {v : Value} (h : TG lo D w t v) : ∃ (k n : Int) (a : Option Addr) (m d : Nat), v = .agg #[.int .i64 k, .int .i64 n, .slice a m d] := by
  obtain ⟨⟨a, m, c, e, _⟩, _⟩ := h
  exact ⟨_, _, _, _, _, e⟩
/-- The tables of signs and levels, apart from block g. -/
def Glob (g : Nat) (w : World) : Prop := Lvl w ∧ Sgn w ∧ 1 ≠ g ∧ 2 ≠ g
theorem var_one {P : Program} {n : String} {cs : Array Value} {w w' : World} {b g : Nat} (h : w.var? P n = some cs) (hg : P.globalNamed n = some b) (hb : OneKept g w w') (hne : b ≠ g) : w'.var? P n = some cs := by
  unfold World.var? at h ⊢
  rw [hg] at h ⊢
  simp only [Option.bind_some] at h ⊢
  have hlt : b < w.heap.size := by
    rcases Nat.lt_or_ge b w.heap.size with h' | h'
    · exact h'
    · rw [Array.getElem?_eq_none h'] at h; cases h
  rw [hb.block b hlt hne]
  exact h
theorem Glob.keep {g : Nat} {w w' : World} (h : Glob g w) (k : OneKept g w w') : Glob g w' :=
  ⟨var_one h.1 (b := 2) (by kernel_rfl) k h.2.2.2, var_one h.2.1 (b := 1) (by kernel_rfl) k h.2.2.1, h.2.2.1, h.2.2.2⟩
/-- What a call leaves that reads an expression. -/
def EPost (g : Nat) (S : ByteArray) (o : Nat) (w : World) : PRes → Ending → World → Prop
  | .stuck, _, _ => False
  | .bad c, e, w' => (∃ (k n : Int) (a : Option Addr) (m d : Nat), e = .returned (.tuple #[.agg #[.int .i64 k, .int .i64 n, .slice a m d], .bool false])) ∧ c ≠ 0 ∧ Failed g c w w'
  | .good p, e, w' => (∃ v D, e = .returned (.tuple #[v, .bool true]) ∧ TG w.heap.size D w' p.1 v) ∧ Went g S p.2 o w w'
def ExprOk (g : Nat) (S : ByteArray) (f : Nat) : Prop := ∀ (lvl : Nat) (l : List Tok) (o : Nat) (w : World), lvl ≤ 6 → o ≤ 12 → expP f lvl l o ≠ .stuck → RdAt w g S l o → Glob g w →
  Calls Tryd.prog 26 #[.pointer (some ⟨g, 0, none⟩), .int .i64 (lvl : Int)] w (EPost g S o w (expP f lvl l o))
def LeafOk (g : Nat) (S : ByteArray) (f : Nat) : Prop := ∀ (l : List Tok) (o : Nat) (w : World), o ≤ 12 → leafP f l o ≠ .stuck → RdAt w g S l o → Glob g w →
  Calls Tryd.prog 47 #[.pointer (some ⟨g, 0, none⟩)] w (EPost g S o w (leafP f l o))
abbrev zeroE : Obj := .cells #[.int .i64 0, .int .i64 0, .slice none 0 0] 24
abbrev exO (k n s : Value) : Obj := .cells #[k, n, s] 24
theorem ex_store {w : World} {b : Nat} {k n s : Value} (h : At w b (exO k n s)) (k' n' s' : Value) : At (((w.setCell ⟨b, 0, none⟩ k').setCell ⟨b, 1, none⟩ n').setCell ⟨b, 2, none⟩ s') b (exO k' n' s') := h.store3 k' n' s'
theorem one_store {g : Nat} {a w : World} (h : OneKept g a w) {b : Nat} (hb : a.heap.size ≤ b) (k' n' s' : Value) : OneKept g a (((w.setCell ⟨b, 0, none⟩ k').setCell ⟨b, 1, none⟩ n').setCell ⟨b, 2, none⟩ s') := ((h.setNew hb 0 k').setNew hb 1 n').setNew hb 2 s'
theorem rd_off {w : World} {g b : Nat} {S : ByteArray} {l : List Tok} {o : Nat} (h : RdAt w g S l o) (hb : g ≠ b) (k' n' s' : Value) : RdAt (((w.setCell ⟨b, 0, none⟩ k').setCell ⟨b, 1, none⟩ n').setCell ⟨b, 2, none⟩ s') g S l o := by
  obtain ⟨a, n, hp, ha⟩ := h
  exact ⟨a, n, hp, ha.apart3 hb k' n' s'⟩
theorem bad_off {w : World} {g b : Nat} {c : Int} (h : BadAt w g c) (hb : g ≠ b) (k' n' s' : Value) : BadAt (((w.setCell ⟨b, 0, none⟩ k').setCell ⟨b, 1, none⟩ n').setCell ⟨b, 2, none⟩ s') g c := by
  obtain ⟨S, a, n, o, ha⟩ := h
  exact ⟨S, a, n, o, ha.apart3 hb k' n' s'⟩
end Go.Proofs.YtchahccnmjaejacDoor
