/- Several texts in one: Rfp0, Rfp1. -/
import Derived.Test.YtdmkghgachapaabGreatDoorPar13
import Derived.Test.YtdmkghgachapaabGreatDoorMgR
import Derived.Test.YtdmkghgachapaabGreatDoorRfw
import Derived.Lib.SplitLaws
set_option linter.unusedSimpArgs false
namespace Go.Proofs.YtdmkghgachapaabGreatDoor
set_option linter.unusedVariables false
set_option maxRecDepth 100000
open Go.RowKit Go.Shelf
def linesE : List UInt8 → List (List UInt8)
  | [] => [[]]
  | c :: r => if c = 10 then [] :: linesE r else (c :: (linesE r).headD []) :: (linesE r).tail
theorem linesE_cons : ∀ l : List UInt8, ∃ h t, linesE l = h :: t
  | [] => ⟨[], [], rfl⟩
  | c :: r => by rw [linesE]; split <;> exact ⟨_, _, rfl⟩
theorem linesE_of : ∀ l : List UInt8, linesOf l = if (linesE l).getLastD [] = [] then (linesE l).dropLast else linesE l
  | [] => rfl
  | c :: r => by
    have ih := linesE_of r
    obtain ⟨h, t, e⟩ := linesE_cons r
    rw [e] at ih
    rw [linesOf, linesE, e, ih]
    by_cases hc : c = 10
    · rw [if_pos hc, if_pos hc]
      have : ([] :: h :: t).getLastD ([] : List UInt8) = (h :: t).getLastD [] := by simp
      rw [this]
      split <;> simp
    · rw [if_neg hc, if_neg hc]
      cases t with
      | nil => cases h <;> simp
      | cons u us =>
        have h1 : ((h :: u :: us).getLastD ([] : List UInt8)) = ((u :: us).getLastD []) := by simp
        have h2 : (((c :: (h :: u :: us).headD []) :: (h :: u :: us).tail).getLastD ([] : List UInt8)) = ((u :: us).getLastD []) := by simp
        rw [h1, h2]
        by_cases hh : (u :: us).getLastD ([] : List UInt8) = []
        · rw [if_pos hh, if_pos hh]; simp
        · rw [if_neg hh, if_neg hh]; simp
theorem pieces_eq : ∀ l : List UInt8, Lib.splitK [10] 0 (Lib.count l [10]) l = linesE l
  | [] => by rw [Lib.count_miss (by simp [Lib.index])]; rfl
  | c :: r => by
    have ih := pieces_eq r
    by_cases hc : c = 10
    · subst hc
      have hix : Lib.index (10 :: r) [10] = 0 := by rw [Lib.index]; simp [List.isPrefixOf]
      rw [Lib.count_cons_eq, Nat.add_comm, Lib.splitK, hix, if_neg (by decide), linesE, if_pos rfl, ← ih]
      simp
    · have hp : ([10] : List UInt8).isPrefixOf (c :: r) = false := by simp [List.isPrefixOf, Ne.symm hc]
      have hix : Lib.index (c :: r) [10] = if Lib.index r [10] == -1 then -1 else Lib.index r [10] + 1 := by rw [Lib.index, hp]; simp
      rw [Lib.count_cons_ne c 10 r hc]
      by_cases hm : Lib.index r [10] = -1
      · rw [Lib.count_miss hm] at ih ⊢
        rw [linesE, if_neg hc, ← ih]; rfl
      · have hge := Lib.index_ge r [10]
        obtain ⟨j, hj⟩ : ∃ j : Nat, Lib.index r [10] = j := ⟨(Lib.index r [10]).toNat, by omega⟩
        obtain ⟨k, hk⟩ : ∃ k, Lib.count r [10] = k + 1 := ⟨_, by rw [Lib.count_hit (by simp) hj]; exact Nat.add_comm _ _⟩
        have hne : ¬ ((j : Int) == -1) = true := fun e => by have := beq_iff_eq.1 e; omega
        have hne2 : ¬ ((j : Int) + 1 == -1) = true := fun e => by have := beq_iff_eq.1 e; omega
        rw [hj, if_neg hne] at hix
        rw [hk] at ih ⊢
        rw [Lib.splitK, hj, if_neg hne] at ih
        rw [Lib.splitK, hix, if_neg hne2, linesE, if_neg hc, ← ih]
        have e1 : ((j : Int) + 1).toNat = j + 1 := by omega
        rw [e1]
        simp
theorem linesE_len (l : List UInt8) : (linesE l).length = Lib.count l [10] + 1 := by
  rw [← pieces_eq]
  have h := Lib.splitB_all ⟨#[10]⟩ (by decide) 0 (Lib.count l [10]) ⟨l.toArray⟩ (by simp [Lib.countB])
  have h2 := congrArg List.length (Lib.splitB_data ⟨#[10]⟩ 0 (Lib.count l [10]) ⟨l.toArray⟩)
  rw [List.length_map, h] at h2
  simpa using h2.symm
theorem split_cells (S : ByteArray) : (Lib.splitB ⟨#[10]⟩ 0 (Lib.countB S ⟨#[10]⟩) S).map Value.string = (linesE S.data.toList).map strV := by
  rw [← pieces_eq, ← Lib.splitB_data ⟨#[10]⟩ 0 (Lib.countB S ⟨#[10]⟩) S, List.map_map]
  refine List.map_congr_left fun x _ => ?_
  show Value.string x = .string ⟨x.data.toList.toArray⟩
  rw [str_eta]
theorem linesE_size : ∀ l : List UInt8, ∀ t ∈ linesE l, t.length ≤ l.length
  | [], t, h => by simp [linesE] at h; subst h; simp
  | c :: r, t, h => by
    obtain ⟨u, us, e⟩ := linesE_cons r
    have ih := linesE_size r
    rw [linesE] at h
    split at h
    · rcases List.mem_cons.1 h with rfl | h
      · simp
      · have := ih t h; simp only [List.length_cons]; omega
    · rw [e] at h ih
      simp only [List.headD_cons, List.tail_cons] at h
      rcases List.mem_cons.1 h with rfl | h
      · have := ih u (by simp); simp only [List.length_cons]; omega
      · have := ih t (by simp [h]); simp only [List.length_cons]; omega
theorem toks_ne (l : List UInt8) : ∀ t ∈ toks l, t ≠ [] := by
  induction l with
  | nil => intro t h; simp [toks] at h
  | cons c r ih =>
    intro t h
    rw [toks] at h
    split at h
    · exact ih t h
    · unfold glue at h
      split at h
      · rcases List.mem_cons.1 h with rfl | h
        · simp
        · exact ih t (List.mem_of_mem_tail h)
      · rcases List.mem_cons.1 h with rfl | h
        · simp
        · exact ih t h
theorem Res.assoc {α β γ : Type} (R : Res α) (f : α → Res β) (g : β → Res γ) : (R.bind f).bind g = R.bind fun x => (f x).bind g := by cases R <;> rfl
def TrQ (w : World) (tb : Nat) (G : Nat → Prop) (t : PRule) (v : Value) : Prop := ∃ (D : Nat → Prop) (k n : Int) (a : Option Addr) (m d base : Nat),
  At w tb (trO t k n a m d v) ∧ TG (tb + 1) D w t.lp (.agg #[.int .i64 k, .int .i64 n, .slice a m d]) ∧ (∀ b, G b → ¬ D b ∧ b < w.heap.size ∧ v.ownBlock ≠ some b) ∧ tb + 1 ≤ base ∧ base ≤ w.heap.size ∧ (∀ b, D b → b < base) ∧ w.ownsRow base 128 3 v t.ms.length (t.ms.flatMap monC)
variable {B G : Nat → Prop}
theorem TrQ.tr {w : World} {tb g : Nat} {t : PRule} {v : Value} (h : TrQ w tb G t v) (hg : G g) : Tr w tb g t v := by
  obtain ⟨D, x, n, a, m, d, base, h1, h2, h3, h4, h5, h6, h8⟩ := h
  exact ⟨D, x, n, a, m, d, base, h1, h2, (h3 g hg).1, h4, h5, h6, (h3 g hg).2.2, h8⟩
theorem TrQ.one {w w' : World} {tb g : Nat} {t : PRule} {v : Value} (h : TrQ w tb G t v) (k : OneKept g w w') (hG : G g) (hg : tb ≠ g) : TrQ w' tb G t v := by
  obtain ⟨D, x, n, a, m, d, base, h1, h2, h3, h4, h5, h6, h8⟩ := h
  exact ⟨D, x, n, a, m, d, base, h1.oneKept k hg, h2.keep k.size (fun b hb => k.block b (h2.2 b hb).2 (by rintro rfl; exact (h3 b hG).1 hb)), fun b hb => ⟨(h3 b hb).1, Nat.lt_of_lt_of_le (h3 b hb).2.1 k.size, (h3 b hb).2.2⟩, h4, Nat.le_trans h5 k.size, h6, own_kept h8 fun b hb => k.block b (own_lt h8 hb).2 (by rintro rfl; exact (h3 b hG).2.2 hb)⟩
theorem TrQ.then_ {w w' : World} {tb : Nat} {t : PRule} {v : Value} (h : TrQ w tb G t v) (k : Below w.heap.size w w') : TrQ w' tb G t v := by
  obtain ⟨D, x, n, a, m, d, base, h1, h2, h3, h4, h5, h6, h8⟩ := h
  exact ⟨D, x, n, a, m, d, base, h1.then_ k, h2.then_ k, fun b hb => ⟨(h3 b hb).1, Nat.lt_of_lt_of_le (h3 b hb).2.1 k.size, (h3 b hb).2.2⟩, h4, Nat.le_trans h5 k.size, h6, own_kept h8 fun b hb => k.block b (own_lt h8 hb).2⟩
theorem TrQ.lt {w : World} {tb : Nat} {t : PRule} {v : Value} (h : TrQ w tb G t v) : tb < w.heap.size := by
  obtain ⟨D, x, n, a, m, d, base, h1, _⟩ := h
  exact h1.lt
theorem TrQ.mono {w : World} {tb : Nat} {t : PRule} {v : Value} {G' : Nat → Prop} (h : TrQ w tb G t v) (hG : ∀ b, G' b → G b) : TrQ w tb G' t v := by
  obtain ⟨D, x, n, a, m, d, base, h1, h2, h3, h4, h5, h6, h8⟩ := h
  exact ⟨D, x, n, a, m, d, base, h1, h2, fun b hb => h3 b (hG b hb), h4, h5, h6, h8⟩
theorem TrQ.fresh {w w' : World} {tb : Nat} {t : PRule} {v : Value} (h : TrQ w tb G t v) (k : Below w.heap.size w w') {G' : Nat → Prop} (hG : ∀ b, G' b → G b ∨ (w.heap.size ≤ b ∧ b < w'.heap.size)) : TrQ w' tb G' t v := by
  obtain ⟨D, x, n, a, m, d, base, h1, h2, h3, h4, h5, h6, h8⟩ := h
  refine ⟨D, x, n, a, m, d, base, h1.then_ k, h2.then_ k, fun b hb => ?_, h4, Nat.le_trans h5 k.size, h6, own_kept h8 fun b hb => k.block b (own_lt h8 hb).2⟩
  rcases hG b hb with h | ⟨p, q⟩
  · exact ⟨(h3 b h).1, Nat.lt_of_lt_of_le (h3 b h).2.1 k.size, (h3 b h).2.2⟩
  · exact ⟨fun h => by have := (h2.2 b h).2; omega, q, fun h => by have := (own_lt h8 h).2; omega⟩
theorem TrQ.field {w : World} {tb : Nat} {t t' : PRule} {v : Value} (h : TrQ w tb G t v) (i : Nat) (u : Value) (hl : t'.lp = t.lp) (hm : t'.ms = t.ms)
    (hs : ∀ k n a m d, #[.string (tkS t.nm), .int .i64 t.ep, .int .i64 t.cy, .int .i64 k, .int .i64 n, .slice a m d, v].setIfInBounds i u = #[.string (tkS t'.nm), .int .i64 t'.ep, .int .i64 t'.cy, .int .i64 k, .int .i64 n, .slice a m d, v]) : TrQ (w.setCell ⟨tb, i, none⟩ u) tb G t' v := by
  obtain ⟨D, x, n, a, m, d, base, h1, h2, h3, h4, h5, h6, h8⟩ := h
  have hne : ∀ b, b ≠ tb → (w.setCell ⟨tb, i, none⟩ u).heap[b]? = w.heap[b]? := fun b hb => Below.heap_setCell w ⟨tb, i, none⟩ u b hb
  have hsz : (w.setCell ⟨tb, i, none⟩ u).heap.size = w.heap.size := by simp [World.setCell]
  refine ⟨D, x, n, a, m, d, base, ?_, ?_, fun b hb => by rw [hsz]; exact h3 b hb, h4, by omega, h6, ?_⟩
  · have := h1.store i u
    rw [hs x n a m d] at this
    exact this
  · rw [hl]; exact h2.keep (by omega) fun b hb => hne b (by have := (h2.2 b hb).1; omega)
  · rw [hm]; exact own_kept h8 fun b hb => hne b (by have := (own_lt h8 hb).1; omega)
theorem TrQ.leap {w : World} {tb : Nat} {t : PRule} {v : Value} (h : TrQ w tb G t v) (hn : t.ms = []) (hv : v = .slice none 0 0) {E : Nat → Prop} {y : Tree} {k n : Int} {a : Option Addr} {m d : Nat} (hE : TG (tb + 1) E w y (.agg #[.int .i64 k, .int .i64 n, .slice a m d])) (hg : ∀ b, G b → ¬ E b) :
    TrQ (((w.setCell ⟨tb, 3, none⟩ (.int .i64 k)).setCell ⟨tb, 4, none⟩ (.int .i64 n)).setCell ⟨tb, 5, none⟩ (.slice a m d)) tb G { t with lp := y } v := by
  obtain ⟨D, x, n', a', m', d', base, h1, h2, h3, h4, h5, h6, h8⟩ := h
  have hsz : (((w.setCell ⟨tb, 3, none⟩ (.int .i64 k)).setCell ⟨tb, 4, none⟩ (.int .i64 n)).setCell ⟨tb, 5, none⟩ (.slice a m d)).heap.size = w.heap.size := by simp [World.setCell]
  have nE : ¬ E tb := fun h => by have := (hE.2 tb h).1; omega
  refine ⟨E, k, n, a, m, d, w.heap.size, ?_, ((hE.set nE 3 _).set nE 4 _).set nE 5 _, fun b hb => ⟨hg b hb, by rw [hsz]; exact (h3 b hb).2.1, by rw [hv]; simp [Value.ownBlock]⟩, by have := h1.lt; omega, by omega, fun b hb => (hE.2 b hb).2, ?_⟩
  · have := ((h1.store 3 (.int .i64 k)).store 4 (.int .i64 n)).store 5 (.slice a m d)
    simpa using this
  · rw [hv]
    show World.ownsRow _ _ _ _ _ t.ms.length (t.ms.flatMap monC)
    rw [hn]
    exact World.ownsRow_nil _ _ _ _
theorem TrQ.app {W W1 w4 : World} {tb : Nat} {t : PRule} {v : Value} {D : Nat → Prop} {k n : Int} {a : Option Addr} {m d base : Nat}
    (h1 : At W tb (trO t k n a m d v)) (h2 : TG (tb + 1) D W t.lp (.agg #[.int .i64 k, .int .i64 n, .slice a m d])) (h3 : ∀ b, G b → ¬ D b ∧ b < W.heap.size ∧ v.ownBlock ≠ some b) (h4 : tb + 1 ≤ base) (h5 : base ≤ W.heap.size) (h6 : ∀ b, D b → b < base) (h8 : W.ownsRow base 128 3 v t.ms.length (t.ms.flatMap monC))
    (hW : Below W.heap.size W W1) (x : PMon) {g4 cap4 : Nat} (hown : w4.ownsRow base 128 3 (.slice (some ⟨g4, 0, none⟩) (t.ms.length + 1) cap4) (t.ms.length + 1) (t.ms.flatMap monC ++ monC x)) (hgrow : W1.grownBy w4 v.ownBlock) (hlies : v.ownBlock = some g4 ∨ W.heap.size ≤ g4) :
    TrQ (w4.setCell ⟨tb, 6, none⟩ (.slice (some ⟨g4, 0, none⟩) (t.ms.length + 1) cap4)) tb G { t with ms := t.ms ++ [x] } (.slice (some ⟨g4, 0, none⟩) (t.ms.length + 1) cap4) := by
  have nown : ∀ b, b < base → v.ownBlock ≠ some b := fun b hb e => by have := (own_lt h8 e).1; omega
  have hk : ∀ b, b < W.heap.size → v.ownBlock ≠ some b → b ≠ tb → (w4.setCell ⟨tb, 6, none⟩ (.slice (some ⟨g4, 0, none⟩) (t.ms.length + 1) cap4)).heap[b]? = W.heap[b]? := fun b hb hn ht =>
    (Below.heap_setCell w4 ⟨tb, 6, none⟩ _ b ht).trans ((hgrow.block b (Nat.lt_of_lt_of_le hb hW.size) (Ne.symm hn)).trans (hW.block b hb))
  have hsz : (w4.setCell ⟨tb, 6, none⟩ (.slice (some ⟨g4, 0, none⟩) (t.ms.length + 1) cap4)).heap.size = w4.heap.size := by simp [World.setCell]
  have hs4 := hgrow.size
  have hs1 := hW.size
  refine ⟨D, k, n, a, m, d, base, ?_, h2.keep (by omega) (fun b hb => hk b (h2.2 b hb).2 (nown b (h6 b hb)) (by have := (h2.2 b hb).1; omega)), fun b hb => ⟨(h3 b hb).1, by have := (h3 b hb).2.1; omega, ?_⟩, h4, by omega, h6, ?_⟩
  · have ha : At w4 tb (trO t k n a m d v) := (h1.then_ hW).grow hgrow (nown tb (by omega))
    have := ha.store 6 (.slice (some ⟨g4, 0, none⟩) (t.ms.length + 1) cap4)
    simpa using this
  · intro e
    have e' : g4 = b := by simpa [Value.ownBlock] using e
    subst e'
    rcases hlies with h | h
    · exact (h3 _ hb).2.2 h
    · have := (h3 _ hb).2.1; omega
  · have := own_kept (w' := w4.setCell ⟨tb, 6, none⟩ (.slice (some ⟨g4, 0, none⟩) (t.ms.length + 1) cap4)) hown (fun b hb => Below.heap_setCell w4 ⟨tb, 6, none⟩ _ b (by have := (own_lt hown hb).1; show b ≠ tb; omega))
    simpa using this
theorem TrQ.cell {w : World} {tb : Nat} {t : PRule} {v : Value} (h : TrQ w tb G t v) (i : Nat) (hi : i < 7) : (∃ x, w.cell? ⟨tb, i, none⟩ = some x) ∧ w.frozen? ⟨tb, i, none⟩ = false ∧ tb < w.heap.size := by
  obtain ⟨D, x, n, a, m, d, base, h1, _⟩ := h
  refine ⟨?_, h1.frozen i, h1.lt⟩
  rw [h1.cell i]
  rcases (show i = 0 ∨ i = 1 ∨ i = 2 ∨ i = 3 ∨ i = 4 ∨ i = 5 ∨ i = 6 by omega) with rfl | rfl | rfl | rfl | rfl | rfl | rfl <;> exact ⟨_, rfl⟩
structure Cx (B G : Nat → Prop) (g lb tb : Nat) : Prop where
  gG : G g
  lG : G lb
  gt : tb < g
  lt : tb < lb
  gl : g ≠ lb
  nB : ¬ B tb
structure RQ (B G : Nat → Prop) (g lb tb : Nat) (O : Obj) (l : List Tok) (t : PRule) (v : Value) (w W : World) : Prop where
  tr : TrQ W tb G t v
  rd : QAt B W g l 0
  ln : At W lb O
  bel : Below tb w W
structure FQ (G : Nat → Prop) (g lb tb : Nat) (O : Obj) (t : PRule) (v : Value) (c : Int) (w W : World) : Prop where
  tr : ∃ t0, t0.ms = t.ms ∧ TrQ W tb G t0 v
  bad : QBad W g c
  ln : At W lb O
  bel : Below tb w W
variable {g lb tb : Nat} {O : Obj} {t : PRule} {v : Value} {w : World}
theorem RQ.went {l l' : List Tok} {W W' : World} (cx : Cx B G g lb tb) (h : RQ B G g lb tb O l t v w W) (k : QWent B g l' 0 W W') : RQ B G g lb tb O l' t v w W' :=
  ⟨h.tr.one k.2 cx.gG (by have := cx.gt; omega), k.1, h.ln.oneKept k.2 cx.gl.symm, bel_one h.bel k.2 cx.gt (Nat.le_of_lt h.tr.lt)⟩
theorem RQ.failed {l : List Tok} {c : Int} {W W' : World} (cx : Cx B G g lb tb) (h : RQ B G g lb tb O l t v w W) (k : QFail g c W W') : FQ G g lb tb O t v c w W' :=
  ⟨⟨t, rfl, h.tr.one k.2 cx.gG (by have := cx.gt; omega)⟩, k.1, h.ln.oneKept k.2 cx.gl.symm, bel_one h.bel k.2 cx.gt (Nat.le_of_lt h.tr.lt)⟩
theorem RQ.then_ {l : List Tok} {W W' : World} (h : RQ B G g lb tb O l t v w W) (k : Below W.heap.size W W') : RQ B G g lb tb O l t v w W' :=
  ⟨h.tr.then_ k, h.rd.then_ k, h.ln.then_ k, h.bel.trans (k.mono (Nat.le_of_lt h.tr.lt))⟩
theorem FQ.then_ {c : Int} {W W' : World} (h : FQ G g lb tb O t v c w W) (k : Below W.heap.size W W') : FQ G g lb tb O t v c w W' := by
  obtain ⟨⟨t, he, h1⟩, h2, h3, h4⟩ := h
  exact ⟨⟨t, he, h1.then_ k⟩, h2.then_ k, h3.then_ k, h4.trans (k.mono (Nat.le_of_lt h1.lt))⟩
def StR (B G : Nat → Prop) (g lb tb : Nat) (O : Obj) (t : PRule) (v : Value) (w : World) : Res (List Tok) → World → Prop
  | .stuck, _ => False
  | .bad c, W => c ≠ 0 ∧ FQ G g lb tb O t v c w W
  | .good l, W => RQ B G g lb tb O l t v w W
def StX {α : Type} (B G : Nat → Prop) (g lb tb : Nat) (O : Obj) (t : PRule) (v : Value) (w : World) (val : α → Value) : Res (α × List Tok) → Value → World → Prop
  | .stuck, _, _ => False
  | .bad c, _, W => c ≠ 0 ∧ FQ G g lb tb O t v c w W
  | .good p, x, W => x = val p.1 ∧ RQ B G g lb tb O p.2 t v w W
theorem c_need {l : List Tok} {W : World} (cx : Cx B G g lb tb) (h : RQ B G g lb tb O l t v w W) (x : Tok) (hx : x ≠ []) :
    Calls Tryz.prog 90 #[.pointer (some ⟨g, 0, none⟩), .string (tkS x)] W fun e W' => e = .returned (.tuple #[]) ∧ StR B G g lb tb O t v w (needP x l) W' ∧ OneKept g W W' := by
  refine (rf_need x hx h.rd).mono ?_
  rintro e W' ⟨rfl, hq⟩
  refine ⟨rfl, ?_⟩
  unfold needP
  by_cases hh : hd l = x
  · rw [if_pos hh] at hq ⊢
    exact ⟨h.went cx hq, hq.2⟩
  · rw [if_neg hh] at hq ⊢
    exact ⟨⟨by decide, h.failed cx hq⟩, hq.2⟩
theorem c_name {R : Res (List Tok)} {W : World} (cx : Cx B G g lb tb) (h : StR B G g lb tb O t v w R W) :
    Calls Tryz.prog 91 #[.pointer (some ⟨g, 0, none⟩)] W fun e W' => ∃ X, e = .returned (.string X) ∧ StX B G g lb tb O t v w (fun x => .string (tkS x)) (R.bind wordP) (.string X) W' ∧ OneKept g W W' := by
  cases R with
  | stuck => exact h.elim
  | bad c =>
    refine (rf_name_bad h.2.bad h.1).mono ?_
    rintro e W' ⟨rfl, hb⟩
    exact ⟨_, rfl, ⟨h.1, h.2.then_ hb⟩, OneKept.of_below hb⟩
  | good l =>
    have h : RQ B G g lb tb O l t v w W := h
    refine (rf_name h.rd).mono ?_
    intro e W' hq
    show ∃ X, _ ∧ StX _ _ _ _ _ _ _ _ _ _ (wordP l) _ _ ∧ _
    generalize wordP l = R at hq ⊢
    cases R with
    | stuck => exact hq.elim
    | bad c => obtain ⟨rfl, hc, hf⟩ := hq; exact ⟨_, rfl, ⟨hc, h.failed cx hf⟩, hf.2⟩
    | good p => obtain ⟨rfl, hw⟩ := hq; exact ⟨_, rfl, ⟨rfl, h.went cx hw⟩, hw.2⟩
theorem c_signed {R : Res (List Tok)} {W : World} (cx : Cx B G g lb tb) (h : StR B G g lb tb O t v w R W) :
    Calls Tryz.prog 92 #[.pointer (some ⟨g, 0, none⟩)] W fun e W' => ∃ z : Int, e = .returned (.int .i64 z) ∧ StX B G g lb tb O t v w (fun x : Int => .int .i64 x) (R.bind signP) (.int .i64 z) W' ∧ OneKept g W W' := by
  cases R with
  | stuck => exact h.elim
  | bad c =>
    refine (rf_signed_bad h.2.bad h.1).mono ?_
    rintro e W' ⟨rfl, hb⟩
    exact ⟨_, rfl, ⟨h.1, h.2.then_ hb⟩, OneKept.of_below hb⟩
  | good l =>
    have h : RQ B G g lb tb O l t v w W := h
    refine (rf_signed h.rd).mono ?_
    intro e W' hq
    show ∃ z : Int, _ ∧ StX _ _ _ _ _ _ _ _ _ _ (signP l) _ _ ∧ _
    generalize signP l = R at hq ⊢
    cases R with
    | stuck => exact hq.elim
    | bad c => obtain ⟨rfl, hc, hf⟩ := hq; exact ⟨_, rfl, ⟨hc, h.failed cx hf⟩, hf.2⟩
    | good p => obtain ⟨rfl, hw⟩ := hq; exact ⟨_, rfl, ⟨rfl, h.went cx hw⟩, hw.2⟩
def StE (B G : Nat → Prop) (g lb tb : Nat) (O : Obj) (t : PRule) (v : Value) (w : World) : PRes → Value → World → Prop
  | .stuck, _, _ => False
  | .bad c, _, W => c ≠ 0 ∧ FQ G g lb tb O t v c w W
  | .good p, x, W => (∃ D, TG (tb + 1) D W p.1 x ∧ ∀ b, G b → ¬ D b) ∧ RQ B G g lb tb O p.2 t v w W
structure FE (g lb tb : Nat) (O : Obj) (c : Int) (w W : World) : Prop where
  bad : QBad W g c
  ln : At W lb O
  bel : Below tb w W
def SwR (B G : Nat → Prop) (g lb tb : Nat) (O : Obj) (v0 : Value) (w : World) : Res (PRule × List Tok) → World → Prop
  | .stuck, _ => False
  | .bad c, W => c ≠ 0 ∧ FE g lb tb O c w W
  | .good p, W => ∃ v', (p.1.ms = [] → v' = v0) ∧ RQ B G g lb tb O p.2 p.1 v' w W
theorem FQ.set {c : Int} {W : World} (cx : Cx B G g lb tb) (h : FQ G g lb tb O t v c w W) (i : Nat) (u : Value) : FE g lb tb O c w (W.setCell ⟨tb, i, none⟩ u) := by
  obtain ⟨⟨t, he, h1⟩, ⟨A, m, cc, o, ha⟩, h3, h4⟩ := h
  exact ⟨⟨A, m, cc, o, ha.apart (p := ⟨tb, i, none⟩) (by show g ≠ tb; have := cx.gt; omega) u⟩, h3.apart (p := ⟨tb, i, none⟩) (by show lb ≠ tb; have := cx.lt; omega) u, below_set h4 (Nat.le_refl _) u⟩
theorem FE.set {c : Int} {W : World} (cx : Cx B G g lb tb) (h : FE g lb tb O c w W) (i : Nat) (u : Value) : FE g lb tb O c w (W.setCell ⟨tb, i, none⟩ u) := by
  obtain ⟨⟨A, m, cc, o, ha⟩, h3, h4⟩ := h
  exact ⟨⟨A, m, cc, o, ha.apart (p := ⟨tb, i, none⟩) (by show g ≠ tb; have := cx.gt; omega) u⟩, h3.apart (p := ⟨tb, i, none⟩) (by show lb ≠ tb; have := cx.lt; omega) u, below_set h4 (Nat.le_refl _) u⟩
theorem RQ.field {l : List Tok} {W : World} {t' : PRule} (cx : Cx B G g lb tb) (h : RQ B G g lb tb O l t v w W) (i : Nat) (u : Value) (hl : t'.lp = t.lp) (hm : t'.ms = t.ms)
    (hs : ∀ k n a m d, #[.string (tkS t.nm), .int .i64 t.ep, .int .i64 t.cy, .int .i64 k, .int .i64 n, .slice a m d, v].setIfInBounds i u = #[.string (tkS t'.nm), .int .i64 t'.ep, .int .i64 t'.cy, .int .i64 k, .int .i64 n, .slice a m d, v]) : RQ B G g lb tb O l t' v w (W.setCell ⟨tb, i, none⟩ u) :=
  ⟨h.tr.field i u hl hm hs, h.rd.set cx.nB (by have := cx.gt; omega) i u, h.ln.apart (p := ⟨tb, i, none⟩) (by show lb ≠ tb; have := cx.lt; omega) u, below_set h.bel (Nat.le_refl _) u⟩
theorem stx_cell {α : Type} {val : α → Value} {R : Res (α × List Tok)} {x : Value} {W : World} (h : StX B G g lb tb O t v w val R x W) (i : Nat) (hi : i < 7) : (∃ x, W.cell? ⟨tb, i, none⟩ = some x) ∧ W.frozen? ⟨tb, i, none⟩ = false ∧ tb < W.heap.size := by
  cases R with
  | stuck => exact h.elim
  | bad c => obtain ⟨t, he, h1⟩ := h.2.tr; exact h1.cell i hi
  | good p => exact h.2.tr.cell i hi
theorem stx_field {α : Type} {val : α → Value} {R : Res (α × List Tok)} {x : Value} {W : World} (cx : Cx B G g lb tb) (h : StX B G g lb tb O t v w val R x W) (i : Nat) (upd : α → PRule) (hl : ∀ y, (upd y).lp = t.lp) (hm : ∀ y, (upd y).ms = t.ms)
    (hs : ∀ y, ∀ k n a m d, #[.string (tkS t.nm), .int .i64 t.ep, .int .i64 t.cy, .int .i64 k, .int .i64 n, .slice a m d, v].setIfInBounds i (val y) = #[.string (tkS (upd y).nm), .int .i64 (upd y).ep, .int .i64 (upd y).cy, .int .i64 k, .int .i64 n, .slice a m d, v]) :
    SwR B G g lb tb O v w (R.bind fun p => .good (upd p.1, p.2)) (W.setCell ⟨tb, i, none⟩ x) := by
  cases R with
  | stuck => exact h.elim
  | bad c => exact ⟨h.1, h.2.set cx i x⟩
  | good p =>
    obtain ⟨hx, h⟩ := h
    rw [hx]
    exact ⟨v, fun _ => rfl, h.field cx i _ (hl _) (hm _) (hs _)⟩
theorem ste_cell {R : PRes} {x : Value} {W : World} (h : StE B G g lb tb O t v w R x W) (i : Nat) (hi : i < 7) : (∃ x, W.cell? ⟨tb, i, none⟩ = some x) ∧ W.frozen? ⟨tb, i, none⟩ = false ∧ tb < W.heap.size := by
  cases R with
  | stuck => exact h.elim
  | bad c => obtain ⟨t, he, h1⟩ := h.2.tr; exact h1.cell i hi
  | good p => exact h.2.tr.cell i hi
theorem ste_leap {R : PRes} {k n : Int} {a : Option Addr} {m d : Nat} {W : World} (cx : Cx B G g lb tb) (h : StE B G g lb tb O t v w R (.agg #[.int .i64 k, .int .i64 n, .slice a m d]) W) (hn : t.ms = []) (hv : v = .slice none 0 0) :
    SwR B G g lb tb O v w (R.bind fun p => .good ({ t with lp := p.1 }, p.2)) (((W.setCell ⟨tb, 3, none⟩ (.int .i64 k)).setCell ⟨tb, 4, none⟩ (.int .i64 n)).setCell ⟨tb, 5, none⟩ (.slice a m d)) := by
  have hgt := cx.gt; have hlt := cx.lt
  cases R with
  | stuck => exact h.elim
  | bad c => exact ⟨h.1, ((h.2.set cx 3 _).set cx 4 _).set cx 5 _⟩
  | good p =>
    obtain ⟨⟨D, hT, hD⟩, h⟩ := h
    refine ⟨v, fun _ => rfl, h.tr.leap hn hv hT hD, ((h.rd.set cx.nB (by omega) 3 _).set cx.nB (by omega) 4 _).set cx.nB (by omega) 5 _, ((h.ln.apart (p := ⟨tb, 3, none⟩) (by show lb ≠ tb; omega) _).apart (p := ⟨tb, 4, none⟩) (by show lb ≠ tb; omega) _).apart (p := ⟨tb, 5, none⟩) (by show lb ≠ tb; omega) _, below_set (below_set (below_set h.bel (Nat.le_refl _) _) (Nat.le_refl _) _) (Nat.le_refl _) _⟩
theorem c_expr {R : Res (List Tok)} {W : World} {f : Nat} (cx : Cx B G g lb tb) (h : StR B G g lb tb O t v w R W) (hns : ∀ l, R = .good l → expR f 1 l 0 ≠ .stuck)
    (hbad : ∀ (W : World) (c : Int), QBad W g c → c ≠ 0 → Calls Tryz.prog 93 #[.pointer (some ⟨g, 0, none⟩), .int .i64 1] W fun e W' => e = .returned (.agg #[.int .i64 1, .int .i64 0, .slice none 0 0]) ∧ Below W.heap.size W W') :
    Calls Tryz.prog 93 #[.pointer (some ⟨g, 0, none⟩), .int .i64 1] W fun e W' => ∃ (k n : Int) (a : Option Addr) (m d : Nat), e = .returned (.agg #[.int .i64 k, .int .i64 n, .slice a m d]) ∧ StE B G g lb tb O t v w (R.bind fun l => expR f 1 l 0) (.agg #[.int .i64 k, .int .i64 n, .slice a m d]) W' := by
  cases R with
  | stuck => exact h.elim
  | bad c =>
    refine (hbad W c h.2.bad h.1).mono ?_
    rintro e W' ⟨rfl, hb⟩
    exact ⟨_, _, _, _, _, rfl, h.1, h.2.then_ hb⟩
  | good l =>
    have h : RQ B G g lb tb O l t v w W := h
    refine (rf_expr f f (Nat.le_refl _) 1 l 0 W (by omega) (by omega) (by omega) (hns l rfl) h.rd).mono ?_
    intro e W' hq
    show ∃ (k n : Int) (a : Option Addr) (m d : Nat), _ ∧ StE _ _ _ _ _ _ _ _ _ (expR f 1 l 0) _ _
    obtain ⟨k, n, a, m, d, rfl, hk, hc⟩ := hq.open_
    refine ⟨k, n, a, m, d, rfl, ?_⟩
    rcases hc with ⟨Y, E, l2, hR, hT, hQ⟩ | ⟨c, hc, hR, hF⟩
    · rw [hR]
      refine ⟨⟨E, hT.weak (by have := h.tr.lt; omega), fun b hb hE => ?_⟩, h.went cx hQ⟩
      have h1 := (hT.2 b hE).1
      obtain ⟨D, x, n, a, m, d, base, _, _, h3, _⟩ := h.tr
      have := (h3 b hb).2.1
      omega
    · rw [hR]
      exact ⟨hc, h.failed cx hF⟩
end Go.Proofs.YtdmkghgachapaabGreatDoor

set_option linter.unusedSimpArgs false
namespace Go.Proofs.YtdmkghgachapaabGreatDoor
set_option linter.unusedVariables false
set_option maxRecDepth 100000
open Go.RowKit Go.Shelf
variable {B G : Nat → Prop}
variable {g lb tb : Nat} {O : Obj} {t : PRule} {v : Value} {w : World}
set_option maxHeartbeats 4000000 in
theorem rf_expr_bad (W : World) (c : Int) (h : QBad W g c) (hc : c ≠ 0) :
    Calls Tryz.prog 93 #[.pointer (some ⟨g, 0, none⟩), .int .i64 1] W fun e W' => e = .returned (.agg #[.int .i64 1, .int .i64 0, .slice none 0 0]) ∧ Below W.heap.size W W' := by
  obtain ⟨bR, hbR⟩ : ∃ b, b = W.heap.size := ⟨_, rfl⟩
  obtain ⟨bX, hbX⟩ : ∃ b, b = W.heap.size + 1 := ⟨_, rfl⟩
  have A0 := Lib.hid ((At.newAt W zeroE bR hbR).alloc zeroE)
  have M0 := Lib.hid (At.newAt (W.alloc zeroE) zeroE bX (by rw [hbX, World.size_alloc]))
  have H0 := Lib.hid (h.then_ (show Below W.heap.size W ((W.alloc zeroE).alloc zeroE) from below_new (below_new (Below.refl _ _) _) _))
  have B0 := Lib.hid (show Below W.heap.size W ((W.alloc zeroE).alloc zeroE) from below_new (below_new (Below.refl _ _) _) _)
  have HBR := Lib.hid (show W.heap.size ≤ bR by omega)
  have HBX := Lib.hid (show W.heap.size ≤ bX by omega)
  have hlt := h.lt
  have hgR : g ≠ bR := by omega
  have hgX : g ≠ bX := by omega
  have hRX : bR ≠ bX := by omega
  have HC := Lib.hid hc
  clear h hc hlt
  go_enter Tryz.func93, Tryz.ntmps93
  go_upto_region 3 with fail
  (try rw [World.size_alloc])
  rw [← hbX, ← hbR]
  clear hbX hbR
  generalize World.alloc (World.alloc W _) _ = W0 at A0 M0 H0 B0 ⊢
  go_wp2_with fail
  refine (rf_peek_bad H0.out HC.out).mono ?_
  rintro e w1 ⟨rfl, hb1⟩
  have H1 := Lib.hid (H0.out.then_ hb1)
  go_wp2_with fail
  refine (rf_number_bad H1.out HC.out).mono ?_
  rintro e w2 ⟨rfl, hb2⟩
  have H2 := Lib.hid ((H1.out.then_ hb2))
  have hb := Lib.hid (below_then (below_then B0.out hb1) hb2)
  have zz := (M0.out.then_ hb1).then_ hb2
  have A2 := (A0.out.then_ hb1).then_ hb2
  have z0 := zz.frozen 0; have z1 := zz.frozen 1; have z2 := zz.frozen 2; have zl := zz.lt; have y0 := zz.cell 0; have y1 := zz.cell 1; have y2 := zz.cell 2; simp at y0 y1 y2
  have M9 := Lib.hid (ex_store zz (.int .i64 1) (.int .i64 0) (.slice none 0 0))
  have A9 := Lib.hid (A2.apart3 (p := bX) hRX (.int .i64 1) (.int .i64 0) (.slice none 0 0))
  obtain ⟨A, m, cc, o, ha⟩ := H2.out
  have q9 := ha.apart3 (p := bX) hgX (.int .i64 1) (.int .i64 0) (.slice none 0 0)
  have B9 := Lib.hid (below_set (below_set (below_set hb.out (p := ⟨bX, 0, none⟩) HBX.out (.int .i64 1)) (p := ⟨bX, 1, none⟩) HBX.out (.int .i64 0)) (p := ⟨bX, 2, none⟩) HBX.out (.slice none 0 0))
  have Q9 := Lib.hid q9
  clear ha q9 zz A2 hb hb1 hb2 A0 M0 H0 H1 H2 B0
  have e1 : (c == 0) = false := by simpa using HC.out
  go_upto_region 25 with fail
  generalize World.setCell (World.setCell (World.setCell w2 _ _) _ _) _ _ = W5 at M9 A9 B9 Q9 ⊢
  clear z0 z1 z2 zl y0 y1 y2
  have x1 : W5.cell? ⟨g, 1, none⟩ = some (.int .i64 c) := Q9.out.cell 1
  have hlt := Q9.out.lt
  have n0 := M9.out.cell 0; have n1 := M9.out.cell 1; have n2 := M9.out.cell 2; simp at n0 n1 n2
  have a1 := A9.out
  have z0 := a1.frozen 0; have z1 := a1.frozen 1; have z2 := a1.frozen 2; have zl := a1.lt; have y0 := a1.cell 0; have y1 := a1.cell 1; have y2 := a1.cell 2; simp at y0 y1 y2
  have F1 := Lib.hid (ex_store a1 (.int .i64 1) (.int .i64 0) (.slice none 0 0))
  have F2 := Lib.hid (below_set (below_set (below_set B9.out (p := ⟨bR, 0, none⟩) HBR.out (.int .i64 1)) (p := ⟨bR, 1, none⟩) HBR.out (.int .i64 0)) (p := ⟨bR, 2, none⟩) HBR.out (.slice none 0 0))
  clear a1
  refine wp_loop_rounds 1 ?_
  rw [rounds_succ]
  go_wp2_with fail
  generalize World.setCell (World.setCell (World.setCell W5 _ _) _ _) _ _ = W9 at F1 F2 ⊢
  have e0 := F1.out.cell 0; have e1 := F1.out.cell 1; have e2 := F1.out.cell 2
  simp at e0 e1 e2
  (try simp only [Exit.inBlock, Exit.then])
  refine bodyPost_ret (v := .agg #[.int .i64 1, .int .i64 0, .slice none 0 0]) ?_ rfl ?_
  · simp [results, Tryz.results93, go_sem, e0, e1, e2]
  · exact ⟨rfl, F2.out⟩
structure Mx (B G : Nat → Prop) (g lb tb mb : Nat) : Prop where
  mG : G mb
  gm : g ≠ mb
  lm : lb ≠ mb
  tm : tb < mb
  nB : ¬ B mb
theorem RQ.setb {mb : Nat} {l : List Tok} {W : World} (mx : Mx B G g lb tb mb) (h : RQ B G g lb tb O l t v w W) (i : Nat) (u : Value) : RQ B G g lb tb O l t v w (W.setCell ⟨mb, i, none⟩ u) :=
  ⟨h.tr.one ((OneKept.refl mb W).set i u) mx.mG (by have := mx.tm; omega), h.rd.set mx.nB mx.gm i u, h.ln.apart (p := ⟨mb, i, none⟩) mx.lm u, below_set h.bel (Nat.le_of_lt mx.tm) u⟩
theorem FQ.setb {mb : Nat} {c : Int} {W : World} (mx : Mx B G g lb tb mb) (h : FQ G g lb tb O t v c w W) (i : Nat) (u : Value) : FQ G g lb tb O t v c w (W.setCell ⟨mb, i, none⟩ u) := by
  obtain ⟨⟨t0, he, h1⟩, ⟨A, m, cc, o, ha⟩, h3, h4⟩ := h
  exact ⟨⟨t0, he, h1.one ((OneKept.refl mb W).set i u) mx.mG (by have := mx.tm; omega)⟩, ⟨A, m, cc, o, ha.apart (p := ⟨mb, i, none⟩) mx.gm u⟩, h3.apart (p := ⟨mb, i, none⟩) mx.lm u, below_set h4 (Nat.le_of_lt mx.tm) u⟩
theorem RQ.fresh {G' : Nat → Prop} {l : List Tok} {W W' : World} (h : RQ B G g lb tb O l t v w W) (k : Below W.heap.size W W') (hG : ∀ b, G' b → G b ∨ (W.heap.size ≤ b ∧ b < W'.heap.size)) : RQ B G' g lb tb O l t v w W' :=
  ⟨h.tr.fresh k hG, h.rd.then_ k, h.ln.then_ k, h.bel.trans (k.mono (Nat.le_of_lt h.tr.lt))⟩
theorem FQ.fresh {G' : Nat → Prop} {c : Int} {W W' : World} (h : FQ G g lb tb O t v c w W) (k : Below W.heap.size W W') (hG : ∀ b, G' b → G b ∨ (W.heap.size ≤ b ∧ b < W'.heap.size)) : FQ G' g lb tb O t v c w W' := by
  obtain ⟨⟨t0, he, h1⟩, h2, h3, h4⟩ := h
  exact ⟨⟨t0, he, h1.fresh k hG⟩, h2.then_ k, h3.then_ k, h4.trans (k.mono (Nat.le_of_lt h1.lt))⟩
theorem stx_str {G' : Nat → Prop} {α : Type} {val : α → Value} {R : Res (α × List Tok)} {x : Value} {W W' : World} (h : StX B G g lb tb O t v w val R x W) (k : Below W.heap.size W W') (hG : ∀ b, G' b → G b ∨ (W.heap.size ≤ b ∧ b < W'.heap.size)) : StR B G' g lb tb O t v w (R.bind fun p => .good p.2) W' := by
  cases R with
  | stuck => exact h.elim
  | bad c => exact ⟨h.1, h.2.fresh k hG⟩
  | good p => exact h.2.fresh k hG
theorem stx_val {R : Res (Tok × List Tok)} {X : ByteArray} {W : World} (h : StX B G g lb tb O t v w (fun x => .string (tkS x)) R (.string X) W) : ∀ p, R = .good p → X = tkS p.1 := by
  rintro p rfl
  injection h.1
def MS (B G : Nat → Prop) (g lb tb : Nat) (O : Obj) (t : PRule) (v : Value) (w : World) (R : Res (List Tok)) (X : ByteArray) (z : Int) (W : World) : Prop :=
  (∃ (x : Tok) (l2 : List Tok), R.bind monP = (if hd l2 = [] then .good ((x, z, z), l2) else (signP l2).bind fun s => .good ((x, z, s.1), s.2)) ∧ X = tkS x ∧ RQ B G g lb tb O l2 t v w W) ∨ (∃ c, c ≠ 0 ∧ R.bind monP = .bad c ∧ FQ G g lb tb O t v c w W)
theorem ms_of {R : Res (List Tok)} {X : ByteArray} {z : Int} {W : World} (hX : ∀ p, R.bind wordP = .good p → X = tkS p.1) (h : StX B G g lb tb O t v w (fun x : Int => .int .i64 x) (((R.bind wordP).bind fun p => .good p.2).bind signP) (.int .i64 z) W) : MS B G g lb tb O t v w R X z W := by
  cases R with
  | stuck => exact h.elim
  | bad c => exact .inr ⟨c, h.1, rfl, h.2⟩
  | good l =>
    have hX' : ∀ p, wordP l = .good p → X = tkS p.1 := hX
    have h' : StX B G g lb tb O t v w (fun x : Int => .int .i64 x) (((wordP l).bind fun p => .good p.2).bind signP) (.int .i64 z) W := h
    rcases wordP_cases l with e | e
    · rw [e] at h'
      exact .inr ⟨4, h'.1, by show monP l = _; rw [monP, e]; rfl, h'.2⟩
    · rw [e] at h'
      have h2 : StX B G g lb tb O t v w (fun x : Int => .int .i64 x) (signP l.tail) (.int .i64 z) W := h'
      rcases signP_cases l.tail with ⟨c, es⟩ | ⟨q, es⟩
      · rw [es] at h2
        exact .inr ⟨c, h2.1, by show monP l = _; rw [monP, e]; show (signP l.tail).bind _ = _; rw [es]; rfl, h2.2⟩
      · rw [es] at h2
        obtain ⟨hz, h3⟩ := h2
        injection hz with _ hz
        subst hz
        exact .inl ⟨hd l, q.2, by show monP l = _; rw [monP, e]; show (signP l.tail).bind _ = _; rw [es]; rfl, hX' _ e, h3⟩
theorem MS.setb {mb : Nat} {R : Res (List Tok)} {X : ByteArray} {z : Int} {W : World} (mx : Mx B G g lb tb mb) (h : MS B G g lb tb O t v w R X z W) (i : Nat) (u : Value) : MS B G g lb tb O t v w R X z (W.setCell ⟨mb, i, none⟩ u) := by
  rcases h with ⟨x, l2, h1, h2, h3⟩ | ⟨c, h1, h2, h3⟩
  · exact .inl ⟨x, l2, h1, h2, h3.setb mx i u⟩
  · exact .inr ⟨c, h1, h2, h3.setb mx i u⟩
theorem QAt.grow {l : List Tok} {o : Nat} {W W1 w4 : World} {row : Option Nat} (h : QAt B W g l o) (hW : Below W.heap.size W W1) (hg : W1.grownBy w4 row) (hn : row ≠ some g) (hB : ∀ b, B b → row ≠ some b) : QAt B w4 g l o := by
  obtain ⟨A, m, c, h1, ⟨q1, q2, q3, q4, q5⟩, h3⟩ := h
  refine ⟨A, m, c, (h1.then_ hW).grow hg hn, ⟨q1, q2, q3, fun b hb => Nat.lt_of_lt_of_le (q4 b hb) (Nat.le_trans hW.size hg.size), fun h0 => ?_⟩, h3⟩
  obtain ⟨b', off, e, hb', hl, hc⟩ := q5 h0
  refine ⟨b', off, e, hb', hl, fun j t hj => ?_⟩
  rw [← hc j t hj]
  unfold World.cell?
  simp only
  rw [hg.block b' (Nat.lt_of_lt_of_le (q4 b' hl) hW.size) (Ne.symm (hB b' hl)), hW.block b' (q4 b' hl)]
theorem QAt.cells0 {l : List Tok} {o : Nat} {W : World} (h : QAt B W g l o) : ∃ A m c, W.cell? ⟨g, 0, none⟩ = some (.slice A m c) ∧ m = l.length ∧ W.cell? ⟨g, 1, none⟩ = some (.int .i64 0) := by
  obtain ⟨A, m, c, h1, h2, _⟩ := h
  exact ⟨A, m, c, h1.cell 0, h2.1, h1.cell 1⟩
theorem QBad.cells0 {e : Int} {W : World} (h : QBad W g e) : ∃ A m c, W.cell? ⟨g, 0, none⟩ = some (.slice A m c) ∧ W.cell? ⟨g, 1, none⟩ = some (.int .i64 e) := by
  obtain ⟨A, m, c, o, h1⟩ := h
  exact ⟨A, m, c, h1.cell 0, h1.cell 1⟩
theorem row_body {f i : Nat} {l : List Tok} {t : PRule} : rowP f i l t = ((needP (kOf i) l).bind fun l => restP f i l t).bind fun p => if hd p.2 = [] then .good p.1 else .bad 4 := by
  unfold rowP; rw [Res.assoc]
end Go.Proofs.YtdmkghgachapaabGreatDoor
