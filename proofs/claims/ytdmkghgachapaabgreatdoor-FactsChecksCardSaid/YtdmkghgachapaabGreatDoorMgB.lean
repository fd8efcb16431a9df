/- Several texts in one: Rows2, Months. -/
import Derived.Test.YtdmkghgachapaabGreatDoorMgA
import Derived.Deep.Fields
set_option linter.unusedSimpArgs false
namespace Go.Proofs.YtdmkghgachapaabGreatDoor
set_option linter.unusedVariables false
set_option maxRecDepth 100000
open Go.RowKit Go.ChangeShapes Go.WideShapes Go.Deep
theorem listOf {α : Type} {n : Nat} {P : Nat → α → Prop} (h : ∀ i, i < n → ∃ x, P i x) : ∃ xs : List α, xs.length = n ∧ ∀ (i : Nat) (x : α), xs[i]? = some x → P i x := by
  induction n with
  | zero => exact ⟨[], rfl, fun i x hx => by simp at hx⟩
  | succ n ih =>
    obtain ⟨xs, h1, h2⟩ := ih fun i hi => h i (by omega)
    obtain ⟨x, hx⟩ := h n (by omega)
    refine ⟨xs ++ [x], by simp [h1], fun i y hy => ?_⟩
    rcases Nat.lt_trichotomy i n with hlt | heq | hgt
    · rw [List.getElem?_append_left (by omega)] at hy
      exact h2 i y hy
    · subst heq
      rw [← h1, List.getElem?_append_right (Nat.le_refl _)] at hy
      simp at hy
      subst hy
      exact hx
    · rw [List.getElem?_eq_none (by simp; omega)] at hy
      cases hy
theorem add_none (b off k : Nat) : (⟨b, off, none⟩ : Addr).add k = ⟨b, off + k, none⟩ := by
  by_cases h : k = 0
  · subst h; simp [Addr.add]
  · simp [Addr.add, h]
theorem open_str {H : Type} {enc : TypeId × Value → H} {W : World} {n : Nat} {u : Value} {y : DataW H × List MemPlace} (h : DataW.trod enc Tryz.prog W 0 (fun _ => true) true n 9 [u] = some y) : ∃ s : ByteArray, u = .string s ∧ s.size ≤ 9223372036854775807 := by
  obtain ⟨s, hs, _, hm⟩ := DataW.trod_string Tryz.underlying9 h
  simp at hs
  unfold maxLen at hm
  exact ⟨s, hs, hm⟩
theorem open_num {H : Type} {enc : TypeId × Value → H} {W : World} {n : Nat} {u : Value} {y : DataW H × List MemPlace} (h : DataW.trod enc Tryz.prog W 0 (fun _ => true) true n 3 [u] = some y) : ∃ k : Int, u = .int .i64 k ∧ I64 k := by
  obtain ⟨k, hs, _, hm⟩ := DataW.trod_int Tryz.underlying3 h
  simp at hs
  exact ⟨k, hs, bounds_i64 hm⟩
theorem open_agg {H : Type} {enc : TypeId × Value → H} {W : World} {r : Reach} {b0 : Nat} {t : TypeId} {fs : Array Field} {v : Value} {d : DataW H} {p : List MemPlace}
    (hs : Tryz.prog.underlying t = some (.struct fs)) (hone : oneCellFields Tryz.prog fs = true) (hC : Tryz.prog.cellsOf t = fs.size)
    (hv : Value.okWide Tryz.prog W r b0 t v) (h : DataW.Trod enc Tryz.prog W 0 (fun _ => true) true t v d p) :
    ∃ (cs : List Value) (n : Nat), v = .agg cs.toArray ∧ cs.length = fs.size ∧ ∀ (j : Nat) (f : Field), fs[j]? = some f → ∃ u y, cs[j]? = some u ∧ DataW.trod enc Tryz.prog W 0 (fun _ => true) true n f.type [u] = some y := by
  obtain ⟨cs, rfl, hsz⟩ := okWide_struct hs hv
  obtain ⟨l⟩ := cs
  obtain ⟨fuel, hf⟩ := h
  obtain ⟨ys, n', hn', hy, hlen, hyl, hg⟩ := DataW.trod_struct hs hf
  have hl : l.length = fs.size := by have := hsz.trans hC; simpa using this
  refine ⟨l, n', rfl, hl, fun j f hj => ?_⟩
  obtain ⟨ho, hk⟩ := hone_of hone j f hj
  have hjl : j < fs.size := (Array.getElem?_eq_some_iff.1 hj).1
  have h1 := hg j f hj
  rw [ho, hk] at h1
  have hone' : List.take 1 (List.drop j (Value.agg (⟨l⟩ : Array Value)).cells.toList) = [l[j]'(by omega)] := by
    show (l.drop j).take 1 = _
    rw [List.drop_eq_getElem_cons (by omega)]
    rfl
  rw [hone'] at h1
  have hys : ys[j]? = some (ys[j]'(by omega)) := List.getElem?_eq_getElem (by omega)
  exact ⟨_, _, List.getElem?_eq_getElem (by omega), h1.trans hys⟩
end Go.Proofs.YtdmkghgachapaabGreatDoor

set_option linter.unusedSimpArgs false
namespace Go.Proofs.YtdmkghgachapaabGreatDoor
set_option linter.unusedVariables false
set_option maxRecDepth 100000
open Go.RowKit Go.ChangeShapes Go.WideShapes Go.Deep
def RowsOf {α : Type} (sz : Nat) (enc : α → List Value) (w : World) (B : Nat) (a : Option Addr) (n : Nat) (xs : List α) : Prop :=
  xs.length = n ∧ n ≤ 9223372036854775807 ∧ (0 < n → ∃ b off, a = some ⟨b, off, none⟩ ∧ b < B ∧ ∀ i x, xs[i]? = some x → ∀ j v, (enc x)[j]? = some v → w.cell? ⟨b, off + i * sz + j, none⟩ = some v)
section
variable {α : Type} {sz : Nat} {enc : α → List Value} {w w' w1 w2 : World} {B B' : Nat} {a : Option Addr} {n : Nat} {xs : List α}
theorem RowsOf.below (h : RowsOf sz enc w B a n xs) (hb : Below B' w w') (hB : B ≤ B') : RowsOf sz enc w' B a n xs :=
  ⟨h.1, h.2.1, fun hn => by
    obtain ⟨b, off, e, hlt, hc⟩ := h.2.2 hn
    exact ⟨b, off, e, hlt, fun i x hx j v hv => (hb.cell (p := ⟨b, _, none⟩) (Nat.lt_of_lt_of_le hlt hB)).trans (hc i x hx j v hv)⟩⟩
theorem RowsOf.more (h : RowsOf sz enc w B a n xs) (hB : B ≤ B') : RowsOf sz enc w B' a n xs :=
  ⟨h.1, h.2.1, fun hn => by
    obtain ⟨b, off, e, hlt, hc⟩ := h.2.2 hn
    exact ⟨b, off, e, by omega, hc⟩⟩
theorem RowsOf.far (h : RowsOf sz enc w w.heap.size a n xs) (b : Below w.heap.size w w1) (b' : Below w1.heap.size w1 w2) : RowsOf sz enc w2 w2.heap.size a n xs :=
  ((h.below b (Nat.le_refl _)).below b' b.size).more (Nat.le_trans b.size b'.size)
theorem RowsOf.take (h : RowsOf sz enc w B a n xs) {k : Nat} (hk : k ≤ n) : RowsOf sz enc w B a k (xs.take k) :=
  ⟨by rw [List.length_take, h.1]; omega, Nat.le_trans hk h.2.1, fun hn => by
    obtain ⟨b, off, e, hlt, hc⟩ := h.2.2 (by omega)
    refine ⟨b, off, e, hlt, fun i x hx => hc i x ?_⟩
    rw [List.getElem?_take] at hx
    split at hx
    · exact hx
    · cases hx⟩
end
abbrev Mon := ByteArray × Int × Int
def encM (x : Mon) : List Value := [.string x.1, .int .i64 x.2.1, .int .i64 x.2.2]
def okM (x : Mon) : Prop := x.1.size ≤ 9223372036854775807 ∧ I64 x.2.1 ∧ I64 x.2.2
def Months (w : World) (B : Nat) (a : Option Addr) (n : Nat) (xs : List Mon) : Prop := RowsOf 3 encM w B a n xs ∧ ∀ x ∈ xs, okM x
section
variable {w w' w1 w2 : World} {B B' : Nat} {a : Option Addr} {n : Nat} {xs : List Mon}
theorem Months.below (h : Months w B a n xs) (hb : Below B' w w') (hB : B ≤ B') : Months w' B a n xs := ⟨h.1.below hb hB, h.2⟩
theorem Months.more (h : Months w B a n xs) (hB : B ≤ B') : Months w B' a n xs := ⟨h.1.more hB, h.2⟩
theorem Months.far (h : Months w w.heap.size a n xs) (b : Below w.heap.size w w1) (b' : Below w1.heap.size w1 w2) : Months w2 w2.heap.size a n xs := ⟨h.1.far b b', h.2⟩
theorem Months.take (h : Months w B a n xs) {k : Nat} (hk : k ≤ n) : Months w B a k (xs.take k) := ⟨h.1.take hk, fun x hx => h.2 x (List.mem_of_mem_take hx)⟩
theorem Months.len (h : Months w B a n xs) : xs.length = n := h.1.1
theorem Months.max (h : Months w B a n xs) : n ≤ 9223372036854775807 := h.1.2.1
theorem Months.open_ (h : Months w B a n xs) (hn : 0 < n) :
    ∃ b off, a = some ⟨b, off, none⟩ ∧ b < B ∧ ∀ k, k < n → ∃ s f g, w.cell? ⟨b, off + k * 3, none⟩ = some (.string s) ∧ w.cell? ⟨b, off + k * 3 + 1, none⟩ = some (.int .i64 f) ∧ w.cell? ⟨b, off + k * 3 + 2, none⟩ = some (.int .i64 g) ∧
      xs[k]? = some (s, f, g) ∧ s.size ≤ 9223372036854775807 ∧ -9223372036854775808 ≤ f ∧ f ≤ 9223372036854775807 ∧ -9223372036854775808 ≤ g ∧ g ≤ 9223372036854775807 := by
  obtain ⟨b, off, e, hlt, hc⟩ := h.1.2.2 hn
  refine ⟨b, off, e, hlt, fun k hk => ?_⟩
  have hl : k < xs.length := by have := h.len; omega
  have hx := List.getElem?_eq_getElem hl
  have hm := h.2 _ (List.getElem_mem hl)
  exact ⟨xs[k].1, xs[k].2.1, xs[k].2.2, hc k _ hx 0 _ rfl, hc k _ hx 1 _ rfl, hc k _ hx 2 _ rfl, hx, hm.1, hm.2.1.1, hm.2.1.2, hm.2.2.1, hm.2.2.2⟩
end
end Go.Proofs.YtdmkghgachapaabGreatDoor
