/- Slices of structs as lists, in general; slices of api.RuleMonth. -/
import Derived.Test.YthpiiocncdpimaaDoorRows2
namespace Go.Proofs.YthpiiocncdpimaaDoor
set_option linter.unusedVariables false
set_option maxRecDepth 100000
open Go.RowKit Go.ChangeShapes Go.WideShapes Go.Deep

/-- The slice '.slice a n _' holds these elements, 'sz' cells each, below block B. -/
def RowsOf {α : Type} (sz : Nat) (enc : α → List Value) (w : World) (B : Nat) (a : Option Addr) (n : Nat) (xs : List α) : Prop :=
  xs.length = n ∧ n ≤ 9223372036854775807 ∧ (0 < n → ∃ b off, a = some ⟨b, off, none⟩ ∧ b < B ∧ ∀ i x, xs[i]? = some x → ∀ j v, (enc x)[j]? = some v → w.cell? ⟨b, off + i * sz + j, none⟩ = some v)
section
variable {α : Type} {sz : Nat} {enc : α → List Value} {w w' w1 w2 : World} {B B' : Nat} {a : Option Addr} {n : Nat} {xs : List α}
theorem RowsOf.below (h : RowsOf sz enc w B a n xs) (hb : Below B' w w') (hB : B ≤ B') : RowsOf sz enc w' B a n xs :=
  ⟨h.1, h.2.1, fun hn => by
    obtain ⟨b, off, e, hlt, hc⟩ := h.2.2 hn
    exact ⟨b, off, e, hlt, fun i x hx j v hv => (hb.cell (p := ⟨b, _, none⟩) (Nat.lt_of_lt_of_le hlt hB)).trans (hc i x hx j v hv)⟩⟩
theorem RowsOf.more (h : RowsOf sz enc w B a n xs) (hB : B ≤ B') : RowsOf sz enc w B' a n xs :=
  ⟨h.1, h.2.1, fun hn => by
    obtain ⟨b, off, e, hlt, hc⟩ := h.2.2 hn
    exact ⟨b, off, e, by omega, hc⟩⟩
theorem RowsOf.far (h : RowsOf sz enc w w.heap.size a n xs) (b : Below w.heap.size w w1) (b' : Below w1.heap.size w1 w2) : RowsOf sz enc w2 w2.heap.size a n xs :=
  ((h.below b (Nat.le_refl _)).below b' b.size).more (Nat.le_trans b.size b'.size)
theorem RowsOf.take (h : RowsOf sz enc w B a n xs) {k : Nat} (hk : k ≤ n) : RowsOf sz enc w B a k (xs.take k) :=
  ⟨by rw [List.length_take, h.1]; omega, Nat.le_trans hk h.2.1, fun hn => by
    obtain ⟨b, off, e, hlt, hc⟩ := h.2.2 (by omega)
    refine ⟨b, off, e, hlt, fun i x hx => hc i x ?_⟩
    rw [List.getElem?_take] at hx
    split at hx
    · exact hx
    · cases hx⟩
end

/-- A month: its name and its two lengths. -/
abbrev Mon := ByteArray × Int × Int
def encM (x : Mon) : List Value := [.string x.1, .int .i64 x.2.1, .int .i64 x.2.2]
def okM (x : Mon) : Prop := x.1.size ≤ 9223372036854775807 ∧ I64 x.2.1 ∧ I64 x.2.2
def Months (w : World) (B : Nat) (a : Option Addr) (n : Nat) (xs : List Mon) : Prop := RowsOf 3 encM w B a n xs ∧ ∀ x ∈ xs, okM x
section
variable {w w' w1 w2 : World} {B B' : Nat} {a : Option Addr} {n : Nat} {xs : List Mon}
theorem Months.below (h : Months w B a n xs) (hb : Below B' w w') (hB : B ≤ B') : Months w' B a n xs := ⟨h.1.below hb hB, h.2⟩
theorem Months.more (h : Months w B a n xs) (hB : B ≤ B') : Months w B' a n xs := ⟨h.1.more hB, h.2⟩
theorem Months.far (h : Months w w.heap.size a n xs) (b : Below w.heap.size w w1) (b' : Below w1.heap.size w1 w2) : Months w2 w2.heap.size a n xs := ⟨h.1.far b b', h.2⟩
theorem Months.take (h : Months w B a n xs) {k : Nat} (hk : k ≤ n) : Months w B a k (xs.take k) := ⟨h.1.take hk, fun x hx => h.2 x (List.mem_of_mem_take hx)⟩
theorem Months.len (h : Months w B a n xs) : xs.length = n := h.1.1
theorem Months.max (h : Months w B a n xs) : n ≤ 9223372036854775807 := h.1.2.1
theorem Months.open_ (h : Months w B a n xs) (hn : 0 < n) :
    ∃ b off, a = some ⟨b, off, none⟩ ∧ b < B ∧ ∀ k, k < n → ∃ s f g, w.cell? ⟨b, off + k * 3, none⟩ = some (.string s) ∧ w.cell? ⟨b, off + k * 3 + 1, none⟩ = some (.int .i64 f) ∧ w.cell? ⟨b, off + k * 3 + 2, none⟩ = some (.int .i64 g) ∧
      xs[k]? = some (s, f, g) ∧ s.size ≤ 9223372036854775807 ∧ -9223372036854775808 ≤ f ∧ f ≤ 9223372036854775807 ∧ -9223372036854775808 ≤ g ∧ g ≤ 9223372036854775807 := by
  obtain ⟨b, off, e, hlt, hc⟩ := h.1.2.2 hn
  refine ⟨b, off, e, hlt, fun k hk => ?_⟩
  have hl : k < xs.length := by have := h.len; omega
  have hx := List.getElem?_eq_getElem hl
  have hm := h.2 _ (List.getElem_mem hl)
  exact ⟨xs[k].1, xs[k].2.1, xs[k].2.2, hc k _ hx 0 _ rfl, hc k _ hx 1 _ rfl, hc k _ hx 2 _ rfl, hx, hm.1, hm.2.1.1, hm.2.1.2, hm.2.2.1, hm.2.2.2⟩
end
/-- A slice's length and capacity. -/
theorem open_cap {H : Type} {enc : TypeId × Value → H} {W : World} {fuel : Nat} {v : Value} {x : DataW H × List MemPlace} {t e : TypeId} (ht : Tryd.prog.underlying t = some (.slice e))
    (h : DataW.trod enc Tryd.prog W 0 (fun _ => true) true fuel t [v] = some x) : ∃ a len cap, v = .slice a len cap ∧ len ≤ cap ∧ cap ≤ 9223372036854775807 := by
  rcases open_slice ht h with ⟨hcs, _⟩ | ⟨a, len, cap, m, n, D, Pl, hcs, _, hl, hm, hmm, _, hi⟩
  · simp at hcs
    subst hcs
    exact ⟨none, 0, 0, rfl, by omega, by omega⟩
  · simp at hcs
    subst hcs
    unfold maxLen at hm
    exact ⟨some a, len, cap, rfl, hl, by omega⟩
end Go.Proofs.YthpiiocncdpimaaDoor
