/- Slices of structs as lists, in general; slices of api.RuleMonth. -/
import Derived.Test.YtfbmlbenffkpfaaGreatDoorRows2
namespace Go.Proofs.YtfbmlbenffkpfaaGreatDoor
set_option linter.unusedVariables false
set_option maxRecDepth 100000
open Go.RowKit Go.ChangeShapes Go.WideShapes Go.Deep

/-- The slice '.slice a n _' holds these elements, 'sz' cells each, below block B. -/
def RowsOf {α : Type} (sz : Nat) (enc : α → List Value) (w : World) (B : Nat) (a : Option Addr) (n : Nat) (xs : List α) : Prop :=
  xs.length = n ∧ n ≤ 9223372036854775807 ∧ (0 < n → ∃ b off, a = some ⟨b, off, none⟩ ∧ b < B ∧ ∀ i x, xs[i]? = some x → ∀ j v, (enc x)[j]? = some v → w.cell? ⟨b, off + i * sz + j, none⟩ = some v)
section
variable {α : Type} {sz : Nat} {enc : α → List Value} {w w' w1 w2 : World} {B B' : Nat} {a : Option Addr} {n : Nat} {xs : List α}
theorem RowsOf.below (h : RowsOf sz enc w B a n xs) (hb : Below B' w w') (hB : B ≤ B') : RowsOf sz enc w' B a n xs :=
  ⟨h.1, h.2.1, fun hn => by
    obtain ⟨b, off, e, hlt, hc⟩ := h.2.2 hn
    exact ⟨b, off, e, hlt, fun i x hx j v hv => (hb.cell (p := ⟨b, _, none⟩) (Nat.lt_of_lt_of_le hlt hB)).trans (hc i x hx j v hv)⟩⟩
theorem RowsOf.more (h : RowsOf sz enc w B a n xs) (hB : B ≤ B') : RowsOf sz enc w B' a n xs :=
  ⟨h.1, h.2.1, fun hn => by
    obtain ⟨b, off, e, hlt, hc⟩ := h.2.2 hn
    exact ⟨b, off, e, by omega, hc⟩⟩
theorem RowsOf.far (h : RowsOf sz enc w w.heap.size a n xs) (b : Below w.heap.size w w1) (b' : Below w1.heap.size w1 w2) : RowsOf sz enc w2 w2.heap.size a n xs :=
  ((h.below b (Nat.le_refl _)).below b' b.size).more (Nat.le_trans b.size b'.size)
theorem RowsOf.take (h : RowsOf sz enc w B a n xs) {k : Nat} (hk : k ≤ n) : RowsOf sz enc w B a k (xs.take k) :=
  ⟨by rw [List.length_take, h.1]; omega, Nat.le_trans hk h.2.1, fun hn => by
    obtain ⟨b, off, e, hlt, hc⟩ := h.2.2 (by omega)
    refine ⟨b, off, e, hlt, fun i x hx => hc i x ?_⟩
    rw [List.getElem?_take] at hx
    split at hx
    · exact hx
    · cases hx⟩
end

/-- A month: its name and its two lengths. -/
abbrev Mon := ByteArray × Int × Int
def encM (x : Mon) : List Value := [.string x.1, .int .i64 x.2.1, .int .i64 x.2.2]
def okM (x : Mon) : Prop := x.1.size ≤ 9223372036854775807 ∧ I64 x.2.1 ∧ I64 x.2.2
def Months (w : World) (B : Nat) (a : Option Addr) (n : Nat) (xs : List Mon) : Prop := RowsOf 3 encM w B a n xs ∧ ∀ x ∈ xs, okM x
section
variable {w w' w1 w2 : World} {B B' : Nat} {a : Option Addr} {n : Nat} {xs : List Mon}
theorem Months.below (h : Months w B a n xs) (hb : Below B' w w') (hB : B ≤ B') : Months w' B a n xs := ⟨h.1.below hb hB, h.2⟩
theorem Months.more (h : Months w B a n xs) (hB : B ≤ B') : Months w B' a n xs := ⟨h.1.more hB, h.2⟩
theorem Months.far (h : Months w w.heap.size a n xs) (b : Below w.heap.size w w1) (b' : Below w1.heap.size w1 w2) : Months w2 w2.heap.size a n xs := ⟨h.1.far b b', h.2⟩
theorem Months.take (h : Months w B a n xs) {k : Nat} (hk : k ≤ n) : Months w B a k (xs.take k) := ⟨h.1.take hk, fun x hx => h.2 x (List.mem_of_mem_take hx)⟩
theorem Months.len (h : Months w B a n xs) : xs.length = n := h.1.1
theorem Months.max (h : Months w B a n xs) : n ≤ 9223372036854775807 := h.1.2.1
theorem Months.open_ (h : Months w B a n xs) (hn : 0 < n) :
    ∃ b off, a = some ⟨b, off, none⟩ ∧ b < B ∧ ∀ k, k < n → ∃ s f g, w.cell? ⟨b, off + k * 3, none⟩ = some (.string s) ∧ w.cell? ⟨b, off + k * 3 + 1, none⟩ = some (.int .i64 f) ∧ w.cell? ⟨b, off + k * 3 + 2, none⟩ = some (.int .i64 g) ∧
      xs[k]? = some (s, f, g) ∧ s.size ≤ 9223372036854775807 ∧ -9223372036854775808 ≤ f ∧ f ≤ 9223372036854775807 ∧ -9223372036854775808 ≤ g ∧ g ≤ 9223372036854775807 := by
  obtain ⟨b, off, e, hlt, hc⟩ := h.1.2.2 hn
  refine ⟨b, off, e, hlt, fun k hk => ?_⟩
  have hl : k < xs.length := by have := h.len; omega
  have hx := List.getElem?_eq_getElem hl
  have hm := h.2 _ (List.getElem_mem hl)
  exact ⟨xs[k].1, xs[k].2.1, xs[k].2.2, hc k _ hx 0 _ rfl, hc k _ hx 1 _ rfl, hc k _ hx 2 _ rfl, hx, hm.1, hm.2.1.1, hm.2.1.2, hm.2.2.1, hm.2.2.2⟩
end
/-- A slice's length and capacity. -/
theorem open_cap {H : Type} {enc : TypeId × Value → H} {W : World} {fuel : Nat} {v : Value} {x : DataW H × List MemPlace} {t e : TypeId} (ht : Tryz.prog.underlying t = some (.slice e))
    (h : DataW.trod enc Tryz.prog W 0 (fun _ => true) true fuel t [v] = some x) : ∃ a len cap, v = .slice a len cap ∧ len ≤ cap ∧ cap ≤ 9223372036854775807 := by
  rcases open_slice ht h with ⟨hcs, _⟩ | ⟨a, len, cap, m, n, D, Pl, hcs, _, hl, hm, hmm, _, hi⟩
  · simp at hcs
    subst hcs
    exact ⟨none, 0, 0, rfl, by omega, by omega⟩
  · simp at hcs
    subst hcs
    unfold maxLen at hm
    exact ⟨some a, len, cap, rfl, hl, by omega⟩
/-- A parameter, or a field, of type []api.RuleMonth. -/
theorem open_Months {H : Type} {enc : TypeId × Value → H} {W : World} {fuel : Nat} {v : Value} {x : DataW H × List MemPlace}
    (h : DataW.trod enc Tryz.prog W 0 (fun _ => true) true fuel 30 [v] = some x) :
    ∃ a n c xs, v = .slice a n c ∧ n ≤ c ∧ c ≤ 9223372036854775807 ∧ Months W W.heap.size a n xs := by
  obtain ⟨a', len', cap', e', hlc, hcm⟩ := open_cap Tryz.underlying30 h
  obtain ⟨a, len, cap, rfl, hl, hrow⟩ := open_rows Tryz.underlying30 Tryz.underlying103 (by kernel_rfl) (by kernel_rfl) (by decide) h
  obtain ⟨rfl, rfl, rfl⟩ : a = a' ∧ len = len' ∧ cap = cap' := by injection e' with x y z; exact ⟨x, y, z⟩
  by_cases hn : 0 < len
  · obtain ⟨b, off, rfl, hb, hc⟩ := hrow hn
    have hs : ∀ i, i < len → ∃ x : Mon, (∀ j v, (encM x)[j]? = some v → W.cell? ⟨b, off + i * 3 + j, none⟩ = some v) ∧ okM x := by
      intro i hi
      obtain ⟨n, hf⟩ := hc i hi
      obtain ⟨u0, y0, c0, t0⟩ := hf 0 _ rfl
      obtain ⟨u1, y1, c1, t1⟩ := hf 1 _ rfl
      obtain ⟨u2, y2, c2, t2⟩ := hf 2 _ rfl
      obtain ⟨s, rfl, hs⟩ := open_str t0
      obtain ⟨k, rfl, hk⟩ := open_num t1
      obtain ⟨k', rfl, hk'⟩ := open_num t2
      refine ⟨(s, k, k'), fun j v hv => ?_, hs, hk, hk'⟩
      match j, hv with
      | 0, hv => simp [encM] at hv; subst hv; exact c0
      | 1, hv => simp [encM] at hv; subst hv; exact c1
      | 2, hv => simp [encM] at hv; subst hv; exact c2
    obtain ⟨xs, hx1, hx2⟩ := listOf hs
    refine ⟨_, len, cap, xs, rfl, hlc, hcm, ⟨hx1, hl, fun _ => ⟨b, off, rfl, hb, fun i x hx => (hx2 i x hx).1⟩⟩, fun x hx => ?_⟩
    obtain ⟨i, hi, rfl⟩ := List.getElem_of_mem hx
    exact (hx2 i _ (List.getElem?_eq_getElem hi)).2
  · obtain rfl : len = 0 := by omega
    exact ⟨a, 0, cap, [], rfl, hlc, hcm, ⟨rfl, by omega, fun h => absurd h (by omega)⟩, by simp⟩
end Go.Proofs.YtfbmlbenffkpfaaGreatDoor
