/- Zones of time: the changes of a zone in memory; what a zone's error is, plain. -/
import Derived.Test.YthpiiocncdpimabDoorMonths
import Derived.Test.YthpiiocncdpimabDoorName
import Derived.Test.YthpiiocncdpimabDoorRef
namespace Go.Proofs.YthpiiocncdpimabDoor
set_option linter.unusedVariables false
set_option maxRecDepth 100000
open Go.RowKit Go.ChangeShapes Go.WideShapes Go.Deep

/-- A change: its instant, its offset, its label. -/
abbrev Chg := Int × Int × ByteArray
def encChg (x : Chg) : List Value := [.int .i64 (x.1), .int .i64 (x.2.1), .string (x.2.2)]
def okChg (x : Chg) : Prop := I64 (x.1) ∧ I64 (x.2.1) ∧ (x.2.2).size ≤ 9223372036854775807
def Changes (w : World) (B : Nat) (a : Option Addr) (n : Nat) (xs : List Chg) : Prop := RowsOf 3 encChg w B a n xs ∧ ∀ x ∈ xs, okChg x
section
variable {w w' w1 w2 : World} {B B' : Nat} {a : Option Addr} {n : Nat} {xs : List Chg}
theorem Changes.below (h : Changes w B a n xs) (hb : Below B' w w') (hB : B ≤ B') : Changes w' B a n xs := ⟨h.1.below hb hB, h.2⟩
theorem Changes.more (h : Changes w B a n xs) (hB : B ≤ B') : Changes w B' a n xs := ⟨h.1.more hB, h.2⟩
theorem Changes.then_ (h : Changes w w.heap.size a n xs) (b : Below w.heap.size w w1) : Changes w1 w1.heap.size a n xs := (h.below b (Nat.le_refl _)).more b.size
theorem Changes.far (h : Changes w w.heap.size a n xs) (b : Below w.heap.size w w1) (b' : Below w1.heap.size w1 w2) : Changes w2 w2.heap.size a n xs := ⟨h.1.far b b', h.2⟩
theorem Changes.take (h : Changes w B a n xs) {k : Nat} (hk : k ≤ n) : Changes w B a k (xs.take k) := ⟨h.1.take hk, fun x hx => h.2 x (List.mem_of_mem_take hx)⟩
theorem Changes.len (h : Changes w B a n xs) : xs.length = n := h.1.1
theorem Changes.max (h : Changes w B a n xs) : n ≤ 9223372036854775807 := h.1.2.1
theorem Changes.open_ (h : Changes w B a n xs) (hn : 0 < n) :
    ∃ b off, a = some ⟨b, off, none⟩ ∧ b < B ∧ ∀ k, k < n → ∃ (u0 : Int) (u1 : Int) (u2 : ByteArray), w.cell? ⟨b, off + k * 3, none⟩ = some (.int .i64 (u0)) ∧ w.cell? ⟨b, off + k * 3 + 1, none⟩ = some (.int .i64 (u1)) ∧ w.cell? ⟨b, off + k * 3 + 2, none⟩ = some (.string (u2)) ∧ xs[k]? = some (u0, u1, u2) ∧ -9223372036854775808 ≤ u0 ∧ u0 ≤ 9223372036854775807 ∧ -9223372036854775808 ≤ u1 ∧ u1 ≤ 9223372036854775807 ∧ u2.size ≤ 9223372036854775807 := by
  obtain ⟨b, off, e, hlt, hc⟩ := h.1.2.2 hn
  refine ⟨b, off, e, hlt, fun k hk => ?_⟩
  have hl : k < xs.length := by have := h.len; omega
  have hx := List.getElem?_eq_getElem hl
  have hm := h.2 _ (List.getElem_mem hl)
  exact ⟨xs[k].1, xs[k].2.1, xs[k].2.2, hc k _ hx 0 _ rfl, hc k _ hx 1 _ rfl, hc k _ hx 2 _ rfl, hx, hm.1.1, hm.1.2, hm.2.1.1, hm.2.1.2, hm.2.2⟩
end
/-- A parameter, or a field, of type []api.ZoneChange. -/
theorem open_Changes {H : Type} {enc : TypeId × Value → H} {W : World} {fuel : Nat} {v : Value} {x : DataW H × List MemPlace}
    (h : DataW.trod enc Tryd.prog W 0 (fun _ => true) true fuel 22 [v] = some x) :
    ∃ a n c xs, v = .slice a n c ∧ n ≤ c ∧ c ≤ 9223372036854775807 ∧ Changes W W.heap.size a n xs := by
  obtain ⟨a', len', cap', e', hlc, hcm⟩ := open_cap Tryd.underlying22 h
  obtain ⟨a, len, cap, rfl, hl, hrow⟩ := open_rows Tryd.underlying22 Tryd.underlying35 (by kernel_rfl) (by kernel_rfl) (by decide) h
  obtain ⟨rfl, rfl, rfl⟩ : a = a' ∧ len = len' ∧ cap = cap' := by injection e' with x y z; exact ⟨x, y, z⟩
  by_cases hn : 0 < len
  · obtain ⟨b, off, rfl, hb, hc⟩ := hrow hn
    have hs : ∀ i, i < len → ∃ x : Chg, (∀ j v, (encChg x)[j]? = some v → W.cell? ⟨b, off + i * 3 + j, none⟩ = some v) ∧ okChg x := by
      intro i hi
      obtain ⟨n, hf⟩ := hc i hi
      obtain ⟨z0, y0, c0, t0⟩ := hf 0 _ rfl
      obtain ⟨k0, rfl, hk0⟩ := open_num t0
      obtain ⟨z1, y1, c1, t1⟩ := hf 1 _ rfl
      obtain ⟨k1, rfl, hk1⟩ := open_num t1
      obtain ⟨z2, y2, c2, t2⟩ := hf 2 _ rfl
      obtain ⟨k2, rfl, hk2⟩ := open_str t2
      refine ⟨(k0, k1, k2), fun j v hv => ?_, hk0, hk1, hk2⟩
      match j, hv with
      | 0, hv => simp [encChg] at hv; subst hv; exact c0
      | 1, hv => simp [encChg] at hv; subst hv; exact c1
      | 2, hv => simp [encChg] at hv; subst hv; exact c2
    obtain ⟨xs, hx1, hx2⟩ := listOf hs
    refine ⟨_, len, cap, xs, rfl, hlc, hcm, ⟨hx1, hl, fun _ => ⟨b, off, rfl, hb, fun i x hx => (hx2 i x hx).1⟩⟩, fun x hx => ?_⟩
    obtain ⟨i, hi, rfl⟩ := List.getElem_of_mem hx
    exact (hx2 i _ (List.getElem?_eq_getElem hi)).2
  · obtain rfl : len = 0 := by omega
    exact ⟨a, 0, cap, [], rfl, hlc, hcm, ⟨rfl, by omega, fun h => absurd h (by omega)⟩, by simp⟩
theorem open_Zone {H : Type} {enc : TypeId × Value → H} {v : Value} {d : DataW H} {p : List MemPlace} {base : Nat} {W : World}
    (o : Value.okWide Tryd.prog W .any base 24 v) (h : DataW.Trod enc Tryd.prog W 0 (fun _ => true) true 24 v d p) :
    ∃ (s : ByteArray) (f : Int) (a : Option Addr) (n c : Nat) (xs : List Chg), v = .agg #[.string s, .int .i64 f, .slice a n c] ∧ s.size ≤ 9223372036854775807 ∧ I64 f ∧ n ≤ c ∧ c ≤ 9223372036854775807 ∧ Changes W W.heap.size a n xs := by
  obtain ⟨cs, n, rfl, hl, hf⟩ := open_agg Tryd.underlying24 (by kernel_rfl) (by kernel_rfl) o h
  match cs, hl with
  | [v0, v1, v2], _ =>
    obtain ⟨_, _, e0, t0⟩ := hf 0 _ rfl
    obtain ⟨_, _, e1, t1⟩ := hf 1 _ rfl
    obtain ⟨_, _, e2, t2⟩ := hf 2 _ rfl
    obtain ⟨s, rfl, hs⟩ := open_str t0
    obtain ⟨x1, rfl, hx1⟩ := open_num t1
    obtain ⟨a, n, c, xs, rfl, k1, m1, h1⟩ := open_Changes t2
    simp at e0 e1 e2
    subst e0 e1 e2
    exact ⟨s, x1, a, n, c, xs, rfl, hs, hx1, k1, m1, h1⟩

/-! What is asked of a zone. -/
def offB (n : Int) : Bool := decide (n % 1000 = 0) && inB (-64800000) 64800000 n
def instB (t : Int) : Bool := inB (-4000000) 4000000 (t / 86400000)
def big (c : UInt8) : Bool := decide (65 ≤ c.toNat ∧ c.toNat ≤ 90)
def labelB (s : ByteArray) : Bool := decide (1 ≤ s.size ∧ s.size ≤ 6) && s.data.toList.all big
/-- The error of changes, the instant of the one before being p. -/
def chgErr : Option Int → List Chg → Int
  | _, [] => 0
  | p, (t, o, l) :: r => if (instB t && offB o) = false then 3 else if labelB l = false then 8 else if (match p with | some q => decide (t ≤ q) | none => false) = true then 9 else chgErr (some t) r
theorem chgErr_cons (p : Option Int) (t o : Int) (l : ByteArray) (r : List Chg) : chgErr p ((t, o, l) :: r) = if (instB t && offB o) = false then 3 else if labelB l = false then 8 else if (match p with | some q => decide (t ≤ q) | none => false) = true then 9 else chgErr (some t) r := by
  rw [chgErr.eq_def]
def zoneErr (s : ByteArray) (f : Int) (xs : List Chg) : Int := if isName s = false then 5 else if offB f = false then 3 else if 200 < xs.length then 2 else chgErr none xs
def prevT (xs : List Chg) : Nat → Option Int
  | 0 => none
  | k + 1 => (xs[k]?).map (·.1)
theorem drop_row {α : Type} {xs : List α} {k : Nat} {x : α} (h : xs[k]? = some x) : xs.drop k = x :: xs.drop (k + 1) := by
  obtain ⟨hl, rfl⟩ := List.getElem?_eq_some_iff.1 h
  exact List.drop_eq_getElem_cons hl
theorem big_bad (s : ByteArray) (k : Nat) (h : k < s.size) (hb : big s[k] = false) : s.data.toList.all big = false := by
  rw [List.all_eq_false]
  exact ⟨s[k], by exact Array.getElem_mem_toList (by simpa using h), by rw [hb]; simp⟩
theorem big_good (s : ByteArray) (h : ∀ k (h : k < s.size), big s[k] = true) : s.data.toList.all big = true := by
  rw [List.all_eq_true]
  intro x hx
  obtain ⟨i, hi, rfl⟩ := List.getElem_of_mem hx
  exact h i (by simpa using hi)
end Go.Proofs.YthpiiocncdpimabDoor
