/- Rules of zones in memory; what their error is, plain. -/
import Derived.Test.YtjpbkkoflaajcabDoorZone1
namespace Go.Proofs.YtjpbkkoflaajcabDoor
set_option linter.unusedVariables false
set_option maxRecDepth 100000
open Go.RowKit Go.ChangeShapes Go.WideShapes Go.Deep

/-- A rule: month, week, weekday, milliseconds, offset, label. -/
abbrev Rul := Int × Int × Int × Int × Int × ByteArray
def encRul (x : Rul) : List Value := [.int .i64 (x.1), .int .i64 (x.2.1), .int .i64 (x.2.2.1), .int .i64 (x.2.2.2.1), .int .i64 (x.2.2.2.2.1), .string (x.2.2.2.2.2)]
def okRul (x : Rul) : Prop := I64 (x.1) ∧ I64 (x.2.1) ∧ I64 (x.2.2.1) ∧ I64 (x.2.2.2.1) ∧ I64 (x.2.2.2.2.1) ∧ (x.2.2.2.2.2).size ≤ 9223372036854775807
def Rules (w : World) (B : Nat) (a : Option Addr) (n : Nat) (xs : List Rul) : Prop := RowsOf 6 encRul w B a n xs ∧ ∀ x ∈ xs, okRul x
section
variable {w w' w1 w2 : World} {B B' : Nat} {a : Option Addr} {n : Nat} {xs : List Rul}
theorem Rules.below (h : Rules w B a n xs) (hb : Below B' w w') (hB : B ≤ B') : Rules w' B a n xs := ⟨h.1.below hb hB, h.2⟩
theorem Rules.more (h : Rules w B a n xs) (hB : B ≤ B') : Rules w B' a n xs := ⟨h.1.more hB, h.2⟩
theorem Rules.then_ (h : Rules w w.heap.size a n xs) (b : Below w.heap.size w w1) : Rules w1 w1.heap.size a n xs := (h.below b (Nat.le_refl _)).more b.size
theorem Rules.far (h : Rules w w.heap.size a n xs) (b : Below w.heap.size w w1) (b' : Below w1.heap.size w1 w2) : Rules w2 w2.heap.size a n xs := ⟨h.1.far b b', h.2⟩
theorem Rules.take (h : Rules w B a n xs) {k : Nat} (hk : k ≤ n) : Rules w B a k (xs.take k) := ⟨h.1.take hk, fun x hx => h.2 x (List.mem_of_mem_take hx)⟩
theorem Rules.len (h : Rules w B a n xs) : xs.length = n := h.1.1
theorem Rules.max (h : Rules w B a n xs) : n ≤ 9223372036854775807 := h.1.2.1
theorem Rules.open_ (h : Rules w B a n xs) (hn : 0 < n) :
    ∃ b off, a = some ⟨b, off, none⟩ ∧ b < B ∧ ∀ k, k < n → ∃ (u0 : Int) (u1 : Int) (u2 : Int) (u3 : Int) (u4 : Int) (u5 : ByteArray), w.cell? ⟨b, off + k * 6, none⟩ = some (.int .i64 (u0)) ∧ w.cell? ⟨b, off + k * 6 + 1, none⟩ = some (.int .i64 (u1)) ∧ w.cell? ⟨b, off + k * 6 + 2, none⟩ = some (.int .i64 (u2)) ∧ w.cell? ⟨b, off + k * 6 + 3, none⟩ = some (.int .i64 (u3)) ∧ w.cell? ⟨b, off + k * 6 + 4, none⟩ = some (.int .i64 (u4)) ∧ w.cell? ⟨b, off + k * 6 + 5, none⟩ = some (.string (u5)) ∧ xs[k]? = some (u0, u1, u2, u3, u4, u5) ∧ -9223372036854775808 ≤ u0 ∧ u0 ≤ 9223372036854775807 ∧ -9223372036854775808 ≤ u1 ∧ u1 ≤ 9223372036854775807 ∧ -9223372036854775808 ≤ u2 ∧ u2 ≤ 9223372036854775807 ∧ -9223372036854775808 ≤ u3 ∧ u3 ≤ 9223372036854775807 ∧ -9223372036854775808 ≤ u4 ∧ u4 ≤ 9223372036854775807 ∧ u5.size ≤ 9223372036854775807 := by
  obtain ⟨b, off, e, hlt, hc⟩ := h.1.2.2 hn
  refine ⟨b, off, e, hlt, fun k hk => ?_⟩
  have hl : k < xs.length := by have := h.len; omega
  have hx := List.getElem?_eq_getElem hl
  have hm := h.2 _ (List.getElem_mem hl)
  exact ⟨xs[k].1, xs[k].2.1, xs[k].2.2.1, xs[k].2.2.2.1, xs[k].2.2.2.2.1, xs[k].2.2.2.2.2, hc k _ hx 0 _ rfl, hc k _ hx 1 _ rfl, hc k _ hx 2 _ rfl, hc k _ hx 3 _ rfl, hc k _ hx 4 _ rfl, hc k _ hx 5 _ rfl, hx, hm.1.1, hm.1.2, hm.2.1.1, hm.2.1.2, hm.2.2.1.1, hm.2.2.1.2, hm.2.2.2.1.1, hm.2.2.2.1.2, hm.2.2.2.2.1.1, hm.2.2.2.2.1.2, hm.2.2.2.2.2⟩
end
/-- A parameter, or a field, of type []api.ZoneRule. -/
theorem open_Rules {H : Type} {enc : TypeId × Value → H} {W : World} {fuel : Nat} {v : Value} {x : DataW H × List MemPlace}
    (h : DataW.trod enc Tryd.prog W 0 (fun _ => true) true fuel 38 [v] = some x) :
    ∃ a n c xs, v = .slice a n c ∧ n ≤ c ∧ c ≤ 9223372036854775807 ∧ Rules W W.heap.size a n xs := by
  obtain ⟨a', len', cap', e', hlc, hcm⟩ := open_cap Tryd.underlying38 h
  obtain ⟨a, len, cap, rfl, hl, hrow⟩ := open_rows Tryd.underlying38 Tryd.underlying55 (by kernel_rfl) (by kernel_rfl) (by decide) h
  obtain ⟨rfl, rfl, rfl⟩ : a = a' ∧ len = len' ∧ cap = cap' := by injection e' with x y z; exact ⟨x, y, z⟩
  by_cases hn : 0 < len
  · obtain ⟨b, off, rfl, hb, hc⟩ := hrow hn
    have hs : ∀ i, i < len → ∃ x : Rul, (∀ j v, (encRul x)[j]? = some v → W.cell? ⟨b, off + i * 6 + j, none⟩ = some v) ∧ okRul x := by
      intro i hi
      obtain ⟨n, hf⟩ := hc i hi
      obtain ⟨z0, y0, c0, t0⟩ := hf 0 _ rfl
      obtain ⟨k0, rfl, hk0⟩ := open_num t0
      obtain ⟨z1, y1, c1, t1⟩ := hf 1 _ rfl
      obtain ⟨k1, rfl, hk1⟩ := open_num t1
      obtain ⟨z2, y2, c2, t2⟩ := hf 2 _ rfl
      obtain ⟨k2, rfl, hk2⟩ := open_num t2
      obtain ⟨z3, y3, c3, t3⟩ := hf 3 _ rfl
      obtain ⟨k3, rfl, hk3⟩ := open_num t3
      obtain ⟨z4, y4, c4, t4⟩ := hf 4 _ rfl
      obtain ⟨k4, rfl, hk4⟩ := open_num t4
      obtain ⟨z5, y5, c5, t5⟩ := hf 5 _ rfl
      obtain ⟨k5, rfl, hk5⟩ := open_str t5
      refine ⟨(k0, k1, k2, k3, k4, k5), fun j v hv => ?_, hk0, hk1, hk2, hk3, hk4, hk5⟩
      match j, hv with
      | 0, hv => simp [encRul] at hv; subst hv; exact c0
      | 1, hv => simp [encRul] at hv; subst hv; exact c1
      | 2, hv => simp [encRul] at hv; subst hv; exact c2
      | 3, hv => simp [encRul] at hv; subst hv; exact c3
      | 4, hv => simp [encRul] at hv; subst hv; exact c4
      | 5, hv => simp [encRul] at hv; subst hv; exact c5
    obtain ⟨xs, hx1, hx2⟩ := listOf hs
    refine ⟨_, len, cap, xs, rfl, hlc, hcm, ⟨hx1, hl, fun _ => ⟨b, off, rfl, hb, fun i x hx => (hx2 i x hx).1⟩⟩, fun x hx => ?_⟩
    obtain ⟨i, hi, rfl⟩ := List.getElem_of_mem hx
    exact (hx2 i _ (List.getElem?_eq_getElem hi)).2
  · obtain rfl : len = 0 := by omega
    exact ⟨a, 0, cap, [], rfl, hlc, hcm, ⟨rfl, by omega, fun h => absurd h (by omega)⟩, by simp⟩
def ruleB (m w d t o : Int) : Bool := inB 1 12 m && (inB 1 5 w && (inB 0 6 d && (inB 0 86399999 t && offB o)))
/-- The first thing that is wrong with a rule's numbers. -/
theorem ruleB_cases (m w d t o : Int) : (ruleB m w d t o = true ∧ (1 ≤ m ∧ m ≤ 12) ∧ (1 ≤ w ∧ w ≤ 5) ∧ (0 ≤ d ∧ d ≤ 6) ∧ (0 ≤ t ∧ t ≤ 86399999) ∧ offB o = true) ∨
    (ruleB m w d t o = false ∧ (m < 1 ∨ (1 ≤ m ∧ 12 < m) ∨ ((1 ≤ m ∧ m ≤ 12) ∧ w < 1) ∨ ((1 ≤ m ∧ m ≤ 12) ∧ 1 ≤ w ∧ 5 < w) ∨ ((1 ≤ m ∧ m ≤ 12) ∧ (1 ≤ w ∧ w ≤ 5) ∧ d < 0) ∨ ((1 ≤ m ∧ m ≤ 12) ∧ (1 ≤ w ∧ w ≤ 5) ∧ 0 ≤ d ∧ 6 < d) ∨ ((1 ≤ m ∧ m ≤ 12) ∧ (1 ≤ w ∧ w ≤ 5) ∧ (0 ≤ d ∧ d ≤ 6) ∧ t < 0) ∨ ((1 ≤ m ∧ m ≤ 12) ∧ (1 ≤ w ∧ w ≤ 5) ∧ (0 ≤ d ∧ d ≤ 6) ∧ 0 ≤ t ∧ 86400000 ≤ t) ∨ ((1 ≤ m ∧ m ≤ 12) ∧ (1 ≤ w ∧ w ≤ 5) ∧ (0 ≤ d ∧ d ≤ 6) ∧ (0 ≤ t ∧ t < 86400000) ∧ offB o = false))) := by
  unfold ruleB
  rcases inB_cases 1 12 m with ⟨h1, a1⟩ | ⟨h1, a1⟩
  case inr =>
    right; rw [h1]; refine ⟨rfl, ?_⟩
    rcases Int.lt_or_le m 1 with q | q
    · exact .inl q
    · exact .inr (.inl ⟨q, by omega⟩)
  rcases inB_cases 1 5 w with ⟨h2, a2⟩ | ⟨h2, a2⟩
  case inr =>
    right; rw [h1, h2]; refine ⟨rfl, .inr (.inr ?_)⟩
    rcases Int.lt_or_le w 1 with q | q
    · exact .inl ⟨a1, q⟩
    · exact .inr (.inl ⟨a1, q, by omega⟩)
  rcases inB_cases 0 6 d with ⟨h3, a3⟩ | ⟨h3, a3⟩
  case inr =>
    right; rw [h1, h2, h3]; refine ⟨rfl, .inr (.inr (.inr (.inr ?_)))⟩
    rcases Int.lt_or_le d 0 with q | q
    · exact .inl ⟨a1, a2, q⟩
    · exact .inr (.inl ⟨a1, a2, q, by omega⟩)
  rcases inB_cases 0 86399999 t with ⟨h4, a4⟩ | ⟨h4, a4⟩
  case inr =>
    right; rw [h1, h2, h3, h4]; refine ⟨rfl, .inr (.inr (.inr (.inr (.inr (.inr ?_)))))⟩
    rcases Int.lt_or_le t 0 with q | q
    · exact .inl ⟨a1, a2, a3, q⟩
    · exact .inr (.inl ⟨a1, a2, a3, q, by omega⟩)
  cases h5 : offB o with
  | true => left; rw [h1, h2, h3, h4]; exact ⟨rfl, a1, a2, a3, a4, rfl⟩
  | false => right; rw [h1, h2, h3, h4]; exact ⟨rfl, .inr (.inr (.inr (.inr (.inr (.inr (.inr (.inr ⟨a1, a2, a3, ⟨a4.1, by omega⟩, rfl⟩)))))))⟩
/-- The error of rules, the month of the one before being p. -/
def rulErr : Option Int → List Rul → Int
  | _, [] => 0
  | p, (m, w, d, t, o, l) :: r => if ruleB m w d t o = false then 3 else if labelB l = false then 8 else if (match p with | some q => decide (m ≤ q) | none => false) = true then 9 else rulErr (some m) r
theorem rulErr_cons (p : Option Int) (m w d t o : Int) (l : ByteArray) (r : List Rul) : rulErr p ((m, w, d, t, o, l) :: r) = if ruleB m w d t o = false then 3 else if labelB l = false then 8 else if (match p with | some q => decide (m ≤ q) | none => false) = true then 9 else rulErr (some m) r := by
  rw [rulErr.eq_def]
def rulesErr (xs : List Rul) : Int := if ¬ (1 ≤ xs.length ∧ xs.length ≤ 4) then 2 else rulErr none xs
def prevM (xs : List Rul) : Nat → Option Int
  | 0 => none
  | k + 1 => (xs[k]?).map (·.1)
end Go.Proofs.YtjpbkkoflaajcabDoor
