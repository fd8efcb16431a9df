/- Rows of bookings and of steps; rows of the call's own. -/
import Derived.Test.YtddiicljoekhmaaMem2
import Derived.Test.YtddiicljoekhmaaRows2
import Derived.Test.YtddiicljoekhmaaBase
import Derived.Test.YtddiicljoekhmaaZone0
import Derived.Laws.AppendOwn
namespace Go.Proofs.Ytddiicljoekhmaa
set_option linter.unusedVariables false
set_option maxRecDepth 100000
open Go.RowKit Go.ChangeShapes Go.WideShapes Go.Deep

abbrev Bkg := ByteArray × Int × Int × ByteArray
def encBkg (x : Bkg) : List Value := [.string (x.1), .int .i64 (x.2.1), .int .i64 (x.2.2.1), .string (x.2.2.2)]
def okBkg (x : Bkg) : Prop := (x.1).size ≤ 9223372036854775807 ∧ I64 (x.2.1) ∧ I64 (x.2.2.1) ∧ (x.2.2.2).size ≤ 9223372036854775807
def Bkgs (w : World) (B : Nat) (a : Option Addr) (n : Nat) (xs : List Bkg) : Prop := RowsOf 4 encBkg w B a n xs ∧ ∀ x ∈ xs, okBkg x
section
variable {w w' w1 w2 : World} {B B' : Nat} {a : Option Addr} {n : Nat} {xs : List Bkg}
theorem Bkgs.below (h : Bkgs w B a n xs) (hb : Below B' w w') (hB : B ≤ B') : Bkgs w' B a n xs := ⟨h.1.below hb hB, h.2⟩
theorem Bkgs.more (h : Bkgs w B a n xs) (hB : B ≤ B') : Bkgs w B' a n xs := ⟨h.1.more hB, h.2⟩
theorem Bkgs.then_ (h : Bkgs w w.heap.size a n xs) (b : Below w.heap.size w w1) : Bkgs w1 w1.heap.size a n xs := (h.below b (Nat.le_refl _)).more b.size
theorem Bkgs.far (h : Bkgs w w.heap.size a n xs) (b : Below w.heap.size w w1) (b' : Below w1.heap.size w1 w2) : Bkgs w2 w2.heap.size a n xs := ⟨h.1.far b b', h.2⟩
theorem Bkgs.take (h : Bkgs w B a n xs) {k : Nat} (hk : k ≤ n) : Bkgs w B a k (xs.take k) := ⟨h.1.take hk, fun x hx => h.2 x (List.mem_of_mem_take hx)⟩
theorem Bkgs.len (h : Bkgs w B a n xs) : xs.length = n := h.1.1
theorem Bkgs.max (h : Bkgs w B a n xs) : n ≤ 9223372036854775807 := h.1.2.1
theorem Bkgs.open_ (h : Bkgs w B a n xs) (hn : 0 < n) :
    ∃ b off, a = some ⟨b, off, none⟩ ∧ b < B ∧ ∀ k, k < n → ∃ (u0 : ByteArray) (u1 : Int) (u2 : Int) (u3 : ByteArray), w.cell? ⟨b, off + k * 4, none⟩ = some (.string (u0)) ∧ w.cell? ⟨b, off + k * 4 + 1, none⟩ = some (.int .i64 (u1)) ∧ w.cell? ⟨b, off + k * 4 + 2, none⟩ = some (.int .i64 (u2)) ∧ w.cell? ⟨b, off + k * 4 + 3, none⟩ = some (.string (u3)) ∧ xs[k]? = some (u0, u1, u2, u3) ∧ u0.size ≤ 9223372036854775807 ∧ -9223372036854775808 ≤ u1 ∧ u1 ≤ 9223372036854775807 ∧ -9223372036854775808 ≤ u2 ∧ u2 ≤ 9223372036854775807 ∧ u3.size ≤ 9223372036854775807 := by
  obtain ⟨b, off, e, hlt, hc⟩ := h.1.2.2 hn
  refine ⟨b, off, e, hlt, fun k hk => ?_⟩
  have hl : k < xs.length := by have := h.len; omega
  have hx := List.getElem?_eq_getElem hl
  have hm := h.2 _ (List.getElem_mem hl)
  exact ⟨xs[k].1, xs[k].2.1, xs[k].2.2.1, xs[k].2.2.2, hc k _ hx 0 _ rfl, hc k _ hx 1 _ rfl, hc k _ hx 2 _ rfl, hc k _ hx 3 _ rfl, hx, hm.1, hm.2.1.1, hm.2.1.2, hm.2.2.1.1, hm.2.2.1.2, hm.2.2.2⟩
end
/-- A parameter, or a field, of type []api.Booking. -/
theorem open_Bkgs {H : Type} {enc : TypeId × Value → H} {W : World} {fuel : Nat} {v : Value} {x : DataW H × List MemPlace}
    (h : DataW.trod enc Try.prog W 0 (fun _ => true) true fuel 33 [v] = some x) :
    ∃ a n c xs, v = .slice a n c ∧ n ≤ c ∧ c ≤ 9223372036854775807 ∧ Bkgs W W.heap.size a n xs := by
  obtain ⟨a', len', cap', e', hlc, hcm⟩ := open_cap Try.underlying33 h
  obtain ⟨a, len, cap, rfl, hl, hrow⟩ := open_rows Try.underlying33 Try.underlying39 (by kernel_rfl) (by kernel_rfl) (by decide) h
  obtain ⟨rfl, rfl, rfl⟩ : a = a' ∧ len = len' ∧ cap = cap' := by injection e' with x y z; exact ⟨x, y, z⟩
  by_cases hn : 0 < len
  · obtain ⟨b, off, rfl, hb, hc⟩ := hrow hn
    have hs : ∀ i, i < len → ∃ x : Bkg, (∀ j v, (encBkg x)[j]? = some v → W.cell? ⟨b, off + i * 4 + j, none⟩ = some v) ∧ okBkg x := by
      intro i hi
      obtain ⟨n, hf⟩ := hc i hi
      obtain ⟨z0, y0, c0, t0⟩ := hf 0 _ rfl
      obtain ⟨k0, rfl, hk0⟩ := open_str t0
      obtain ⟨z1, y1, c1, t1⟩ := hf 1 _ rfl
      obtain ⟨k1, rfl, hk1⟩ := open_num t1
      obtain ⟨z2, y2, c2, t2⟩ := hf 2 _ rfl
      obtain ⟨k2, rfl, hk2⟩ := open_num t2
      obtain ⟨z3, y3, c3, t3⟩ := hf 3 _ rfl
      obtain ⟨k3, rfl, hk3⟩ := open_str t3
      refine ⟨(k0, k1, k2, k3), fun j v hv => ?_, hk0, hk1, hk2, hk3⟩
      match j, hv with
      | 0, hv => simp [encBkg] at hv; subst hv; exact c0
      | 1, hv => simp [encBkg] at hv; subst hv; exact c1
      | 2, hv => simp [encBkg] at hv; subst hv; exact c2
      | 3, hv => simp [encBkg] at hv; subst hv; exact c3
    obtain ⟨xs, hx1, hx2⟩ := listOf hs
    refine ⟨_, len, cap, xs, rfl, hlc, hcm, ⟨hx1, hl, fun _ => ⟨b, off, rfl, hb, fun i x hx => (hx2 i x hx).1⟩⟩, fun x hx => ?_⟩
    obtain ⟨i, hi, rfl⟩ := List.getElem_of_mem hx
    exact (hx2 i _ (List.getElem?_eq_getElem hi)).2
  · obtain rfl : len = 0 := by omega
    exact ⟨a, 0, cap, [], rfl, hlc, hcm, ⟨rfl, by omega, fun h => absurd h (by omega)⟩, by simp⟩
abbrev Stp := Int × ByteArray × Int × Int × ByteArray
def encStp (x : Stp) : List Value := [.int .i64 (x.1), .string (x.2.1), .int .i64 (x.2.2.1), .int .i64 (x.2.2.2.1), .string (x.2.2.2.2)]
def okStp (x : Stp) : Prop := I64 (x.1) ∧ (x.2.1).size ≤ 9223372036854775807 ∧ I64 (x.2.2.1) ∧ I64 (x.2.2.2.1) ∧ (x.2.2.2.2).size ≤ 9223372036854775807
def Stps (w : World) (B : Nat) (a : Option Addr) (n : Nat) (xs : List Stp) : Prop := RowsOf 5 encStp w B a n xs ∧ ∀ x ∈ xs, okStp x
section
variable {w w' w1 w2 : World} {B B' : Nat} {a : Option Addr} {n : Nat} {xs : List Stp}
theorem Stps.below (h : Stps w B a n xs) (hb : Below B' w w') (hB : B ≤ B') : Stps w' B a n xs := ⟨h.1.below hb hB, h.2⟩
theorem Stps.more (h : Stps w B a n xs) (hB : B ≤ B') : Stps w B' a n xs := ⟨h.1.more hB, h.2⟩
theorem Stps.then_ (h : Stps w w.heap.size a n xs) (b : Below w.heap.size w w1) : Stps w1 w1.heap.size a n xs := (h.below b (Nat.le_refl _)).more b.size
theorem Stps.far (h : Stps w w.heap.size a n xs) (b : Below w.heap.size w w1) (b' : Below w1.heap.size w1 w2) : Stps w2 w2.heap.size a n xs := ⟨h.1.far b b', h.2⟩
theorem Stps.take (h : Stps w B a n xs) {k : Nat} (hk : k ≤ n) : Stps w B a k (xs.take k) := ⟨h.1.take hk, fun x hx => h.2 x (List.mem_of_mem_take hx)⟩
theorem Stps.len (h : Stps w B a n xs) : xs.length = n := h.1.1
theorem Stps.max (h : Stps w B a n xs) : n ≤ 9223372036854775807 := h.1.2.1
theorem Stps.open_ (h : Stps w B a n xs) (hn : 0 < n) :
    ∃ b off, a = some ⟨b, off, none⟩ ∧ b < B ∧ ∀ k, k < n → ∃ (u0 : Int) (u1 : ByteArray) (u2 : Int) (u3 : Int) (u4 : ByteArray), w.cell? ⟨b, off + k * 5, none⟩ = some (.int .i64 (u0)) ∧ w.cell? ⟨b, off + k * 5 + 1, none⟩ = some (.string (u1)) ∧ w.cell? ⟨b, off + k * 5 + 2, none⟩ = some (.int .i64 (u2)) ∧ w.cell? ⟨b, off + k * 5 + 3, none⟩ = some (.int .i64 (u3)) ∧ w.cell? ⟨b, off + k * 5 + 4, none⟩ = some (.string (u4)) ∧ xs[k]? = some (u0, u1, u2, u3, u4) ∧ -9223372036854775808 ≤ u0 ∧ u0 ≤ 9223372036854775807 ∧ u1.size ≤ 9223372036854775807 ∧ -9223372036854775808 ≤ u2 ∧ u2 ≤ 9223372036854775807 ∧ -9223372036854775808 ≤ u3 ∧ u3 ≤ 9223372036854775807 ∧ u4.size ≤ 9223372036854775807 := by
  obtain ⟨b, off, e, hlt, hc⟩ := h.1.2.2 hn
  refine ⟨b, off, e, hlt, fun k hk => ?_⟩
  have hl : k < xs.length := by have := h.len; omega
  have hx := List.getElem?_eq_getElem hl
  have hm := h.2 _ (List.getElem_mem hl)
  exact ⟨xs[k].1, xs[k].2.1, xs[k].2.2.1, xs[k].2.2.2.1, xs[k].2.2.2.2, hc k _ hx 0 _ rfl, hc k _ hx 1 _ rfl, hc k _ hx 2 _ rfl, hc k _ hx 3 _ rfl, hc k _ hx 4 _ rfl, hx, hm.1.1, hm.1.2, hm.2.1, hm.2.2.1.1, hm.2.2.1.2, hm.2.2.2.1.1, hm.2.2.2.1.2, hm.2.2.2.2⟩
end
/-- A parameter, or a field, of type []ephemerislaw1.RoomStep. -/
theorem open_Stps {H : Type} {enc : TypeId × Value → H} {W : World} {fuel : Nat} {v : Value} {x : DataW H × List MemPlace}
    (h : DataW.trod enc Try.prog W 0 (fun _ => true) true fuel 23 [v] = some x) :
    ∃ a n c xs, v = .slice a n c ∧ n ≤ c ∧ c ≤ 9223372036854775807 ∧ Stps W W.heap.size a n xs := by
  obtain ⟨a', len', cap', e', hlc, hcm⟩ := open_cap Try.underlying23 h
  obtain ⟨a, len, cap, rfl, hl, hrow⟩ := open_rows Try.underlying23 Try.underlying37 (by kernel_rfl) (by kernel_rfl) (by decide) h
  obtain ⟨rfl, rfl, rfl⟩ : a = a' ∧ len = len' ∧ cap = cap' := by injection e' with x y z; exact ⟨x, y, z⟩
  by_cases hn : 0 < len
  · obtain ⟨b, off, rfl, hb, hc⟩ := hrow hn
    have hs : ∀ i, i < len → ∃ x : Stp, (∀ j v, (encStp x)[j]? = some v → W.cell? ⟨b, off + i * 5 + j, none⟩ = some v) ∧ okStp x := by
      intro i hi
      obtain ⟨n, hf⟩ := hc i hi
      obtain ⟨z0, y0, c0, t0⟩ := hf 0 _ rfl
      obtain ⟨k0, rfl, hk0⟩ := open_num t0
      obtain ⟨z1, y1, c1, t1⟩ := hf 1 _ rfl
      obtain ⟨k1, rfl, hk1⟩ := open_str t1
      obtain ⟨z2, y2, c2, t2⟩ := hf 2 _ rfl
      obtain ⟨k2, rfl, hk2⟩ := open_num t2
      obtain ⟨z3, y3, c3, t3⟩ := hf 3 _ rfl
      obtain ⟨k3, rfl, hk3⟩ := open_num t3
      obtain ⟨z4, y4, c4, t4⟩ := hf 4 _ rfl
      obtain ⟨k4, rfl, hk4⟩ := open_str t4
      refine ⟨(k0, k1, k2, k3, k4), fun j v hv => ?_, hk0, hk1, hk2, hk3, hk4⟩
      match j, hv with
      | 0, hv => simp [encStp] at hv; subst hv; exact c0
      | 1, hv => simp [encStp] at hv; subst hv; exact c1
      | 2, hv => simp [encStp] at hv; subst hv; exact c2
      | 3, hv => simp [encStp] at hv; subst hv; exact c3
      | 4, hv => simp [encStp] at hv; subst hv; exact c4
    obtain ⟨xs, hx1, hx2⟩ := listOf hs
    refine ⟨_, len, cap, xs, rfl, hlc, hcm, ⟨hx1, hl, fun _ => ⟨b, off, rfl, hb, fun i x hx => (hx2 i x hx).1⟩⟩, fun x hx => ?_⟩
    obtain ⟨i, hi, rfl⟩ := List.getElem_of_mem hx
    exact (hx2 i _ (List.getElem?_eq_getElem hi)).2
  · obtain rfl : len = 0 := by omega
    exact ⟨a, 0, cap, [], rfl, hlc, hcm, ⟨rfl, by omega, fun h => absurd h (by omega)⟩, by simp⟩
theorem own_then4 {w w' : World} {base : Nat} {e : TypeId} {size : Nat} {v : Value} {n : Nat} {xs : List Value} (h : w.ownsRow base e size v n xs) (hb : Below w.heap.size w w') : w'.ownsRow base e size v n xs := by
  refine ⟨h.1, ?_⟩
  rcases h.2 with h0 | ⟨g, cap, cur, hv, hg, hat, rest⟩
  · exact .inl h0
  · exact .inr ⟨g, cap, cur, hv, hg, (show At w g _ from hat).then_ hb, rest⟩
theorem cell_allocF {w : World} {o : Obj} {p : Addr} {v : Value} (h : w.cell? p = some v) : (w.alloc o).cell? p = some v := by
  rcases Nat.lt_or_ge p.block w.heap.size with hp | hp
  · exact ((below_new (Below.refl w.heap.size w) o).cell hp).trans h
  · simp [World.cell?, Array.getElem?_eq_none hp] at h
theorem own_fresh {w : World} {base : Nat} {e : TypeId} {size : Nat} {v : Value} {n : Nat} {xs : List Value} (h : w.ownsRow base e size v n xs) : some w.heap.size ≠ v.ownBlock := by
  rcases h.2 with ⟨rfl, _⟩ | ⟨g, cap, cur, rfl, hg, hat, _⟩
  · simp [Value.ownBlock]
  · have := (show At w g (.cells cur e) from hat).lt
    simp [Value.ownBlock]; omega
theorem own_far5 {w : World} {base : Nat} {e : TypeId} {size : Nat} {v : Value} {n : Nat} {xs : List Value} (h : w.ownsRow base e size v n xs) {b : Nat} (hb : v.ownBlock = some b) : base ≤ b := by
  rcases h.2 with ⟨rfl, _⟩ | ⟨g, cap, cur, rfl, hg, _⟩
  · simp [Value.ownBlock] at hb
  · simp [Value.ownBlock] at hb; omega
theorem bkg_len (ms : List Bkg) : (ms.flatMap encBkg).length = ms.length * 4 := by
  induction ms with
  | nil => rfl
  | cons x l ih => rw [List.flatMap_cons, List.length_append, ih, List.length_cons, Nat.add_mul]; simp [encBkg]; omega
theorem bkg_at : ∀ (ms : List Bkg) (i : Nat) (x : Bkg) (j : Nat) (v : Value), ms[i]? = some x → (encBkg x)[j]? = some v → (ms.flatMap encBkg)[i * 4 + j]? = some v
  | [], i, x, j, v, h, _ => by simp at h
  | y :: l, 0, x, j, v, h, hv => by
    simp at h; subst h
    have hj : j < 4 := by
      rcases Nat.lt_or_ge j 4 with h | h
      · exact h
      · rw [List.getElem?_eq_none (by simp [encBkg]; omega)] at hv; cases hv
    rw [List.flatMap_cons, List.getElem?_append_left (by simp [encBkg]; omega)]
    simpa using hv
  | y :: l, i + 1, x, j, v, h, hv => by
    rw [List.flatMap_cons, List.getElem?_append_right (by simp [encBkg]; omega)]
    have := bkg_at l i x j v (by simpa using h) hv
    rw [show (i + 1) * 4 + j - (encBkg y).length = i * 4 + j by simp [encBkg]; omega]
    exact this
/-- A row of the call's own reads as changes. -/
theorem own_bkgs {w : World} {base : Nat} {v : Value} {n : Nat} {ms : List Bkg} (h : w.ownsRow base 39 4 v n (ms.flatMap encBkg)) (hn : ms.length = n) (hok : ∀ x ∈ ms, okBkg x) :
    ∃ a c, v = .slice a n c ∧ n ≤ c ∧ c ≤ 9223372036854775807 ∧ Bkgs w w.heap.size a n ms := by
  rcases h.2 with ⟨rfl, h0⟩ | ⟨g, cap, cur, rfl, _, hcur, hnc, hcm, hcs, htake⟩
  · have hz : n = 0 := h0
    subst hz
    exact ⟨none, 0, rfl, by omega, by omega, ⟨hn, by omega, fun h => absurd h (by omega)⟩, hok⟩
  · unfold maxLen at hcm
    have hat : At w g (.cells cur 39) := hcur
    refine ⟨some ⟨g, 0, none⟩, cap, rfl, hnc, by omega, ⟨hn, by omega, fun _ => ⟨g, 0, rfl, hat.lt, fun i x hx j u hu => ?_⟩⟩, hok⟩
    have h1 := bkg_at ms i x j u hx hu
    rw [← htake, List.getElem?_take] at h1
    split at h1
    · rw [hat.cell, ← h1, Nat.zero_add, Array.getElem?_toList]
    · cases h1
theorem bkg_split (ms : List Bkg) (k : Nat) (v : Value) (h : (ms.flatMap encBkg)[k]? = some v) : ∃ x, ms[k / 4]? = some x ∧ (encBkg x)[k % 4]? = some v := by
  have hk : k < ms.length * 4 := by
    rcases Nat.lt_or_ge k (ms.length * 4) with h' | h'
    · exact h'
    · rw [List.getElem?_eq_none (by rw [bkg_len]; exact h')] at h; cases h
  have hx : ms[k / 4]? = some (ms[k / 4]'(by omega)) := List.getElem?_eq_getElem (by omega)
  refine ⟨_, hx, ?_⟩
  have hv : (encBkg (ms[k / 4]'(by omega)))[k % 4]? = some ((encBkg (ms[k / 4]'(by omega)))[k % 4]'(by simp [encBkg]; omega)) := List.getElem?_eq_getElem _
  have := bkg_at ms (k / 4) _ (k % 4) _ hx hv
  rw [show k / 4 * 4 + k % 4 = k by omega, h] at this
  rw [hv, this]
theorem bkg_one {ms : List Bkg} {u : Value} (hu : u ∈ ms.flatMap encBkg) : u.oneCell' = true := by
  obtain ⟨x, _, hx⟩ := List.mem_flatMap.1 hu
  simp [encBkg] at hx
  rcases hx with rfl | rfl | rfl | rfl <;> rfl
/-- The cells of a row of changes, for an append. -/
theorem bkgs_news {w : World} {B : Nat} {ad : Addr} {n : Nat} {xs : List Bkg} (h : Bkgs w B (some ad) n xs) : ∀ j u, (xs.flatMap encBkg)[j]? = some u → w.cell? (ad.add j) = some u := by
  intro j u hj
  obtain ⟨x, hx, hu⟩ := bkg_split xs j u hj
  have hn : 0 < n := by
    have := h.len
    rcases Nat.eq_zero_or_pos n with h0 | h0
    · rw [List.length_eq_zero_iff.1 (by omega : xs.length = 0)] at hx; simp at hx
    · exact h0
  obtain ⟨b, off, e, _, hc⟩ := h.1.2.2 hn
  injection e with e
  subst e
  have h1 := hc _ x hx _ u hu
  rw [show off + j / 4 * 4 + j % 4 = off + j by omega] at h1
  rw [add_none]; exact h1
theorem bkgs_some {w : World} {B : Nat} {a : Option Addr} {n : Nat} {xs : List Bkg} (h : Bkgs w B a n xs) (hn : 0 < n) : ∃ ad, a = some ad := by
  obtain ⟨b, off, e, _, _⟩ := h.1.2.2 hn
  exact ⟨_, e⟩

end Go.Proofs.Ytddiicljoekhmaa
