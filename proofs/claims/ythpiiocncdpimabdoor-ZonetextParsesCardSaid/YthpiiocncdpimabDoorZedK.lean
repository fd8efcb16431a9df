/- Rows of changes: own rows, a clone, zones that read alike (from XFore4 to XFore7 and XZone6, without the forecast). -/
import Derived.Test.YthpiiocncdpimabDoorZed0
import Derived.Test.YthpiiocncdpimabDoorOne
import Derived.Test.YthpiiocncdpimabDoorOwn
import Derived.Test.YthpiiocncdpimabDoorQuiet
import Derived.Test.YthpiiocncdpimabDoorZone1
import Derived.Test.YthpiiocncdpimabDoorRows2
import Derived.Deep.RegionHeld3
import Derived.Deep.AppendLies
namespace Go.Proofs.YthpiiocncdpimabDoor
set_option linter.unusedVariables false
set_option maxRecDepth 100000
open Go.RowKit

theorem At.grown6 {w w' : World} {b : Nat} {o : Obj} {row : Option Nat} (h : At w b o) (hg : w.grownBy w' row) (hne : some b ≠ row) : At w' b o := (hg.block b h.lt hne).trans h
theorem own_then4 {w w' : World} {base : Nat} {e : TypeId} {size : Nat} {v : Value} {n : Nat} {xs : List Value} (h : w.ownsRow base e size v n xs) (hb : Below w.heap.size w w') : w'.ownsRow base e size v n xs := by
  refine ⟨h.1, ?_⟩
  rcases h.2 with h0 | ⟨g, cap, cur, hv, hg, hat, rest⟩
  · exact .inl h0
  · exact .inr ⟨g, cap, cur, hv, hg, (show At w g _ from hat).then_ hb, rest⟩
theorem Tryd.infoChange : (Tryd.prog.info? 35).map (fun i => (i.zero, i.size, i.bytes)) = some (some (.agg #[.int .i64 0, .int .i64 0, .string ByteArray.empty]), 3, 32) := by kernel_rfl
theorem cell_allocF {w : World} {o : Obj} {p : Addr} {v : Value} (h : w.cell? p = some v) : (w.alloc o).cell? p = some v := by
  rcases Nat.lt_or_ge p.block w.heap.size with hp | hp
  · exact ((below_new (Below.refl w.heap.size w) o).cell hp).trans h
  · simp [World.cell?, Array.getElem?_eq_none hp] at h
theorem own_fresh {w : World} {base : Nat} {e : TypeId} {size : Nat} {v : Value} {n : Nat} {xs : List Value} (h : w.ownsRow base e size v n xs) : some w.heap.size ≠ v.ownBlock := by
  rcases h.2 with ⟨rfl, _⟩ | ⟨g, cap, cur, rfl, hg, hat, _⟩
  · simp [Value.ownBlock]
  · have := (show At w g (.cells cur e) from hat).lt
    simp [Value.ownBlock]; omega
theorem own_far5 {w : World} {base : Nat} {e : TypeId} {size : Nat} {v : Value} {n : Nat} {xs : List Value} (h : w.ownsRow base e size v n xs) {b : Nat} (hb : v.ownBlock = some b) : base ≤ b := by
  rcases h.2 with ⟨rfl, _⟩ | ⟨g, cap, cur, rfl, hg, _⟩
  · simp [Value.ownBlock] at hb
  · simp [Value.ownBlock] at hb; omega
theorem chg_len (ms : List Chg) : (ms.flatMap encChg).length = ms.length * 3 := by
  induction ms with
  | nil => rfl
  | cons x l ih => rw [List.flatMap_cons, List.length_append, ih, List.length_cons, Nat.add_mul]; simp [encChg]; omega
theorem chg_at : ∀ (ms : List Chg) (i : Nat) (x : Chg) (j : Nat) (v : Value), ms[i]? = some x → (encChg x)[j]? = some v → (ms.flatMap encChg)[i * 3 + j]? = some v
  | [], i, x, j, v, h, _ => by simp at h
  | y :: l, 0, x, j, v, h, hv => by
    simp at h; subst h
    have hj : j < 3 := by
      rcases Nat.lt_or_ge j 3 with h | h
      · exact h
      · rw [List.getElem?_eq_none (by simp [encChg]; omega)] at hv; cases hv
    rw [List.flatMap_cons, List.getElem?_append_left (by simp [encChg]; omega)]
    simpa using hv
  | y :: l, i + 1, x, j, v, h, hv => by
    rw [List.flatMap_cons, List.getElem?_append_right (by simp [encChg]; omega)]
    have := chg_at l i x j v (by simpa using h) hv
    rw [show (i + 1) * 3 + j - (encChg y).length = i * 3 + j by simp [encChg]; omega]
    exact this
/-- A row of the call's own reads as changes. -/
theorem own_changes {w : World} {base : Nat} {v : Value} {n : Nat} {ms : List Chg} (h : w.ownsRow base 35 3 v n (ms.flatMap encChg)) (hn : ms.length = n) (hok : ∀ x ∈ ms, okChg x) :
    ∃ a c, v = .slice a n c ∧ n ≤ c ∧ c ≤ 9223372036854775807 ∧ Changes w w.heap.size a n ms := by
  rcases h.2 with ⟨rfl, h0⟩ | ⟨g, cap, cur, rfl, _, hcur, hnc, hcm, hcs, htake⟩
  · have hz : n = 0 := h0
    subst hz
    exact ⟨none, 0, rfl, by omega, by omega, ⟨hn, by omega, fun h => absurd h (by omega)⟩, hok⟩
  · unfold maxLen at hcm
    have hat : At w g (.cells cur 35) := hcur
    refine ⟨some ⟨g, 0, none⟩, cap, rfl, hnc, by omega, ⟨hn, by omega, fun _ => ⟨g, 0, rfl, hat.lt, fun i x hx j u hu => ?_⟩⟩, hok⟩
    have h1 := chg_at ms i x j u hx hu
    rw [← htake, List.getElem?_take] at h1
    split at h1
    · rw [hat.cell, ← h1, Nat.zero_add, Array.getElem?_toList]
    · cases h1
theorem changes_none (w : World) (B : Nat) : Changes w B none 0 [] := ⟨⟨rfl, by omega, fun h => absurd h (by omega)⟩, by simp⟩
theorem chg_split (ms : List Chg) (k : Nat) (v : Value) (h : (ms.flatMap encChg)[k]? = some v) : ∃ x, ms[k / 3]? = some x ∧ (encChg x)[k % 3]? = some v := by
  have hk : k < ms.length * 3 := by
    rcases Nat.lt_or_ge k (ms.length * 3) with h' | h'
    · exact h'
    · rw [List.getElem?_eq_none (by rw [chg_len]; exact h')] at h; cases h
  have hx : ms[k / 3]? = some (ms[k / 3]'(by omega)) := List.getElem?_eq_getElem (by omega)
  refine ⟨_, hx, ?_⟩
  have hv : (encChg (ms[k / 3]'(by omega)))[k % 3]? = some ((encChg (ms[k / 3]'(by omega)))[k % 3]'(by simp [encChg]; omega)) := List.getElem?_eq_getElem _
  have := chg_at ms (k / 3) _ (k % 3) _ hx hv
  rw [show k / 3 * 3 + k % 3 = k by omega, h] at this
  rw [hv, this]
theorem chg_one {ms : List Chg} {u : Value} (hu : u ∈ ms.flatMap encChg) : u.oneCell' = true := by
  obtain ⟨x, _, hx⟩ := List.mem_flatMap.1 hu
  simp [encChg] at hx
  rcases hx with rfl | rfl | rfl <;> rfl
/-- The cells of a row of changes, for an append. -/
theorem changes_news {w : World} {B : Nat} {ad : Addr} {n : Nat} {xs : List Chg} (h : Changes w B (some ad) n xs) : ∀ j u, (xs.flatMap encChg)[j]? = some u → w.cell? (ad.add j) = some u := by
  intro j u hj
  obtain ⟨x, hx, hu⟩ := chg_split xs j u hj
  have hn : 0 < n := by
    have := h.len
    rcases Nat.eq_zero_or_pos n with h0 | h0
    · rw [List.length_eq_zero_iff.1 (by omega : xs.length = 0)] at hx; simp at hx
    · exact h0
  obtain ⟨b, off, e, _, hc⟩ := h.1.2.2 hn
  injection e with e
  subst e
  have h1 := hc _ x hx _ u hu
  rw [show off + j / 3 * 3 + j % 3 = off + j by omega] at h1
  rw [add_none]; exact h1
theorem changes_some {w : World} {B : Nat} {a : Option Addr} {n : Nat} {xs : List Chg} (h : Changes w B a n xs) (hn : 0 < n) : ∃ ad, a = some ad := by
  obtain ⟨b, off, e, _, _⟩ := h.1.2.2 hn
  exact ⟨_, e⟩
def CloneZ (w : World) (n : Nat) (xs : List Chg) (e : Ending) (w' : World) : Prop := ∃ v, e = .returned v ∧ w'.ownsRow w.heap.size 35 3 v n (xs.flatMap encChg) ∧ Below w.heap.size w w'
set_option maxHeartbeats 4000000 in
theorem ref_SameZone (w : World) (s : ByteArray) (f : Int) (p1 p2 : Option Addr) (n c1 c2 : Nat) (xs : List Chg)
    (h1 : Changes w w.heap.size p1 n xs) (h2 : Changes w w.heap.size p2 n xs) :
    Calls Tryd.prog 6 #[.agg #[.string s, .int .i64 f, .slice p1 n c1], .agg #[.string s, .int .i64 f, .slice p2 n c2]] w fun e w' => e = .returned (.bool true) ∧ Below w.heap.size w w' := by
  have mx := h1.max
  have H1 := Lib.hid h1; have H2 := Lib.hid h2; clear h1 h2
  go_enter Tryd.func6, Tryd.ntmps6
  go_wp2_with fail
  have ha := (At.new w (.cells #[.string s, .int .i64 f, .slice p1 n c1] 24)).alloc (.cells #[.string s, .int .i64 f, .slice p2 n c2] 24)
  have hc := At.new1 w (.cells #[.string s, .int .i64 f, .slice p1 n c1] 24) (.cells #[.string s, .int .i64 f, .slice p2 n c2] 24)
  have hb : Below w.heap.size w ((w.alloc (.cells #[.string s, .int .i64 f, .slice p1 n c1] 24)).alloc (.cells #[.string s, .int .i64 f, .slice p2 n c2] 24)) := by (repeat' (first | exact Below.refl _ _ | assumption | refine Below.drew ?_ | refine below_drewN ?_ _ | refine below_new ?_ _ | refine below_set ?_ ?_ _ | refine below_then ?_ (by assumption) | refine below_drawn ?_ (by assumption) | exact Nat.le_refl _ | omega | (simp; done) | (simp; omega)))
  generalize World.alloc (World.alloc w _) _ = W1 at ha hc hb ⊢
  have x0 : W1.cell? ⟨w.heap.size, 0, none⟩ = some (.string s) := ha.cell 0
  have x1 : W1.cell? ⟨w.heap.size, 1, none⟩ = some (.int .i64 f) := ha.cell 1
  have x2 : W1.cell? ⟨w.heap.size, 2, none⟩ = some (.slice p1 n c1) := ha.cell 2
  have y0 : W1.cell? ⟨w.heap.size + 1, 0, none⟩ = some (.string s) := hc.cell 0
  have y1 : W1.cell? ⟨w.heap.size + 1, 1, none⟩ = some (.int .i64 f) := hc.cell 1
  have y2 : W1.cell? ⟨w.heap.size + 1, 2, none⟩ = some (.slice p2 n c2) := hc.cell 2
  go_wp2_with fail
  go_loopw [5, 30] (fun _ vi wr => ∃ k : Nat, k ≤ n ∧ vi = .int .i64 k ∧ Drawn W1 wr) (fun _ vi _ => n - (intOf vi).toNat)
  case atStart => exact ⟨0, by omega, rfl, Drawn.refl _⟩
  case round =>
    obtain ⟨k, hk, rfl, hd⟩ := hrel
    obtain ⟨W2, rfl⟩ : ∃ W2, W2 = wr := ⟨_, rfl⟩
    obtain ⟨ha2, hc2, hb2⟩ : At W2 w.heap.size (.cells #[.string s, .int .i64 f, .slice p1 n c1] 24) ∧ At W2 (w.heap.size + 1) (.cells #[.string s, .int .i64 f, .slice p2 n c2] 24) ∧ Below w.heap.size w W2 := by
      obtain ⟨nd2, rfl⟩ := hd
      exact ⟨ha.drewN nd2, hc.drewN nd2, below_drewN hb nd2⟩
    have HDR := Lib.hid hd
    clear ha hc hb x0 x1 x2 y0 y1 y2 hd
    by_cases hlt : k < n
    · obtain ⟨b1, o1, rfl, hbB, hcs⟩ := (H1.out.below hb2 (Nat.le_refl _)).open_ (by omega)
      obtain ⟨b3, o3, rfl, hbB3, hcs3⟩ := (H2.out.below hb2 (Nat.le_refl _)).open_ (by omega)
      obtain ⟨sa, fa, ga, k0, k1, k2, hx, _⟩ := hcs k hlt
      obtain ⟨sb, fb, gb, l0, l1, l2, hy, _⟩ := hcs3 k hlt
      rw [hx] at hy
      simp only [Option.some.injEq, Prod.mk.injEq] at hy
      obtain ⟨rfl, rfl, rfl⟩ := hy
      clear hcs hcs3 hx
      have x2 : W2.cell? ⟨w.heap.size, 2, none⟩ = some (.slice (some ⟨b1, o1, none⟩) n c1) := ha2.cell 2
      have y2 : W2.cell? ⟨w.heap.size + 1, 2, none⟩ = some (.slice (some ⟨b3, o3, none⟩) n c2) := hc2.cell 2
      go_wp2_with fail
      go_quiet (fail)
      go_wp2_with fail
      go_roundw
      case rel => exact ⟨k + 1, by omega, by go_num, by first | exact HDR.out.drewN _ | exact HDR.out⟩
      case measure => first | (simp [intOf]; done) | (simp [intOf]; omega)
    · go_wp2_with fail
      go_ret
      exact ⟨by simp, hb2⟩
end Go.Proofs.YthpiiocncdpimabDoor
