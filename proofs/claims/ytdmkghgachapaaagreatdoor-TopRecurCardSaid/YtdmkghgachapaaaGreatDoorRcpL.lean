/- recur.Parse: what stands between two rounds of its loop over pairs of words. -/
import Derived.Test.YtdmkghgachapaaaGreatDoorRcp7
import Derived.Test.YtdmkghgachapaaaGreatDoorMarks
import Derived.Test.YtdmkghgachapaaaGreatDoorOwn
namespace Go.Proofs.YtdmkghgachapaaaGreatDoor
set_option linter.unusedVariables false
set_option linter.unusedSimpArgs false
set_option maxRecDepth 100000
open Go.RowKit Go.Shelf

theorem atoiV_i64 (l : List UInt8) : I64 (atoiV l) := by
  unfold atoiV
  split
  · rename_i v h; exact Lib.atoiAll_bounds h
  · exact Lib.atoiSat_bounds l
  · exact ⟨by decide, by decide⟩
theorem cell_same {w w' : World} {p : Addr} (h : w'.heap[p.block]? = w.heap[p.block]?) : w'.cell? p = w.cell? p := by
  unfold World.cell?; rw [h]
/-- The place where the closure lies. -/
abbrev fnO : Obj := .cells #[.func (.func 11) #[] #[]] 43
/-- The numbers of one list, not in block Z. -/
structure PInts (w : World) (Z : Nat) (a : Option Addr) (n c : Nat) (xs : List Int) : Prop where
  ints : Ints w w.heap.size a n xs
  far : 0 < n → ∀ b o, a = some ⟨b, o, none⟩ → Z < b
  cap : n ≤ c
  top : c ≤ 9223372036854775807
  few : n ≤ 4294960001
/-- A list with its capacity. -/
def RowC (w : World) (a : Option Addr) (n c : Nat) (xs : List Int) : Prop := Ints w w.heap.size a n xs ∧ n ≤ c ∧ c ≤ 9223372036854775807 ∧ n ≤ 4294960001
theorem PInts.row {w : World} {Z : Nat} {a : Option Addr} {n c : Nat} {xs : List Int} (h : PInts w Z a n c xs) : RowC w a n c xs := ⟨h.ints, h.cap, h.top, h.few⟩
theorem PInts.nil (w : World) (Z : Nat) : PInts w Z none 0 0 [] := ⟨⟨rfl, by omega, by simp, fun h => absurd h (by omega)⟩, fun h => absurd h (by omega), by omega, by omega, by omega⟩
theorem PInts.of_same {w w' : World} {Z : Nat} {a : Option Addr} {n c : Nat} {xs : List Int} (h : PInts w Z a n c xs) (hs : w.heap.size ≤ w'.heap.size) (hk : ∀ b o v, Z < b → w.cell? ⟨b, o, none⟩ = some v → w'.cell? ⟨b, o, none⟩ = some v) : PInts w' Z a n c xs :=
  ⟨⟨h.ints.1, h.ints.2.1, h.ints.2.2.1, fun hn => by
    obtain ⟨b, off, e, hlt, hc⟩ := h.ints.2.2.2 hn
    exact ⟨b, off, e, by omega, fun i hi => hk b _ _ (h.far hn b off e) (hc i hi)⟩⟩, h.far, h.cap, h.top, h.few⟩
theorem PInts.then_ {w w' : World} {Z : Nat} {a : Option Addr} {n c : Nat} {xs : List Int} (h : PInts w Z a n c xs) (hb : Below w.heap.size w w') : PInts w' Z a n c xs :=
  h.of_same hb.size fun b o v _ hc => (hb.cell (p := ⟨b, o, none⟩) (World.block_lt_of_cell? _ _ hc)).trans hc
theorem PInts.put {w : World} {Z : Nat} {a : Option Addr} {n c : Nat} {xs : List Int} (h : PInts w Z a n c xs) {q : Nat} (hq : q ≤ Z) (k : Nat) (u : Value) : PInts (w.setCell ⟨q, k, none⟩ u) Z a n c xs :=
  h.of_same (by simp [World.setCell]) fun b o v hb hc => (cell_same (Below.heap_setCell _ _ _ b (by show b ≠ q; omega))).trans hc
theorem PInts.set {w : World} {Z : Nat} {a : Option Addr} {n c : Nat} {xs : List Int} (h : PInts w Z a n c xs) (k : Nat) (u : Value) : PInts (w.setCell ⟨Z, k, none⟩ u) Z a n c xs := h.put (Nat.le_refl _) k u
theorem PInts.shut {w w' : World} {Ds : List Nat} {Z : Nat} {a : Option Addr} {n c : Nat} {xs : List Int} (h : PInts w Z a n c xs) (hm : MarksOk Ds w) (hs : ShutD Ds w w') : PInts w' Z a n c xs :=
  h.of_same (by rw [hs.size]; exact Nat.le_refl _) fun b o v _ hc => (cell_same (hs.block b fun hD => by
    have h1 := hm.2 b hD
    unfold World.cell? at hc
    simp [h1] at hc)).trans hc
theorem PInts.own {w : World} {L Z n c : Nat} {a : Option Addr} {xs : List Int} (h : w.ownsRow L 3 1 (.slice a n c) n (xs.map (Value.int .i64))) (hL : Z < L) (hl : xs.length = n) (hx : ∀ x ∈ xs, I64 x) (hn : n ≤ 4294960001) : PInts w Z a n c xs := by
  obtain ⟨a', c', e, h1, h2, h3⟩ := own_ints h hx hl
  cases e
  refine ⟨h3, fun _ b o e => ?_, h1, h2, hn⟩
  subst e
  rcases h.2 with ⟨e, h0⟩ | ⟨g, cap, cur, e, hg, _⟩
  · cases e
  · cases e; omega

def PI (S : List UInt8) (w0 : World) (Q N Z i : Nat) (Ds : List Nat) (W : World) : Prop :=
  (Below w0.heap.size w0 W ∧ At W w0.heap.size (.cells #[.int .i64 0, .int .i64 0, .int .i64 0, .int .i64 0, .int .i64 0, .slice none 0 0, .slice none 0 0, .slice none 0 0] 24) ∧ At W Q (wdO (spl 32 S)) ∧ At W N fnO ∧ MarksOk Ds W ∧ (∀ D ∈ Ds, w0.heap.size ≤ D) ∧ w0.heap.size < Z ∧ Q < Z ∧ N < Z ∧ Z < W.heap.size) ∧
  ∃ cn xs ys zs a1 a2 a3 n1 n2 n3 c1 c2 c3, At W Z (recO (rawR S).1 (rawR S).2.1 (rawR S).2.2.1 cn (rawR S).2.2.2.1 a1 a2 a3 n1 n2 n3 c1 c2 c3) ∧ PInts W Z a1 n1 c1 xs ∧ PInts W Z a2 n2 c2 ys ∧ PInts W Z a3 n3 c3 zs ∧ I64 cn ∧
    pairsR (cn, xs, ys, zs) ((spl 32 S).drop i) = (rawR S).2.2.2.2
theorem PI.then_ {S : List UInt8} {w0 W W' : World} {Q N Z i : Nat} {Ds : List Nat} (h : PI S w0 Q N Z i Ds W) (hb : Below W.heap.size W W') : PI S w0 Q N Z i Ds W' := by
  obtain ⟨⟨h1, h2, h3, h4, h5, h6, h7, h8, h9, h10⟩, cn, xs, ys, zs, a1, a2, a3, n1, n2, n3, c1, c2, c3, k1, k2, k3, k4, k5, k6⟩ := h
  exact ⟨⟨below_then h1 hb, h2.then_ hb, h3.then_ hb, h4.then_ hb, ⟨h5.1, fun D hD => (hb.block D (Array.getElem?_eq_some_iff.1 (h5.2 D hD)).1).trans (h5.2 D hD)⟩, h6, h7, h8, h9, by have := hb.size; omega⟩, cn, xs, ys, zs, a1, a2, a3, n1, n2, n3, c1, c2, c3, k1.then_ hb, k2.then_ hb, k3.then_ hb, k4.then_ hb, k5, k6⟩
theorem PI.mark {S : List UInt8} {w0 W : World} {Q N Z i D : Nat} {Ds : List Nat} (h : PI S w0 Q N Z i Ds W) (hD : W.heap[D]? = some (.deferred (some []))) (hw : w0.heap.size ≤ D) (hn : D ∉ Ds) : PI S w0 Q N Z i (D :: Ds) W := by
  obtain ⟨⟨h1, h2, h3, h4, h5, h6, h7⟩, h8⟩ := h
  refine ⟨⟨h1, h2, h3, h4, ⟨List.nodup_cons.2 ⟨hn, h5.1⟩, fun E hE => ?_⟩, fun E hE => ?_, h7⟩, h8⟩
  · rcases List.mem_cons.1 hE with rfl | hE
    · exact hD
    · exact h5.2 E hE
  · rcases List.mem_cons.1 hE with rfl | hE
    · exact hw
    · exact h6 E hE
theorem PI.fresh {S : List UInt8} {w0 W : World} {Q N Z i D : Nat} {Ds : List Nat} (h : PI S w0 Q N Z i Ds W) (hD : W.heap.size ≤ D) : D ∉ Ds := fun hm => by
  have := (Array.getElem?_eq_some_iff.1 (h.1.2.2.2.2.1.2 D hm)).1; omega
theorem PI.base {S : List UInt8} {w0 W : World} {Q N Z i j : Nat} {Ds : List Nat} (h : PI S w0 Q N Z i Ds W) (k : Nat) (u : Value) :
    Below w0.heap.size w0 (W.setCell ⟨Z, k, none⟩ u) ∧ At (W.setCell ⟨Z, k, none⟩ u) w0.heap.size (.cells #[.int .i64 0, .int .i64 0, .int .i64 0, .int .i64 0, .int .i64 0, .slice none 0 0, .slice none 0 0, .slice none 0 0] 24) ∧ At (W.setCell ⟨Z, k, none⟩ u) Q (wdO (spl 32 S)) ∧ At (W.setCell ⟨Z, k, none⟩ u) N fnO ∧ MarksOk Ds (W.setCell ⟨Z, k, none⟩ u) ∧ (∀ D ∈ Ds, w0.heap.size ≤ D) ∧ w0.heap.size < Z ∧ Q < Z ∧ N < Z ∧ Z < (W.setCell ⟨Z, k, none⟩ u).heap.size := by
  obtain ⟨⟨h1, h2, h3, h4, h5, h6, h7, h8, h9, h10⟩, cn, xs, ys, zs, a1, a2, a3, n1, n2, n3, c1, c2, c3, k1, _⟩ := h
  exact ⟨below_set h1 (by show _ ≤ Z; omega) _, h2.apart (p := ⟨Z, k, none⟩) (by simp; omega) _, h3.apart (p := ⟨Z, k, none⟩) (by simp; omega) _, h4.apart (p := ⟨Z, k, none⟩) (by simp; omega) _,
    ⟨h5.1, fun D hD => (Below.heap_setCell _ _ _ D (by intro e; subst e; exact h5.fresh k1 rfl hD)).trans (h5.2 D hD)⟩, h6, h7, h8, h9, by simpa [World.setCell] using h10⟩
theorem PI.times {S v : List UInt8} {w0 W : World} {Q N Z i : Nat} {Ds : List Nat} (h : PI S w0 Q N Z i Ds W) (hk : (spl 32 S)[i]? = some wTimes) (hv : (spl 32 S)[i + 1]? = some v) :
    PI S w0 Q N Z (i + 2) Ds (W.setCell ⟨Z, 3, none⟩ (.int .i64 (atoiV v))) := by
  refine ⟨h.base (j := 0) 3 _, ?_⟩
  obtain ⟨_, cn, xs, ys, zs, a1, a2, a3, n1, n2, n3, c1, c2, c3, k1, k2, k3, k4, k5, k6⟩ := h
  refine ⟨atoiV v, xs, ys, zs, a1, a2, a3, n1, n2, n3, c1, c2, c3, k1.store 3 _, k2.set 3 _, k3.set 3 _, k4.set 3 _, atoiV_i64 v, ?_⟩
  rw [← k6, pairsR_step _ _ i _ _ hk hv, stepR, if_pos rfl]
theorem PI.weeks {S v : List UInt8} {w0 W : World} {Q N Z i a n c} {Ds : List Nat} (h : PI S w0 Q N Z i Ds W) (hk : (spl 32 S)[i]? = some wWeek) (hv : (spl 32 S)[i + 1]? = some v) (hr : PInts W Z a n c (numsOf v)) :
    PI S w0 Q N Z (i + 2) Ds (W.setCell ⟨Z, 5, none⟩ (.slice a n c)) := by
  refine ⟨h.base (j := 0) 5 _, ?_⟩
  obtain ⟨_, cn, xs, ys, zs, a1, a2, a3, n1, n2, n3, c1, c2, c3, k1, k2, k3, k4, k5, k6⟩ := h
  refine ⟨cn, numsOf v, ys, zs, a, a2, a3, n, n2, n3, c, c2, c3, k1.store 5 _, hr.set 5 _, k3.set 5 _, k4.set 5 _, k5, ?_⟩
  rw [← k6, pairsR_step _ _ i _ _ hk hv, stepR, if_neg (by decide), if_pos rfl]
theorem PI.monthdays {S v : List UInt8} {w0 W : World} {Q N Z i a n c} {Ds : List Nat} (h : PI S w0 Q N Z i Ds W) (hk : (spl 32 S)[i]? = some wMonth) (hv : (spl 32 S)[i + 1]? = some v) (hr : PInts W Z a n c (numsOf v)) :
    PI S w0 Q N Z (i + 2) Ds (W.setCell ⟨Z, 6, none⟩ (.slice a n c)) := by
  refine ⟨h.base (j := 0) 6 _, ?_⟩
  obtain ⟨_, cn, xs, ys, zs, a1, a2, a3, n1, n2, n3, c1, c2, c3, k1, k2, k3, k4, k5, k6⟩ := h
  refine ⟨cn, xs, numsOf v, zs, a1, a, a3, n1, n, n3, c1, c, c3, k1.store 6 _, k2.set 6 _, hr.set 6 _, k4.set 6 _, k5, ?_⟩
  rw [← k6, pairsR_step _ _ i _ _ hk hv, stepR, if_neg (by decide), if_neg (by decide), if_pos rfl]
theorem PI.months {S v : List UInt8} {w0 W : World} {Q N Z i a n c} {Ds : List Nat} (h : PI S w0 Q N Z i Ds W) (hk : (spl 32 S)[i]? = some wMonths) (hv : (spl 32 S)[i + 1]? = some v) (hr : PInts W Z a n c (numsOf v)) :
    PI S w0 Q N Z (i + 2) Ds (W.setCell ⟨Z, 7, none⟩ (.slice a n c)) := by
  refine ⟨h.base (j := 0) 7 _, ?_⟩
  obtain ⟨_, cn, xs, ys, zs, a1, a2, a3, n1, n2, n3, c1, c2, c3, k1, k2, k3, k4, k5, k6⟩ := h
  refine ⟨cn, xs, ys, numsOf v, a1, a2, a, n1, n2, n, c1, c2, c, k1.store 7 _, k2.set 7 _, k3.set 7 _, hr.set 7 _, k5, ?_⟩
  rw [← k6, pairsR_step _ _ i _ _ hk hv, stepR, if_neg (by decide), if_neg (by decide), if_neg (by decide), if_pos rfl]
theorem PI.skip {S k v : List UInt8} {w0 W : World} {Q N Z i} {Ds : List Nat} (h : PI S w0 Q N Z i Ds W) (hk : (spl 32 S)[i]? = some k) (hv : (spl 32 S)[i + 1]? = some v) (h1 : k ≠ wTimes) (h2 : k ≠ wWeek) (h3 : k ≠ wMonth) (h4 : k ≠ wMonths) :
    PI S w0 Q N Z (i + 2) Ds W := by
  obtain ⟨h0, cn, xs, ys, zs, a1, a2, a3, n1, n2, n3, c1, c2, c3, k1, k2, k3, k4, k5, k6⟩ := h
  refine ⟨h0, cn, xs, ys, zs, a1, a2, a3, n1, n2, n3, c1, c2, c3, k1, k2, k3, k4, k5, ?_⟩
  rw [← k6, pairsR_step _ _ i _ _ hk hv, stepR, if_neg h1, if_neg h2, if_neg h3, if_neg h4]
theorem marks_set {Ds : List Nat} {W : World} {b : Nat} {o : Obj} (h : MarksOk Ds W) (ha : At W b o) (ho : o.isCells = true) (k : Nat) (u : Value) : MarksOk Ds (W.setCell ⟨b, k, none⟩ u) :=
  ⟨h.1, fun D hD => (Below.heap_setCell _ _ _ D (by intro e; subst e; exact h.fresh ha ho hD)).trans (h.2 D hD)⟩
/-- The result's box is filled: what is known behind it. -/
theorem fill8 {Ds : List Nat} {W w0 : World} {b Z : Nat} {x0 x1 x2 x3 x4 x5 x6 x7 : Value} {t : TypeId} {m : Nat × Nat} (hb : Below w0.heap.size w0 W) (h0 : w0.heap.size ≤ b) (h : At W b (.cells #[x0, x1, x2, x3, x4, x5, x6, x7] t m)) (hm : MarksOk Ds W) (u0 u1 u2 u3 u4 u5 u6 u7 : Value) :
    At ((((((((W.setCell ⟨b, 0, none⟩ u0).setCell ⟨b, 1, none⟩ u1).setCell ⟨b, 2, none⟩ u2).setCell ⟨b, 3, none⟩ u3).setCell ⟨b, 4, none⟩ u4).setCell ⟨b, 5, none⟩ u5).setCell ⟨b, 6, none⟩ u6).setCell ⟨b, 7, none⟩ u7) b (.cells #[u0, u1, u2, u3, u4, u5, u6, u7] t m) ∧
    MarksOk Ds ((((((((W.setCell ⟨b, 0, none⟩ u0).setCell ⟨b, 1, none⟩ u1).setCell ⟨b, 2, none⟩ u2).setCell ⟨b, 3, none⟩ u3).setCell ⟨b, 4, none⟩ u4).setCell ⟨b, 5, none⟩ u5).setCell ⟨b, 6, none⟩ u6).setCell ⟨b, 7, none⟩ u7) ∧
    Below w0.heap.size w0 ((((((((W.setCell ⟨b, 0, none⟩ u0).setCell ⟨b, 1, none⟩ u1).setCell ⟨b, 2, none⟩ u2).setCell ⟨b, 3, none⟩ u3).setCell ⟨b, 4, none⟩ u4).setCell ⟨b, 5, none⟩ u5).setCell ⟨b, 6, none⟩ u6).setCell ⟨b, 7, none⟩ u7) ∧
    ∀ {a : Option Addr} {n c : Nat} {xs : List Int}, b ≤ Z → PInts W Z a n c xs → PInts ((((((((W.setCell ⟨b, 0, none⟩ u0).setCell ⟨b, 1, none⟩ u1).setCell ⟨b, 2, none⟩ u2).setCell ⟨b, 3, none⟩ u3).setCell ⟨b, 4, none⟩ u4).setCell ⟨b, 5, none⟩ u5).setCell ⟨b, 6, none⟩ u6).setCell ⟨b, 7, none⟩ u7) Z a n c xs := by
  have h1 := h.store 0 u0; have h2 := h1.store 1 u1; have h3 := h2.store 2 u2; have h4 := h3.store 3 u3
  have h5 := h4.store 4 u4; have h6 := h5.store 5 u5; have h7 := h6.store 6 u6; have h8 := h7.store 7 u7
  refine ⟨by simpa using h8, ?_, ?_, fun hq p => (((((((p.put hq 0 u0).put hq 1 u1).put hq 2 u2).put hq 3 u3).put hq 4 u4).put hq 5 u5).put hq 6 u6).put hq 7 u7⟩
  · exact marks_set (marks_set (marks_set (marks_set (marks_set (marks_set (marks_set (marks_set hm h rfl _ _) h1 rfl _ _) h2 rfl _ _) h3 rfl _ _) h4 rfl _ _) h5 rfl _ _) h6 rfl _ _) h7 rfl _ _
  · exact below_set (below_set (below_set (below_set (below_set (below_set (below_set (below_set hb h0 _) h0 _) h0 _) h0 _) h0 _) h0 _) h0 _) h0 _
theorem rawR_words {S u1 u2 u4 u6 : List UInt8} (h1 : (spl 32 S)[1]? = some u1) (h2 : (spl 32 S)[2]? = some u2) (h4 : (spl 32 S)[4]? = some u4) (h6 : (spl 32 S)[6]? = some u6) :
    rawR S = (idxU u2, atoiV u1, atoiV u4, atoiV u6, pairsR (0, [], [], []) ((spl 32 S).drop 7)) := by
  unfold rawR
  simp only [List.getD_eq_getElem?_getD, h1, h2, h4, h6, Option.getD_some]
theorem PI.start {S u1 u2 u4 u6 : List UInt8} {w0 W : World} {Q N Z : Nat} (h1 : (spl 32 S)[1]? = some u1) (h2 : (spl 32 S)[2]? = some u2) (h4 : (spl 32 S)[4]? = some u4) (h6 : (spl 32 S)[6]? = some u6)
    (b : Below w0.heap.size w0 W) (a0 : At W w0.heap.size (.cells #[.int .i64 0, .int .i64 0, .int .i64 0, .int .i64 0, .int .i64 0, .slice none 0 0, .slice none 0 0, .slice none 0 0] 24)) (aq : At W Q (wdO (spl 32 S))) (an : At W N fnO) (q1 : w0.heap.size < Z) (q2 : Q < Z) (q3 : N < Z)
    (az : At W Z (.cells #[.int .i64 (idxU u2), .int .i64 (atoiV u1), .int .i64 (atoiV u4), .int .i64 0, .int .i64 (atoiV u6), .slice none 0 0, .slice none 0 0, .slice none 0 0] 24)) : PI S w0 Q N Z 7 [] W := by
  refine ⟨⟨b, a0, aq, an, ⟨List.nodup_nil, by simp⟩, by simp, q1, q2, q3, az.lt⟩, 0, [], [], [], none, none, none, 0, 0, 0, 0, 0, 0, ?_, PInts.nil _ _, PInts.nil _ _, PInts.nil _ _, ⟨by omega, by omega⟩, ?_⟩
  · rw [rawR_words h1 h2 h4 h6]; exact az
  · rw [rawR_words h1 h2 h4 h6]
theorem keepsB {B : Nat} {W W' : World} (h : Below W.heap.size W W') : KeepsFrom B W W' := ⟨h.size, fun k o _ hk _ => (h.block k (Array.getElem?_eq_some_iff.1 hk).1).trans hk⟩
theorem intInfo : (Tryz.prog.info? 3).map (fun i => (i.zero, i.size, i.bytes)) = some (some (.int .i64 0), 1, 8) := by kernel_rfl
/-- The row between two rounds of the range over the numbers of a list. -/
abbrev RowP (o : Nat) (w : World) := RowI o (o + 4) o 22 3 1 w (fun pre : List ByteArray => pre.map fun x => Value.int .i64 (atoiV x.data.toList))
theorem idxU_le (t : List UInt8) : idxU t ≤ 4 := by
  unfold idxU
  repeat' split
  all_goals omega
theorem PI.off {S : List UInt8} {w0 W : World} {Q N Z i : Nat} {Ds : List Nat} (h : PI S w0 Q N Z i Ds W) (hi : (spl 32 S).length ≤ i + 1) :
    ∃ a1 a2 a3 n1 n2 n3 c1 c2 c3, At W Z (recO (rawR S).1 (rawR S).2.1 (rawR S).2.2.1 (rawR S).2.2.2.2.1 (rawR S).2.2.2.1 a1 a2 a3 n1 n2 n3 c1 c2 c3) ∧ PInts W Z a1 n1 c1 (rawR S).2.2.2.2.2.1 ∧ PInts W Z a2 n2 c2 (rawR S).2.2.2.2.2.2.1 ∧ PInts W Z a3 n3 c3 (rawR S).2.2.2.2.2.2.2 ∧ I64 (rawR S).2.2.2.2.1 := by
  obtain ⟨_, cn, xs, ys, zs, a1, a2, a3, n1, n2, n3, c1, c2, c3, k1, k2, k3, k4, k5, k6⟩ := h
  rw [pairsR_end _ _ _ hi] at k6
  rw [← k6]
  exact ⟨a1, a2, a3, n1, n2, n3, c1, c2, c3, k1, k2, k3, k4, k5⟩
theorem nums_pcs (v : List UInt8) : (pcs ⟨#[44]⟩ ⟨v.toArray⟩).map (fun x => atoiV x.data.toList) = numsOf v := by
  have h := pcs_spl 44 ⟨v.toArray⟩
  rw [show (⟨v.toArray⟩ : ByteArray).data.toList = v by simp] at h
  unfold numsOf
  rw [← h, List.map_map]; rfl
theorem nums_len (v : List UInt8) (h : v.length ≤ 4294960000) : (numsOf v).length ≤ 4294960001 := by
  unfold numsOf
  rw [List.length_map]
  exact Nat.le_trans (spl_len 44 v) (by omega)
end Go.Proofs.YtdmkghgachapaaaGreatDoor
