import Derived.Test.YtfbmlbenffkpfaaGreatDoorBase
import Derived.ProofKit
import Derived.OpenShut
import Derived.Lib.SmallJoins
import Derived.Deep.RegionHeld3
namespace Go.Proofs.YtfbmlbenffkpfaaGreatDoor
set_option linter.unusedVariables false
set_option maxRecDepth 100000
open Go.RowKit Go.ChangeShapes Go.WideShapes
def Ints (w : World) (B : Nat) (a : Option Addr) (n : Nat) (xs : List Int) : Prop :=
  xs.length = n ∧ n ≤ 9223372036854775807 ∧ (∀ x ∈ xs, I64 x) ∧ (0 < n → ∃ b off, a = some ⟨b, off, none⟩ ∧ b < B ∧ ∀ i, i < n → w.cell? ⟨b, off + i, none⟩ = some (.int .i64 (xs.getD i 0)))
theorem Ints.below {w w' : World} {B B' : Nat} {a : Option Addr} {n : Nat} {xs : List Int} (h : Ints w B a n xs) (hb : Below B' w w') (hB : B ≤ B') : Ints w' B a n xs :=
  ⟨h.1, h.2.1, h.2.2.1, fun hn => by
    obtain ⟨b, off, e, hlt, hc⟩ := h.2.2.2 hn
    exact ⟨b, off, e, hlt, fun i hi => (hb.cell (p := ⟨b, off + i, none⟩) (Nat.lt_of_lt_of_le hlt hB)).trans (hc i hi)⟩⟩
theorem Ints.more {w : World} {B B' : Nat} {a : Option Addr} {n : Nat} {xs : List Int} (h : Ints w B a n xs) (hB : B ≤ B') : Ints w B' a n xs :=
  ⟨h.1, h.2.1, h.2.2.1, fun hn => by
    obtain ⟨b, off, e, hlt, hc⟩ := h.2.2.2 hn
    exact ⟨b, off, e, by omega, hc⟩⟩
theorem Ints.alloc {w : World} {B : Nat} {a : Option Addr} {n : Nat} {xs : List Int} (h : Ints w B a n xs) (hB : B ≤ w.heap.size) (o : Obj) : Ints (w.alloc o) B a n xs :=
  h.below ((Below.refl _ _).alloc (Nat.le_refl _) o) hB
theorem Ints.drewN {w : World} {B : Nat} {a : Option Addr} {n : Nat} {xs : List Int} (h : Ints w B a n xs) (m : Nat) : Ints (w.drewN m) B a n xs := h
theorem Ints.len {w : World} {B : Nat} {a : Option Addr} {n : Nat} {xs : List Int} (h : Ints w B a n xs) : xs.length = n := h.1
theorem Ints.at_ {w : World} {B : Nat} {a : Option Addr} {n : Nat} {xs : List Int} (h : Ints w B a n xs) {k : Nat} (hk : k < n) :
    ∃ b off x, a = some ⟨b, off, none⟩ ∧ b < B ∧ w.cell? ⟨b, off + k, none⟩ = some (.int .i64 x) ∧ xs[k]? = some x ∧ -9223372036854775808 ≤ x ∧ x ≤ 9223372036854775807 := by
  obtain ⟨b, off, e, hlt, hc⟩ := h.2.2.2 (by omega)
  have hl : k < xs.length := by have := h.1; omega
  have hx := List.getElem?_eq_getElem hl
  refine ⟨b, off, xs[k], e, hlt, ?_, hx, h.2.2.1 _ (List.getElem_mem hl)⟩
  have := hc k hk
  rwa [List.getD_eq_getElem?_getD, hx, Option.getD_some] at this
theorem Ints.far {w w1 w2 : World} {a : Option Addr} {n : Nat} {xs : List Int} (h : Ints w w.heap.size a n xs) (b : Below w.heap.size w w1) (b' : Below w1.heap.size w1 w2) : Ints w2 w2.heap.size a n xs :=
  ((h.below b (Nat.le_refl _)).below b' b.size).more (Nat.le_trans b.size b'.size)
theorem Ints.take {w : World} {B : Nat} {a : Option Addr} {n : Nat} {xs : List Int} (h : Ints w B a n xs) {k : Nat} (hk : k ≤ n) : Ints w B a k (xs.take k) :=
  ⟨by rw [List.length_take, h.1]; omega, Nat.le_trans hk h.2.1, fun x hx => h.2.2.1 x (List.mem_of_mem_take hx), fun hn => by
    obtain ⟨b, off, e, hlt, hc⟩ := h.2.2.2 (by omega)
    refine ⟨b, off, e, hlt, fun i hi => ?_⟩
    rw [hc i (by omega)]
    simp [List.getD_eq_getElem?_getD, hi]⟩
theorem open_Ints {H : Type} {enc : TypeId × Value → H} {W : World} {fuel : Nat} {v : Value} {x : DataW H × List MemPlace}
    (h : DataW.trod enc Tryz.prog W 0 (fun _ => true) true fuel 31 [v] = some x) :
    ∃ a n c xs, v = .slice a n c ∧ n ≤ c ∧ c ≤ 9223372036854775807 ∧ Ints W W.heap.size a n xs := by
  rcases open_ints Tryz.underlying31 Tryz.underlying3 (by kernel_rfl) h with ⟨hcs, _⟩ | ⟨a, l, c, zs, hcs, _, hl, hm, hz, _, hcell, hwz⟩
  · simp at hcs
    subst hcs
    exact ⟨none, 0, 0, [], rfl, by omega, by omega, rfl, by omega, by simp, fun h => absurd h (by omega)⟩
  · simp at hcs
    subst hcs
    unfold maxLen at hm
    refine ⟨some a, l, c, zs.take l, rfl, hl, by omega, ?_, by omega, fun z hz' => bounds_i64 (hwz z (List.mem_of_mem_take hz')), fun hn => ?_⟩
    · rw [List.length_take]; simp at hz; omega
    · obtain ⟨b, off, spot⟩ := a
      have hzl : zs.length = c := by simpa using hz
      have h0 := hcell 0 (by omega)
      have hspot : spot = none := by simpa [Addr.add] using World.cell?_spot h0
      subst hspot
      have hb : b < W.heap.size := by
        rcases Nat.lt_or_ge b W.heap.size with h' | h'
        · exact h'
        · simp [World.cell?, Addr.add, Array.getElem?_eq_none h'] at h0
      refine ⟨b, off, rfl, hb, fun i hi => ?_⟩
      have := hcell i (by omega)
      rw [show (List.take l zs).getD i 0 = zs.getD i 0 by simp [List.getD_eq_getElem?_getD, hi]]
      by_cases h0 : i = 0
      · subst h0; simpa [Addr.add] using this
      · simpa [Addr.add, h0] using this
end Go.Proofs.YtfbmlbenffkpfaaGreatDoor
namespace Go.Proofs.YtfbmlbenffkpfaaGreatDoor
set_option linter.unusedVariables false
set_option maxRecDepth 100000
open Go.RowKit
def At (w : World) (b : Nat) (o : Obj) : Prop := w.heap[b]? = some o
theorem At.lt {w : World} {b : Nat} {o : Obj} (h : At w b o) : b < w.heap.size := by
  rcases Nat.lt_or_ge b w.heap.size with hlt | hge
  · exact hlt
  · unfold At at h; rw [Array.getElem?_eq_none hge] at h; cases h
theorem At.new (w : World) (o : Obj) : At (w.alloc o) w.heap.size o := heap_alloc_new w o
theorem At.newAt (w : World) (o : Obj) (b : Nat) (h : b = w.heap.size) : At (w.alloc o) b o := by subst h; exact At.new w o
theorem At.new1 (w : World) (o o1 : Obj) : At ((w.alloc o).alloc o1) (w.heap.size + 1) o1 := by
  have := At.new (w.alloc o) o1; simpa using this
theorem At.new2 (w : World) (o o1 o2 : Obj) : At (((w.alloc o).alloc o1).alloc o2) (w.heap.size + 1 + 1) o2 := by
  have := At.new1 (w.alloc o) o1 o2; simpa using this
theorem At.new3 (w : World) (o o1 o2 o3 : Obj) : At ((((w.alloc o).alloc o1).alloc o2).alloc o3) (w.heap.size + 1 + 1 + 1) o3 := by
  have := At.new2 (w.alloc o) o1 o2 o3; simpa using this
theorem At.alloc {w : World} {b : Nat} {o : Obj} (h : At w b o) (o' : Obj) : At (w.alloc o') b o := (Below.heap_alloc w o' b h.lt).trans h
theorem At.drewN {w : World} {b : Nat} {o : Obj} (h : At w b o) (n : Nat) : At (w.drewN n) b o := h
theorem At.drew {w : World} {b : Nat} {o : Obj} (h : At w b o) : At w.drew b o := h
theorem At.drawn {w w' : World} {b : Nat} {o : Obj} (h : At w b o) (d : Drawn w w') : At w' b o := by obtain ⟨n, rfl⟩ := d; exact h
theorem At.then_ {w w' : World} {b : Nat} {o : Obj} (h : At w b o) (k : Below w.heap.size w w') : At w' b o := (k.block b h.lt).trans h
theorem At.below {B : Nat} {w w' : World} {b : Nat} {o : Obj} (h : At w b o) (hb : Below B w w') (hB : b < B) : At w' b o := (hb.block b hB).trans h
theorem At.cell {w : World} {b : Nat} {cs : Array Value} {t : TypeId} {m : Nat × Nat} (h : At w b (.cells cs t m)) (i : Nat) : w.cell? ⟨b, i, none⟩ = cs[i]? := cell_of_row w b i cs t m h
theorem At.frozen {w : World} {b : Nat} {cs : Array Value} {t : TypeId} (h : At w b (.cells cs t)) (i : Nat) : w.frozen? ⟨b, i, none⟩ = false := by
  unfold At at h
  simp [World.frozen?, h]
theorem At.ints {w : World} {b : Nat} {t : TypeId} {m : Nat × Nat} (zs : List Int) (h : At w b (.cells (zs.map (Value.int .i64)).toArray t m)) (hI : ∀ x ∈ zs, I64 x) (hn : zs.length ≤ 9223372036854775807) :
    Ints w w.heap.size (some ⟨b, 0, none⟩) zs.length zs :=
  ⟨rfl, hn, hI, fun _ => ⟨b, 0, rfl, h.lt, fun i hi => by
    rw [h.cell (0 + i)]
    simp [hi]⟩⟩
theorem keep1 {w1 W w' : World} {b : Nat} {v0 : Value} (h : W.cell? ⟨b, 0, none⟩ = some v0 ∧ Below w1.heap.size w1 W) (hb : Below W.heap.size W w') (hB : b < w1.heap.size) : w'.cell? ⟨b, 0, none⟩ = some v0 ∧ Below w1.heap.size w1 w' := by
  obtain ⟨h0, hk⟩ := h
  have hlt : b < W.heap.size := Nat.lt_of_lt_of_le hB hk.size
  exact ⟨(hb.cell (p := ⟨b, 0, none⟩) hlt).trans h0, hk.trans (hb.mono hk.size)⟩
theorem keep2 {w1 W w' : World} {b : Nat} {v0 v1 : Value} (h : W.cell? ⟨b, 0, none⟩ = some v0 ∧ W.cell? ⟨b, 1, none⟩ = some v1 ∧ Below w1.heap.size w1 W) (hb : Below W.heap.size W w') (hB : b < w1.heap.size) : w'.cell? ⟨b, 0, none⟩ = some v0 ∧ w'.cell? ⟨b, 1, none⟩ = some v1 ∧ Below w1.heap.size w1 w' := by
  obtain ⟨h0, h1, hk⟩ := h
  have hlt : b < W.heap.size := Nat.lt_of_lt_of_le hB hk.size
  exact ⟨(hb.cell (p := ⟨b, 0, none⟩) hlt).trans h0, (hb.cell (p := ⟨b, 1, none⟩) hlt).trans h1, hk.trans (hb.mono hk.size)⟩
theorem keep3 {w1 W w' : World} {b : Nat} {v0 v1 v2 : Value} (h : W.cell? ⟨b, 0, none⟩ = some v0 ∧ W.cell? ⟨b, 1, none⟩ = some v1 ∧ W.cell? ⟨b, 2, none⟩ = some v2 ∧ Below w1.heap.size w1 W) (hb : Below W.heap.size W w') (hB : b < w1.heap.size) : w'.cell? ⟨b, 0, none⟩ = some v0 ∧ w'.cell? ⟨b, 1, none⟩ = some v1 ∧ w'.cell? ⟨b, 2, none⟩ = some v2 ∧ Below w1.heap.size w1 w' := by
  obtain ⟨h0, h1, h2, hk⟩ := h
  have hlt : b < W.heap.size := Nat.lt_of_lt_of_le hB hk.size
  exact ⟨(hb.cell (p := ⟨b, 0, none⟩) hlt).trans h0, (hb.cell (p := ⟨b, 1, none⟩) hlt).trans h1, (hb.cell (p := ⟨b, 2, none⟩) hlt).trans h2, hk.trans (hb.mono hk.size)⟩
theorem keep4 {w1 W w' : World} {b : Nat} {v0 v1 v2 v3 : Value} (h : W.cell? ⟨b, 0, none⟩ = some v0 ∧ W.cell? ⟨b, 1, none⟩ = some v1 ∧ W.cell? ⟨b, 2, none⟩ = some v2 ∧ W.cell? ⟨b, 3, none⟩ = some v3 ∧ Below w1.heap.size w1 W) (hb : Below W.heap.size W w') (hB : b < w1.heap.size) : w'.cell? ⟨b, 0, none⟩ = some v0 ∧ w'.cell? ⟨b, 1, none⟩ = some v1 ∧ w'.cell? ⟨b, 2, none⟩ = some v2 ∧ w'.cell? ⟨b, 3, none⟩ = some v3 ∧ Below w1.heap.size w1 w' := by
  obtain ⟨h0, h1, h2, h3, hk⟩ := h
  have hlt : b < W.heap.size := Nat.lt_of_lt_of_le hB hk.size
  exact ⟨(hb.cell (p := ⟨b, 0, none⟩) hlt).trans h0, (hb.cell (p := ⟨b, 1, none⟩) hlt).trans h1, (hb.cell (p := ⟨b, 2, none⟩) hlt).trans h2, (hb.cell (p := ⟨b, 3, none⟩) hlt).trans h3, hk.trans (hb.mono hk.size)⟩
theorem keep5 {w1 W w' : World} {b : Nat} {v0 v1 v2 v3 v4 : Value} (h : W.cell? ⟨b, 0, none⟩ = some v0 ∧ W.cell? ⟨b, 1, none⟩ = some v1 ∧ W.cell? ⟨b, 2, none⟩ = some v2 ∧ W.cell? ⟨b, 3, none⟩ = some v3 ∧ W.cell? ⟨b, 4, none⟩ = some v4 ∧ Below w1.heap.size w1 W) (hb : Below W.heap.size W w') (hB : b < w1.heap.size) : w'.cell? ⟨b, 0, none⟩ = some v0 ∧ w'.cell? ⟨b, 1, none⟩ = some v1 ∧ w'.cell? ⟨b, 2, none⟩ = some v2 ∧ w'.cell? ⟨b, 3, none⟩ = some v3 ∧ w'.cell? ⟨b, 4, none⟩ = some v4 ∧ Below w1.heap.size w1 w' := by
  obtain ⟨h0, h1, h2, h3, h4, hk⟩ := h
  have hlt : b < W.heap.size := Nat.lt_of_lt_of_le hB hk.size
  exact ⟨(hb.cell (p := ⟨b, 0, none⟩) hlt).trans h0, (hb.cell (p := ⟨b, 1, none⟩) hlt).trans h1, (hb.cell (p := ⟨b, 2, none⟩) hlt).trans h2, (hb.cell (p := ⟨b, 3, none⟩) hlt).trans h3, (hb.cell (p := ⟨b, 4, none⟩) hlt).trans h4, hk.trans (hb.mono hk.size)⟩
theorem keep6 {w1 W w' : World} {b : Nat} {v0 v1 v2 v3 v4 v5 : Value} (h : W.cell? ⟨b, 0, none⟩ = some v0 ∧ W.cell? ⟨b, 1, none⟩ = some v1 ∧ W.cell? ⟨b, 2, none⟩ = some v2 ∧ W.cell? ⟨b, 3, none⟩ = some v3 ∧ W.cell? ⟨b, 4, none⟩ = some v4 ∧ W.cell? ⟨b, 5, none⟩ = some v5 ∧ Below w1.heap.size w1 W) (hb : Below W.heap.size W w') (hB : b < w1.heap.size) : w'.cell? ⟨b, 0, none⟩ = some v0 ∧ w'.cell? ⟨b, 1, none⟩ = some v1 ∧ w'.cell? ⟨b, 2, none⟩ = some v2 ∧ w'.cell? ⟨b, 3, none⟩ = some v3 ∧ w'.cell? ⟨b, 4, none⟩ = some v4 ∧ w'.cell? ⟨b, 5, none⟩ = some v5 ∧ Below w1.heap.size w1 w' := by
  obtain ⟨h0, h1, h2, h3, h4, h5, hk⟩ := h
  have hlt : b < W.heap.size := Nat.lt_of_lt_of_le hB hk.size
  exact ⟨(hb.cell (p := ⟨b, 0, none⟩) hlt).trans h0, (hb.cell (p := ⟨b, 1, none⟩) hlt).trans h1, (hb.cell (p := ⟨b, 2, none⟩) hlt).trans h2, (hb.cell (p := ⟨b, 3, none⟩) hlt).trans h3, (hb.cell (p := ⟨b, 4, none⟩) hlt).trans h4, (hb.cell (p := ⟨b, 5, none⟩) hlt).trans h5, hk.trans (hb.mono hk.size)⟩
theorem keep7 {w1 W w' : World} {b : Nat} {v0 v1 v2 v3 v4 v5 v6 : Value} (h : W.cell? ⟨b, 0, none⟩ = some v0 ∧ W.cell? ⟨b, 1, none⟩ = some v1 ∧ W.cell? ⟨b, 2, none⟩ = some v2 ∧ W.cell? ⟨b, 3, none⟩ = some v3 ∧ W.cell? ⟨b, 4, none⟩ = some v4 ∧ W.cell? ⟨b, 5, none⟩ = some v5 ∧ W.cell? ⟨b, 6, none⟩ = some v6 ∧ Below w1.heap.size w1 W) (hb : Below W.heap.size W w') (hB : b < w1.heap.size) : w'.cell? ⟨b, 0, none⟩ = some v0 ∧ w'.cell? ⟨b, 1, none⟩ = some v1 ∧ w'.cell? ⟨b, 2, none⟩ = some v2 ∧ w'.cell? ⟨b, 3, none⟩ = some v3 ∧ w'.cell? ⟨b, 4, none⟩ = some v4 ∧ w'.cell? ⟨b, 5, none⟩ = some v5 ∧ w'.cell? ⟨b, 6, none⟩ = some v6 ∧ Below w1.heap.size w1 w' := by
  obtain ⟨h0, h1, h2, h3, h4, h5, h6, hk⟩ := h
  have hlt : b < W.heap.size := Nat.lt_of_lt_of_le hB hk.size
  exact ⟨(hb.cell (p := ⟨b, 0, none⟩) hlt).trans h0, (hb.cell (p := ⟨b, 1, none⟩) hlt).trans h1, (hb.cell (p := ⟨b, 2, none⟩) hlt).trans h2, (hb.cell (p := ⟨b, 3, none⟩) hlt).trans h3, (hb.cell (p := ⟨b, 4, none⟩) hlt).trans h4, (hb.cell (p := ⟨b, 5, none⟩) hlt).trans h5, (hb.cell (p := ⟨b, 6, none⟩) hlt).trans h6, hk.trans (hb.mono hk.size)⟩
theorem keep8 {w1 W w' : World} {b : Nat} {v0 v1 v2 v3 v4 v5 v6 v7 : Value} (h : W.cell? ⟨b, 0, none⟩ = some v0 ∧ W.cell? ⟨b, 1, none⟩ = some v1 ∧ W.cell? ⟨b, 2, none⟩ = some v2 ∧ W.cell? ⟨b, 3, none⟩ = some v3 ∧ W.cell? ⟨b, 4, none⟩ = some v4 ∧ W.cell? ⟨b, 5, none⟩ = some v5 ∧ W.cell? ⟨b, 6, none⟩ = some v6 ∧ W.cell? ⟨b, 7, none⟩ = some v7 ∧ Below w1.heap.size w1 W) (hb : Below W.heap.size W w') (hB : b < w1.heap.size) : w'.cell? ⟨b, 0, none⟩ = some v0 ∧ w'.cell? ⟨b, 1, none⟩ = some v1 ∧ w'.cell? ⟨b, 2, none⟩ = some v2 ∧ w'.cell? ⟨b, 3, none⟩ = some v3 ∧ w'.cell? ⟨b, 4, none⟩ = some v4 ∧ w'.cell? ⟨b, 5, none⟩ = some v5 ∧ w'.cell? ⟨b, 6, none⟩ = some v6 ∧ w'.cell? ⟨b, 7, none⟩ = some v7 ∧ Below w1.heap.size w1 w' := by
  obtain ⟨h0, h1, h2, h3, h4, h5, h6, h7, hk⟩ := h
  have hlt : b < W.heap.size := Nat.lt_of_lt_of_le hB hk.size
  exact ⟨(hb.cell (p := ⟨b, 0, none⟩) hlt).trans h0, (hb.cell (p := ⟨b, 1, none⟩) hlt).trans h1, (hb.cell (p := ⟨b, 2, none⟩) hlt).trans h2, (hb.cell (p := ⟨b, 3, none⟩) hlt).trans h3, (hb.cell (p := ⟨b, 4, none⟩) hlt).trans h4, (hb.cell (p := ⟨b, 5, none⟩) hlt).trans h5, (hb.cell (p := ⟨b, 6, none⟩) hlt).trans h6, (hb.cell (p := ⟨b, 7, none⟩) hlt).trans h7, hk.trans (hb.mono hk.size)⟩
theorem last1 {P0 R : Prop} (h : P0 ∧ R) : R := h.2
theorem last2 {P0 P1 R : Prop} (h : P0 ∧ P1 ∧ R) : R := h.2.2
theorem last3 {P0 P1 P2 R : Prop} (h : P0 ∧ P1 ∧ P2 ∧ R) : R := h.2.2.2
theorem last4 {P0 P1 P2 P3 R : Prop} (h : P0 ∧ P1 ∧ P2 ∧ P3 ∧ R) : R := h.2.2.2.2
theorem last5 {P0 P1 P2 P3 P4 R : Prop} (h : P0 ∧ P1 ∧ P2 ∧ P3 ∧ P4 ∧ R) : R := h.2.2.2.2.2
theorem last6 {P0 P1 P2 P3 P4 P5 R : Prop} (h : P0 ∧ P1 ∧ P2 ∧ P3 ∧ P4 ∧ P5 ∧ R) : R := h.2.2.2.2.2.2
theorem last7 {P0 P1 P2 P3 P4 P5 P6 R : Prop} (h : P0 ∧ P1 ∧ P2 ∧ P3 ∧ P4 ∧ P5 ∧ P6 ∧ R) : R := h.2.2.2.2.2.2.2
theorem last8 {P0 P1 P2 P3 P4 P5 P6 P7 R : Prop} (h : P0 ∧ P1 ∧ P2 ∧ P3 ∧ P4 ∧ P5 ∧ P6 ∧ P7 ∧ R) : R := h.2.2.2.2.2.2.2.2
end Go.Proofs.YtfbmlbenffkpfaaGreatDoor
namespace Go.Proofs.YtfbmlbenffkpfaaGreatDoor
set_option linter.unusedVariables false
set_option maxRecDepth 100000
open Go.RowKit
theorem At.store {w : World} {b : Nat} {cs : Array Value} {t : TypeId} {m : Nat × Nat} (h : At w b (.cells cs t m)) (i : Nat) (u : Value) : At (w.setCell ⟨b, i, none⟩ u) b (.cells (cs.setIfInBounds i u) t m) := by
  unfold At at h ⊢
  simp [World.setCell, Array.getElem?_modify, h]
theorem At.apart {w : World} {b : Nat} {o : Obj} (h : At w b o) {p : Addr} (hp : b ≠ p.block) (u : Value) : At (w.setCell p u) b o := (Below.heap_setCell w p u b hp).trans h
theorem At.store2 {w : World} {b : Nat} {x y : Value} {t : TypeId} {m : Nat × Nat} (h : At w b (.cells #[x, y] t m)) (u v : Value) : At ((w.setCell ⟨b, 0, none⟩ u).setCell ⟨b, 1, none⟩ v) b (.cells #[u, v] t m) := (h.store 0 u).store 1 v
theorem At.store3 {w : World} {b : Nat} {x0 x1 x2 : Value} {t : TypeId} {m : Nat × Nat} (h : At w b (.cells #[x0, x1, x2] t m)) (u0 u1 u2 : Value) : At (((w.setCell ⟨b, 0, none⟩ u0).setCell ⟨b, 1, none⟩ u1).setCell ⟨b, 2, none⟩ u2) b (.cells #[u0, u1, u2] t m) := by
  have k := (((h.store 0 u0).store 1 u1).store 2 u2)
  simpa using k
theorem At.apart3 {w : World} {b : Nat} {o : Obj} (h : At w b o) {p : Nat} (hp : b ≠ p) (u0 u1 u2 : Value) : At (((w.setCell ⟨p, 0, none⟩ u0).setCell ⟨p, 1, none⟩ u1).setCell ⟨p, 2, none⟩ u2) b o := (((h.apart hp _).apart hp _).apart hp _)
theorem below_set3 {B : Nat} {a w : World} (h : Below B a w) {p : Nat} (hp : B ≤ p) (u0 u1 u2 : Value) : Below B a (((w.setCell ⟨p, 0, none⟩ u0).setCell ⟨p, 1, none⟩ u1).setCell ⟨p, 2, none⟩ u2) := (below_set (below_set (below_set h hp _) hp _) hp _)
theorem size_set3 (w : World) (p : Nat) (u0 u1 u2 : Value) : (((w.setCell ⟨p, 0, none⟩ u0).setCell ⟨p, 1, none⟩ u1).setCell ⟨p, 2, none⟩ u2).heap.size = w.heap.size := by simp [World.setCell]
theorem At.store5 {w : World} {b : Nat} {x0 x1 x2 x3 x4 : Value} {t : TypeId} {m : Nat × Nat} (h : At w b (.cells #[x0, x1, x2, x3, x4] t m)) (u0 u1 u2 u3 u4 : Value) : At (((((w.setCell ⟨b, 0, none⟩ u0).setCell ⟨b, 1, none⟩ u1).setCell ⟨b, 2, none⟩ u2).setCell ⟨b, 3, none⟩ u3).setCell ⟨b, 4, none⟩ u4) b (.cells #[u0, u1, u2, u3, u4] t m) := by
  have k := (((((h.store 0 u0).store 1 u1).store 2 u2).store 3 u3).store 4 u4)
  simpa using k
theorem At.apart5 {w : World} {b : Nat} {o : Obj} (h : At w b o) {p : Nat} (hp : b ≠ p) (u0 u1 u2 u3 u4 : Value) : At (((((w.setCell ⟨p, 0, none⟩ u0).setCell ⟨p, 1, none⟩ u1).setCell ⟨p, 2, none⟩ u2).setCell ⟨p, 3, none⟩ u3).setCell ⟨p, 4, none⟩ u4) b o := (((((h.apart hp _).apart hp _).apart hp _).apart hp _).apart hp _)
theorem below_set5 {B : Nat} {a w : World} (h : Below B a w) {p : Nat} (hp : B ≤ p) (u0 u1 u2 u3 u4 : Value) : Below B a (((((w.setCell ⟨p, 0, none⟩ u0).setCell ⟨p, 1, none⟩ u1).setCell ⟨p, 2, none⟩ u2).setCell ⟨p, 3, none⟩ u3).setCell ⟨p, 4, none⟩ u4) := (below_set (below_set (below_set (below_set (below_set h hp _) hp _) hp _) hp _) hp _)
theorem size_set5 (w : World) (p : Nat) (u0 u1 u2 u3 u4 : Value) : (((((w.setCell ⟨p, 0, none⟩ u0).setCell ⟨p, 1, none⟩ u1).setCell ⟨p, 2, none⟩ u2).setCell ⟨p, 3, none⟩ u3).setCell ⟨p, 4, none⟩ u4).heap.size = w.heap.size := by simp [World.setCell]
theorem At.store9 {w : World} {b : Nat} {x0 x1 x2 x3 x4 x5 x6 x7 x8 : Value} {t : TypeId} {m : Nat × Nat} (h : At w b (.cells #[x0, x1, x2, x3, x4, x5, x6, x7, x8] t m)) (u0 u1 u2 u3 u4 u5 u6 u7 u8 : Value) : At (((((((((w.setCell ⟨b, 0, none⟩ u0).setCell ⟨b, 1, none⟩ u1).setCell ⟨b, 2, none⟩ u2).setCell ⟨b, 3, none⟩ u3).setCell ⟨b, 4, none⟩ u4).setCell ⟨b, 5, none⟩ u5).setCell ⟨b, 6, none⟩ u6).setCell ⟨b, 7, none⟩ u7).setCell ⟨b, 8, none⟩ u8) b (.cells #[u0, u1, u2, u3, u4, u5, u6, u7, u8] t m) := by
  have k := (((((((((h.store 0 u0).store 1 u1).store 2 u2).store 3 u3).store 4 u4).store 5 u5).store 6 u6).store 7 u7).store 8 u8)
  simpa using k
theorem At.apart9 {w : World} {b : Nat} {o : Obj} (h : At w b o) {p : Nat} (hp : b ≠ p) (u0 u1 u2 u3 u4 u5 u6 u7 u8 : Value) : At (((((((((w.setCell ⟨p, 0, none⟩ u0).setCell ⟨p, 1, none⟩ u1).setCell ⟨p, 2, none⟩ u2).setCell ⟨p, 3, none⟩ u3).setCell ⟨p, 4, none⟩ u4).setCell ⟨p, 5, none⟩ u5).setCell ⟨p, 6, none⟩ u6).setCell ⟨p, 7, none⟩ u7).setCell ⟨p, 8, none⟩ u8) b o := (((((((((h.apart hp _).apart hp _).apart hp _).apart hp _).apart hp _).apart hp _).apart hp _).apart hp _).apart hp _)
theorem below_set9 {B : Nat} {a w : World} (h : Below B a w) {p : Nat} (hp : B ≤ p) (u0 u1 u2 u3 u4 u5 u6 u7 u8 : Value) : Below B a (((((((((w.setCell ⟨p, 0, none⟩ u0).setCell ⟨p, 1, none⟩ u1).setCell ⟨p, 2, none⟩ u2).setCell ⟨p, 3, none⟩ u3).setCell ⟨p, 4, none⟩ u4).setCell ⟨p, 5, none⟩ u5).setCell ⟨p, 6, none⟩ u6).setCell ⟨p, 7, none⟩ u7).setCell ⟨p, 8, none⟩ u8) := (below_set (below_set (below_set (below_set (below_set (below_set (below_set (below_set (below_set h hp _) hp _) hp _) hp _) hp _) hp _) hp _) hp _) hp _)
theorem size_set9 (w : World) (p : Nat) (u0 u1 u2 u3 u4 u5 u6 u7 u8 : Value) : (((((((((w.setCell ⟨p, 0, none⟩ u0).setCell ⟨p, 1, none⟩ u1).setCell ⟨p, 2, none⟩ u2).setCell ⟨p, 3, none⟩ u3).setCell ⟨p, 4, none⟩ u4).setCell ⟨p, 5, none⟩ u5).setCell ⟨p, 6, none⟩ u6).setCell ⟨p, 7, none⟩ u7).setCell ⟨p, 8, none⟩ u8).heap.size = w.heap.size := by simp [World.setCell]
end Go.Proofs.YtfbmlbenffkpfaaGreatDoor
namespace Go.Proofs.YtfbmlbenffkpfaaGreatDoor
set_option linter.unusedVariables false
set_option maxRecDepth 100000
open Go.RowKit
structure OneKept (b : Nat) (w w' : World) : Prop where
  os : w'.os = w.os
  tape : w'.tape = w.tape
  output : w'.output = w.output
  size : w.heap.size ≤ w'.heap.size
  block : ∀ k, k < w.heap.size → k ≠ b → w'.heap[k]? = w.heap[k]?
theorem OneKept.refl (b : Nat) (w : World) : OneKept b w w := ⟨rfl, rfl, rfl, Nat.le_refl _, fun _ _ _ => rfl⟩
theorem OneKept.of_below {b : Nat} {w w' : World} (h : Below w.heap.size w w') : OneKept b w w' := ⟨h.os, h.tape, h.output, h.size, fun k hk _ => h.block k hk⟩
theorem OneKept.trans {b : Nat} {w w1 w2 : World} (h : OneKept b w w1) (k : OneKept b w1 w2) : OneKept b w w2 :=
  ⟨k.os.trans h.os, k.tape.trans h.tape, k.output.trans h.output, Nat.le_trans h.size k.size, fun i hi hb => (k.block i (Nat.lt_of_lt_of_le hi h.size) hb).trans (h.block i hi hb)⟩
theorem OneKept.then_ {b : Nat} {w w1 w2 : World} (h : OneKept b w w1) (k : Below w1.heap.size w1 w2) : OneKept b w w2 := h.trans (.of_below k)
theorem OneKept.drew {b : Nat} {w w1 : World} (h : OneKept b w w1) : OneKept b w w1.drew := ⟨h.os, h.tape, h.output, h.size, h.block⟩
theorem OneKept.drewN {b : Nat} {w w1 : World} (h : OneKept b w w1) (n : Nat) : OneKept b w (w1.drewN n) := ⟨h.os, h.tape, h.output, h.size, h.block⟩
theorem OneKept.alloc {b : Nat} {w w1 : World} (h : OneKept b w w1) (o : Obj) : OneKept b w (w1.alloc o) := h.then_ (below_new (Below.refl _ _) o)
theorem oneKept_set (w : World) (b i : Nat) (u : Value) : OneKept b w (w.setCell ⟨b, i, none⟩ u) :=
  ⟨rfl, rfl, rfl, by simp [World.setCell], fun k hk hb => Below.heap_setCell w ⟨b, i, none⟩ u k hb⟩
theorem OneKept.set {b : Nat} {w w1 : World} (h : OneKept b w w1) (i : Nat) (u : Value) : OneKept b w (w1.setCell ⟨b, i, none⟩ u) := h.trans (oneKept_set w1 b i u)
theorem OneKept.setNew {b c : Nat} {w w1 : World} (h : OneKept b w w1) (hc : w.heap.size ≤ c) (i : Nat) (u : Value) : OneKept b w (w1.setCell ⟨c, i, none⟩ u) :=
  ⟨h.os, h.tape, h.output, by simpa [World.setCell] using h.size, fun k hk hb => (Below.heap_setCell w1 ⟨c, i, none⟩ u k (by simp only; omega)).trans (h.block k hk hb)⟩
theorem At.oneKept {w w' : World} {b i : Nat} {o : Obj} (h : At w i o) (k : OneKept b w w') (hb : i ≠ b) : At w' i o := (k.block i h.lt hb).trans h
theorem OneKept.below {B b : Nat} {a w w' : World} (k : OneKept b w w') (h : Below B a w) (hb : B ≤ b) (hB : B ≤ w.heap.size) : Below B a w' :=
  ⟨k.os.trans h.os, k.tape.trans h.tape, k.output.trans h.output, Nat.le_trans h.size k.size, fun i hi => (k.block i (by omega) (by omega)).trans (h.block i hi)⟩
theorem OneKept.below_own {b : Nat} {a w w' : World} (k : OneKept b w w') (h : Below a.heap.size a w) (hb : a.heap.size ≤ b) : Below a.heap.size a w' := k.below h hb h.size
end Go.Proofs.YtfbmlbenffkpfaaGreatDoor
namespace Go.Proofs.YtfbmlbenffkpfaaGreatDoor
set_option linter.unusedVariables false
open Go.RowKit
section
variable {P : Program} {l : List Oper} {Q : Exit → Act → World → Prop} {md : Region.Mode} {S : World → Prop}
theorem lex_take {i : Nat} {oi : Oper} {v : Value} {fuel : Nat} {listed : Array Bool} {a : Act} {w : World} (hi : l[i]? = some oi) (hs : Region.noSelect l.toArray = true) (hf : Region.free md l.toArray listed i = true)
    (hr : (Region.ready md l.toArray listed).contains i = true) (hQ : ∀ c a w, Q (.panic c) (a.put oi.dst v) w → Q (.panic c) a w) (hw : Region.wanted oi (yielded l.toArray a.tmps) = true)
    (hv : ∀ w, S w → (execOp a.eval oi).run P w = .ok (.value v) w) (hS : S w) (h : wpAnyH P md l.toArray Q S fuel (listed.setIfInBounds i true) (a.put oi.dst v) w) : wpAnyH P md l.toArray Q S (fuel + 1) listed a w :=
  wpAnyH_take (by simpa using hi) hs hf hr hQ (Or.inl ⟨hw, hv⟩) hS h
theorem lex_skip {i : Nat} {oi : Oper} {fuel : Nat} {listed : Array Bool} {a : Act} {w : World} (hi : l[i]? = some oi) (hs : Region.noSelect l.toArray = true) (hf : Region.free md l.toArray listed i = true)
    (hr : (Region.ready md l.toArray listed).contains i = true) (hQ : ∀ c a w, Q (.panic c) (a.put oi.dst undef) w → Q (.panic c) a w) (hw : Region.wanted oi (yielded l.toArray a.tmps) = false)
    (hS : S w) (h : wpAnyH P md l.toArray Q S fuel (listed.setIfInBounds i true) (a.put oi.dst undef) w) : wpAnyH P md l.toArray Q S (fuel + 1) listed a w :=
  wpAnyH_take (by simpa using hi) hs hf hr hQ (Or.inr ⟨hw, rfl⟩) hS h
theorem lex_step {i : Nat} {oi : Oper} {fuel : Nat} {listed : Array Bool} {a : Act} {w : World} (hi : l[i]? = some oi) (hr : Region.ready md l.toArray listed = [i]) (hw : Region.wanted oi (yielded l.toArray a.tmps) = true)
    (h : ∀ K' : Act → World → Prop, Shut (∀ a w, S w → (S w → wpAnyH P md l.toArray Q S fuel (listed.setIfInBounds i true) a w) → K' a w) → Oper.wp P oi a w K' Q) : wpAnyH P md l.toArray Q S (fuel + 1) listed a w :=
  wpAnyH_ready hr (by simp) (AllReadyH.cons (o := oi) (by simpa using hi) (fun K hK => by rw [if_pos hw]; exact h K hK) AllReadyH.nil)
end
end Go.Proofs.YtfbmlbenffkpfaaGreatDoor
