/- Several texts in one: Mem, Slices, Mem2, Store, Kept, Lex, LexN, TopA. -/
import Derived.Test.YtdmkghgachapaaaGreatDoorBase
import Derived.ProofKit
import Derived.OpenShut
import Derived.Lib.SmallJoins
import Derived.Deep.RegionHeld3
/- Slices of integers that came in, as lists: what the walks are told of memory. -/
namespace Go.Proofs.YtdmkghgachapaaaGreatDoor
set_option linter.unusedVariables false
set_option maxRecDepth 100000
open Go.RowKit Go.ChangeShapes Go.WideShapes

/-- The slice '.slice a n _' holds the numbers xs, below block B. -/
def Ints (w : World) (B : Nat) (a : Option Addr) (n : Nat) (xs : List Int) : Prop :=
  xs.length = n ∧ n ≤ 9223372036854775807 ∧ (∀ x ∈ xs, I64 x) ∧ (0 < n → ∃ b off, a = some ⟨b, off, none⟩ ∧ b < B ∧ ∀ i, i < n → w.cell? ⟨b, off + i, none⟩ = some (.int .i64 (xs.getD i 0)))
theorem Ints.below {w w' : World} {B B' : Nat} {a : Option Addr} {n : Nat} {xs : List Int} (h : Ints w B a n xs) (hb : Below B' w w') (hB : B ≤ B') : Ints w' B a n xs :=
  ⟨h.1, h.2.1, h.2.2.1, fun hn => by
    obtain ⟨b, off, e, hlt, hc⟩ := h.2.2.2 hn
    exact ⟨b, off, e, hlt, fun i hi => (hb.cell (p := ⟨b, off + i, none⟩) (Nat.lt_of_lt_of_le hlt hB)).trans (hc i hi)⟩⟩
theorem Ints.more {w : World} {B B' : Nat} {a : Option Addr} {n : Nat} {xs : List Int} (h : Ints w B a n xs) (hB : B ≤ B') : Ints w B' a n xs :=
  ⟨h.1, h.2.1, h.2.2.1, fun hn => by
    obtain ⟨b, off, e, hlt, hc⟩ := h.2.2.2 hn
    exact ⟨b, off, e, by omega, hc⟩⟩
theorem Ints.alloc {w : World} {B : Nat} {a : Option Addr} {n : Nat} {xs : List Int} (h : Ints w B a n xs) (hB : B ≤ w.heap.size) (o : Obj) : Ints (w.alloc o) B a n xs :=
  h.below ((Below.refl _ _).alloc (Nat.le_refl _) o) hB
theorem Ints.drewN {w : World} {B : Nat} {a : Option Addr} {n : Nat} {xs : List Int} (h : Ints w B a n xs) (m : Nat) : Ints (w.drewN m) B a n xs := h
theorem Ints.len {w : World} {B : Nat} {a : Option Addr} {n : Nat} {xs : List Int} (h : Ints w B a n xs) : xs.length = n := h.1
theorem Ints.at_ {w : World} {B : Nat} {a : Option Addr} {n : Nat} {xs : List Int} (h : Ints w B a n xs) {k : Nat} (hk : k < n) :
    ∃ b off x, a = some ⟨b, off, none⟩ ∧ b < B ∧ w.cell? ⟨b, off + k, none⟩ = some (.int .i64 x) ∧ xs[k]? = some x ∧ -9223372036854775808 ≤ x ∧ x ≤ 9223372036854775807 := by
  obtain ⟨b, off, e, hlt, hc⟩ := h.2.2.2 (by omega)
  have hl : k < xs.length := by have := h.1; omega
  have hx := List.getElem?_eq_getElem hl
  refine ⟨b, off, xs[k], e, hlt, ?_, hx, h.2.2.1 _ (List.getElem_mem hl)⟩
  have := hc k hk
  rwa [List.getD_eq_getElem?_getD, hx, Option.getD_some] at this

theorem Ints.far {w w1 w2 : World} {a : Option Addr} {n : Nat} {xs : List Int} (h : Ints w w.heap.size a n xs) (b : Below w.heap.size w w1) (b' : Below w1.heap.size w1 w2) : Ints w2 w2.heap.size a n xs :=
  ((h.below b (Nat.le_refl _)).below b' b.size).more (Nat.le_trans b.size b'.size)
theorem Ints.take {w : World} {B : Nat} {a : Option Addr} {n : Nat} {xs : List Int} (h : Ints w B a n xs) {k : Nat} (hk : k ≤ n) : Ints w B a k (xs.take k) :=
  ⟨by rw [List.length_take, h.1]; omega, Nat.le_trans hk h.2.1, fun x hx => h.2.2.1 x (List.mem_of_mem_take hx), fun hn => by
    obtain ⟨b, off, e, hlt, hc⟩ := h.2.2.2 (by omega)
    refine ⟨b, off, e, hlt, fun i hi => ?_⟩
    rw [hc i (by omega)]
    simp [List.getD_eq_getElem?_getD, hi]⟩
/-- A parameter, or a field, of type []int. -/
theorem open_Ints {H : Type} {enc : TypeId × Value → H} {W : World} {fuel : Nat} {v : Value} {x : DataW H × List MemPlace}
    (h : DataW.trod enc Tryz.prog W 0 (fun _ => true) true fuel 22 [v] = some x) :
    ∃ a n c xs, v = .slice a n c ∧ n ≤ c ∧ c ≤ 9223372036854775807 ∧ Ints W W.heap.size a n xs := by
  rcases open_ints Tryz.underlying22 Tryz.underlying3 (by kernel_rfl) h with ⟨hcs, _⟩ | ⟨a, l, c, zs, hcs, _, hl, hm, hz, _, hcell, hwz⟩
  · simp at hcs
    subst hcs
    exact ⟨none, 0, 0, [], rfl, by omega, by omega, rfl, by omega, by simp, fun h => absurd h (by omega)⟩
  · simp at hcs
    subst hcs
    unfold maxLen at hm
    refine ⟨some a, l, c, zs.take l, rfl, hl, by omega, ?_, by omega, fun z hz' => bounds_i64 (hwz z (List.mem_of_mem_take hz')), fun hn => ?_⟩
    · rw [List.length_take]; simp at hz; omega
    · obtain ⟨b, off, spot⟩ := a
      have hzl : zs.length = c := by simpa using hz
      have h0 := hcell 0 (by omega)
      have hspot : spot = none := by simpa [Addr.add] using World.cell?_spot h0
      subst hspot
      have hb : b < W.heap.size := by
        rcases Nat.lt_or_ge b W.heap.size with h' | h'
        · exact h'
        · simp [World.cell?, Addr.add, Array.getElem?_eq_none h'] at h0
      refine ⟨b, off, rfl, hb, fun i hi => ?_⟩
      have := hcell i (by omega)
      rw [show (List.take l zs).getD i 0 = zs.getD i 0 by simp [List.getD_eq_getElem?_getD, hi]]
      by_cases h0 : i = 0
      · subst h0; simpa [Addr.add] using this
      · simpa [Addr.add, h0] using this
end Go.Proofs.YtdmkghgachapaaaGreatDoor

/- Contracts of slices.Index and slices.Contains at []int. -/
namespace Go.Proofs.YtdmkghgachapaaaGreatDoor
set_option linter.unusedVariables false
set_option maxRecDepth 100000
open Go.RowKit

/-- Whether a list holds a number. -/
def hasB (x : Int) (xs : List Int) : Bool := decide (x ∈ xs)
theorem hasB_cases (x : Int) (xs : List Int) : (hasB x xs = true ∧ x ∈ xs) ∨ (hasB x xs = false ∧ ¬ x ∈ xs) := by
  by_cases c : x ∈ xs
  · exact .inl ⟨decide_eq_true c, c⟩
  · exact .inr ⟨decide_eq_false c, c⟩
theorem take_snoc {α : Type} {xs : List α} {k : Nat} {x : α} (h : xs[k]? = some x) : xs.take (k + 1) = xs.take k ++ [x] := by
  obtain ⟨hl, rfl⟩ := List.getElem?_eq_some_iff.1 h
  exact List.take_succ_eq_append_getElem hl

/-- What Index returns: -1, or a place. -/
def Placed (v : Int) (xs : List Int) (w : World) (e : Ending) (w' : World) : Prop :=
  ∃ i : Int, ((hasB v xs = true ∧ 0 ≤ i ∧ i ≤ 9223372036854775807) ∨ (hasB v xs = false ∧ i = -1)) ∧ e = .returned (.int .i64 i) ∧ w = w'
theorem slices_Index (w : World) (a : Option Addr) (n c : Nat) (xs : List Int) (v : Int) (B : Nat) (h : Ints w B a n xs) :
    Calls Tryz.prog 62 #[.slice a n c, .int .i64 v] w (Placed v xs w) := by
  have m1 := h.2.1
  have H := Lib.hid h; clear h
  go_enter Tryz.func62, Tryz.ntmps62
  go_wp2_with fail
  go_loop [5, 8] (fun _ i => ∃ k : Nat, k ≤ n ∧ i = .int .i64 k ∧ ¬ v ∈ xs.take k) (fun _ i => n - (intOf i).toNat)
  case atStart => exact ⟨0, by omega, rfl, by simp⟩
  case round =>
    obtain ⟨k, hk, rfl, hall⟩ := hrel
    have HA := Lib.hid hall; clear hall
    by_cases hlt : k < n
    · obtain ⟨b1, o1, x, rfl, hb1, hc1, hx, x1, x2⟩ := H.out.at_ hlt
      have HX := Lib.hid hx; clear hx
      by_cases hq : v = x
      · have hb : (v == x) = true := by simp [hq]
        have hf := Lib.hid (show hasB v xs = true from decide_eq_true (by rw [hq]; exact List.mem_of_getElem? HX.out))
        clear hq
        go_wp2_with fail
        go_ret
        exact ⟨k, .inl ⟨hf.out, by omega, by omega⟩, rfl, rfl⟩
      · have hb : (v == x) = false := by simp [hq]
        have HQ := Lib.hid hq; clear hq
        go_wp2_with fail
        go_round
        case rel =>
          refine ⟨k + 1, by omega, by go_num, ?_⟩
          rw [take_snoc HX.out, List.mem_append, List.mem_singleton]
          exact fun h => h.elim HA.out HQ.out
        case measure => simp [intOf]; omega
    · go_wp2_with fail
      go_ret
      refine ⟨-1, .inr ⟨decide_eq_false ?_, rfl⟩, rfl, rfl⟩
      have := HA.out
      rwa [List.take_of_length_le (by have := H.out.1; omega)] at this
theorem slices_Contains (w : World) (a : Option Addr) (n c : Nat) (xs : List Int) (v : Int) (B : Nat) (h : Ints w B a n xs) :
    Calls Tryz.prog 37 #[.slice a n c, .int .i64 v] w fun e w' => e = .returned (.bool (hasB v xs)) ∧ w = w' := by
  go_enter Tryz.func37, Tryz.ntmps37
  have H := Lib.hid h; clear h
  go_wp2_with fail
  refine (slices_Index _ a n c xs v B H.out).mono ?_
  rintro e w' ⟨i, hi, rfl, rfl⟩
  rcases hi with ⟨hf, i1, i2⟩ | ⟨hf, rfl⟩
  · have HF := Lib.hid hf; clear hf
    go_wp2_with fail
    go_ret
    exact ⟨ret_bool (by rw [HF.out]), rfl⟩
  · have HF := Lib.hid hf; clear hf
    go_wp2_with fail
    go_ret
    exact ⟨ret_bool (by rw [HF.out]), rfl⟩
end Go.Proofs.YtdmkghgachapaaaGreatDoor

/- Blocks that the call itself made, known whole; literal slices of integers. -/
namespace Go.Proofs.YtdmkghgachapaaaGreatDoor
set_option linter.unusedVariables false
set_option maxRecDepth 100000
open Go.RowKit

/-- Block b of w is just the object o. -/
def At (w : World) (b : Nat) (o : Obj) : Prop := w.heap[b]? = some o
theorem At.lt {w : World} {b : Nat} {o : Obj} (h : At w b o) : b < w.heap.size := by
  rcases Nat.lt_or_ge b w.heap.size with hlt | hge
  · exact hlt
  · unfold At at h; rw [Array.getElem?_eq_none hge] at h; cases h
theorem At.new (w : World) (o : Obj) : At (w.alloc o) w.heap.size o := heap_alloc_new w o
theorem At.newAt (w : World) (o : Obj) (b : Nat) (h : b = w.heap.size) : At (w.alloc o) b o := by subst h; exact At.new w o
theorem At.new1 (w : World) (o o1 : Obj) : At ((w.alloc o).alloc o1) (w.heap.size + 1) o1 := by
  have := At.new (w.alloc o) o1; simpa using this
theorem At.new2 (w : World) (o o1 o2 : Obj) : At (((w.alloc o).alloc o1).alloc o2) (w.heap.size + 1 + 1) o2 := by
  have := At.new1 (w.alloc o) o1 o2; simpa using this
theorem At.new3 (w : World) (o o1 o2 o3 : Obj) : At ((((w.alloc o).alloc o1).alloc o2).alloc o3) (w.heap.size + 1 + 1 + 1) o3 := by
  have := At.new2 (w.alloc o) o1 o2 o3; simpa using this
theorem At.alloc {w : World} {b : Nat} {o : Obj} (h : At w b o) (o' : Obj) : At (w.alloc o') b o := (Below.heap_alloc w o' b h.lt).trans h
theorem At.drewN {w : World} {b : Nat} {o : Obj} (h : At w b o) (n : Nat) : At (w.drewN n) b o := h
theorem At.drew {w : World} {b : Nat} {o : Obj} (h : At w b o) : At w.drew b o := h
theorem At.drawn {w w' : World} {b : Nat} {o : Obj} (h : At w b o) (d : Drawn w w') : At w' b o := by obtain ⟨n, rfl⟩ := d; exact h
theorem At.then_ {w w' : World} {b : Nat} {o : Obj} (h : At w b o) (k : Below w.heap.size w w') : At w' b o := (k.block b h.lt).trans h
theorem At.below {B : Nat} {w w' : World} {b : Nat} {o : Obj} (h : At w b o) (hb : Below B w w') (hB : b < B) : At w' b o := (hb.block b hB).trans h
theorem At.cell {w : World} {b : Nat} {cs : Array Value} {t : TypeId} {m : Nat × Nat} (h : At w b (.cells cs t m)) (i : Nat) : w.cell? ⟨b, i, none⟩ = cs[i]? := cell_of_row w b i cs t m h
theorem At.frozen {w : World} {b : Nat} {cs : Array Value} {t : TypeId} (h : At w b (.cells cs t)) (i : Nat) : w.frozen? ⟨b, i, none⟩ = false := by
  unfold At at h
  simp [World.frozen?, h]
theorem At.ints {w : World} {b : Nat} {t : TypeId} {m : Nat × Nat} (zs : List Int) (h : At w b (.cells (zs.map (Value.int .i64)).toArray t m)) (hI : ∀ x ∈ zs, I64 x) (hn : zs.length ≤ 9223372036854775807) :
    Ints w w.heap.size (some ⟨b, 0, none⟩) zs.length zs :=
  ⟨rfl, hn, hI, fun _ => ⟨b, 0, rfl, h.lt, fun i hi => by
    rw [h.cell (0 + i)]
    simp [hi]⟩⟩

/-! What a region that draws its order keeps: some cells of a block of the caller's own, and all that was there. -/
theorem keep1 {w1 W w' : World} {b : Nat} {v0 : Value} (h : W.cell? ⟨b, 0, none⟩ = some v0 ∧ Below w1.heap.size w1 W) (hb : Below W.heap.size W w') (hB : b < w1.heap.size) : w'.cell? ⟨b, 0, none⟩ = some v0 ∧ Below w1.heap.size w1 w' := by
  obtain ⟨h0, hk⟩ := h
  have hlt : b < W.heap.size := Nat.lt_of_lt_of_le hB hk.size
  exact ⟨(hb.cell (p := ⟨b, 0, none⟩) hlt).trans h0, hk.trans (hb.mono hk.size)⟩
theorem keep2 {w1 W w' : World} {b : Nat} {v0 v1 : Value} (h : W.cell? ⟨b, 0, none⟩ = some v0 ∧ W.cell? ⟨b, 1, none⟩ = some v1 ∧ Below w1.heap.size w1 W) (hb : Below W.heap.size W w') (hB : b < w1.heap.size) : w'.cell? ⟨b, 0, none⟩ = some v0 ∧ w'.cell? ⟨b, 1, none⟩ = some v1 ∧ Below w1.heap.size w1 w' := by
  obtain ⟨h0, h1, hk⟩ := h
  have hlt : b < W.heap.size := Nat.lt_of_lt_of_le hB hk.size
  exact ⟨(hb.cell (p := ⟨b, 0, none⟩) hlt).trans h0, (hb.cell (p := ⟨b, 1, none⟩) hlt).trans h1, hk.trans (hb.mono hk.size)⟩
theorem keep3 {w1 W w' : World} {b : Nat} {v0 v1 v2 : Value} (h : W.cell? ⟨b, 0, none⟩ = some v0 ∧ W.cell? ⟨b, 1, none⟩ = some v1 ∧ W.cell? ⟨b, 2, none⟩ = some v2 ∧ Below w1.heap.size w1 W) (hb : Below W.heap.size W w') (hB : b < w1.heap.size) : w'.cell? ⟨b, 0, none⟩ = some v0 ∧ w'.cell? ⟨b, 1, none⟩ = some v1 ∧ w'.cell? ⟨b, 2, none⟩ = some v2 ∧ Below w1.heap.size w1 w' := by
  obtain ⟨h0, h1, h2, hk⟩ := h
  have hlt : b < W.heap.size := Nat.lt_of_lt_of_le hB hk.size
  exact ⟨(hb.cell (p := ⟨b, 0, none⟩) hlt).trans h0, (hb.cell (p := ⟨b, 1, none⟩) hlt).trans h1, (hb.cell (p := ⟨b, 2, none⟩) hlt).trans h2, hk.trans (hb.mono hk.size)⟩
theorem keep4 {w1 W w' : World} {b : Nat} {v0 v1 v2 v3 : Value} (h : W.cell? ⟨b, 0, none⟩ = some v0 ∧ W.cell? ⟨b, 1, none⟩ = some v1 ∧ W.cell? ⟨b, 2, none⟩ = some v2 ∧ W.cell? ⟨b, 3, none⟩ = some v3 ∧ Below w1.heap.size w1 W) (hb : Below W.heap.size W w') (hB : b < w1.heap.size) : w'.cell? ⟨b, 0, none⟩ = some v0 ∧ w'.cell? ⟨b, 1, none⟩ = some v1 ∧ w'.cell? ⟨b, 2, none⟩ = some v2 ∧ w'.cell? ⟨b, 3, none⟩ = some v3 ∧ Below w1.heap.size w1 w' := by
  obtain ⟨h0, h1, h2, h3, hk⟩ := h
  have hlt : b < W.heap.size := Nat.lt_of_lt_of_le hB hk.size
  exact ⟨(hb.cell (p := ⟨b, 0, none⟩) hlt).trans h0, (hb.cell (p := ⟨b, 1, none⟩) hlt).trans h1, (hb.cell (p := ⟨b, 2, none⟩) hlt).trans h2, (hb.cell (p := ⟨b, 3, none⟩) hlt).trans h3, hk.trans (hb.mono hk.size)⟩
theorem keep5 {w1 W w' : World} {b : Nat} {v0 v1 v2 v3 v4 : Value} (h : W.cell? ⟨b, 0, none⟩ = some v0 ∧ W.cell? ⟨b, 1, none⟩ = some v1 ∧ W.cell? ⟨b, 2, none⟩ = some v2 ∧ W.cell? ⟨b, 3, none⟩ = some v3 ∧ W.cell? ⟨b, 4, none⟩ = some v4 ∧ Below w1.heap.size w1 W) (hb : Below W.heap.size W w') (hB : b < w1.heap.size) : w'.cell? ⟨b, 0, none⟩ = some v0 ∧ w'.cell? ⟨b, 1, none⟩ = some v1 ∧ w'.cell? ⟨b, 2, none⟩ = some v2 ∧ w'.cell? ⟨b, 3, none⟩ = some v3 ∧ w'.cell? ⟨b, 4, none⟩ = some v4 ∧ Below w1.heap.size w1 w' := by
  obtain ⟨h0, h1, h2, h3, h4, hk⟩ := h
  have hlt : b < W.heap.size := Nat.lt_of_lt_of_le hB hk.size
  exact ⟨(hb.cell (p := ⟨b, 0, none⟩) hlt).trans h0, (hb.cell (p := ⟨b, 1, none⟩) hlt).trans h1, (hb.cell (p := ⟨b, 2, none⟩) hlt).trans h2, (hb.cell (p := ⟨b, 3, none⟩) hlt).trans h3, (hb.cell (p := ⟨b, 4, none⟩) hlt).trans h4, hk.trans (hb.mono hk.size)⟩
theorem keep6 {w1 W w' : World} {b : Nat} {v0 v1 v2 v3 v4 v5 : Value} (h : W.cell? ⟨b, 0, none⟩ = some v0 ∧ W.cell? ⟨b, 1, none⟩ = some v1 ∧ W.cell? ⟨b, 2, none⟩ = some v2 ∧ W.cell? ⟨b, 3, none⟩ = some v3 ∧ W.cell? ⟨b, 4, none⟩ = some v4 ∧ W.cell? ⟨b, 5, none⟩ = some v5 ∧ Below w1.heap.size w1 W) (hb : Below W.heap.size W w') (hB : b < w1.heap.size) : w'.cell? ⟨b, 0, none⟩ = some v0 ∧ w'.cell? ⟨b, 1, none⟩ = some v1 ∧ w'.cell? ⟨b, 2, none⟩ = some v2 ∧ w'.cell? ⟨b, 3, none⟩ = some v3 ∧ w'.cell? ⟨b, 4, none⟩ = some v4 ∧ w'.cell? ⟨b, 5, none⟩ = some v5 ∧ Below w1.heap.size w1 w' := by
  obtain ⟨h0, h1, h2, h3, h4, h5, hk⟩ := h
  have hlt : b < W.heap.size := Nat.lt_of_lt_of_le hB hk.size
  exact ⟨(hb.cell (p := ⟨b, 0, none⟩) hlt).trans h0, (hb.cell (p := ⟨b, 1, none⟩) hlt).trans h1, (hb.cell (p := ⟨b, 2, none⟩) hlt).trans h2, (hb.cell (p := ⟨b, 3, none⟩) hlt).trans h3, (hb.cell (p := ⟨b, 4, none⟩) hlt).trans h4, (hb.cell (p := ⟨b, 5, none⟩) hlt).trans h5, hk.trans (hb.mono hk.size)⟩
theorem keep7 {w1 W w' : World} {b : Nat} {v0 v1 v2 v3 v4 v5 v6 : Value} (h : W.cell? ⟨b, 0, none⟩ = some v0 ∧ W.cell? ⟨b, 1, none⟩ = some v1 ∧ W.cell? ⟨b, 2, none⟩ = some v2 ∧ W.cell? ⟨b, 3, none⟩ = some v3 ∧ W.cell? ⟨b, 4, none⟩ = some v4 ∧ W.cell? ⟨b, 5, none⟩ = some v5 ∧ W.cell? ⟨b, 6, none⟩ = some v6 ∧ Below w1.heap.size w1 W) (hb : Below W.heap.size W w') (hB : b < w1.heap.size) : w'.cell? ⟨b, 0, none⟩ = some v0 ∧ w'.cell? ⟨b, 1, none⟩ = some v1 ∧ w'.cell? ⟨b, 2, none⟩ = some v2 ∧ w'.cell? ⟨b, 3, none⟩ = some v3 ∧ w'.cell? ⟨b, 4, none⟩ = some v4 ∧ w'.cell? ⟨b, 5, none⟩ = some v5 ∧ w'.cell? ⟨b, 6, none⟩ = some v6 ∧ Below w1.heap.size w1 w' := by
  obtain ⟨h0, h1, h2, h3, h4, h5, h6, hk⟩ := h
  have hlt : b < W.heap.size := Nat.lt_of_lt_of_le hB hk.size
  exact ⟨(hb.cell (p := ⟨b, 0, none⟩) hlt).trans h0, (hb.cell (p := ⟨b, 1, none⟩) hlt).trans h1, (hb.cell (p := ⟨b, 2, none⟩) hlt).trans h2, (hb.cell (p := ⟨b, 3, none⟩) hlt).trans h3, (hb.cell (p := ⟨b, 4, none⟩) hlt).trans h4, (hb.cell (p := ⟨b, 5, none⟩) hlt).trans h5, (hb.cell (p := ⟨b, 6, none⟩) hlt).trans h6, hk.trans (hb.mono hk.size)⟩
theorem keep8 {w1 W w' : World} {b : Nat} {v0 v1 v2 v3 v4 v5 v6 v7 : Value} (h : W.cell? ⟨b, 0, none⟩ = some v0 ∧ W.cell? ⟨b, 1, none⟩ = some v1 ∧ W.cell? ⟨b, 2, none⟩ = some v2 ∧ W.cell? ⟨b, 3, none⟩ = some v3 ∧ W.cell? ⟨b, 4, none⟩ = some v4 ∧ W.cell? ⟨b, 5, none⟩ = some v5 ∧ W.cell? ⟨b, 6, none⟩ = some v6 ∧ W.cell? ⟨b, 7, none⟩ = some v7 ∧ Below w1.heap.size w1 W) (hb : Below W.heap.size W w') (hB : b < w1.heap.size) : w'.cell? ⟨b, 0, none⟩ = some v0 ∧ w'.cell? ⟨b, 1, none⟩ = some v1 ∧ w'.cell? ⟨b, 2, none⟩ = some v2 ∧ w'.cell? ⟨b, 3, none⟩ = some v3 ∧ w'.cell? ⟨b, 4, none⟩ = some v4 ∧ w'.cell? ⟨b, 5, none⟩ = some v5 ∧ w'.cell? ⟨b, 6, none⟩ = some v6 ∧ w'.cell? ⟨b, 7, none⟩ = some v7 ∧ Below w1.heap.size w1 w' := by
  obtain ⟨h0, h1, h2, h3, h4, h5, h6, h7, hk⟩ := h
  have hlt : b < W.heap.size := Nat.lt_of_lt_of_le hB hk.size
  exact ⟨(hb.cell (p := ⟨b, 0, none⟩) hlt).trans h0, (hb.cell (p := ⟨b, 1, none⟩) hlt).trans h1, (hb.cell (p := ⟨b, 2, none⟩) hlt).trans h2, (hb.cell (p := ⟨b, 3, none⟩) hlt).trans h3, (hb.cell (p := ⟨b, 4, none⟩) hlt).trans h4, (hb.cell (p := ⟨b, 5, none⟩) hlt).trans h5, (hb.cell (p := ⟨b, 6, none⟩) hlt).trans h6, (hb.cell (p := ⟨b, 7, none⟩) hlt).trans h7, hk.trans (hb.mono hk.size)⟩
theorem last1 {P0 R : Prop} (h : P0 ∧ R) : R := h.2
theorem last2 {P0 P1 R : Prop} (h : P0 ∧ P1 ∧ R) : R := h.2.2
theorem last3 {P0 P1 P2 R : Prop} (h : P0 ∧ P1 ∧ P2 ∧ R) : R := h.2.2.2
theorem last4 {P0 P1 P2 P3 R : Prop} (h : P0 ∧ P1 ∧ P2 ∧ P3 ∧ R) : R := h.2.2.2.2
theorem last5 {P0 P1 P2 P3 P4 R : Prop} (h : P0 ∧ P1 ∧ P2 ∧ P3 ∧ P4 ∧ R) : R := h.2.2.2.2.2
theorem last6 {P0 P1 P2 P3 P4 P5 R : Prop} (h : P0 ∧ P1 ∧ P2 ∧ P3 ∧ P4 ∧ P5 ∧ R) : R := h.2.2.2.2.2.2
theorem last7 {P0 P1 P2 P3 P4 P5 P6 R : Prop} (h : P0 ∧ P1 ∧ P2 ∧ P3 ∧ P4 ∧ P5 ∧ P6 ∧ R) : R := h.2.2.2.2.2.2.2
theorem last8 {P0 P1 P2 P3 P4 P5 P6 P7 R : Prop} (h : P0 ∧ P1 ∧ P2 ∧ P3 ∧ P4 ∧ P5 ∧ P6 ∧ P7 ∧ R) : R := h.2.2.2.2.2.2.2.2
end Go.Proofs.YtdmkghgachapaaaGreatDoor

/- Stores into a block of the call's own. -/
namespace Go.Proofs.YtdmkghgachapaaaGreatDoor
set_option linter.unusedVariables false
set_option maxRecDepth 100000
open Go.RowKit
theorem At.store {w : World} {b : Nat} {cs : Array Value} {t : TypeId} {m : Nat × Nat} (h : At w b (.cells cs t m)) (i : Nat) (u : Value) : At (w.setCell ⟨b, i, none⟩ u) b (.cells (cs.setIfInBounds i u) t m) := by
  unfold At at h ⊢
  simp [World.setCell, Array.getElem?_modify, h]
theorem At.apart {w : World} {b : Nat} {o : Obj} (h : At w b o) {p : Addr} (hp : b ≠ p.block) (u : Value) : At (w.setCell p u) b o := (Below.heap_setCell w p u b hp).trans h
theorem At.store2 {w : World} {b : Nat} {x y : Value} {t : TypeId} {m : Nat × Nat} (h : At w b (.cells #[x, y] t m)) (u v : Value) : At ((w.setCell ⟨b, 0, none⟩ u).setCell ⟨b, 1, none⟩ v) b (.cells #[u, v] t m) := (h.store 0 u).store 1 v
theorem At.store3 {w : World} {b : Nat} {x0 x1 x2 : Value} {t : TypeId} {m : Nat × Nat} (h : At w b (.cells #[x0, x1, x2] t m)) (u0 u1 u2 : Value) : At (((w.setCell ⟨b, 0, none⟩ u0).setCell ⟨b, 1, none⟩ u1).setCell ⟨b, 2, none⟩ u2) b (.cells #[u0, u1, u2] t m) := by
  have k := (((h.store 0 u0).store 1 u1).store 2 u2)
  simpa using k
theorem At.apart3 {w : World} {b : Nat} {o : Obj} (h : At w b o) {p : Nat} (hp : b ≠ p) (u0 u1 u2 : Value) : At (((w.setCell ⟨p, 0, none⟩ u0).setCell ⟨p, 1, none⟩ u1).setCell ⟨p, 2, none⟩ u2) b o := (((h.apart hp _).apart hp _).apart hp _)
theorem below_set3 {B : Nat} {a w : World} (h : Below B a w) {p : Nat} (hp : B ≤ p) (u0 u1 u2 : Value) : Below B a (((w.setCell ⟨p, 0, none⟩ u0).setCell ⟨p, 1, none⟩ u1).setCell ⟨p, 2, none⟩ u2) := (below_set (below_set (below_set h hp _) hp _) hp _)
theorem size_set3 (w : World) (p : Nat) (u0 u1 u2 : Value) : (((w.setCell ⟨p, 0, none⟩ u0).setCell ⟨p, 1, none⟩ u1).setCell ⟨p, 2, none⟩ u2).heap.size = w.heap.size := by simp [World.setCell]
theorem At.store5 {w : World} {b : Nat} {x0 x1 x2 x3 x4 : Value} {t : TypeId} {m : Nat × Nat} (h : At w b (.cells #[x0, x1, x2, x3, x4] t m)) (u0 u1 u2 u3 u4 : Value) : At (((((w.setCell ⟨b, 0, none⟩ u0).setCell ⟨b, 1, none⟩ u1).setCell ⟨b, 2, none⟩ u2).setCell ⟨b, 3, none⟩ u3).setCell ⟨b, 4, none⟩ u4) b (.cells #[u0, u1, u2, u3, u4] t m) := by
  have k := (((((h.store 0 u0).store 1 u1).store 2 u2).store 3 u3).store 4 u4)
  simpa using k
theorem At.apart5 {w : World} {b : Nat} {o : Obj} (h : At w b o) {p : Nat} (hp : b ≠ p) (u0 u1 u2 u3 u4 : Value) : At (((((w.setCell ⟨p, 0, none⟩ u0).setCell ⟨p, 1, none⟩ u1).setCell ⟨p, 2, none⟩ u2).setCell ⟨p, 3, none⟩ u3).setCell ⟨p, 4, none⟩ u4) b o := (((((h.apart hp _).apart hp _).apart hp _).apart hp _).apart hp _)
theorem below_set5 {B : Nat} {a w : World} (h : Below B a w) {p : Nat} (hp : B ≤ p) (u0 u1 u2 u3 u4 : Value) : Below B a (((((w.setCell ⟨p, 0, none⟩ u0).setCell ⟨p, 1, none⟩ u1).setCell ⟨p, 2, none⟩ u2).setCell ⟨p, 3, none⟩ u3).setCell ⟨p, 4, none⟩ u4) := (below_set (below_set (below_set (below_set (below_set h hp _) hp _) hp _) hp _) hp _)
theorem size_set5 (w : World) (p : Nat) (u0 u1 u2 u3 u4 : Value) : (((((w.setCell ⟨p, 0, none⟩ u0).setCell ⟨p, 1, none⟩ u1).setCell ⟨p, 2, none⟩ u2).setCell ⟨p, 3, none⟩ u3).setCell ⟨p, 4, none⟩ u4).heap.size = w.heap.size := by simp [World.setCell]
theorem At.store9 {w : World} {b : Nat} {x0 x1 x2 x3 x4 x5 x6 x7 x8 : Value} {t : TypeId} {m : Nat × Nat} (h : At w b (.cells #[x0, x1, x2, x3, x4, x5, x6, x7, x8] t m)) (u0 u1 u2 u3 u4 u5 u6 u7 u8 : Value) : At (((((((((w.setCell ⟨b, 0, none⟩ u0).setCell ⟨b, 1, none⟩ u1).setCell ⟨b, 2, none⟩ u2).setCell ⟨b, 3, none⟩ u3).setCell ⟨b, 4, none⟩ u4).setCell ⟨b, 5, none⟩ u5).setCell ⟨b, 6, none⟩ u6).setCell ⟨b, 7, none⟩ u7).setCell ⟨b, 8, none⟩ u8) b (.cells #[u0, u1, u2, u3, u4, u5, u6, u7, u8] t m) := by
  have k := (((((((((h.store 0 u0).store 1 u1).store 2 u2).store 3 u3).store 4 u4).store 5 u5).store 6 u6).store 7 u7).store 8 u8)
  simpa using k
theorem At.apart9 {w : World} {b : Nat} {o : Obj} (h : At w b o) {p : Nat} (hp : b ≠ p) (u0 u1 u2 u3 u4 u5 u6 u7 u8 : Value) : At (((((((((w.setCell ⟨p, 0, none⟩ u0).setCell ⟨p, 1, none⟩ u1).setCell ⟨p, 2, none⟩ u2).setCell ⟨p, 3, none⟩ u3).setCell ⟨p, 4, none⟩ u4).setCell ⟨p, 5, none⟩ u5).setCell ⟨p, 6, none⟩ u6).setCell ⟨p, 7, none⟩ u7).setCell ⟨p, 8, none⟩ u8) b o := (((((((((h.apart hp _).apart hp _).apart hp _).apart hp _).apart hp _).apart hp _).apart hp _).apart hp _).apart hp _)
theorem below_set9 {B : Nat} {a w : World} (h : Below B a w) {p : Nat} (hp : B ≤ p) (u0 u1 u2 u3 u4 u5 u6 u7 u8 : Value) : Below B a (((((((((w.setCell ⟨p, 0, none⟩ u0).setCell ⟨p, 1, none⟩ u1).setCell ⟨p, 2, none⟩ u2).setCell ⟨p, 3, none⟩ u3).setCell ⟨p, 4, none⟩ u4).setCell ⟨p, 5, none⟩ u5).setCell ⟨p, 6, none⟩ u6).setCell ⟨p, 7, none⟩ u7).setCell ⟨p, 8, none⟩ u8) := (below_set (below_set (below_set (below_set (below_set (below_set (below_set (below_set (below_set h hp _) hp _) hp _) hp _) hp _) hp _) hp _) hp _) hp _)
theorem size_set9 (w : World) (p : Nat) (u0 u1 u2 u3 u4 u5 u6 u7 u8 : Value) : (((((((((w.setCell ⟨p, 0, none⟩ u0).setCell ⟨p, 1, none⟩ u1).setCell ⟨p, 2, none⟩ u2).setCell ⟨p, 3, none⟩ u3).setCell ⟨p, 4, none⟩ u4).setCell ⟨p, 5, none⟩ u5).setCell ⟨p, 6, none⟩ u6).setCell ⟨p, 7, none⟩ u7).setCell ⟨p, 8, none⟩ u8).heap.size = w.heap.size := by simp [World.setCell]
end Go.Proofs.YtdmkghgachapaaaGreatDoor

/- A callee that writes one block of the caller's: everything else that was there is kept. -/
namespace Go.Proofs.YtdmkghgachapaaaGreatDoor
set_option linter.unusedVariables false
set_option maxRecDepth 100000
open Go.RowKit

/-- All blocks of w but b are kept. -/
structure OneKept (b : Nat) (w w' : World) : Prop where
  os : w'.os = w.os
  tape : w'.tape = w.tape
  output : w'.output = w.output
  size : w.heap.size ≤ w'.heap.size
  block : ∀ k, k < w.heap.size → k ≠ b → w'.heap[k]? = w.heap[k]?
theorem OneKept.refl (b : Nat) (w : World) : OneKept b w w := ⟨rfl, rfl, rfl, Nat.le_refl _, fun _ _ _ => rfl⟩
theorem OneKept.of_below {b : Nat} {w w' : World} (h : Below w.heap.size w w') : OneKept b w w' := ⟨h.os, h.tape, h.output, h.size, fun k hk _ => h.block k hk⟩
theorem OneKept.trans {b : Nat} {w w1 w2 : World} (h : OneKept b w w1) (k : OneKept b w1 w2) : OneKept b w w2 :=
  ⟨k.os.trans h.os, k.tape.trans h.tape, k.output.trans h.output, Nat.le_trans h.size k.size, fun i hi hb => (k.block i (Nat.lt_of_lt_of_le hi h.size) hb).trans (h.block i hi hb)⟩
theorem OneKept.then_ {b : Nat} {w w1 w2 : World} (h : OneKept b w w1) (k : Below w1.heap.size w1 w2) : OneKept b w w2 := h.trans (.of_below k)
theorem OneKept.drew {b : Nat} {w w1 : World} (h : OneKept b w w1) : OneKept b w w1.drew := ⟨h.os, h.tape, h.output, h.size, h.block⟩
theorem OneKept.drewN {b : Nat} {w w1 : World} (h : OneKept b w w1) (n : Nat) : OneKept b w (w1.drewN n) := ⟨h.os, h.tape, h.output, h.size, h.block⟩
theorem OneKept.alloc {b : Nat} {w w1 : World} (h : OneKept b w w1) (o : Obj) : OneKept b w (w1.alloc o) := h.then_ (below_new (Below.refl _ _) o)
theorem oneKept_set (w : World) (b i : Nat) (u : Value) : OneKept b w (w.setCell ⟨b, i, none⟩ u) :=
  ⟨rfl, rfl, rfl, by simp [World.setCell], fun k hk hb => Below.heap_setCell w ⟨b, i, none⟩ u k hb⟩
theorem OneKept.set {b : Nat} {w w1 : World} (h : OneKept b w w1) (i : Nat) (u : Value) : OneKept b w (w1.setCell ⟨b, i, none⟩ u) := h.trans (oneKept_set w1 b i u)
theorem OneKept.setNew {b c : Nat} {w w1 : World} (h : OneKept b w w1) (hc : w.heap.size ≤ c) (i : Nat) (u : Value) : OneKept b w (w1.setCell ⟨c, i, none⟩ u) :=
  ⟨h.os, h.tape, h.output, by simpa [World.setCell] using h.size, fun k hk hb => (Below.heap_setCell w1 ⟨c, i, none⟩ u k (by simp only; omega)).trans (h.block k hk hb)⟩
theorem At.oneKept {w w' : World} {b i : Nat} {o : Obj} (h : At w i o) (k : OneKept b w w') (hb : i ≠ b) : At w' i o := (k.block i h.lt hb).trans h
theorem OneKept.below {B b : Nat} {a w w' : World} (k : OneKept b w w') (h : Below B a w) (hb : B ≤ b) (hB : B ≤ w.heap.size) : Below B a w' :=
  ⟨k.os.trans h.os, k.tape.trans h.tape, k.output.trans h.output, Nat.le_trans h.size k.size, fun i hi => (k.block i (by omega) (by omega)).trans (h.block i hi)⟩
theorem OneKept.below_own {b : Nat} {a w w' : World} (k : OneKept b w w') (h : Below a.heap.size a w) (hb : a.heap.size ≤ b) : Below a.heap.size a w' := k.below h hb h.size
end Go.Proofs.YtdmkghgachapaaaGreatDoor

/- A region that draws its order, walked one operation after the other: what is guarded and not wanted, what yields, what is carried out. -/
namespace Go.Proofs.YtdmkghgachapaaaGreatDoor
set_option linter.unusedVariables false
open Go.RowKit

section
variable {P : Program} {l : List Oper} {Q : Exit → Act → World → Prop} {md : Region.Mode} {S : World → Prop}
/-- Operation i yields v in every world that meets S: it is taken first. -/
theorem lex_take {i : Nat} {oi : Oper} {v : Value} {fuel : Nat} {listed : Array Bool} {a : Act} {w : World} (hi : l[i]? = some oi) (hs : Region.noSelect l.toArray = true) (hf : Region.free md l.toArray listed i = true)
    (hr : (Region.ready md l.toArray listed).contains i = true) (hQ : ∀ c a w, Q (.panic c) (a.put oi.dst v) w → Q (.panic c) a w) (hw : Region.wanted oi (yielded l.toArray a.tmps) = true)
    (hv : ∀ w, S w → (execOp a.eval oi).run P w = .ok (.value v) w) (hS : S w) (h : wpAnyH P md l.toArray Q S fuel (listed.setIfInBounds i true) (a.put oi.dst v) w) : wpAnyH P md l.toArray Q S (fuel + 1) listed a w :=
  wpAnyH_take (by simpa using hi) hs hf hr hQ (Or.inl ⟨hw, hv⟩) hS h
/-- Operation i is guarded, and not wanted. -/
theorem lex_skip {i : Nat} {oi : Oper} {fuel : Nat} {listed : Array Bool} {a : Act} {w : World} (hi : l[i]? = some oi) (hs : Region.noSelect l.toArray = true) (hf : Region.free md l.toArray listed i = true)
    (hr : (Region.ready md l.toArray listed).contains i = true) (hQ : ∀ c a w, Q (.panic c) (a.put oi.dst undef) w → Q (.panic c) a w) (hw : Region.wanted oi (yielded l.toArray a.tmps) = false)
    (hS : S w) (h : wpAnyH P md l.toArray Q S fuel (listed.setIfInBounds i true) (a.put oi.dst undef) w) : wpAnyH P md l.toArray Q S (fuel + 1) listed a w :=
  wpAnyH_take (by simpa using hi) hs hf hr hQ (Or.inr ⟨hw, rfl⟩) hS h
/-- Operation i alone may come up: it is carried out. -/
theorem lex_step {i : Nat} {oi : Oper} {fuel : Nat} {listed : Array Bool} {a : Act} {w : World} (hi : l[i]? = some oi) (hr : Region.ready md l.toArray listed = [i]) (hw : Region.wanted oi (yielded l.toArray a.tmps) = true)
    (h : ∀ K' : Act → World → Prop, Shut (∀ a w, S w → (S w → wpAnyH P md l.toArray Q S fuel (listed.setIfInBounds i true) a w) → K' a w) → Oper.wp P oi a w K' Q) : wpAnyH P md l.toArray Q S (fuel + 1) listed a w :=
  wpAnyH_ready hr (by simp) (AllReadyH.cons (o := oi) (by simpa using hi) (fun K hK => by rw [if_pos hw]; exact h K hK) AllReadyH.nil)
end
end Go.Proofs.YtdmkghgachapaaaGreatDoor

/- A region that draws its order: two, three or four operations may come up. -/
namespace Go.Proofs.YtdmkghgachapaaaGreatDoor
set_option linter.unusedVariables false
open Go.RowKit

section
variable {P : Program} {l : List Oper} {Q : Exit → Act → World → Prop} {md : Region.Mode} {S : World → Prop}
/-- What an operation must do when it comes up. -/
abbrev UpAt (P : Program) (l : List Oper) (Q : Exit → Act → World → Prop) (md : Region.Mode) (S : World → Prop) (fuel : Nat) (listed : Array Bool) (a : Act) (w : World) (i : Nat) (oi : Oper) : Prop :=
  ∀ K' : Act → World → Prop, Shut (∀ a w, S w → (S w → wpAnyH P md l.toArray Q S fuel (listed.setIfInBounds i true) a w) → K' a w) → Oper.wp P oi a w K' Q
theorem lex_n2 {i j : Nat} {oi oj : Oper} {fuel : Nat} {listed : Array Bool} {a : Act} {w : World} (hi : l[i]? = some oi) (hj : l[j]? = some oj) (hr : Region.ready md l.toArray listed = [i, j]) (hw : Region.wanted oi (yielded l.toArray a.tmps) = true) (hw' : Region.wanted oj (yielded l.toArray a.tmps) = true)
    (h : UpAt P l Q md S fuel listed a w i oi) (h' : UpAt P l Q md S fuel listed a w j oj) : wpAnyH P md l.toArray Q S (fuel + 1) listed a w :=
  wpAnyH_ready hr (by simp) (AllReadyH.cons (o := oi) (by simpa using hi) (fun K hK => by rw [if_pos hw]; exact h K hK) (AllReadyH.cons (o := oj) (by simpa using hj) (fun K hK => by rw [if_pos hw']; exact h' K hK) AllReadyH.nil))
theorem lex_n3 {i j k : Nat} {oi oj ok : Oper} {fuel : Nat} {listed : Array Bool} {a : Act} {w : World} (hi : l[i]? = some oi) (hj : l[j]? = some oj) (hk : l[k]? = some ok) (hr : Region.ready md l.toArray listed = [i, j, k]) (hw : Region.wanted oi (yielded l.toArray a.tmps) = true) (hw' : Region.wanted oj (yielded l.toArray a.tmps) = true) (hw'' : Region.wanted ok (yielded l.toArray a.tmps) = true)
    (h : UpAt P l Q md S fuel listed a w i oi) (h' : UpAt P l Q md S fuel listed a w j oj) (h'' : UpAt P l Q md S fuel listed a w k ok) : wpAnyH P md l.toArray Q S (fuel + 1) listed a w :=
  wpAnyH_ready hr (by simp) (AllReadyH.cons (o := oi) (by simpa using hi) (fun K hK => by rw [if_pos hw]; exact h K hK) (AllReadyH.cons (o := oj) (by simpa using hj) (fun K hK => by rw [if_pos hw']; exact h' K hK) (AllReadyH.cons (o := ok) (by simpa using hk) (fun K hK => by rw [if_pos hw'']; exact h'' K hK) AllReadyH.nil)))
theorem join2 {G F : Nat → World → Prop} {R : Prop} (h : (∀ Z V, F Z V → G Z V) → R) (k : ∀ Z V, F Z V → G Z V) : R := h k
end
end Go.Proofs.YtdmkghgachapaaaGreatDoor

/- Numbers that are cut to a range (package of the laws over all layers). -/
namespace Go.Proofs.YtdmkghgachapaaaGreatDoor
set_option linter.unusedVariables false
set_option linter.unusedSimpArgs false
set_option maxRecDepth 100000
open Go.RowKit

def modA (a n : Int) : Int := (a.tmod n + n).tmod n
theorem modA_in (a n : Int) (h : 0 < n) : 0 ≤ modA a n ∧ modA a n < n := by
  unfold modA
  have h1 := Int.tmod_lt_of_pos a h
  have h2 : -n < a.tmod n := by
    rcases Int.le_total 0 a with ha | ha
    · have := Int.tmod_nonneg n ha; omega
    · have h3 := Int.tmod_lt_of_pos (-a) h
      rw [Int.neg_tmod] at h3
      omega
  rw [Int.tmod_eq_emod_of_nonneg (by omega)]
  exact ⟨Int.emod_nonneg _ (by omega), Int.emod_lt_of_pos _ h⟩
theorem tmod_in64 (a n : Int) (h : 0 < n) (hn : n ≤ 1000000) : -1000000 ≤ a.tmod n ∧ a.tmod n ≤ 1000000 := by
  have h1 := Int.tmod_lt_of_pos a h
  rcases Int.le_total 0 a with ha | ha
  · have := Int.tmod_nonneg n ha; omega
  · have h3 := Int.tmod_lt_of_pos (-a) h
    rw [Int.neg_tmod] at h3
    omega
set_option maxHeartbeats 1000000 in
theorem top_aMod (a n : Int) (w : World) (h : 0 < n) (hn : n ≤ 1000000) : Calls Tryz.prog 20 #[.int .i64 a, .int .i64 n] w fun e w' => e = .returned (.int .i64 (modA a n)) ∧ w = w' := by
  obtain ⟨t1, t2⟩ := tmod_in64 a n h hn
  obtain ⟨m1, m2⟩ := modA_in a n h
  have hz : (n == 0) = false := by rw [beq_eq_false_iff_ne]; omega
  have hz' : ¬ n = 0 := by omega
  have hw1 : IntKind.i64.wrap (a.tmod n) = a.tmod n := IntWalk.i64_in _ (by omega)
  have hw2 : IntKind.i64.wrap (a.tmod n + n) = a.tmod n + n := IntWalk.i64_in _ (by omega)
  have hw3 : IntKind.i64.wrap ((a.tmod n + n).tmod n) = (a.tmod n + n).tmod n := IntWalk.i64_in _ (by unfold modA at m1 m2; omega)
  have he : modA a n = (a.tmod n + n).tmod n := rfl
  have HE := Lib.hid he; clear he m1 m2 t1 t2
  go_enter Tryz.func20, Tryz.ntmps20
  go_wp2_with fail
  go_ret
  exact ⟨ret_int (by rw [HE.out]), rfl⟩
set_option maxHeartbeats 1000000 in
theorem top_aCut (x low n : Int) (w : World) (h : 0 < n) (hn : n ≤ 1000000) (l1 : -1000000 ≤ low) (l2 : low ≤ 1000000) : Calls Tryz.prog 7 #[.int .i64 x, .int .i64 low, .int .i64 n] w fun e w' => e = .returned (.int .i64 (low + modA x n)) ∧ w = w' := by
  obtain ⟨m1, m2⟩ := modA_in x n h
  have CM := Lib.hid (fun W => top_aMod x n W h hn)
  generalize modA x n = M at *
  go_enter Tryz.func7, Tryz.ntmps7
  go_wp2_with fail
  refine (CM.out _).mono ?_
  rintro e w' ⟨rfl, rfl⟩
  have hw : IntKind.i64.wrap (low + M) = low + M := IntWalk.i64_in _ (by omega)
  go_wp2_with fail
  go_ret
  exact ⟨ret_int rfl, rfl⟩
end Go.Proofs.YtdmkghgachapaaaGreatDoor
