/- Contracts of the reference's reader: peek, pass, fail, need. -/
import Derived.Test.YtchahccnmjaejacDoorPar12
namespace Go.Proofs.YtchahccnmjaejacDoor
set_option linter.unusedVariables false
set_option maxRecDepth 100000
open Go.RowKit Go.Shelf
variable {B : Nat → Prop}

/-- The box of the reference's reader. -/
abbrev rf (A : Option Addr) (m c : Nat) (e o : Int) : Obj := .cells #[.slice A m c, .int .i64 e, .int .i64 o] 48
/-- The tokens l as strings in a slice, apart from block g. -/
def Toks (w : World) (B : Nat → Prop) (A : Option Addr) (m c g : Nat) (l : List Tok) : Prop := m = l.length ∧ m ≤ c ∧ c ≤ 9223372036854775807 ∧ (∀ b, B b → b < w.heap.size) ∧
  (0 < m → ∃ b off, A = some ⟨b, off, none⟩ ∧ b ≠ g ∧ B b ∧ ∀ (j : Nat) (t : Tok), l[j]? = some t → w.cell? ⟨b, off + j, none⟩ = some (.string (tkS t)))
theorem Toks.keep {w w' : World} {A : Option Addr} {m c g : Nat} {l : List Tok} (h : Toks w B A m c g l) (k : OneKept g w w') : Toks w' B A m c g l := by
  obtain ⟨h1, h2, h3, h5, h4⟩ := h
  refine ⟨h1, h2, h3, fun b hb => Nat.lt_of_lt_of_le (h5 b hb) k.size, fun h0 => ?_⟩
  obtain ⟨b, off, e, hb, hl, hc⟩ := h4 h0
  refine ⟨b, off, e, hb, hl, fun j t hj => ?_⟩
  rw [← hc j t hj]
  unfold World.cell?
  simp only
  rw [k.block b (h5 b hl) hb]
theorem Toks.then_ {w w' : World} {A : Option Addr} {m c g : Nat} {l : List Tok} (h : Toks w B A m c g l) (k : Below w.heap.size w w') : Toks w' B A m c g l := h.keep (OneKept.of_below k)
/-- Tokens of a line: none is empty. -/
def okQ (l : List Tok) : Prop := okL l ∧ ∀ t ∈ l, t ≠ []
theorem okQ.tail {l : List Tok} (h : okQ l) : okQ l.tail := ⟨h.1.tail, fun t ht => h.2 t (List.mem_of_mem_tail ht)⟩
theorem okQ.hd {l : List Tok} (h : okQ l) : Go.Proofs.YtchahccnmjaejacDoor.hd l = [] ↔ l = [] := by
  cases l with
  | nil => simp [Go.Proofs.YtchahccnmjaejacDoor.hd]
  | cons t r => simp [Go.Proofs.YtchahccnmjaejacDoor.hd]; exact h.2 t (by simp)
/-- The reference's reader ahead of the tokens l. -/
def QAt (B : Nat → Prop) (w : World) (g : Nat) (l : List Tok) (o : Nat) : Prop := ∃ A m c, At w g (rf A m c 0 o) ∧ Toks w B A m c g l ∧ okQ l
/-- The same with an error. -/
def QBad (w : World) (g : Nat) (e : Int) : Prop := ∃ A m c o, At w g (rf A m c e o)
theorem QAt.then_ {w W : World} {g : Nat} {l : List Tok} {o : Nat} (h : QAt B w g l o) (k : Below w.heap.size w W) : QAt B W g l o := by
  obtain ⟨A, m, c, h1, h2, h3⟩ := h
  exact ⟨A, m, c, h1.then_ k, h2.then_ k, h3⟩
theorem QAt.lt {w : World} {g : Nat} {l : List Tok} {o : Nat} (h : QAt B w g l o) : g < w.heap.size := by
  obtain ⟨A, m, c, h1, h2, h3⟩ := h
  exact h1.lt
theorem QAt.ok {w : World} {g : Nat} {l : List Tok} {o : Nat} (h : QAt B w g l o) : okL l := by
  obtain ⟨A, m, c, h1, h2, h3⟩ := h
  exact h3.1
theorem QAt.okq {w : World} {g : Nat} {l : List Tok} {o : Nat} (h : QAt B w g l o) : okQ l := by
  obtain ⟨A, m, c, h1, h2, h3⟩ := h
  exact h3
theorem QBad.then_ {w W : World} {g : Nat} {e : Int} (h : QBad w g e) (k : Below w.heap.size w W) : QBad W g e := by
  obtain ⟨A, m, c, o, h1⟩ := h
  exact ⟨A, m, c, o, h1.then_ k⟩
theorem QBad.lt {w : World} {g : Nat} {e : Int} (h : QBad w g e) : g < w.heap.size := by
  obtain ⟨A, m, c, o, h1⟩ := h
  exact h1.lt
def QWent (B : Nat → Prop) (g : Nat) (l : List Tok) (o : Nat) (w W : World) : Prop := QAt B W g l o ∧ OneKept g w W
def QFail (g : Nat) (e : Int) (w W : World) : Prop := QBad W g e ∧ OneKept g w W
theorem QWent.then_ {g : Nat} {l : List Tok} {o : Nat} {w W W' : World} (h : QWent B g l o w W) (k : Below W.heap.size W W') : QWent B g l o w W' := ⟨h.1.then_ k, h.2.then_ k⟩
theorem QWent.trans {g : Nat} {l l' : List Tok} {o o' : Nat} {w W W' : World} (h : QWent B g l o w W) (k : QWent B g l' o' W W') : QWent B g l' o' w W' := ⟨k.1, h.2.trans k.2⟩
theorem QWent.failed {g : Nat} {l : List Tok} {o : Nat} {e : Int} {w W W' : World} (h : QWent B g l o w W) (k : QFail g e W W') : QFail g e w W' := ⟨k.1, h.2.trans k.2⟩
theorem QFail.then_ {g : Nat} {e : Int} {w W W' : World} (h : QFail g e w W) (k : Below W.heap.size W W') : QFail g e w W' := ⟨h.1.then_ k, h.2.then_ k⟩
theorem QWent.refl {g : Nat} {l : List Tok} {o : Nat} {w : World} (h : QAt B w g l o) : QWent B g l o w w := ⟨h, OneKept.refl g w⟩
theorem QFail.refl {g : Nat} {e : Int} {w : World} (h : QBad w g e) : QFail g e w w := ⟨h, OneKept.refl g w⟩
theorem QAt.set {w : World} {g b : Nat} {l : List Tok} {o : Nat} (h : QAt B w g l o) (hb : ¬ B b) (hg : g ≠ b) (i : Nat) (u : Value) : QAt B (w.setCell ⟨b, i, none⟩ u) g l o := by
  obtain ⟨A, m, c, h1, ⟨q1, q2, q3, q4, q5⟩, h3⟩ := h
  refine ⟨A, m, c, h1.apart (p := ⟨b, i, none⟩) hg u, ⟨q1, q2, q3, by simpa [World.setCell] using q4, fun h0 => ?_⟩, h3⟩
  obtain ⟨b', off, e, hb', hl, hc⟩ := q5 h0
  refine ⟨b', off, e, hb', hl, fun j t hj => ?_⟩
  rw [← hc j t hj]
  unfold World.cell?
  simp only
  rw [Below.heap_setCell w ⟨b, i, none⟩ u b' (by rintro rfl; exact hb hl)]
theorem QWent.set {w W : World} {g b : Nat} {l : List Tok} {o : Nat} (h : QWent B g l o w W) (hw : w.heap.size ≤ b) (hB : ¬ B b) (hg : g ≠ b) (i : Nat) (u : Value) : QWent B g l o w (W.setCell ⟨b, i, none⟩ u) :=
  ⟨h.1.set hB hg i u, h.2.setNew hw i u⟩
theorem QWent.store3 {w W : World} {g b : Nat} {l : List Tok} {o : Nat} (h : QWent B g l o w W) (hw : w.heap.size ≤ b) (hB : ¬ B b) (hg : g ≠ b) (x y z : Value) : QWent B g l o w (((W.setCell ⟨b, 0, none⟩ x).setCell ⟨b, 1, none⟩ y).setCell ⟨b, 2, none⟩ z) :=
  ((h.set hw hB hg 0 x).set hw hB hg 1 y).set hw hB hg 2 z
theorem QFail.set {w W : World} {g b : Nat} {e : Int} (h : QFail g e w W) (hw : w.heap.size ≤ b) (hg : g ≠ b) (i : Nat) (u : Value) : QFail g e w (W.setCell ⟨b, i, none⟩ u) := by
  obtain ⟨⟨A, m, c, o, ha⟩, hk⟩ := h
  exact ⟨⟨A, m, c, o, ha.apart (p := ⟨b, i, none⟩) hg u⟩, hk.setNew hw i u⟩
theorem QFail.store3 {w W : World} {g b : Nat} {e : Int} (h : QFail g e w W) (hw : w.heap.size ≤ b) (hg : g ≠ b) (x y z : Value) : QFail g e w (((W.setCell ⟨b, 0, none⟩ x).setCell ⟨b, 1, none⟩ y).setCell ⟨b, 2, none⟩ z) :=
  ((h.set hw hg 0 x).set hw hg 1 y).set hw hg 2 z
theorem QAt.bound {w : World} {g : Nat} {l : List Tok} {o : Nat} (h : QAt B w g l o) : ∀ b, B b → b < w.heap.size := by
  obtain ⟨A, m, c, h1, h2, h3⟩ := h
  exact h2.2.2.2.1
theorem hd_cons (t : Tok) (r : List Tok) : hd (t :: r) = t := rfl
set_option maxHeartbeats 4000000 in
theorem rf_peek {w : World} {g : Nat} {l : List Tok} {o : Nat} (h : QAt B w g l o) :
    Calls Tryd.prog 33 #[.pointer (some ⟨g, 0, none⟩)] w fun e w' => e = .returned (.string (tkS (hd l))) ∧ Below w.heap.size w w' := by
  obtain ⟨A, m, c, h1, ⟨hm, hmc, hc, hBw, hA⟩, h3⟩ := h
  have x0 := h1.cell 0; have x1 := h1.cell 1; have x2 := h1.cell 2
  simp at x0 x1 x2
  have hlt := h1.lt
  cases l with
  | nil =>
    obtain rfl : m = 0 := hm
    clear h1 hA h3
    go_enter Tryd.func33, Tryd.ntmps33
    go_wp2_with fail
    go_ret
    exact ⟨rfl, by (repeat' (first | exact Below.refl _ _ | assumption | refine Below.drew ?_ | refine below_drewN ?_ _ | refine below_new ?_ _ | refine below_set ?_ ?_ _ | refine below_then ?_ (by assumption) | refine below_drawn ?_ (by assumption) | exact Nat.le_refl _ | omega | (simp; done) | (simp; omega)))⟩
  | cons t r =>
    obtain ⟨b, off, rfl, hb, hbl', hcell⟩ := hA (by rw [hm]; simp)
    have hbl : b < w.heap.size := hBw b hbl'
    have y0 := hcell 0 t rfl
    have hm0 : 0 < m := by rw [hm]; simp
    have e0 : ((m : Int) == 0) = false := by simp; omega
    rw [Nat.add_zero] at y0
    rw [hd_cons]
    generalize tkS t = T at y0 ⊢
    clear h1 hA h3 hm hcell hbl' hBw
    go_enter Tryd.func33, Tryd.ntmps33
    go_wp2_with fail
    go_ret
    exact ⟨rfl, by (repeat' (first | exact Below.refl _ _ | assumption | refine Below.drew ?_ | refine below_drewN ?_ _ | refine below_new ?_ _ | refine below_set ?_ ?_ _ | refine below_then ?_ (by assumption) | refine below_drawn ?_ (by assumption) | exact Nat.le_refl _ | omega | (simp; done) | (simp; omega)))⟩
set_option maxHeartbeats 4000000 in
theorem rf_peek_bad {w : World} {g : Nat} {c : Int} (h : QBad w g c) (hc : c ≠ 0) :
    Calls Tryd.prog 33 #[.pointer (some ⟨g, 0, none⟩)] w fun e w' => e = .returned (.string ⟨#[]⟩) ∧ Below w.heap.size w w' := by
  obtain ⟨A, m, cc, o, h1⟩ := h
  have x0 := h1.cell 0; have x1 := h1.cell 1; have x2 := h1.cell 2
  simp at x0 x1 x2
  have hlt := h1.lt
  have e0 : (c == 0) = false := by simpa using hc
  clear h1 hc
  go_enter Tryd.func33, Tryd.ntmps33
  go_wp2_with fail
  go_ret
  exact ⟨rfl, by (repeat' (first | exact Below.refl _ _ | assumption | refine Below.drew ?_ | refine below_drewN ?_ _ | refine below_new ?_ _ | refine below_set ?_ ?_ _ | refine below_then ?_ (by assumption) | refine below_drawn ?_ (by assumption) | exact Nat.le_refl _ | omega | (simp; done) | (simp; omega)))⟩
set_option maxHeartbeats 4000000 in
theorem rf_pass {w : World} {g : Nat} {l : List Tok} {o : Nat} (h : QAt B w g l o) (hne : hd l ≠ []) :
    Calls Tryd.prog 34 #[.pointer (some ⟨g, 0, none⟩)] w fun e w' => e = .returned (.tuple #[]) ∧ QWent B g l.tail o w w' := by
  obtain ⟨A, m, c, h1, ⟨hm, hmc, hc, hBw, hA⟩, h3⟩ := h
  obtain ⟨t, r, rfl⟩ : ∃ t r, l = t :: r := by cases l with | nil => exact absurd rfl hne | cons t r => exact ⟨t, r, rfl⟩
  have x0 := h1.cell 0; have x1 := h1.cell 1; have x2 := h1.cell 2
  simp at x0 x1 x2
  have hlt := h1.lt
  obtain ⟨b, off, rfl, hb, hbl, hcell⟩ := hA (by rw [hm]; simp)
  have hm0 : 0 < m := by rw [hm]; simp
  have hm1 : 1 ≤ m := hm0
  have hrl : m - 1 = r.length := by rw [hm]; simp
  have z0 := h1.frozen 0
  have H1 := Lib.hid h1
  have HC := Lib.hid hcell
  have H3 := Lib.hid h3
  have HR := Lib.hid hrl
  by_cases c1 : c = 1
  · subst c1
    obtain rfl : m = 1 := by omega
    clear h1 hA h3 hm hcell hne hrl
    go_enter Tryd.func34, Tryd.ntmps34
    go_wp2_with fail
    go_end0
    refine ⟨rfl, ⟨_, _, _, H1.out.store 0 _, ⟨HR.out, by omega, by omega, by simpa [World.setCell] using hBw, fun h => absurd h (by omega)⟩, H3.out.tail⟩, (OneKept.refl g w).set 0 _⟩
  · clear h1 hA h3 hm hcell hne hrl
    go_enter Tryd.func34, Tryd.ntmps34
    go_wp2_with fail
    go_end0
    refine ⟨rfl, ⟨_, _, _, H1.out.store 0 _, ⟨HR.out, by omega, by omega, by simpa [World.setCell] using hBw, fun h => ⟨b, off + 1, rfl, hb, hbl, fun j t' hj => ?_⟩⟩, H3.out.tail⟩, (OneKept.refl g w).set 0 _⟩
    have := HC.out (j + 1) t' (by simpa using hj)
    rw [← this, show off + 1 + j = off + (j + 1) by omega]
    unfold World.cell?
    simp only
    rw [Below.heap_setCell w ⟨g, 0, none⟩ _ b hb]
set_option maxHeartbeats 4000000 in
theorem rf_fail {w : World} {g : Nat} {l : List Tok} {o : Nat} (c : Int) (h : QAt B w g l o) :
    Calls Tryd.prog 18 #[.pointer (some ⟨g, 0, none⟩), .int .i64 c] w fun e w' => e = .returned (.tuple #[]) ∧ QFail g c w w' := by
  obtain ⟨A, m, cc, h1, _, _⟩ := h
  have x0 := h1.cell 0; have x1 := h1.cell 1; have x2 := h1.cell 2
  simp at x0 x1 x2
  have hlt := h1.lt
  have z1 := h1.frozen 1
  have H1 := Lib.hid h1
  clear h1
  go_enter Tryd.func18, Tryd.ntmps18
  go_wp2_with fail
  go_end0
  exact ⟨rfl, ⟨A, m, cc, _, H1.out.store 1 _⟩, (OneKept.refl g w).set 1 _⟩
set_option maxHeartbeats 4000000 in
theorem rf_fail_bad {w : World} {g : Nat} {c : Int} (k : Int) (h : QBad w g c) (hc : c ≠ 0) :
    Calls Tryd.prog 18 #[.pointer (some ⟨g, 0, none⟩), .int .i64 k] w fun e w' => e = .returned (.tuple #[]) ∧ Below w.heap.size w w' := by
  obtain ⟨A, m, cc, o, h1⟩ := h
  have x0 := h1.cell 0; have x1 := h1.cell 1; have x2 := h1.cell 2
  simp at x0 x1 x2
  have hlt := h1.lt
  have e0 : (c == 0) = false := by simpa using hc
  clear h1 hc
  go_enter Tryd.func18, Tryd.ntmps18
  go_wp2_with fail
  go_end0
  exact ⟨rfl, by (repeat' (first | exact Below.refl _ _ | assumption | refine Below.drew ?_ | refine below_drewN ?_ _ | refine below_new ?_ _ | refine below_set ?_ ?_ _ | refine below_then ?_ (by assumption) | refine below_drawn ?_ (by assumption) | exact Nat.le_refl _ | omega | (simp; done) | (simp; omega)))⟩
end Go.Proofs.YtchahccnmjaejacDoor
