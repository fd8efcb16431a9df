/- Several texts in one: Show2, Rfe0, Rfe1, Rfe2, Rfe3. -/
import Derived.Test.YtdmkghgachapaabGreatDoorMg3
import Derived.Test.YtdmkghgachapaabGreatDoorMgH
import Derived.Deep.CutRange
set_option linter.unusedSimpArgs false
namespace Go.Proofs.YtdmkghgachapaabGreatDoor
set_option linter.unusedVariables false
set_option maxRecDepth 100000
open Go.RowKit Go.Shelf Num
theorem ref_rank (k : Int) (w : World) (h1 : 1 ≤ k) (h2 : k ≤ 13) : Calls Tryz.prog 115 #[.int .i64 k] w fun e w' => e = .returned (.int .i64 (lvl k + 1)) ∧ w = w' := by
  have hk : k = 1 ∨ k = 2 ∨ k = 3 ∨ k = 4 ∨ k = 5 ∨ k = 6 ∨ k = 7 ∨ k = 8 ∨ k = 9 ∨ k = 10 ∨ k = 11 ∨ k = 12 ∨ k = 13 := by omega
  rcases hk with rfl | rfl | rfl | rfl | rfl | rfl | rfl | rfl | rfl | rfl | rfl | rfl | rfl
  all_goals
    clear h1 h2
    go_enter Tryz.func115, Tryz.ntmps115
    go_wp2_with fail
    go_ret
    exact ⟨rfl, rfl⟩
set_option maxHeartbeats 4000000 in
theorem ref_sign (k : Int) (w : World) (h1 : 1 ≤ k) (h2 : k ≤ 13) : Calls Tryz.prog 140 #[.int .i64 k] w fun e w' => e = .returned (.string ⟨(sgn k).toArray⟩) ∧ Below w.heap.size w w' := by
  have hk : k = 1 ∨ k = 2 ∨ k = 3 ∨ k = 4 ∨ k = 5 ∨ k = 6 ∨ k = 7 ∨ k = 8 ∨ k = 9 ∨ k = 10 ∨ k = 11 ∨ k = 12 ∨ k = 13 := by omega
  have hb := Lib.hid (below_new (Below.refl w.heap.size w) (.cells #[.string ⟨#[]⟩, .string ⟨#[]⟩, .string ⟨#[]⟩, .string ⟨#[]⟩, .string ⟨#[43]⟩, .string ⟨#[45]⟩, .string ⟨#[42]⟩, .string ⟨#[47]⟩, .string ⟨#[37]⟩, .string ⟨#[60]⟩, .string ⟨#[61]⟩, .string ⟨#[]⟩, .string ⟨#[97, 110, 100]⟩, .string ⟨#[111, 114]⟩] 9))
  rcases hk with rfl | rfl | rfl | rfl | rfl | rfl | rfl | rfl | rfl | rfl | rfl | rfl | rfl
  all_goals
    clear h1 h2
    go_enter Tryz.func140, Tryz.ntmps140
    go_wp2_with fail
    go_ret
    exact ⟨rfl, by first | exact hb.out | (repeat' (first | exact bxR _ _ | assumption | refine bxD ?_ | refine bxN ?_ _ | refine bxA ?_ _ | refine bxS ?_ ?_ _ | refine bxT ?_ (by assumption) | refine bxW ?_ (by assumption) | exact Nat.le_refl _ | omega | (simp; done) | (simp; omega)))⟩
end Go.Proofs.YtdmkghgachapaabGreatDoor

set_option linter.unusedSimpArgs false
namespace Go.Proofs.YtdmkghgachapaabGreatDoor
set_option linter.unusedVariables false
set_option maxRecDepth 100000
open Go.RowKit Go.Shelf
variable {B : Nat → Prop}
abbrev rf (A : Option Addr) (m c : Nat) (e o : Int) : Obj := .cells #[.slice A m c, .int .i64 e, .int .i64 o] 134
def Toks (w : World) (B : Nat → Prop) (A : Option Addr) (m c g : Nat) (l : List Tok) : Prop := m = l.length ∧ m ≤ c ∧ c ≤ 9223372036854775807 ∧ (∀ b, B b → b < w.heap.size) ∧
  (0 < m → ∃ b off, A = some ⟨b, off, none⟩ ∧ b ≠ g ∧ B b ∧ ∀ (j : Nat) (t : Tok), l[j]? = some t → w.cell? ⟨b, off + j, none⟩ = some (.string (tkS t)))
theorem Toks.keep {w w' : World} {A : Option Addr} {m c g : Nat} {l : List Tok} (h : Toks w B A m c g l) (k : OneKept g w w') : Toks w' B A m c g l := by
  obtain ⟨h1, h2, h3, h5, h4⟩ := h
  refine ⟨h1, h2, h3, fun b hb => Nat.lt_of_lt_of_le (h5 b hb) k.size, fun h0 => ?_⟩
  obtain ⟨b, off, e, hb, hl, hc⟩ := h4 h0
  refine ⟨b, off, e, hb, hl, fun j t hj => ?_⟩
  rw [← hc j t hj]
  unfold World.cell?
  simp only
  rw [k.block b (h5 b hl) hb]
theorem Toks.then_ {w w' : World} {A : Option Addr} {m c g : Nat} {l : List Tok} (h : Toks w B A m c g l) (k : Below w.heap.size w w') : Toks w' B A m c g l := h.keep (OneKept.of_below k)
def okQ (l : List Tok) : Prop := okL l ∧ ∀ t ∈ l, t ≠ []
theorem okQ.tail {l : List Tok} (h : okQ l) : okQ l.tail := ⟨h.1.tail, fun t ht => h.2 t (List.mem_of_mem_tail ht)⟩
theorem okQ.hd {l : List Tok} (h : okQ l) : Go.Proofs.YtdmkghgachapaabGreatDoor.hd l = [] ↔ l = [] := by
  cases l with
  | nil => simp [Go.Proofs.YtdmkghgachapaabGreatDoor.hd]
  | cons t r => simp [Go.Proofs.YtdmkghgachapaabGreatDoor.hd]; exact h.2 t (by simp)
def QAt (B : Nat → Prop) (w : World) (g : Nat) (l : List Tok) (o : Nat) : Prop := ∃ A m c, At w g (rf A m c 0 o) ∧ Toks w B A m c g l ∧ okQ l
def QBad (w : World) (g : Nat) (e : Int) : Prop := ∃ A m c o, At w g (rf A m c e o)
theorem QAt.then_ {w W : World} {g : Nat} {l : List Tok} {o : Nat} (h : QAt B w g l o) (k : Below w.heap.size w W) : QAt B W g l o := by
  obtain ⟨A, m, c, h1, h2, h3⟩ := h
  exact ⟨A, m, c, h1.then_ k, h2.then_ k, h3⟩
theorem QAt.lt {w : World} {g : Nat} {l : List Tok} {o : Nat} (h : QAt B w g l o) : g < w.heap.size := by
  obtain ⟨A, m, c, h1, h2, h3⟩ := h
  exact h1.lt
theorem QAt.ok {w : World} {g : Nat} {l : List Tok} {o : Nat} (h : QAt B w g l o) : okL l := by
  obtain ⟨A, m, c, h1, h2, h3⟩ := h
  exact h3.1
theorem QAt.okq {w : World} {g : Nat} {l : List Tok} {o : Nat} (h : QAt B w g l o) : okQ l := by
  obtain ⟨A, m, c, h1, h2, h3⟩ := h
  exact h3
theorem QBad.then_ {w W : World} {g : Nat} {e : Int} (h : QBad w g e) (k : Below w.heap.size w W) : QBad W g e := by
  obtain ⟨A, m, c, o, h1⟩ := h
  exact ⟨A, m, c, o, h1.then_ k⟩
theorem QBad.lt {w : World} {g : Nat} {e : Int} (h : QBad w g e) : g < w.heap.size := by
  obtain ⟨A, m, c, o, h1⟩ := h
  exact h1.lt
def QWent (B : Nat → Prop) (g : Nat) (l : List Tok) (o : Nat) (w W : World) : Prop := QAt B W g l o ∧ OneKept g w W
def QFail (g : Nat) (e : Int) (w W : World) : Prop := QBad W g e ∧ OneKept g w W
theorem QWent.then_ {g : Nat} {l : List Tok} {o : Nat} {w W W' : World} (h : QWent B g l o w W) (k : Below W.heap.size W W') : QWent B g l o w W' := ⟨h.1.then_ k, h.2.then_ k⟩
theorem QWent.trans {g : Nat} {l l' : List Tok} {o o' : Nat} {w W W' : World} (h : QWent B g l o w W) (k : QWent B g l' o' W W') : QWent B g l' o' w W' := ⟨k.1, h.2.trans k.2⟩
theorem QWent.failed {g : Nat} {l : List Tok} {o : Nat} {e : Int} {w W W' : World} (h : QWent B g l o w W) (k : QFail g e W W') : QFail g e w W' := ⟨k.1, h.2.trans k.2⟩
theorem QFail.then_ {g : Nat} {e : Int} {w W W' : World} (h : QFail g e w W) (k : Below W.heap.size W W') : QFail g e w W' := ⟨h.1.then_ k, h.2.then_ k⟩
theorem QWent.refl {g : Nat} {l : List Tok} {o : Nat} {w : World} (h : QAt B w g l o) : QWent B g l o w w := ⟨h, OneKept.refl g w⟩
theorem QFail.refl {g : Nat} {e : Int} {w : World} (h : QBad w g e) : QFail g e w w := ⟨h, OneKept.refl g w⟩
theorem QAt.set {w : World} {g b : Nat} {l : List Tok} {o : Nat} (h : QAt B w g l o) (hb : ¬ B b) (hg : g ≠ b) (i : Nat) (u : Value) : QAt B (w.setCell ⟨b, i, none⟩ u) g l o := by
  obtain ⟨A, m, c, h1, ⟨q1, q2, q3, q4, q5⟩, h3⟩ := h
  refine ⟨A, m, c, h1.apart (p := ⟨b, i, none⟩) hg u, ⟨q1, q2, q3, by simpa [World.setCell] using q4, fun h0 => ?_⟩, h3⟩
  obtain ⟨b', off, e, hb', hl, hc⟩ := q5 h0
  refine ⟨b', off, e, hb', hl, fun j t hj => ?_⟩
  rw [← hc j t hj]
  unfold World.cell?
  simp only
  rw [Below.heap_setCell w ⟨b, i, none⟩ u b' (by rintro rfl; exact hb hl)]
theorem QWent.set {w W : World} {g b : Nat} {l : List Tok} {o : Nat} (h : QWent B g l o w W) (hw : w.heap.size ≤ b) (hB : ¬ B b) (hg : g ≠ b) (i : Nat) (u : Value) : QWent B g l o w (W.setCell ⟨b, i, none⟩ u) :=
  ⟨h.1.set hB hg i u, h.2.setNew hw i u⟩
theorem QWent.store3 {w W : World} {g b : Nat} {l : List Tok} {o : Nat} (h : QWent B g l o w W) (hw : w.heap.size ≤ b) (hB : ¬ B b) (hg : g ≠ b) (x y z : Value) : QWent B g l o w (((W.setCell ⟨b, 0, none⟩ x).setCell ⟨b, 1, none⟩ y).setCell ⟨b, 2, none⟩ z) :=
  ((h.set hw hB hg 0 x).set hw hB hg 1 y).set hw hB hg 2 z
theorem QFail.set {w W : World} {g b : Nat} {e : Int} (h : QFail g e w W) (hw : w.heap.size ≤ b) (hg : g ≠ b) (i : Nat) (u : Value) : QFail g e w (W.setCell ⟨b, i, none⟩ u) := by
  obtain ⟨⟨A, m, c, o, ha⟩, hk⟩ := h
  exact ⟨⟨A, m, c, o, ha.apart (p := ⟨b, i, none⟩) hg u⟩, hk.setNew hw i u⟩
theorem QFail.store3 {w W : World} {g b : Nat} {e : Int} (h : QFail g e w W) (hw : w.heap.size ≤ b) (hg : g ≠ b) (x y z : Value) : QFail g e w (((W.setCell ⟨b, 0, none⟩ x).setCell ⟨b, 1, none⟩ y).setCell ⟨b, 2, none⟩ z) :=
  ((h.set hw hg 0 x).set hw hg 1 y).set hw hg 2 z
theorem QAt.bound {w : World} {g : Nat} {l : List Tok} {o : Nat} (h : QAt B w g l o) : ∀ b, B b → b < w.heap.size := by
  obtain ⟨A, m, c, h1, h2, h3⟩ := h
  exact h2.2.2.2.1
theorem hd_cons (t : Tok) (r : List Tok) : hd (t :: r) = t := rfl
set_option maxHeartbeats 4000000 in
theorem rf_peek {w : World} {g : Nat} {l : List Tok} {o : Nat} (h : QAt B w g l o) :
    Calls Tryz.prog 111 #[.pointer (some ⟨g, 0, none⟩)] w fun e w' => e = .returned (.string (tkS (hd l))) ∧ Below w.heap.size w w' := by
  obtain ⟨A, m, c, h1, ⟨hm, hmc, hc, hBw, hA⟩, h3⟩ := h
  have x0 := h1.cell 0; have x1 := h1.cell 1; have x2 := h1.cell 2
  simp at x0 x1 x2
  have hlt := h1.lt
  cases l with
  | nil =>
    obtain rfl : m = 0 := hm
    clear h1 hA h3
    go_enter Tryz.func111, Tryz.ntmps111
    go_wp2_with fail
    go_ret
    exact ⟨rfl, by (repeat' (first | exact bxR _ _ | assumption | refine bxD ?_ | refine bxN ?_ _ | refine bxA ?_ _ | refine bxS ?_ ?_ _ | refine bxT ?_ (by assumption) | refine bxW ?_ (by assumption) | exact Nat.le_refl _ | omega | (simp; done) | (simp; omega)))⟩
  | cons t r =>
    obtain ⟨b, off, rfl, hb, hbl', hcell⟩ := hA (by rw [hm]; simp)
    have hbl : b < w.heap.size := hBw b hbl'
    have y0 := hcell 0 t rfl
    have hm0 : 0 < m := by rw [hm]; simp
    have e0 : ((m : Int) == 0) = false := by simp; omega
    rw [Nat.add_zero] at y0
    rw [hd_cons]
    generalize tkS t = T at y0 ⊢
    clear h1 hA h3 hm hcell hbl' hBw
    go_enter Tryz.func111, Tryz.ntmps111
    go_wp2_with fail
    go_ret
    exact ⟨rfl, by (repeat' (first | exact bxR _ _ | assumption | refine bxD ?_ | refine bxN ?_ _ | refine bxA ?_ _ | refine bxS ?_ ?_ _ | refine bxT ?_ (by assumption) | refine bxW ?_ (by assumption) | exact Nat.le_refl _ | omega | (simp; done) | (simp; omega)))⟩
set_option maxHeartbeats 4000000 in
theorem rf_peek_bad {w : World} {g : Nat} {c : Int} (h : QBad w g c) (hc : c ≠ 0) :
    Calls Tryz.prog 111 #[.pointer (some ⟨g, 0, none⟩)] w fun e w' => e = .returned (.string ⟨#[]⟩) ∧ Below w.heap.size w w' := by
  obtain ⟨A, m, cc, o, h1⟩ := h
  have x0 := h1.cell 0; have x1 := h1.cell 1; have x2 := h1.cell 2
  simp at x0 x1 x2
  have hlt := h1.lt
  have e0 : (c == 0) = false := by simpa using hc
  clear h1 hc
  go_enter Tryz.func111, Tryz.ntmps111
  go_wp2_with fail
  go_ret
  exact ⟨rfl, by (repeat' (first | exact bxR _ _ | assumption | refine bxD ?_ | refine bxN ?_ _ | refine bxA ?_ _ | refine bxS ?_ ?_ _ | refine bxT ?_ (by assumption) | refine bxW ?_ (by assumption) | exact Nat.le_refl _ | omega | (simp; done) | (simp; omega)))⟩
set_option maxHeartbeats 4000000 in
theorem rf_pass {w : World} {g : Nat} {l : List Tok} {o : Nat} (h : QAt B w g l o) (hne : hd l ≠ []) :
    Calls Tryz.prog 112 #[.pointer (some ⟨g, 0, none⟩)] w fun e w' => e = .returned (.tuple #[]) ∧ QWent B g l.tail o w w' := by
  obtain ⟨A, m, c, h1, ⟨hm, hmc, hc, hBw, hA⟩, h3⟩ := h
  obtain ⟨t, r, rfl⟩ : ∃ t r, l = t :: r := by cases l with | nil => exact absurd rfl hne | cons t r => exact ⟨t, r, rfl⟩
  have x0 := h1.cell 0; have x1 := h1.cell 1; have x2 := h1.cell 2
  simp at x0 x1 x2
  have hlt := h1.lt
  obtain ⟨b, off, rfl, hb, hbl, hcell⟩ := hA (by rw [hm]; simp)
  have hm0 : 0 < m := by rw [hm]; simp
  have hm1 : 1 ≤ m := hm0
  have hrl : m - 1 = r.length := by rw [hm]; simp
  have z0 := h1.frozen 0
  have H1 := Lib.hid h1
  have HC := Lib.hid hcell
  have H3 := Lib.hid h3
  have HR := Lib.hid hrl
  by_cases c1 : c = 1
  · subst c1
    obtain rfl : m = 1 := by omega
    clear h1 hA h3 hm hcell hne hrl
    go_enter Tryz.func112, Tryz.ntmps112
    go_wp2_with fail
    go_end0
    refine ⟨rfl, ⟨_, _, _, H1.out.store 0 _, ⟨HR.out, by omega, by omega, by simpa [World.setCell] using hBw, fun h => absurd h (by omega)⟩, H3.out.tail⟩, (OneKept.refl g w).set 0 _⟩
  · clear h1 hA h3 hm hcell hne hrl
    go_enter Tryz.func112, Tryz.ntmps112
    go_wp2_with fail
    go_end0
    refine ⟨rfl, ⟨_, _, _, H1.out.store 0 _, ⟨HR.out, by omega, by omega, by simpa [World.setCell] using hBw, fun h => ⟨b, off + 1, rfl, hb, hbl, fun j t' hj => ?_⟩⟩, H3.out.tail⟩, (OneKept.refl g w).set 0 _⟩
    have := HC.out (j + 1) t' (by simpa using hj)
    rw [← this, show off + 1 + j = off + (j + 1) by omega]
    unfold World.cell?
    simp only
    rw [Below.heap_setCell w ⟨g, 0, none⟩ _ b hb]
set_option maxHeartbeats 4000000 in
theorem rf_fail {w : World} {g : Nat} {l : List Tok} {o : Nat} (c : Int) (h : QAt B w g l o) :
    Calls Tryz.prog 94 #[.pointer (some ⟨g, 0, none⟩), .int .i64 c] w fun e w' => e = .returned (.tuple #[]) ∧ QFail g c w w' := by
  obtain ⟨A, m, cc, h1, _, _⟩ := h
  have x0 := h1.cell 0; have x1 := h1.cell 1; have x2 := h1.cell 2
  simp at x0 x1 x2
  have hlt := h1.lt
  have z1 := h1.frozen 1
  have H1 := Lib.hid h1
  clear h1
  go_enter Tryz.func94, Tryz.ntmps94
  go_wp2_with fail
  go_end0
  exact ⟨rfl, ⟨A, m, cc, _, H1.out.store 1 _⟩, (OneKept.refl g w).set 1 _⟩
set_option maxHeartbeats 4000000 in
theorem rf_fail_bad {w : World} {g : Nat} {c : Int} (k : Int) (h : QBad w g c) (hc : c ≠ 0) :
    Calls Tryz.prog 94 #[.pointer (some ⟨g, 0, none⟩), .int .i64 k] w fun e w' => e = .returned (.tuple #[]) ∧ Below w.heap.size w w' := by
  obtain ⟨A, m, cc, o, h1⟩ := h
  have x0 := h1.cell 0; have x1 := h1.cell 1; have x2 := h1.cell 2
  simp at x0 x1 x2
  have hlt := h1.lt
  have e0 : (c == 0) = false := by simpa using hc
  clear h1 hc
  go_enter Tryz.func94, Tryz.ntmps94
  go_wp2_with fail
  go_end0
  exact ⟨rfl, by (repeat' (first | exact bxR _ _ | assumption | refine bxD ?_ | refine bxN ?_ _ | refine bxA ?_ _ | refine bxS ?_ ?_ _ | refine bxT ?_ (by assumption) | refine bxW ?_ (by assumption) | exact Nat.le_refl _ | omega | (simp; done) | (simp; omega)))⟩
end Go.Proofs.YtdmkghgachapaabGreatDoor

set_option linter.unusedSimpArgs false
namespace Go.Proofs.YtdmkghgachapaabGreatDoor
set_option linter.unusedVariables false
set_option maxRecDepth 100000
open Go.RowKit Go.Shelf
variable {B : Nat → Prop}
theorem tk_ne {X T : ByteArray} {x t : Tok} (hX : X = tkS x) (hT : T = tkS t) (h : x ≠ t) : (X.toList == T.toList) = false ∧ X.toList ≠ T.toList := by
  have hne : X ≠ T := by rw [hT, hX]; exact fun e => h (tkS_inj.1 e)
  have e1 : (X.toList == T.toList) = false := by
    rw [str_list, str_list]
    have : X.data.toList ≠ T.data.toList := fun e => hne (by rw [← str_eta X, e, str_eta])
    simpa using this
  exact ⟨e1, by simpa using e1⟩
set_option maxHeartbeats 4000000 in
theorem rf_need {w : World} {g : Nat} {l : List Tok} {o : Nat} (t : Tok) (ht : t ≠ []) (h : QAt B w g l o) :
    Calls Tryz.prog 90 #[.pointer (some ⟨g, 0, none⟩), .string (tkS t)] w fun e w' => e = .returned (.tuple #[]) ∧ if hd l = t then QWent B g l.tail o w w' else QFail g 4 w w' := by
  have CT := Lib.hid (rf_peek h)
  have H := Lib.hid h; clear h
  obtain ⟨T, hT⟩ : ∃ T, T = tkS t := ⟨_, rfl⟩
  by_cases c1 : hd l = t
  · simp only [if_pos c1]
    have hne : hd l ≠ [] := by rw [c1]; exact ht
    rw [c1] at CT
    rw [← hT] at CT ⊢
    have CP := Lib.hid (fun W (hW : QAt B W g l o) => rf_pass hW hne)
    clear c1 hT hne ht
    go_enter Tryz.func90, Tryz.ntmps90
    go_wp2_with (go_at_call 111; refine (CT.out).mono ?_; rintro e w1 ⟨rfl, hb⟩)
    refine (CP.out _ (H.out.then_ hb)).mono ?_
    rintro e w2 ⟨rfl, hw⟩
    have HW := Lib.hid hw; clear hw
    go_wp2_with fail
    go_end0
    exact ⟨rfl, (QWent.refl H.out).then_ hb |>.trans HW.out⟩
  · simp only [if_neg c1]
    obtain ⟨X, hX⟩ : ∃ X, X = tkS (hd l) := ⟨_, rfl⟩
    obtain ⟨e1, e2⟩ := tk_ne hX hT c1
    rw [← hX] at CT
    rw [← hT]
    clear c1 hT hX ht
    go_enter Tryz.func90, Tryz.ntmps90
    go_wp2_with (go_at_call 111; refine (CT.out).mono ?_; rintro e w1 ⟨rfl, hb⟩)
    refine (rf_fail 4 (H.out.then_ hb)).mono ?_
    rintro e w2 ⟨rfl, hw⟩
    have HW := Lib.hid hw; clear hw
    go_wp2_with fail
    ((try simp only [Exit.inBlock, Exit.then]); refine bodyPost_ret (results_none rfl _ _ _) rfl ?_)
    exact ⟨rfl, (QWent.refl H.out).then_ hb |>.failed HW.out⟩
set_option maxHeartbeats 4000000 in
theorem rf_need_bad {w : World} {g : Nat} {c : Int} (t : Tok) (ht : t ≠ []) (h : QBad w g c) (hc : c ≠ 0) :
    Calls Tryz.prog 90 #[.pointer (some ⟨g, 0, none⟩), .string (tkS t)] w fun e w' => e = .returned (.tuple #[]) ∧ Below w.heap.size w w' := by
  have CT := Lib.hid (rf_peek_bad h hc)
  have H := Lib.hid h; clear h
  obtain ⟨T, hT⟩ : ∃ T, T = tkS t := ⟨_, rfl⟩
  obtain ⟨e1, e2⟩ := tk_ne (X := ⟨#[]⟩) (x := []) rfl hT (fun h => ht h.symm)
  rw [← hT]
  have HC := Lib.hid hc
  have e3 := str_ne T (by rw [hT, tkS_len]; exact List.length_pos_iff.2 ht)
  clear hT ht hc
  go_enter Tryz.func90, Tryz.ntmps90
  go_wp2_with (go_at_call 111; refine (CT.out).mono ?_; rintro e w1 ⟨rfl, hb⟩)
  refine (rf_fail_bad 4 (H.out.then_ hb) HC.out).mono ?_
  rintro e w2 ⟨rfl, hw⟩
  go_wp2_with fail
  ((try simp only [Exit.inBlock, Exit.then]); refine bodyPost_ret (results_none rfl _ _ _) rfl ?_)
  exact ⟨rfl, by (repeat' (first | exact bxR _ _ | assumption | refine bxD ?_ | refine bxN ?_ _ | refine bxA ?_ _ | refine bxS ?_ ?_ _ | refine bxT ?_ (by assumption) | refine bxW ?_ (by assumption) | exact Nat.le_refl _ | omega | (simp; done) | (simp; omega)))⟩
set_option maxHeartbeats 4000000 in
theorem rf_isLetter (t : Tok) (w : World) (hl : t.length ≤ 9223372036854775807) :
    Calls Tryz.prog 64 #[.string (tkS t)] w fun e w' => e = .returned (.bool (isLet t)) ∧ Below w.heap.size w w' := by
  obtain ⟨X, hX⟩ : ∃ X, X = tkS t := ⟨_, rfl⟩
  have hsz : X.size = t.length := by rw [hX, tkS_len]
  rw [← hX]
  by_cases h0 : X.size = 0
  · have ht : t = [] := List.length_eq_zero_iff.1 (by omega)
    obtain rfl := str_empty X h0
    obtain rfl := ht
    clear hsz hX h0
    go_enter Tryz.func64, Tryz.ntmps64
    go_wp2_with fail
    go_ret
    exact ⟨rfl, by (repeat' (first | exact bxR _ _ | assumption | refine bxD ?_ | refine bxN ?_ _ | refine bxA ?_ _ | refine bxS ?_ ?_ _ | refine bxT ?_ (by assumption) | refine bxW ?_ (by assumption) | exact Nat.le_refl _ | omega | (simp; done) | (simp; omega)))⟩
  · have h0' : 0 < X.size := by omega
    obtain ⟨c, r, rfl⟩ : ∃ c r, t = c :: r := by cases t with | nil => exact absurd hsz h0 | cons c r => exact ⟨c, r, rfl⟩
    have hg := tk_get X hX rfl h0'
    have hne := str_ne X h0'
    have e : isLet (c :: r) = decide (97 ≤ c.toNat ∧ c.toNat ≤ 122) := rfl
    rw [e]
    by_cases d1 : (97 : Int) ≤ (X[0].toNat : Int)
    · by_cases d2 : (X[0].toNat : Int) ≤ 122
      · rw [decide_eq_true (show 97 ≤ c.toNat ∧ c.toNat ≤ 122 by rw [hg] at d1 d2; omega)]
        clear hX e hg h0
        go_enter Tryz.func64, Tryz.ntmps64
        go_wp2_with fail
        go_ret
        exact ⟨rfl, by (repeat' (first | exact bxR _ _ | assumption | refine bxD ?_ | refine bxN ?_ _ | refine bxA ?_ _ | refine bxS ?_ ?_ _ | refine bxT ?_ (by assumption) | refine bxW ?_ (by assumption) | exact Nat.le_refl _ | omega | (simp; done) | (simp; omega)))⟩
      · rw [decide_eq_false (show ¬ (97 ≤ c.toNat ∧ c.toNat ≤ 122) by rw [hg] at d1 d2; omega)]
        clear hX e hg h0
        go_enter Tryz.func64, Tryz.ntmps64
        go_wp2_with fail
        go_ret
        exact ⟨rfl, by (repeat' (first | exact bxR _ _ | assumption | refine bxD ?_ | refine bxN ?_ _ | refine bxA ?_ _ | refine bxS ?_ ?_ _ | refine bxT ?_ (by assumption) | refine bxW ?_ (by assumption) | exact Nat.le_refl _ | omega | (simp; done) | (simp; omega)))⟩
    · rw [decide_eq_false (show ¬ (97 ≤ c.toNat ∧ c.toNat ≤ 122) by rw [hg] at d1; omega)]
      clear hX e hg h0
      go_enter Tryz.func64, Tryz.ntmps64
      go_wp2_with fail
      go_ret
      exact ⟨rfl, by (repeat' (first | exact bxR _ _ | assumption | refine bxD ?_ | refine bxN ?_ _ | refine bxA ?_ _ | refine bxS ?_ ?_ _ | refine bxT ?_ (by assumption) | refine bxW ?_ (by assumption) | exact Nat.le_refl _ | omega | (simp; done) | (simp; omega)))⟩
set_option maxHeartbeats 4000000 in
theorem rf_isDigit (t : Tok) (w : World) (hl : t.length ≤ 9223372036854775807) :
    Calls Tryz.prog 63 #[.string (tkS t)] w fun e w' => e = .returned (.bool (isDig t)) ∧ Below w.heap.size w w' := by
  obtain ⟨X, hX⟩ : ∃ X, X = tkS t := ⟨_, rfl⟩
  have hsz : X.size = t.length := by rw [hX, tkS_len]
  rw [← hX]
  by_cases h0 : X.size = 0
  · have ht : t = [] := List.length_eq_zero_iff.1 (by omega)
    obtain rfl := str_empty X h0
    obtain rfl := ht
    clear hsz hX h0
    go_enter Tryz.func63, Tryz.ntmps63
    go_wp2_with fail
    go_ret
    exact ⟨rfl, by (repeat' (first | exact bxR _ _ | assumption | refine bxD ?_ | refine bxN ?_ _ | refine bxA ?_ _ | refine bxS ?_ ?_ _ | refine bxT ?_ (by assumption) | refine bxW ?_ (by assumption) | exact Nat.le_refl _ | omega | (simp; done) | (simp; omega)))⟩
  · have h0' : 0 < X.size := by omega
    obtain ⟨c, r, rfl⟩ : ∃ c r, t = c :: r := by cases t with | nil => exact absurd hsz h0 | cons c r => exact ⟨c, r, rfl⟩
    have hg := tk_get X hX rfl h0'
    have hne := str_ne X h0'
    have e : isDig (c :: r) = decide (48 ≤ c.toNat ∧ c.toNat ≤ 57) := rfl
    rw [e]
    by_cases d1 : (48 : Int) ≤ (X[0].toNat : Int)
    · by_cases d2 : (X[0].toNat : Int) ≤ 57
      · rw [decide_eq_true (show 48 ≤ c.toNat ∧ c.toNat ≤ 57 by rw [hg] at d1 d2; omega)]
        clear hX e hg h0
        go_enter Tryz.func63, Tryz.ntmps63
        go_wp2_with fail
        go_ret
        exact ⟨rfl, by (repeat' (first | exact bxR _ _ | assumption | refine bxD ?_ | refine bxN ?_ _ | refine bxA ?_ _ | refine bxS ?_ ?_ _ | refine bxT ?_ (by assumption) | refine bxW ?_ (by assumption) | exact Nat.le_refl _ | omega | (simp; done) | (simp; omega)))⟩
      · rw [decide_eq_false (show ¬ (48 ≤ c.toNat ∧ c.toNat ≤ 57) by rw [hg] at d1 d2; omega)]
        clear hX e hg h0
        go_enter Tryz.func63, Tryz.ntmps63
        go_wp2_with fail
        go_ret
        exact ⟨rfl, by (repeat' (first | exact bxR _ _ | assumption | refine bxD ?_ | refine bxN ?_ _ | refine bxA ?_ _ | refine bxS ?_ ?_ _ | refine bxT ?_ (by assumption) | refine bxW ?_ (by assumption) | exact Nat.le_refl _ | omega | (simp; done) | (simp; omega)))⟩
    · rw [decide_eq_false (show ¬ (48 ≤ c.toNat ∧ c.toNat ≤ 57) by rw [hg] at d1; omega)]
      clear hX e hg h0
      go_enter Tryz.func63, Tryz.ntmps63
      go_wp2_with fail
      go_ret
      exact ⟨rfl, by (repeat' (first | exact bxR _ _ | assumption | refine bxD ?_ | refine bxN ?_ _ | refine bxA ?_ _ | refine bxS ?_ ?_ _ | refine bxT ?_ (by assumption) | refine bxW ?_ (by assumption) | exact Nat.le_refl _ | omega | (simp; done) | (simp; omega)))⟩
def QPost {α : Type} (B : Nat → Prop) (g o : Nat) (d : Value) (val : α → Value) (w : World) : Res (α × List Tok) → Ending → World → Prop
  | .stuck, _, _ => False
  | .bad c, e, w' => e = .returned d ∧ c ≠ 0 ∧ QFail g c w w'
  | .good p, e, w' => e = .returned (val p.1) ∧ QWent B g p.2 o w w'
theorem isLet_ne {l : List Tok} (h : isLet (hd l) = true) : hd l ≠ [] := by intro e; rw [e] at h; cases h
theorem isDig_ne {l : List Tok} (h : isDig (hd l) = true) : hd l ≠ [] := by intro e; rw [e] at h; cases h
set_option maxHeartbeats 4000000 in
theorem rf_name {w : World} {g : Nat} {l : List Tok} {o : Nat} (h : QAt B w g l o) :
    Calls Tryz.prog 91 #[.pointer (some ⟨g, 0, none⟩)] w (QPost B g o (.string ⟨#[]⟩) (fun t => .string (tkS t)) w (wordP l)) := by
  have CT := Lib.hid (rf_peek h)
  have hz := h.ok.hd
  have H := Lib.hid h; clear h
  have CL := Lib.hid (fun W => rf_isLetter (hd l) W (by omega))
  obtain ⟨X, hX⟩ : ∃ X, X = tkS (hd l) := ⟨_, rfl⟩
  rw [← hX] at CT CL
  by_cases hL : isLet (hd l) = true
  · have hpp : wordP l = .good (hd l, l.tail) := by unfold wordP; rw [if_pos hL]
    rw [hpp]
    show Calls _ _ _ _ (fun e w' => e = .returned (.string (tkS (hd l))) ∧ QWent B g l.tail o w w')
    rw [← hX]
    rw [hL] at CL
    have CP := Lib.hid (fun W (hW : QAt B W g l o) => rf_pass hW (isLet_ne hL))
    clear hpp hL hX hz
    go_enter Tryz.func91, Tryz.ntmps91
    go_wp2_with fail
    refine CT.out.mono ?_
    rintro e w1 ⟨rfl, hb1⟩
    go_wp2_with fail
    refine (CL.out _).mono ?_
    rintro e w2 ⟨rfl, hb2⟩
    have H2 := Lib.hid (((QWent.refl H.out).then_ hb1).then_ hb2)
    go_wp2_with fail
    refine (CP.out _ H2.out.1).mono ?_
    rintro e w3 ⟨rfl, hw⟩
    have HW := Lib.hid hw; clear hw
    go_wp2_with fail
    go_ret
    exact ⟨rfl, H2.out.trans HW.out⟩
  · have hpp : wordP l = .bad 4 := by unfold wordP; rw [if_neg hL]
    rw [hpp]
    show Calls _ _ _ _ (fun e w' => e = .returned (.string ⟨#[]⟩) ∧ (4 : Int) ≠ 0 ∧ QFail g 4 w w')
    rw [show isLet (hd l) = false by simpa using hL] at CL
    clear hpp hL hX hz
    go_enter Tryz.func91, Tryz.ntmps91
    go_wp2_with fail
    refine CT.out.mono ?_
    rintro e w1 ⟨rfl, hb1⟩
    go_wp2_with fail
    refine (CL.out _).mono ?_
    rintro e w2 ⟨rfl, hb2⟩
    have H2 := Lib.hid (((QWent.refl H.out).then_ hb1).then_ hb2)
    go_wp2_with fail
    refine (rf_fail 4 H2.out.1).mono ?_
    rintro e w3 ⟨rfl, hw⟩
    have HW := Lib.hid hw; clear hw
    go_wp2_with fail
    go_ret
    exact ⟨rfl, by decide, H2.out.failed HW.out⟩
set_option maxHeartbeats 4000000 in
theorem rf_name_bad {w : World} {g : Nat} {c : Int} (h : QBad w g c) (hc : c ≠ 0) :
    Calls Tryz.prog 91 #[.pointer (some ⟨g, 0, none⟩)] w fun e w' => e = .returned (.string ⟨#[]⟩) ∧ Below w.heap.size w w' := by
  have CT := Lib.hid (rf_peek_bad h hc)
  have H := Lib.hid h; clear h
  have CL := Lib.hid (fun W => rf_isLetter [] W (by simp))
  have HC := Lib.hid hc
  clear hc
  go_enter Tryz.func91, Tryz.ntmps91
  go_wp2_with fail
  refine CT.out.mono ?_
  rintro e w1 ⟨rfl, hb1⟩
  go_wp2_with fail
  refine (CL.out _).mono ?_
  rintro e w2 ⟨rfl, hb2⟩
  go_wp2_with fail
  refine (rf_fail_bad 4 ((H.out.then_ hb1).then_ hb2) HC.out).mono ?_
  rintro e w3 ⟨rfl, hw⟩
  go_wp2_with fail
  go_ret
  exact ⟨rfl, by (repeat' (first | exact bxR _ _ | assumption | refine bxD ?_ | refine bxN ?_ _ | refine bxA ?_ _ | refine bxS ?_ ?_ _ | refine bxT ?_ (by assumption) | refine bxW ?_ (by assumption) | exact Nat.le_refl _ | omega | (simp; done) | (simp; omega)))⟩
end Go.Proofs.YtdmkghgachapaabGreatDoor

set_option linter.unusedSimpArgs false
namespace Go.Proofs.YtdmkghgachapaabGreatDoor
set_option linter.unusedVariables false
set_option maxRecDepth 100000
open Go.RowKit Go.Shelf
variable {B : Nat → Prop}
theorem numOf_next (t : Tok) (i : Nat) (c : UInt8) (h : t[i]? = some c) : numOf (t.take (i + 1)) = 10 * numOf (t.take i) + ((c.toNat : Int) - 48) := by
  rw [List.take_add_one, h]
  unfold numOf
  rw [Option.toList_some, List.foldl_append]
  rfl
theorem numOf_bound (t : Tok) (h : ∀ c ∈ t, cls c = 2) (i : Nat) (hi : i ≤ 10) : 0 ≤ numOf (t.take i) ∧ numOf (t.take i) ≤ 9999999999 := by
  have h' : ∀ c ∈ t.take i, cls c = 2 := fun c hc => h c (List.mem_of_mem_take hc)
  have e : numOf (t.take i) = (Num.natFrom 0 (t.take i) : Int) := num_nat (t.take i) 0 h'
  have hb := nat_lt (t.take i) 0 h'
  have hp : 10 ^ (t.take i).length ≤ 10 ^ 10 := Nat.pow_le_pow_right (by omega) (by rw [List.length_take]; omega)
  omega
set_option maxHeartbeats 4000000 in
theorem rf_number {w : World} {g : Nat} {l : List Tok} {o : Nat} (h : QAt B w g l o) :
    Calls Tryz.prog 113 #[.pointer (some ⟨g, 0, none⟩), .int .i64 10] w (QPost B g o (.int .i64 0) (fun n => .int .i64 n) w (natP l)) := by
  have CT := Lib.hid (rf_peek h)
  have hz := h.ok.hd
  have hok : okT (hd l) := by
    cases l with
    | nil => rintro ⟨c, r, e, _⟩; cases e
    | cons t r => exact (h.ok t (by simp)).1
  have H := Lib.hid h; clear h
  have CL := Lib.hid (fun W => rf_isDigit (hd l) W (by omega))
  obtain ⟨X, hX⟩ : ∃ X, X = tkS (hd l) := ⟨_, rfl⟩
  have hsz : X.size = (hd l).length := by rw [hX, tkS_len]
  rw [← hX] at CT CL
  by_cases hL : isDig (hd l) = true
  · rw [hL] at CL
    have CP := Lib.hid (fun W (hW : QAt B W g l o) => rf_pass hW (isDig_ne hL))
    by_cases hbig : 10 < (hd l).length
    · have hpp : natP l = .bad 2 := by unfold natP; rw [if_neg (by rw [hL]; simp), if_pos hbig]
      rw [hpp]
      show Calls _ _ _ _ (fun e w' => e = .returned (.int .i64 0) ∧ (2 : Int) ≠ 0 ∧ QFail g 2 w w')
      have d3 : (10 : Int) < (X.size : Int) := by omega
      clear hpp hL hX hz hok hsz hbig
      go_enter Tryz.func113, Tryz.ntmps113
      go_wp2_with fail
      refine CT.out.mono ?_
      rintro e w1 ⟨rfl, hb1⟩
      go_wp2_with fail
      refine (CL.out _).mono ?_
      rintro e w2 ⟨rfl, hb2⟩
      have H2 := Lib.hid (((QWent.refl H.out).then_ hb1).then_ hb2)
      go_wp2_with fail
      refine (rf_fail 2 H2.out.1).mono ?_
      rintro e w3 ⟨rfl, hw⟩
      have HW := Lib.hid hw; clear hw
      go_wp2_with fail
      go_ret
      exact ⟨rfl, by decide, H2.out.failed HW.out⟩
    · have hpp : natP l = .good (numOf (hd l), l.tail) := by unfold natP; rw [if_neg (by rw [hL]; simp), if_neg hbig]
      rw [hpp]
      show Calls _ _ _ _ (fun e w' => e = .returned (.int .i64 (numOf (hd l))) ∧ QWent B g l.tail o w w')
      have hcl : ∀ c ∈ hd l, cls c = 2 := by
        cases hh : hd l with
        | nil => intro c hc; simp at hc
        | cons c r =>
          rw [hh] at hok hL
          exact hok ⟨c, r, rfl, cls2_iff.2 (by simpa [isDig] using hL)⟩
      have d3 : ¬ (10 : Int) < (X.size : Int) := by omega
      have HX := Lib.hid hX; have HSZ := Lib.hid hsz; have HCL := Lib.hid hcl
      have hx10 : X.size ≤ 10 := by omega
      clear hpp hL hX hz hok hsz hbig hcl
      go_enter Tryz.func113, Tryz.ntmps113
      go_wp2_with fail
      refine CT.out.mono ?_
      rintro e w1 ⟨rfl, hb1⟩
      go_wp2_with fail
      refine (CL.out _).mono ?_
      rintro e w2 ⟨rfl, hb2⟩
      have H2 := Lib.hid (((QWent.refl H.out).then_ hb1).then_ hb2)
      go_wp2_with fail
      refine (CP.out _ H2.out.1).mono ?_
      rintro e w3 ⟨rfl, hw⟩
      have HW := Lib.hid (H2.out.trans hw); clear hw
      have HTL := Lib.hid (show X.data.toList = hd l by rw [HX.out])
      go_wp2_with fail
      go_loopw [6, 7, 25] (fun n _ k wr => ∃ i : Nat, i ≤ X.size ∧ k = .int .i64 i ∧ n = .int .i64 (numOf ((hd l).take i)) ∧ QWent B g l.tail o w wr) (fun _ _ v _ => X.size - (intOf v).toNat)
      case atStart => exact ⟨0, by omega, rfl, rfl, HW.out⟩
      case round =>
        obtain ⟨i, hi, rfl, rfl, hq⟩ := hrel
        have HQ := Lib.hid hq; clear hq
        by_cases hlt : i < X.size
        · have hg := str_get X i hlt
          rw [HTL.out] at hg
          have hc := cls2_iff.1 (HCL.out _ (List.mem_of_getElem? hg))
          have hnx := numOf_next (hd l) i _ hg
          have hb1 := numOf_bound (hd l) HCL.out i (by omega)
          have hb2 := numOf_bound (hd l) HCL.out (i + 1) (by omega)
          have d1 : (48 : Int) ≤ (X[i].toNat : Int) := by omega
          have d2 : (X[i].toNat : Int) ≤ 57 := by omega
          obtain ⟨N, hN⟩ : ∃ N, N = numOf ((hd l).take i) := ⟨_, rfl⟩
          rw [← hN] at hnx hb1 ⊢
          have HNX := Lib.hid hnx
          have hbn := hb1
          obtain ⟨n0, n1⟩ := hbn
          clear hnx hg hN hb1 hb2 hc
          go_wp2_with fail
          go_roundw
          case rel => exact ⟨i + 1, by omega, by go_num, by rw [HNX.out]; try go_num, HQ.out⟩
          case measure => simp [intOf]; omega
        · have hN : numOf ((hd l).take i) = numOf (hd l) := by
            rw [List.take_of_length_le (by have := HSZ.out; omega)]
          rw [hN]
          clear hN
          go_wp2_with fail
          go_ret
          exact ⟨rfl, HQ.out⟩
  · have hpp : natP l = .bad 4 := by unfold natP; rw [if_pos (by simpa using hL)]
    rw [hpp]
    show Calls _ _ _ _ (fun e w' => e = .returned (.int .i64 0) ∧ (4 : Int) ≠ 0 ∧ QFail g 4 w w')
    rw [show isDig (hd l) = false by simpa using hL] at CL
    clear hpp hL hX hz hok hsz
    go_enter Tryz.func113, Tryz.ntmps113
    go_wp2_with fail
    refine CT.out.mono ?_
    rintro e w1 ⟨rfl, hb1⟩
    go_wp2_with fail
    refine (CL.out _).mono ?_
    rintro e w2 ⟨rfl, hb2⟩
    have H2 := Lib.hid (((QWent.refl H.out).then_ hb1).then_ hb2)
    go_wp2_with fail
    refine (rf_fail 4 H2.out.1).mono ?_
    rintro e w3 ⟨rfl, hw⟩
    have HW := Lib.hid hw; clear hw
    go_wp2_with fail
    go_ret
    exact ⟨rfl, by decide, H2.out.failed HW.out⟩
set_option maxHeartbeats 4000000 in
theorem rf_number_bad {w : World} {g : Nat} {c : Int} (h : QBad w g c) (hc : c ≠ 0) :
    Calls Tryz.prog 113 #[.pointer (some ⟨g, 0, none⟩), .int .i64 10] w fun e w' => e = .returned (.int .i64 0) ∧ Below w.heap.size w w' := by
  have CT := Lib.hid (rf_peek_bad h hc)
  have H := Lib.hid h; clear h
  have CL := Lib.hid (fun W => rf_isDigit [] W (by simp))
  have HC := Lib.hid hc
  clear hc
  go_enter Tryz.func113, Tryz.ntmps113
  go_wp2_with fail
  refine CT.out.mono ?_
  rintro e w1 ⟨rfl, hb1⟩
  go_wp2_with fail
  refine (CL.out _).mono ?_
  rintro e w2 ⟨rfl, hb2⟩
  go_wp2_with fail
  refine (rf_fail_bad 4 ((H.out.then_ hb1).then_ hb2) HC.out).mono ?_
  rintro e w3 ⟨rfl, hw⟩
  go_wp2_with fail
  go_ret
  exact ⟨rfl, by (repeat' (first | exact bxR _ _ | assumption | refine bxD ?_ | refine bxN ?_ _ | refine bxA ?_ _ | refine bxS ?_ ?_ _ | refine bxT ?_ (by assumption) | refine bxW ?_ (by assumption) | exact Nat.le_refl _ | omega | (simp; done) | (simp; omega)))⟩
set_option maxHeartbeats 4000000 in
theorem rf_signed {w : World} {g : Nat} {l : List Tok} {o : Nat} (h : QAt B w g l o) :
    Calls Tryz.prog 92 #[.pointer (some ⟨g, 0, none⟩)] w (QPost B g o (.int .i64 0) (fun n => .int .i64 n) w (signP l)) := by
  have CT := Lib.hid (rf_peek h)
  have HOK := Lib.hid h.ok
  have H := Lib.hid h; clear h
  obtain ⟨X, hX⟩ : ∃ X, X = tkS (hd l) := ⟨_, rfl⟩
  by_cases h1 : hd l = [45]
  · rw [h1] at CT
    have CP := Lib.hid (fun W (hW : QAt B W g l o) => rf_pass hW (by rw [h1]; simp))
    rcases natP_cases l.tail with ⟨c, e⟩ | ⟨n, e⟩
    · have e1 : signP l = .bad c := by unfold signP; rw [if_pos h1, e]; rfl
      rw [e1]
      clear h1 e1 hX
      go_enter Tryz.func92, Tryz.ntmps92
      go_wp2_with (go_at_call 111; refine (CT.out).mono ?_; rintro e w1 ⟨rfl, hb⟩)
      have H1 := Lib.hid ((QWent.refl H.out).then_ hb)
      refine (CP.out _ H1.out.1).mono ?_
      rintro e' w2 ⟨rfl, hw⟩
      have HW := Lib.hid (H1.out.trans hw); clear hw
      have CN := Lib.hid (rf_number HW.out.1)
      rw [e] at CN
      go_wp2_with fail
      refine CN.out.mono ?_
      rintro e' w3 ⟨rfl, hc, hf⟩
      have HF := Lib.hid hf; clear hf
      go_wp2_with fail
      go_ret
      exact ⟨rfl, hc, HW.out.failed HF.out⟩
    · have e1 : signP l = .good (-n, l.tail.tail) := by unfold signP; rw [if_pos h1, e]; rfl
      have hr := natP_in e (by
        cases hh : l.tail with
        | nil => rintro ⟨c, r, e, _⟩; cases e
        | cons t r => exact (HOK.out t (List.mem_of_mem_tail (by rw [hh]; simp))).1)
      simp only at hr
      obtain ⟨r1, r2⟩ := hr
      rw [e1]
      clear h1 e1 hX
      go_enter Tryz.func92, Tryz.ntmps92
      go_wp2_with (go_at_call 111; refine (CT.out).mono ?_; rintro e w1 ⟨rfl, hb⟩)
      have H1 := Lib.hid ((QWent.refl H.out).then_ hb)
      refine (CP.out _ H1.out.1).mono ?_
      rintro e' w2 ⟨rfl, hw⟩
      have HW := Lib.hid (H1.out.trans hw); clear hw
      have CN := Lib.hid (rf_number HW.out.1)
      rw [e] at CN
      go_wp2_with fail
      refine CN.out.mono ?_
      rintro e' w3 ⟨rfl, hf⟩
      have HF := Lib.hid hf; clear hf
      go_wp2_with fail
      go_ret
      exact ⟨rfl, HW.out.trans HF.out⟩
  · have e1 : signP l = natP l := by unfold signP; rw [if_neg h1]
    obtain ⟨q1, q2⟩ := tk_ne (T := ⟨#[45]⟩) (t := [45]) hX rfl h1
    rw [show (⟨#[45]⟩ : ByteArray).toList = [45] from by rw [str_list]] at q1 q2
    rw [← hX] at CT
    rw [e1]
    clear h1 e1 hX
    rcases natP_cases l with ⟨c, e⟩ | ⟨n, e⟩
    · rw [e]
      go_enter Tryz.func92, Tryz.ntmps92
      go_wp2_with (go_at_call 111; refine (CT.out).mono ?_; rintro e w1 ⟨rfl, hb⟩)
      have H1 := Lib.hid ((QWent.refl H.out).then_ hb)
      have CN := Lib.hid (rf_number H1.out.1)
      rw [e] at CN
      refine CN.out.mono ?_
      rintro e' w3 ⟨rfl, hc, hf⟩
      have HF := Lib.hid hf; clear hf
      go_wp2_with fail
      go_ret
      exact ⟨rfl, hc, H1.out.failed HF.out⟩
    · rw [e]
      go_enter Tryz.func92, Tryz.ntmps92
      go_wp2_with (go_at_call 111; refine (CT.out).mono ?_; rintro e w1 ⟨rfl, hb⟩)
      have H1 := Lib.hid ((QWent.refl H.out).then_ hb)
      have CN := Lib.hid (rf_number H1.out.1)
      rw [e] at CN
      refine CN.out.mono ?_
      rintro e' w3 ⟨rfl, hf⟩
      have HF := Lib.hid hf; clear hf
      go_wp2_with fail
      go_ret
      exact ⟨rfl, H1.out.trans HF.out⟩
set_option maxHeartbeats 4000000 in
theorem rf_signed_bad {w : World} {g : Nat} {c : Int} (h : QBad w g c) (hc : c ≠ 0) :
    Calls Tryz.prog 92 #[.pointer (some ⟨g, 0, none⟩)] w fun e w' => e = .returned (.int .i64 0) ∧ Below w.heap.size w w' := by
  have CT := Lib.hid (rf_peek_bad h hc)
  have H := Lib.hid h; clear h
  have HC := Lib.hid hc
  clear hc
  go_enter Tryz.func92, Tryz.ntmps92
  go_wp2_with (go_at_call 111; refine (CT.out).mono ?_; rintro e w1 ⟨rfl, hb⟩)
  refine (rf_number_bad (H.out.then_ hb) HC.out).mono ?_
  rintro e w2 ⟨rfl, hb2⟩
  go_wp2_with fail
  go_ret
  exact ⟨rfl, by (repeat' (first | exact bxR _ _ | assumption | refine bxD ?_ | refine bxN ?_ _ | refine bxA ?_ _ | refine bxS ?_ ?_ _ | refine bxT ?_ (by assumption) | refine bxW ?_ (by assumption) | exact Nat.le_refl _ | omega | (simp; done) | (simp; omega)))⟩
def binK (t : Tok) : Int := match opOf t with
  | some (k, _) => k
  | none => 0
theorem bin_spec (t : Tok) : ∃ k0 : Int, 4 ≤ k0 ∧ k0 ≤ 14 ∧ (∀ k, 4 ≤ k → k < k0 → t = [] ∨ sgn k ≠ t) ∧ ((k0 = 14 ∧ binK t = 0) ∨ (k0 ≤ 13 ∧ t ≠ [] ∧ sgn k0 = t ∧ binK t = k0)) := by
  have ks : ∀ k : Int, 4 ≤ k → k < 14 → k = 4 ∨ k = 5 ∨ k = 6 ∨ k = 7 ∨ k = 8 ∨ k = 9 ∨ k = 10 ∨ k = 11 ∨ k = 12 ∨ k = 13 := fun k _ _ => by omega
  by_cases h : t = [43] ∨ t = [45] ∨ t = [42] ∨ t = [47] ∨ t = [37] ∨ t = [60] ∨ t = [61] ∨ t = [97, 110, 100] ∨ t = [111, 114]
  · rcases h with rfl | rfl | rfl | rfl | rfl | rfl | rfl | rfl | rfl
    · exact ⟨4, by decide, by decide, fun k h1 h2 => by omega, .inr (by decide)⟩
    · exact ⟨5, by decide, by decide, fun k h1 h2 => by rcases ks k h1 (by omega) with rfl | rfl | rfl | rfl | rfl | rfl | rfl | rfl | rfl | rfl <;> first | omega | exact .inr (by decide), .inr (by decide)⟩
    · exact ⟨6, by decide, by decide, fun k h1 h2 => by rcases ks k h1 (by omega) with rfl | rfl | rfl | rfl | rfl | rfl | rfl | rfl | rfl | rfl <;> first | omega | exact .inr (by decide), .inr (by decide)⟩
    · exact ⟨7, by decide, by decide, fun k h1 h2 => by rcases ks k h1 (by omega) with rfl | rfl | rfl | rfl | rfl | rfl | rfl | rfl | rfl | rfl <;> first | omega | exact .inr (by decide), .inr (by decide)⟩
    · exact ⟨8, by decide, by decide, fun k h1 h2 => by rcases ks k h1 (by omega) with rfl | rfl | rfl | rfl | rfl | rfl | rfl | rfl | rfl | rfl <;> first | omega | exact .inr (by decide), .inr (by decide)⟩
    · exact ⟨9, by decide, by decide, fun k h1 h2 => by rcases ks k h1 (by omega) with rfl | rfl | rfl | rfl | rfl | rfl | rfl | rfl | rfl | rfl <;> first | omega | exact .inr (by decide), .inr (by decide)⟩
    · exact ⟨10, by decide, by decide, fun k h1 h2 => by rcases ks k h1 (by omega) with rfl | rfl | rfl | rfl | rfl | rfl | rfl | rfl | rfl | rfl <;> first | omega | exact .inr (by decide), .inr (by decide)⟩
    · exact ⟨12, by decide, by decide, fun k h1 h2 => by rcases ks k h1 (by omega) with rfl | rfl | rfl | rfl | rfl | rfl | rfl | rfl | rfl | rfl <;> first | omega | exact .inr (by decide), .inr (by decide)⟩
    · exact ⟨13, by decide, by decide, fun k h1 h2 => by rcases ks k h1 (by omega) with rfl | rfl | rfl | rfl | rfl | rfl | rfl | rfl | rfl | rfl <;> first | omega | exact .inr (by decide), .inr (by decide)⟩
  · simp only [not_or] at h
    obtain ⟨a1, a2, a3, a4, a5, a6, a7, a8, a9⟩ := h
    refine ⟨14, by decide, by decide, fun k h1 h2 => ?_, .inl ⟨rfl, ?_⟩⟩
    · by_cases h0 : t = []
      · exact .inl h0
      · refine .inr fun e => ?_
        rcases ks k h1 h2 with rfl | rfl | rfl | rfl | rfl | rfl | rfl | rfl | rfl | rfl
        · exact a1 e.symm
        · exact a2 e.symm
        · exact a3 e.symm
        · exact a4 e.symm
        · exact a5 e.symm
        · exact a6 e.symm
        · exact a7 e.symm
        · exact h0 e.symm
        · exact a8 e.symm
        · exact a9 e.symm
    · unfold binK opOf
      simp [a1, a2, a3, a4, a5, a6, a7, a8, a9]
set_option maxHeartbeats 4000000 in
theorem rf_binary (t : Tok) (w : World) :
    Calls Tryz.prog 114 #[.string (tkS t)] w fun e w' => e = .returned (.int .i64 (binK t)) ∧ Below w.heap.size w w' := by
  obtain ⟨k0, h1, h2, h3, h4⟩ := bin_spec t
  obtain ⟨X, hX⟩ : ∃ X, X = tkS t := ⟨_, rfl⟩
  rw [← hX]
  obtain ⟨R, hR⟩ : ∃ R, R = binK t := ⟨_, rfl⟩
  rw [← hR] at h4 ⊢
  have H3 := Lib.hid h3; have H4 := Lib.hid h4; have HX := Lib.hid hX
  clear hX hR h3 h4
  go_enter Tryz.func114, Tryz.ntmps114
  go_wp2_with fail
  go_loopw [3] (fun v wr => ∃ k : Int, v = .int .i64 k ∧ 4 ≤ k ∧ k ≤ k0 ∧ Below w.heap.size w wr) (fun v _ => 14 - (intOf v).toNat)
  case atStart => exact ⟨4, rfl, by omega, h1, Below.refl _ _⟩
  case round =>
    obtain ⟨k, rfl, k1, k2, hb⟩ := hrel
    have HB := Lib.hid hb; clear hb
    have CS := Lib.hid (fun W (h : k ≤ 13) => ref_sign k W (by omega) h)
    by_cases hk : k = k0
    · subst hk
      rcases H4.out with ⟨rfl, hr⟩ | ⟨hle, hne, hsg, hr⟩
      · clear CS k1 k2 h1 h2
        go_wp2_with fail
        go_ret
        exact ⟨by (try rw [hr]); rfl, HB.out⟩
      · have CS2 := Lib.hid (fun W => CS.out W hle)
        have hlk : k ≤ 13 := hle
        rw [hsg, ← show X = (⟨t.toArray⟩ : ByteArray) from HX.out] at CS2
        have hx := str_ne X (by rw [HX.out, tkS_len]; exact List.length_pos_iff.2 hne)
        clear CS hsg hne hle
        go_wp2_with fail
        refine (CS2.out _).mono ?_
        rintro e w1 ⟨rfl, hb⟩
        go_wp2_with fail
        go_ret
        exact ⟨by (try rw [hr]); rfl, below_then HB.out hb⟩
    · have hlt : k < k0 := by omega
      have hk13 : k ≤ 13 := by omega
      rcases H3.out k k1 hlt with ht | hs
      · obtain rfl : X = ⟨#[]⟩ := by rw [HX.out, ht]
        clear hk CS ht
        go_wp2_with fail
        go_roundw
        case rel => exact ⟨k + 1, by go_num, by omega, by omega, HB.out⟩
        case measure => simp [intOf]; omega
      · by_cases h0 : t = []
        · obtain rfl : X = ⟨#[]⟩ := by rw [HX.out, h0]
          clear hk CS h0 hs
          go_wp2_with fail
          go_roundw
          case rel => exact ⟨k + 1, by go_num, by omega, by omega, HB.out⟩
          case measure => simp [intOf]; omega
        · have CS2 := Lib.hid (fun W => CS.out W hk13)
          have hx := str_ne X (by rw [HX.out, tkS_len]; exact List.length_pos_iff.2 h0)
          obtain ⟨Y, hY⟩ : ∃ Y, Y = tkS (sgn k) := ⟨_, rfl⟩
          obtain ⟨q1, q2⟩ := tk_ne hY HX.out hs
          rw [show (⟨(sgn k).toArray⟩ : ByteArray) = Y from hY.symm] at CS2
          clear hk CS hs hY h0
          go_wp2_with fail
          refine (CS2.out _).mono ?_
          rintro e w1 ⟨rfl, hb⟩
          go_wp2_with fail
          go_roundw
          case rel => exact ⟨k + 1, by go_num, by omega, by omega, below_then HB.out hb⟩
          case measure => simp [intOf]; omega
end Go.Proofs.YtdmkghgachapaabGreatDoor

set_option linter.unusedSimpArgs false
namespace Go.Proofs.YtdmkghgachapaabGreatDoor
set_option linter.unusedVariables false
set_option maxRecDepth 100000
open Go.RowKit Go.Shelf
variable {B : Nat → Prop}
theorem QAt.open_ {w : World} {g : Nat} {l : List Tok} {o : Nat} (h : QAt B w g l o) (k : Nat) : QAt B (w.setCell ⟨g, 2, none⟩ (.int .i64 k)) g l k := by
  obtain ⟨A, m, c, h1, ⟨q1, q2, q3, q4, q5⟩, h3⟩ := h
  refine ⟨A, m, c, h1.store 2 _, ⟨q1, q2, q3, by simpa [World.setCell] using q4, fun h0 => ?_⟩, h3⟩
  obtain ⟨b', off, e, hb', hl, hc⟩ := q5 h0
  refine ⟨b', off, e, hb', hl, fun j t hj => ?_⟩
  rw [← hc j t hj]
  unfold World.cell?
  simp only
  rw [Below.heap_setCell w ⟨g, 2, none⟩ _ b' (by simpa using hb')]
theorem QWent.open_ {w W : World} {g : Nat} {l : List Tok} {o : Nat} (h : QWent B g l o w W) (k : Nat) : QWent B g l k w (W.setCell ⟨g, 2, none⟩ (.int .i64 k)) := ⟨h.1.open_ k, h.2.set 2 _⟩
theorem QAt.cells {w : World} {g : Nat} {l : List Tok} {o : Nat} (h : QAt B w g l o) : w.cell? ⟨g, 1, none⟩ = some (.int .i64 0) ∧ w.cell? ⟨g, 2, none⟩ = some (.int .i64 (o : Int)) ∧ w.frozen? ⟨g, 2, none⟩ = false := by
  obtain ⟨A, m, c, h1, _, _⟩ := h
  exact ⟨h1.cell 1, h1.cell 2, h1.frozen 2⟩
theorem QBad.cells {w : World} {g : Nat} {c : Int} (h : QBad w g c) : ∃ o : Int, w.cell? ⟨g, 1, none⟩ = some (.int .i64 c) ∧ w.cell? ⟨g, 2, none⟩ = some (.int .i64 o) ∧ w.frozen? ⟨g, 2, none⟩ = false := by
  obtain ⟨A, m, cc, o, h1⟩ := h
  exact ⟨o, h1.cell 1, h1.cell 2, h1.frozen 2⟩
theorem QFail.open_ {w W : World} {g : Nat} {c : Int} (h : QFail g c w W) (k : Int) : QFail g c w (W.setCell ⟨g, 2, none⟩ (.int .i64 k)) := by
  obtain ⟨⟨A, m, cc, o, h1⟩, h2⟩ := h
  exact ⟨⟨A, m, cc, k, h1.store 2 _⟩, h2.set 2 _⟩
theorem op_facts {t : Tok} {k : Int} {lv : Nat} (h : opOf t = some (k, lv)) : 4 ≤ k ∧ k ≤ 13 ∧ lvl k + 1 = ((lv + 1 : Nat) : Int) ∧ lv ≤ 5 ∧ t ≠ [] ∧ binK t = k := by
  refine ⟨?_, ?_, ?_, ?_, opOf_ne h, by unfold binK; rw [h]⟩
  all_goals
    unfold opOf at h
    repeat' split at h
    all_goals first | (cases h; done) | (injection h with h; injection h with h1 h2; subst h1 h2; decide)
def QEPost (B : Nat → Prop) (g o : Nat) (w : World) : PRes → Ending → World → Prop
  | .stuck, _, _ => False
  | .bad c, e, w' => (∃ (k n : Int) (a : Option Addr) (m d : Nat), e = .returned (.agg #[.int .i64 k, .int .i64 n, .slice a m d])) ∧ c ≠ 0 ∧ QFail g c w w'
  | .good p, e, w' => (∃ v D, e = .returned v ∧ TG w.heap.size D w' p.1 v) ∧ QWent B g p.2 o w w'
def QExprOk (B : Nat → Prop) (g f : Nat) : Prop := ∀ (least : Nat) (l : List Tok) (o : Nat) (w : World), 1 ≤ least → least ≤ 7 → o ≤ 12 → expR f least l o ≠ .stuck → QAt B w g l o →
  Calls Tryz.prog 93 #[.pointer (some ⟨g, 0, none⟩), .int .i64 (least : Int)] w (QEPost B g o w (expR f least l o))
theorem QEPost.open_ {g o : Nat} {w : World} {R : PRes} {e : Ending} {w' : World} (h : QEPost B g o w R e w') : ∃ (k n : Int) (a : Option Addr) (m d : Nat), e = .returned (.agg #[.int .i64 k, .int .i64 n, .slice a m d]) ∧ OneKept g w w' ∧
    ((∃ Y E l2, R = .good (Y, l2) ∧ TG w.heap.size E w' Y (.agg #[.int .i64 k, .int .i64 n, .slice a m d]) ∧ QWent B g l2 o w w') ∨ (∃ c, c ≠ 0 ∧ R = .bad c ∧ QFail g c w w')) := by
  cases R with
  | stuck => exact h.elim
  | bad c =>
    obtain ⟨⟨k, n, aa, mm, dd, he⟩, hc, hf⟩ := h
    exact ⟨k, n, aa, mm, dd, he, hf.2, .inr ⟨c, hc, rfl, hf⟩⟩
  | good p =>
    obtain ⟨⟨v, D, he, ht⟩, hw⟩ := h
    obtain ⟨k, n, aa, mm, dd, rfl⟩ := ht.form
    exact ⟨k, n, aa, mm, dd, he, hw.2, .inl ⟨p.1, D, p.2, rfl, ht, hw⟩⟩
def XSt (B : Nat → Prop) (g o : Nat) (w : World) (bR bX least : Nat) (RR : PRes) (gf top : Nat) (W : World) : Prop :=
  ∃ (k n : Int) (a : Option Addr) (m d : Nat), At W bX (exO (.int .i64 k) (.int .i64 n) (.slice a m d)) ∧ At W bR zeroE ∧
    ((∃ X D l', TG w.heap.size D W X (.agg #[.int .i64 k, .int .i64 n, .slice a m d]) ∧ ¬ D bR ∧ ¬ D bX ∧ QWent B g l' o w W ∧ RR = loopR gf least top X l' o) ∨ (∃ c, c ≠ 0 ∧ RR = .bad c ∧ QFail g c w W))
theorem QEPost.bad_ {g o : Nat} {w W : World} {c k n : Int} {a : Option Addr} {m d : Nat} (hc : c ≠ 0) (h : QFail g c w W) : QEPost B g o w (.bad c) (.returned (.agg #[.int .i64 k, .int .i64 n, .slice a m d])) W := ⟨⟨k, n, a, m, d, rfl⟩, hc, h⟩
theorem QEPost.good_ {g o : Nat} {w W : World} {X : Tree} {l : List Tok} {D : Nat → Prop} {v : Value} (h : TG w.heap.size D W X v) (hl : QWent B g l o w W) : QEPost B g o w (.good (X, l)) (.returned v) W := ⟨⟨v, D, rfl, h⟩, hl⟩
set_option maxHeartbeats 16000000 in
theorem rf_expr_step {g f : Nat} (IH : ∀ f', f' ≤ f → QExprOk B g f') : QExprOk B g (f + 1) := by
  intro least l o w hl1 hl7 ho hns h
  have hgw := h.lt
  have hBw := h.bound
  obtain ⟨RR, hRR⟩ : ∃ RR, RR = expR (f + 1) least l o := ⟨_, rfl⟩
  rw [← hRR] at hns ⊢
  have HRR := Lib.hid hRR; have HNS := Lib.hid hns
  have H0 := Lib.hid ((QWent.refl h).then_ (show Below w.heap.size w ((w.alloc zeroE).alloc zeroE) from below_new (below_new (Below.refl _ _) _) _))
  obtain ⟨bR, hbR⟩ : ∃ b, b = w.heap.size := ⟨_, rfl⟩
  obtain ⟨bX, hbX⟩ : ∃ b, b = w.heap.size + 1 := ⟨_, rfl⟩
  have A0 := Lib.hid ((At.newAt w zeroE bR hbR).alloc zeroE)
  have M0 := Lib.hid (At.newAt (w.alloc zeroE) zeroE bX (by rw [hbX, World.size_alloc]))
  have HBR := Lib.hid (show w.heap.size ≤ bR by omega)
  have HBX := Lib.hid (show w.heap.size ≤ bX by omega)
  have HBB := Lib.hid (show ¬ B bR from fun h => by have := hBw bR h; omega)
  have HBB2 := Lib.hid (show ¬ B bX from fun h => by have := hBw bX h; omega)
  have hgR : g ≠ bR := by omega
  have hgX : g ≠ bX := by omega
  have hRX : bR ≠ bX := by omega
  have hXR : bX ≠ bR := by omega
  clear h hRR hns hBw
  go_enter Tryz.func93, Tryz.ntmps93
  go_upto_region 3 with fail
  (try rw [World.size_alloc])
  rw [← hbX, ← hbR]
  clear hbX hbR
  generalize World.alloc (World.alloc w _) _ = W0 at A0 M0 H0 ⊢
  go_cut [7] from 9 to 10 (fun v wx => v = .string (tkS (hd l)) ∧ At wx bR zeroE ∧ At wx bX zeroE ∧ QWent B g l o w wx)
  case first =>
    go_wp2_with fail
    refine (rf_peek H0.out.1).mono ?_
    rintro e w1 ⟨rfl, hb⟩
    have A1 := Lib.hid (A0.out.then_ hb); have M1 := Lib.hid (M0.out.then_ hb); have H1 := Lib.hid (H0.out.then_ hb)
    clear A0 M0 H0 hb
    go_wp2_with fail
    go_meet
    case rel => exact ⟨rfl, A1.out, M1.out, H1.out⟩
  case rest =>
    obtain ⟨rfl, a1, m1, h1⟩ := hcut
    have A1 := Lib.hid a1; have M1 := Lib.hid m1; have H1 := Lib.hid h1
    clear a1 m1 h1 A0 M0 H0
    apply_assumption
    go_cut [6, 7] from 9 to 72 (fun vt _ wx => ∃ top : Nat, vt = .int .i64 top ∧ 1 ≤ top ∧ top ≤ 9 ∧ XSt B g o w bR bX least RR f top wx)
    case first =>
      by_cases c1 : hd l = tNot ∧ least ≤ 3
      · obtain ⟨c1, c1'⟩ := c1
        rw [c1]
        have hns : expR f 3 l.tail o ≠ .stuck := fun h => HNS.out (by rw [HRR.out, expR, if_pos ⟨c1, c1'⟩, h]; rfl)
        have HR := Lib.hid (show RR = (expR f 3 l.tail o).bind fun p => loopR f least 3 (.node 11 0 [p.1]) p.2 o by rw [HRR.out, expR, if_pos ⟨c1, c1'⟩])
        clear HNS HRR
        go_wp2_with fail
        refine (rf_pass H1.out.1 (by rw [c1]; decide)).mono ?_
        rintro e w2 ⟨rfl, hw⟩
        have hk2 := hw.2
        have H2 := Lib.hid (H1.out.trans hw)
        have A2 := Lib.hid (A1.out.oneKept hk2 hgR.symm); have M2 := Lib.hid (M1.out.oneKept hk2 hgX.symm)
        have CE := Lib.hid (IH f (Nat.le_refl _) 3 l.tail o w2 (by omega) (by omega) ho hns H2.out.1)
        clear hw hk2 hns H1 A1 M1 
        go_wp2_with fail
        refine CE.out.mono ?_
        intro e w3 hp
        obtain ⟨k', n', ab, mb, db, rfl, hk3, hst⟩ := hp.open_
        clear hp CE
        have A3 := (A2.out.oneKept hk3 hgR.symm).alloc (exO (.int .i64 k') (.int .i64 n') (.slice ab mb db))
        have zz := (M2.out.oneKept hk3 hgX.symm).alloc (exO (.int .i64 k') (.int .i64 n') (.slice ab mb db))
        have z0 := zz.frozen 0; have z1 := zz.frozen 1; have z2 := zz.frozen 2; have zl := zz.lt; have y0 := zz.cell 0; have y1 := zz.cell 1; have y2 := zz.cell 2; simp at y0 y1 y2
        have hRM : bR < w2.heap.size := A2.out.lt
        have hXM : bX < w2.heap.size := M2.out.lt
        have hs3 : w2.heap.size ≤ w3.heap.size := hk3.size
        have hs2 : w.heap.size ≤ w2.heap.size := H2.out.2.size
        have M9 := Lib.hid (ex_store zz (.int .i64 11) (.int .i64 0) (.slice (some ⟨w3.heap.size, 0, none⟩) 1 1))
        have A9 := Lib.hid (A3.apart3 (p := bX) hRX (.int .i64 11) (.int .i64 0) (.slice (some ⟨w3.heap.size, 0, none⟩) 1 1))
        have HX := Lib.hid (show XSt B g o w bR bX least RR f 3 ((((w3.alloc (exO (.int .i64 k') (.int .i64 n') (.slice ab mb db))).setCell ⟨bX, 0, none⟩ (.int .i64 11)).setCell ⟨bX, 1, none⟩ (.int .i64 0)).setCell ⟨bX, 2, none⟩ (.slice (some ⟨w3.heap.size, 0, none⟩) 1 1)) from
          ⟨_, _, _, _, _, M9.out, A9.out, by
            rcases hst with ⟨Y, E, l2, hR, hT, hQ⟩ | ⟨c, hc, hR, hF⟩
            · have no : ∀ b, b < w2.heap.size → ¬ (E b ∨ b = w3.heap.size) := fun b hb h => by
                rcases h with h | h
                · have := (hT.2 b h).1; omega
                · omega
              exact .inl ⟨.node 11 0 [Y], _, l2, (TG.node1 (hT.weak hs2) (by omega) (by unfold I64; omega)).set3 (no bX hXM) _ _ _, no bR hRM, no bX hXM, ((H2.out.trans hQ).then_ (below_new (Below.refl _ _) _)).store3 HBX.out HBB2.out hgX _ _ _, by rw [HR.out, hR]; rfl⟩
            · exact .inr ⟨c, hc, by rw [HR.out, hR]; rfl, ((H2.out.failed hF).then_ (below_new (Below.refl _ _) _)).store3 HBX.out hgX _ _ _⟩⟩)
        clear hst A3 zz M9 A9 H2 A2 M2 hk3 hRM hXM hs3 hs2
        go_wp2_with fail
        go_meet
        case rel => exact ⟨3, rfl, by omega, by omega, HX.out⟩
      · by_cases c2 : hd l = [45]
        · rw [c2]
          have hns : expR f 7 l.tail o ≠ .stuck := fun h => HNS.out (by rw [HRR.out, expR, if_neg c1, if_pos c2, h]; rfl)
          have HR := Lib.hid (show RR = (expR f 7 l.tail o).bind fun p => loopR f least 7 (.node 3 0 [p.1]) p.2 o by rw [HRR.out, expR, if_neg c1, if_pos c2])
          clear HNS HRR
          go_wp2_with fail
          refine (rf_pass H1.out.1 (by rw [c2]; decide)).mono ?_
          rintro e w2 ⟨rfl, hw⟩
          have hk2 := hw.2
          have H2 := Lib.hid (H1.out.trans hw)
          have A2 := Lib.hid (A1.out.oneKept hk2 hgR.symm); have M2 := Lib.hid (M1.out.oneKept hk2 hgX.symm)
          have CE := Lib.hid (IH f (Nat.le_refl _) 7 l.tail o w2 (by omega) (by omega) ho hns H2.out.1)
          clear hw hk2 hns H1 A1 M1 
          go_wp2_with fail
          refine CE.out.mono ?_
          intro e w3 hp
          obtain ⟨k', n', ab, mb, db, rfl, hk3, hst⟩ := hp.open_
          clear hp CE
          have A3 := (A2.out.oneKept hk3 hgR.symm).alloc (exO (.int .i64 k') (.int .i64 n') (.slice ab mb db))
          have zz := (M2.out.oneKept hk3 hgX.symm).alloc (exO (.int .i64 k') (.int .i64 n') (.slice ab mb db))
          have z0 := zz.frozen 0; have z1 := zz.frozen 1; have z2 := zz.frozen 2; have zl := zz.lt; have y0 := zz.cell 0; have y1 := zz.cell 1; have y2 := zz.cell 2; simp at y0 y1 y2
          have hRM : bR < w2.heap.size := A2.out.lt
          have hXM : bX < w2.heap.size := M2.out.lt
          have hs3 : w2.heap.size ≤ w3.heap.size := hk3.size
          have hs2 : w.heap.size ≤ w2.heap.size := H2.out.2.size
          have M9 := Lib.hid (ex_store zz (.int .i64 3) (.int .i64 0) (.slice (some ⟨w3.heap.size, 0, none⟩) 1 1))
          have A9 := Lib.hid (A3.apart3 (p := bX) hRX (.int .i64 3) (.int .i64 0) (.slice (some ⟨w3.heap.size, 0, none⟩) 1 1))
          have HX := Lib.hid (show XSt B g o w bR bX least RR f 7 ((((w3.alloc (exO (.int .i64 k') (.int .i64 n') (.slice ab mb db))).setCell ⟨bX, 0, none⟩ (.int .i64 3)).setCell ⟨bX, 1, none⟩ (.int .i64 0)).setCell ⟨bX, 2, none⟩ (.slice (some ⟨w3.heap.size, 0, none⟩) 1 1)) from
            ⟨_, _, _, _, _, M9.out, A9.out, by
              rcases hst with ⟨Y, E, l2, hR, hT, hQ⟩ | ⟨c, hc, hR, hF⟩
              · have no : ∀ b, b < w2.heap.size → ¬ (E b ∨ b = w3.heap.size) := fun b hb h => by
                  rcases h with h | h
                  · have := (hT.2 b h).1; omega
                  · omega
                exact .inl ⟨.node 3 0 [Y], _, l2, (TG.node1 (hT.weak hs2) (by omega) (by unfold I64; omega)).set3 (no bX hXM) _ _ _, no bR hRM, no bX hXM, ((H2.out.trans hQ).then_ (below_new (Below.refl _ _) _)).store3 HBX.out HBB2.out hgX _ _ _, by rw [HR.out, hR]; rfl⟩
              · exact .inr ⟨c, hc, by rw [HR.out, hR]; rfl, ((H2.out.failed hF).then_ (below_new (Below.refl _ _) _)).store3 HBX.out hgX _ _ _⟩⟩)
          clear hst A3 zz M9 A9 H2 A2 M2 hk3 hRM hXM hs3 hs2
          go_wp2_with fail
          go_meet
          case rel => exact ⟨7, rfl, by omega, by omega, HX.out⟩
        · by_cases c3 : hd l = [121]
          · rw [c3]
            have HR := Lib.hid (show RR = loopR f least 9 (.node 2 0 []) l.tail o by rw [HRR.out, expR, if_neg c1, if_neg c2, if_pos c3])
            clear HNS HRR
            go_wp2_with fail
            refine (rf_pass H1.out.1 (by rw [c3]; decide)).mono ?_
            rintro e w2 ⟨rfl, hq⟩
            have hk2 := hq.2
            have zz := M1.out.oneKept hk2 hgX.symm
            have z0 := zz.frozen 0; have z1 := zz.frozen 1; have z2 := zz.frozen 2; have zl := zz.lt; have y0 := zz.cell 0; have y1 := zz.cell 1; have y2 := zz.cell 2; simp at y0 y1 y2
            have M9 := Lib.hid (ex_store zz (.int .i64 2) (.int .i64 0) (.slice none 0 0))
            have A9 := Lib.hid ((A1.out.oneKept hk2 hgR.symm).apart3 (p := bX) hRX (.int .i64 2) (.int .i64 0) (.slice none 0 0))
            have F9 := Lib.hid ((H1.out.trans hq).store3 (b := bX) HBX.out HBB2.out hgX (.int .i64 2) (.int .i64 0) (.slice none 0 0))
            clear zz hq hk2 A1 M1 H1
            go_wp2_with fail
            go_meet
            case rel => exact ⟨9, rfl, by omega, by omega, _, _, _, _, _, M9.out, A9.out, .inl ⟨_, _, _, TG.leaf _ _ (by unfold I64; omega) (by unfold I64; omega), id, id, F9.out, HR.out⟩⟩
          · by_cases c4 : hd l = [40]
            · rw [c4]
              have HQ := Lib.hid (show RR = if 12 < o + 1 then .bad 2 else (expR f 1 l.tail (o + 1)).bind fun p => if hd p.2 = [41] then loopR f least 9 p.1 p.2.tail o else .bad 4 by rw [HRR.out, expR, if_neg c1, if_neg c2, if_neg c3, if_pos c4])
              clear HRR
              obtain ⟨x1, x2, f2⟩ := H1.out.1.cells
              have hlt := H1.out.1.lt
              have ho1 : IntKind.i64.wrap ((o : Int) + 1) = (o : Int) + 1 := IntWalk.i64_in _ (by omega)
              have H2 := Lib.hid (H1.out.open_ (o + 1))
              have A2 := Lib.hid (A1.out.apart (p := ⟨g, 2, none⟩) hgR.symm (.int .i64 ((o + 1 : Nat) : Int)))
              have M2 := Lib.hid (M1.out.apart (p := ⟨g, 2, none⟩) hgX.symm (.int .i64 ((o + 1 : Nat) : Int)))
              rw [show ((o + 1 : Nat) : Int) = (o : Int) + 1 by omega] at H2 A2 M2
              clear H1 A1 M1
              go_upto_region 18 with fail
              generalize World.setCell wc _ _ = W2 at H2 A2 M2 ⊢
              clear x1 x2 f2 hlt
              obtain ⟨x1, x2, f2⟩ := H2.out.1.cells
              rw [show ((o + 1 : Nat) : Int) = (o : Int) + 1 by omega] at x2
              have hlt := H2.out.1.lt
              by_cases hd12 : 12 < o + 1
              · have HR := Lib.hid (show RR = .bad 2 by rw [HQ.out, if_pos hd12])
                have t1 : (12 : Int) < (o : Int) + 1 := by omega
                clear hd12 HQ HNS
                go_wp2_with fail
                refine (rf_fail 2 H2.out.1).mono ?_
                rintro e w3 ⟨rfl, hq⟩
                have M9 := Lib.hid (M2.out.oneKept hq.2 hgX.symm); have A9 := Lib.hid (A2.out.oneKept hq.2 hgR.symm); have H9 := Lib.hid (H2.out.failed hq)
                clear hq H2 A2 M2 x1 x2 f2 hlt
                have n0 := M9.out.cell 0; have n1 := M9.out.cell 1; have n2 := M9.out.cell 2; simp at n0 n1 n2
                have a1 := A9.out
                have z0 := a1.frozen 0; have z1 := a1.frozen 1; have z2 := a1.frozen 2; have zl := a1.lt; have y0 := a1.cell 0; have y1 := a1.cell 1; have y2 := a1.cell 2; simp at y0 y1 y2
                have F1 := Lib.hid (ex_store a1 (.int .i64 0) (.int .i64 0) (.slice none 0 0))
                have F2 := Lib.hid (H9.out.store3 (b := bR) HBR.out hgR (.int .i64 0) (.int .i64 0) (.slice none 0 0))
                clear a1
                go_wp2_with fail
                generalize World.setCell (World.setCell (World.setCell w3 _ _) _ _) _ _ = W9 at F1 F2 ⊢
                have e0 := F1.out.cell 0; have e1 := F1.out.cell 1; have e2 := F1.out.cell 2
                simp at e0 e1 e2
                (try simp only [Exit.inBlock, Exit.then])
                refine bodyPost_ret (v := .agg #[.int .i64 0, .int .i64 0, .slice none 0 0]) ?_ rfl ?_
                · simp [results, Tryz.results93, go_sem, e0, e1, e2]
                · exact (by rw [HR.out]; exact QEPost.bad_ (by decide) F2.out)
              · have t1 : ¬ (12 : Int) < (o : Int) + 1 := by omega
                have hns : expR f 1 l.tail (o + 1) ≠ .stuck := fun h => HNS.out (by rw [HQ.out, if_neg hd12, h]; rfl)
                have HR := Lib.hid (show RR = (expR f 1 l.tail (o + 1)).bind fun p => if hd p.2 = [41] then loopR f least 9 p.1 p.2.tail o else .bad 4 by rw [HQ.out, if_neg hd12])
                clear HQ HNS
                go_wp2_with fail
                refine (rf_pass H2.out.1 (by rw [c4]; decide)).mono ?_
                rintro e w3 ⟨rfl, hq⟩
                have hk3 := hq.2
                have H3 := Lib.hid (H2.out.trans hq)
                have A3 := Lib.hid (A2.out.oneKept hk3 hgR.symm); have M3 := Lib.hid (M2.out.oneKept hk3 hgX.symm)
                have CE := Lib.hid (IH f (Nat.le_refl _) 1 l.tail (o + 1) w3 (by omega) (by omega) (by omega) hns H3.out.1)
                clear hq hk3 hns H2 A2 M2 hd12 x1 x2 f2 hlt
                go_wp2_with fail
                refine CE.out.mono ?_
                intro e w4 hp
                obtain ⟨k', n', ab, mb, db, rfl, hk4, hst⟩ := hp.open_
                clear hp CE
                have hRM : bR < w3.heap.size := A3.out.lt
                have hXM : bX < w3.heap.size := M3.out.lt
                have hs3 : w.heap.size ≤ w3.heap.size := H3.out.2.size
                have zz := M3.out.oneKept hk4 hgX.symm
                have z0 := zz.frozen 0; have z1 := zz.frozen 1; have z2 := zz.frozen 2; have zl := zz.lt; have y0 := zz.cell 0; have y1 := zz.cell 1; have y2 := zz.cell 2; simp at y0 y1 y2
                have M9 := Lib.hid (ex_store zz (.int .i64 k') (.int .i64 n') (.slice ab mb db))
                have A9 := Lib.hid ((A3.out.oneKept hk4 hgR.symm).apart3 (p := bX) hRX (.int .i64 k') (.int .i64 n') (.slice ab mb db))
                have HST := Lib.hid (show (∃ Y E l2, (RR = if hd l2 = [41] then loopR f least 9 Y l2.tail o else .bad 4) ∧ TG w.heap.size E (((w4.setCell ⟨bX, 0, none⟩ (.int .i64 k')).setCell ⟨bX, 1, none⟩ (.int .i64 n')).setCell ⟨bX, 2, none⟩ (.slice ab mb db)) Y (.agg #[.int .i64 k', .int .i64 n', .slice ab mb db]) ∧ ¬ E bR ∧ ¬ E bX ∧ QWent B g l2 (o + 1) w (((w4.setCell ⟨bX, 0, none⟩ (.int .i64 k')).setCell ⟨bX, 1, none⟩ (.int .i64 n')).setCell ⟨bX, 2, none⟩ (.slice ab mb db))) ∨ (∃ c, c ≠ 0 ∧ RR = .bad c ∧ QFail g c w (((w4.setCell ⟨bX, 0, none⟩ (.int .i64 k')).setCell ⟨bX, 1, none⟩ (.int .i64 n')).setCell ⟨bX, 2, none⟩ (.slice ab mb db))) from by
                  rcases hst with ⟨Y, E, l2, hR, hT, hQ⟩ | ⟨c, hc, hR, hF⟩
                  · have no : ∀ b, b < w3.heap.size → ¬ E b := fun b hb h => by have := (hT.2 b h).1; omega
                    exact .inl ⟨Y, E, l2, by rw [HR.out, hR]; rfl, (hT.weak hs3).set3 (no bX hXM) _ _ _, no bR hRM, no bX hXM, (H3.out.trans hQ).store3 HBX.out HBB2.out hgX _ _ _⟩
                  · exact .inr ⟨c, hc, by rw [HR.out, hR]; rfl, (H3.out.failed hF).store3 HBX.out hgX _ _ _⟩)
                clear hst zz hk4 hRM hXM hs3 H3 A3 M3 HR
                go_upto_region 23 with fail
                generalize World.setCell (World.setCell (World.setCell w4 _ _) _ _) _ _ = W5 at M9 A9 HST ⊢
                clear z0 z1 z2 zl y0 y1 y2
                rcases HST.out with ⟨Y, E, l2, hR, hT, hE1, hE2, hQ⟩ | ⟨c, hc, hR, hF⟩
                · have CN := Lib.hid (show Calls Tryz.prog 90 #[.pointer (some ⟨g, 0, none⟩), .string ⟨#[41]⟩] W5 (fun e w' => e = .returned (.tuple #[]) ∧ if hd l2 = [41] then QWent B g l2.tail (o + 1) W5 w' else QFail g 4 W5 w') from rf_need [41] (by simp) hQ.1)
                  have hk5 := hQ.2
                  have T5 := Lib.hid hT; have H5 := Lib.hid hQ
                  by_cases c5 : hd l2 = [41]
                  · simp only [if_pos c5] at CN hR
                    have HR := Lib.hid hR
                    clear hR c5 hT hQ HST hk5
                    go_wp2_with fail
                    refine CN.out.mono ?_
                    rintro e w6 ⟨rfl, hq⟩
                    have hk6 := hq.2
                    have H6 := Lib.hid (H5.out.trans hq)
                    have M6 := Lib.hid (M9.out.oneKept hk6 hgX.symm); have A6 := Lib.hid (A9.out.oneKept hk6 hgR.symm)
                    have T6 := Lib.hid (T5.out.one hk6 hgw)
                    clear hq hk6 CN T5 H5 M9 A9
                    obtain ⟨x1, x2, f2⟩ := H6.out.1.cells
                    have hlt := H6.out.1.lt
                    rw [show ((o + 1 : Nat) : Int) = (o : Int) + 1 by omega] at x2
                    have ho2 : IntKind.i64.wrap ((o : Int) + 1 - 1) = (o : Int) := by rw [Int.add_sub_cancel]; exact IntWalk.i64_in _ (by omega)
                    have ho3 : (o : Int) + 1 - 1 = (o : Int) := by omega
                    have H7 := Lib.hid (H6.out.open_ o)
                    have M7 := Lib.hid (M6.out.apart (p := ⟨g, 2, none⟩) hgX.symm (.int .i64 (o : Int)))
                    have A7 := Lib.hid (A6.out.apart (p := ⟨g, 2, none⟩) hgR.symm (.int .i64 (o : Int)))
                    have hEg : ¬ E g := fun h => by have := (T6.out.2 g h).1; omega
                    have T7 := Lib.hid (T6.out.set hEg 2 (.int .i64 (o : Int)))
                    clear H6 M6 A6 T6 hEg
                    go_wp2_with fail
                    go_meet
                    case rel => exact ⟨9, rfl, by omega, by omega, _, _, _, _, _, M7.out, A7.out, .inl ⟨Y, E, l2.tail, T7.out, hE1, hE2, H7.out, HR.out⟩⟩
                  · simp only [if_neg c5] at CN hR
                    have HR := Lib.hid hR
                    clear hR c5 hT hQ HST hk5
                    go_wp2_with fail
                    refine CN.out.mono ?_
                    rintro e w6 ⟨rfl, hq⟩
                    have hk6 := hq.2
                    have H6 := Lib.hid (H5.out.failed hq)
                    have M6 := Lib.hid (M9.out.oneKept hk6 hgX.symm); have A6 := Lib.hid (A9.out.oneKept hk6 hgR.symm)
                    clear hq hk6 CN T5 H5 M9 A9
                    obtain ⟨oo, x1, x2, f2⟩ := H6.out.1.cells
                    have hlt := H6.out.1.lt
                    have H7 := Lib.hid (H6.out.open_ (wrap64 (oo - 1)))
                    have M7 := Lib.hid (M6.out.apart (p := ⟨g, 2, none⟩) hgX.symm (.int .i64 (wrap64 (oo - 1))))
                    have A7 := Lib.hid (A6.out.apart (p := ⟨g, 2, none⟩) hgR.symm (.int .i64 (wrap64 (oo - 1))))
                    clear H6 M6 A6
                    go_wp2_with fail
                    go_meet
                    case rel => exact ⟨9, rfl, by omega, by omega, _, _, _, _, _, M7.out, A7.out, .inr ⟨4, by decide, HR.out, H7.out⟩⟩
                · have HR := Lib.hid hR; have H5 := Lib.hid hF
                  have CN := Lib.hid (show Calls Tryz.prog 90 #[.pointer (some ⟨g, 0, none⟩), .string ⟨#[41]⟩] W5 (fun e w' => e = .returned (.tuple #[]) ∧ Below W5.heap.size W5 w') from rf_need_bad [41] (by simp) hF.1 hc)
                  clear hR hF HST
                  go_wp2_with fail
                  refine CN.out.mono ?_
                  rintro e w6 ⟨rfl, hq⟩
                  have H6 := Lib.hid (H5.out.then_ hq)
                  have M6 := Lib.hid (M9.out.then_ hq); have A6 := Lib.hid (A9.out.then_ hq)
                  clear hq CN H5 M9 A9
                  obtain ⟨oo, x1, x2, f2⟩ := H6.out.1.cells
                  have hlt := H6.out.1.lt
                  have H7 := Lib.hid (H6.out.open_ (wrap64 (oo - 1)))
                  have M7 := Lib.hid (M6.out.apart (p := ⟨g, 2, none⟩) hgX.symm (.int .i64 (wrap64 (oo - 1))))
                  have A7 := Lib.hid (A6.out.apart (p := ⟨g, 2, none⟩) hgR.symm (.int .i64 (wrap64 (oo - 1))))
                  clear H6 M6 A6
                  go_wp2_with fail
                  go_meet
                  case rel => exact ⟨9, rfl, by omega, by omega, _, _, _, _, _, M7.out, A7.out, .inr ⟨c, hc, HR.out, H7.out⟩⟩
            · have hR : RR = (natP l).bind fun p => loopR f least 9 (.node 1 p.1 []) p.2 o := by rw [HRR.out, expR, if_neg c1, if_neg c2, if_neg c3, if_neg c4]
              have HR := Lib.hid hR
              obtain ⟨TK, hTK⟩ : ∃ T, T = tkS (hd l) := ⟨_, rfl⟩
              rw [← hTK]
              have q2 := tk_ne (T := ⟨#[45]⟩) (t := [45]) hTK rfl c2
              have q3 := tk_ne (T := ⟨#[121]⟩) (t := [121]) hTK rfl c3
              have q4 := tk_ne (T := ⟨#[40]⟩) (t := [40]) hTK rfl c4
              rw [show (⟨#[45]⟩ : ByteArray).toList = [45] from by rw [str_list]] at q2
              rw [show (⟨#[121]⟩ : ByteArray).toList = [121] from by rw [str_list]] at q3
              rw [show (⟨#[40]⟩ : ByteArray).toList = [40] from by rw [str_list]] at q4
              obtain ⟨q2, q2'⟩ := q2; obtain ⟨q3, q3'⟩ := q3; obtain ⟨q4, q4'⟩ := q4
              have q1 : (TK.toList == [110, 111, 116]) = false ∨ ((TK.toList == [110, 111, 116]) = true ∧ decide ((least : Int) ≤ 3) = false) := by
                by_cases e : hd l = tNot
                · refine .inr ⟨by rw [hTK, e, str_list]; decide, decide_eq_false (fun h => c1 ⟨e, by omega⟩)⟩
                · have := (tk_ne (T := ⟨#[110, 111, 116]⟩) (t := [110, 111, 116]) hTK rfl e).1
                  rw [show (⟨#[110, 111, 116]⟩ : ByteArray).toList = [110, 111, 116] from by rw [str_list]] at this
                  exact .inl this
              have CN := Lib.hid (rf_number H1.out.1)
              have hnat : (∃ c, c ≠ 0 ∧ natP l = .bad c) ∨ ∃ n, natP l = .good (n, l.tail) ∧ I64 n := by
                rcases natP_cases l with ⟨c, e⟩ | ⟨n, e⟩
                · refine .inl ⟨c, ?_, e⟩
                  unfold natP at e
                  split at e
                  · injection e with e; omega
                  · split at e
                    · injection e with e; omega
                    · cases e
                · refine .inr ⟨n, e, ?_⟩
                  have hok : okT (hd l) := by
                    cases l with
                    | nil => rintro ⟨c, r, e, _⟩; cases e
                    | cons t r => exact (H1.out.1.ok t (by simp)).1
                  have := natP_in e hok
                  simp only at this
                  unfold I64; omega
              have zz := M1.out
              have z0 := zz.frozen 0
              clear zz z0 c1 c2 c3 c4 hTK HRR hR HNS
              rcases q1 with q1 | ⟨q1, q1'⟩
              all_goals
                rcases hnat with ⟨c, hc, hn⟩ | ⟨n, hn, hi⟩
                · rw [hn] at CN HR
                  clear hn
                  go_wp2_with fail
                  refine CN.out.mono ?_
                  rintro e w2 ⟨rfl, hc', hq⟩
                  have hk2 := hq.2
                  have zz := M1.out.oneKept hk2 hgX.symm
                  have z0 := zz.frozen 0; have z1 := zz.frozen 1; have z2 := zz.frozen 2; have zl := zz.lt; have y0 := zz.cell 0; have y1 := zz.cell 1; have y2 := zz.cell 2; simp at y0 y1 y2
                  have M9 := Lib.hid (ex_store zz (.int .i64 1) (.int .i64 0) (.slice none 0 0))
                  have A9 := Lib.hid ((A1.out.oneKept hk2 hgR.symm).apart3 (p := bX) hRX (.int .i64 1) (.int .i64 0) (.slice none 0 0))
                  have F9 := Lib.hid ((H1.out.failed hq).store3 (b := bX) HBX.out hgX (.int .i64 1) (.int .i64 0) (.slice none 0 0))
                  clear zz hq hk2 A1 M1 H1 CN
                  go_wp2_with fail
                  go_meet
                  case rel => exact ⟨9, rfl, by omega, by omega, _, _, _, _, _, M9.out, A9.out, .inr ⟨c, hc, HR.out, F9.out⟩⟩
                · rw [hn] at CN HR
                  clear hn
                  go_wp2_with fail
                  refine CN.out.mono ?_
                  rintro e w2 ⟨rfl, hq⟩
                  have hk2 := hq.2
                  have zz := M1.out.oneKept hk2 hgX.symm
                  have z0 := zz.frozen 0; have z1 := zz.frozen 1; have z2 := zz.frozen 2; have zl := zz.lt; have y0 := zz.cell 0; have y1 := zz.cell 1; have y2 := zz.cell 2; simp at y0 y1 y2
                  have M9 := Lib.hid (ex_store zz (.int .i64 1) (.int .i64 n) (.slice none 0 0))
                  have A9 := Lib.hid ((A1.out.oneKept hk2 hgR.symm).apart3 (p := bX) hRX (.int .i64 1) (.int .i64 n) (.slice none 0 0))
                  have F9 := Lib.hid ((H1.out.trans hq).store3 (b := bX) HBX.out HBB2.out hgX (.int .i64 1) (.int .i64 n) (.slice none 0 0))
                  have HI := Lib.hid hi
                  clear zz hq hk2 A1 M1 H1 CN hi
                  go_wp2_with fail
                  go_meet
                  case rel => exact ⟨9, rfl, by omega, by omega, _, _, _, _, _, M9.out, A9.out, .inl ⟨_, _, _, TG.leaf _ _ (by unfold I64; omega) HI.out, id, id, F9.out, HR.out⟩⟩
    case rest =>
      obtain ⟨top, rfl, ht1, ht9, hst⟩ := hcut
      have HX := Lib.hid hst
      clear hst A1 M1 H1 HRR
      have H34 := Lib.hid (show ∀ W, XSt B g o w bR bX least RR f top W → True from fun _ _ => trivial)
      clear H34
      go_wp2_with fail
      go_loopg [6] f (fun gf vt wr => ∃ tp : Nat, gf ≤ f ∧ vt = .int .i64 tp ∧ 1 ≤ tp ∧ tp ≤ 9 ∧ XSt B g o w bR bX least RR gf tp wr)
      case atStart => exact ⟨top, Nat.le_refl _, rfl, ht1, ht9, HX.out⟩
      case round =>
        clear HX
        obtain ⟨tp, hgf, rfl, hp1, hp9, k, n, a, m, d, m9, a9, hcase⟩ := hrel
        have M9 := Lib.hid m9; have A9 := Lib.hid a9
        clear m9 a9
        rcases hcase with ⟨X, D, l', hT, hDR, hDX, hQ, hr⟩ | ⟨c, hc, hr, hF⟩
        · cases gk with
          | zero => exact absurd (hr.trans (by rw [loopR])) HNS.out
          | succ g' =>
            have H0 := Lib.hid hQ; have T0 := Lib.hid hT
            obtain ⟨x1, x2, f2⟩ := hQ.1.cells
            have hlt := hQ.1.lt
            have CB := Lib.hid (fun W => rf_binary (hd l') W)
            have CP := Lib.hid (rf_peek hQ.1)
            have HRL := Lib.hid hr
            clear hr hT hQ
            cases hop : opOf (hd l') with
            | none =>
              have hbk : binK (hd l') = 0 := by unfold binK; rw [hop]
              rw [hbk] at CB
              have HR := Lib.hid (show RR = .good (X, l') by rw [HRL.out, loopR, hop])
              generalize tkS (hd l') = TK at CP CB
              clear hop hbk HRL HNS
              go_wp2_with fail
              refine CP.out.mono ?_
              rintro e w1 ⟨rfl, hb1⟩
              go_wp2_with fail
              refine (CB.out _).mono ?_
              rintro e w2 ⟨rfl, hb2⟩
              have H9 := Lib.hid ((H0.out.then_ hb1).then_ hb2); have T9 := Lib.hid ((T0.out.then_ hb1).then_ hb2)
              have M9' := Lib.hid ((M9.out.then_ hb1).then_ hb2); have A9' := Lib.hid ((A9.out.then_ hb1).then_ hb2)
              clear hb1 hb2 H0 T0 M9 A9 CP CB x1 x2 f2 hlt
              have M9 := M9'; have A9 := A9'
              clear M9' A9'
              have n0 := M9.out.cell 0; have n1 := M9.out.cell 1; have n2 := M9.out.cell 2; simp at n0 n1 n2
              have a1 := A9.out
              have z0 := a1.frozen 0; have z1 := a1.frozen 1; have z2 := a1.frozen 2; have zl := a1.lt; have y0 := a1.cell 0; have y1 := a1.cell 1; have y2 := a1.cell 2; simp at y0 y1 y2
              have F1 := Lib.hid (ex_store a1 (.int .i64 k) (.int .i64 n) (.slice a m d))
              have F2 := Lib.hid (H9.out.store3 (b := bR) HBR.out HBB.out hgR (.int .i64 k) (.int .i64 n) (.slice a m d))
              have F3 := Lib.hid (T9.out.set3 hDR (.int .i64 k) (.int .i64 n) (.slice a m d))
              clear a1
              go_wp2_with fail
              generalize World.setCell (World.setCell (World.setCell w2 _ _) _ _) _ _ = W9 at F1 F2 F3 ⊢
              have e0 := F1.out.cell 0; have e1 := F1.out.cell 1; have e2 := F1.out.cell 2
              simp at e0 e1 e2
              (try simp only [Exit.inBlock, Exit.then])
              refine bodyPost_ret (v := .agg #[.int .i64 k, .int .i64 n, .slice a m d]) ?_ rfl ?_
              · simp [results, Tryz.results93, go_sem, e0, e1, e2]
              · exact (by rw [HR.out]; exact QEPost.good_ F3.out F2.out)
            | some q =>
              obtain ⟨k2, lv⟩ := q
              obtain ⟨k4, k13, hlv, hlv5, hne, hbk⟩ := op_facts hop
              rw [hbk] at CB
              have hr2 : RR = if lv + 1 < least ∨ tp < lv + 1 ∨ (lv + 1 = 4 ∧ tp = 4) then .good (X, l') else (expR g' (lv + 2) l'.tail o).bind fun p => loopR g' least (lv + 1) (.node k2 0 [X, p.1]) p.2 o := by rw [HRL.out, loopR, hop]
              have HR2 := Lib.hid hr2
              have CRK := Lib.hid (fun W => ref_rank k2 W (by omega) k13)
              rw [hlv] at CRK
              obtain ⟨rk, hrk⟩ : ∃ rk, rk = lv + 1 := ⟨_, rfl⟩
              rw [← hrk] at CRK
              have q0 : (k2 == 0) = false := by simp; omega
              have HNE := Lib.hid hne
              generalize tkS (hd l') = TK at CP CB
              have HRK := Lib.hid hrk
              clear hop hbk HRL hr2 hlv hne
              by_cases d1 : lv + 1 < least
              · have HR := Lib.hid (show RR = .good (X, l') by rw [HR2.out, if_pos (.inl d1)])
                have e1 : decide (rk < least) = true := decide_eq_true (by omega)
                have e1' : decide ((rk : Int) < (least : Int)) = true := decide_eq_true (by omega)
                clear d1 HR2 HNS hrk
                go_wp2_with fail
                refine CP.out.mono ?_
                rintro e w1 ⟨rfl, hb1⟩
                go_wp2_with fail
                refine (CB.out _).mono ?_
                rintro e w2 ⟨rfl, hb2⟩
                have H9 := Lib.hid ((H0.out.then_ hb1).then_ hb2); have T9 := Lib.hid ((T0.out.then_ hb1).then_ hb2)
                have M9' := Lib.hid ((M9.out.then_ hb1).then_ hb2); have A9' := Lib.hid ((A9.out.then_ hb1).then_ hb2)
                clear hb1 hb2 H0 T0 M9 A9 CP CB x1 x2 f2 hlt
                have M9 := M9'; have A9 := A9'
                clear M9' A9'
                have n0 := M9.out.cell 0; have n1 := M9.out.cell 1; have n2 := M9.out.cell 2; simp at n0 n1 n2
                have a1 := A9.out
                have z0 := a1.frozen 0; have z1 := a1.frozen 1; have z2 := a1.frozen 2; have zl := a1.lt; have y0 := a1.cell 0; have y1 := a1.cell 1; have y2 := a1.cell 2; simp at y0 y1 y2
                have F1 := Lib.hid (ex_store a1 (.int .i64 k) (.int .i64 n) (.slice a m d))
                have F2 := Lib.hid (H9.out.store3 (b := bR) HBR.out HBB.out hgR (.int .i64 k) (.int .i64 n) (.slice a m d))
                have F3 := Lib.hid (T9.out.set3 hDR (.int .i64 k) (.int .i64 n) (.slice a m d))
                clear a1
                go_wp2_with (go_at_call 115; (with_reducible refine (CRK.out _).mono ?_); rintro e w' ⟨rfl, rfl⟩)
                generalize World.setCell (World.setCell (World.setCell w2 _ _) _ _) _ _ = W9 at F1 F2 F3 ⊢
                have e0 := F1.out.cell 0; have e1 := F1.out.cell 1; have e2 := F1.out.cell 2
                simp at e0 e1 e2
                (try simp only [Exit.inBlock, Exit.then])
                refine bodyPost_ret (v := .agg #[.int .i64 k, .int .i64 n, .slice a m d]) ?_ rfl ?_
                · simp [results, Tryz.results93, go_sem, e0, e1, e2]
                · exact (by rw [HR.out]; exact QEPost.good_ F3.out F2.out)
              by_cases d2 : tp < lv + 1
              · have HR := Lib.hid (show RR = .good (X, l') by rw [HR2.out, if_pos (.inr (.inl d2))])
                have e1 : decide (rk < least) = false := decide_eq_false (by omega)
                have e1' : decide ((rk : Int) < (least : Int)) = false := decide_eq_false (by omega)
                have e2 : decide (tp < rk) = true := decide_eq_true (by omega)
                have e2' : decide ((tp : Int) < (rk : Int)) = true := decide_eq_true (by omega)
                clear d1 d2 HR2 HNS hrk
                go_wp2_with fail
                refine CP.out.mono ?_
                rintro e w1 ⟨rfl, hb1⟩
                go_wp2_with fail
                refine (CB.out _).mono ?_
                rintro e w2 ⟨rfl, hb2⟩
                have H9 := Lib.hid ((H0.out.then_ hb1).then_ hb2); have T9 := Lib.hid ((T0.out.then_ hb1).then_ hb2)
                have M9' := Lib.hid ((M9.out.then_ hb1).then_ hb2); have A9' := Lib.hid ((A9.out.then_ hb1).then_ hb2)
                clear hb1 hb2 H0 T0 M9 A9 CP CB x1 x2 f2 hlt
                have M9 := M9'; have A9 := A9'
                clear M9' A9'
                have n0 := M9.out.cell 0; have n1 := M9.out.cell 1; have n2 := M9.out.cell 2; simp at n0 n1 n2
                have a1 := A9.out
                have z0 := a1.frozen 0; have z1 := a1.frozen 1; have z2 := a1.frozen 2; have zl := a1.lt; have y0 := a1.cell 0; have y1 := a1.cell 1; have y2 := a1.cell 2; simp at y0 y1 y2
                have F1 := Lib.hid (ex_store a1 (.int .i64 k) (.int .i64 n) (.slice a m d))
                have F2 := Lib.hid (H9.out.store3 (b := bR) HBR.out HBB.out hgR (.int .i64 k) (.int .i64 n) (.slice a m d))
                have F3 := Lib.hid (T9.out.set3 hDR (.int .i64 k) (.int .i64 n) (.slice a m d))
                clear a1
                go_wp2_with (go_at_call 115; (with_reducible refine (CRK.out _).mono ?_); rintro e w' ⟨rfl, rfl⟩)
                generalize World.setCell (World.setCell (World.setCell w2 _ _) _ _) _ _ = W9 at F1 F2 F3 ⊢
                have e0 := F1.out.cell 0; have e1 := F1.out.cell 1; have e2 := F1.out.cell 2
                simp at e0 e1 e2
                (try simp only [Exit.inBlock, Exit.then])
                refine bodyPost_ret (v := .agg #[.int .i64 k, .int .i64 n, .slice a m d]) ?_ rfl ?_
                · simp [results, Tryz.results93, go_sem, e0, e1, e2]
                · exact (by rw [HR.out]; exact QEPost.good_ F3.out F2.out)
              by_cases d3 : lv + 1 = 4 ∧ tp = 4
              · have HR := Lib.hid (show RR = .good (X, l') by rw [HR2.out, if_pos (.inr (.inr d3))])
                have hr4 : (rk : Int) = 4 := by omega
                have ht4 : (tp : Int) = 4 := by omega
                have e1' : decide ((4 : Int) < (least : Int)) = false := decide_eq_false (by omega)
                clear d1 d2 d3 HR2 HNS HRK
                rw [hr4] at CRK
                rw [ht4]
                clear hr4 ht4
                go_wp2_with fail
                refine CP.out.mono ?_
                rintro e w1 ⟨rfl, hb1⟩
                go_wp2_with fail
                refine (CB.out _).mono ?_
                rintro e w2 ⟨rfl, hb2⟩
                have H9 := Lib.hid ((H0.out.then_ hb1).then_ hb2); have T9 := Lib.hid ((T0.out.then_ hb1).then_ hb2)
                have M9' := Lib.hid ((M9.out.then_ hb1).then_ hb2); have A9' := Lib.hid ((A9.out.then_ hb1).then_ hb2)
                clear hb1 hb2 H0 T0 M9 A9 CP CB x1 x2 f2 hlt
                have M9 := M9'; have A9 := A9'
                clear M9' A9'
                have n0 := M9.out.cell 0; have n1 := M9.out.cell 1; have n2 := M9.out.cell 2; simp at n0 n1 n2
                have a1 := A9.out
                have z0 := a1.frozen 0; have z1 := a1.frozen 1; have z2 := a1.frozen 2; have zl := a1.lt; have y0 := a1.cell 0; have y1 := a1.cell 1; have y2 := a1.cell 2; simp at y0 y1 y2
                have F1 := Lib.hid (ex_store a1 (.int .i64 k) (.int .i64 n) (.slice a m d))
                have F2 := Lib.hid (H9.out.store3 (b := bR) HBR.out HBB.out hgR (.int .i64 k) (.int .i64 n) (.slice a m d))
                have F3 := Lib.hid (T9.out.set3 hDR (.int .i64 k) (.int .i64 n) (.slice a m d))
                clear a1
                go_wp2_with (go_at_call 115; (with_reducible refine (CRK.out _).mono ?_); rintro e w' ⟨rfl, rfl⟩)
                generalize World.setCell (World.setCell (World.setCell w2 _ _) _ _) _ _ = W9 at F1 F2 F3 ⊢
                have e0 := F1.out.cell 0; have e1 := F1.out.cell 1; have e2 := F1.out.cell 2
                simp at e0 e1 e2
                (try simp only [Exit.inBlock, Exit.then])
                refine bodyPost_ret (v := .agg #[.int .i64 k, .int .i64 n, .slice a m d]) ?_ rfl ?_
                · simp [results, Tryz.results93, go_sem, e0, e1, e2]
                · exact (by rw [HR.out]; exact QEPost.good_ F3.out F2.out)
              · have hns : expR g' (lv + 2) l'.tail o ≠ .stuck := fun h => HNS.out (by rw [HR2.out, if_neg (by omega), h]; rfl)
                have HR := Lib.hid (show RR = (expR g' (lv + 2) l'.tail o).bind fun p => loopR g' least (lv + 1) (.node k2 0 [X, p.1]) p.2 o by rw [HR2.out, if_neg (by omega)])
                have e1 : decide (rk < least) = false := decide_eq_false (by omega)
                have e1' : decide ((rk : Int) < (least : Int)) = false := decide_eq_false (by omega)
                have e2 : decide (tp < rk) = false := decide_eq_false (by omega)
                have e2' : decide ((tp : Int) < (rk : Int)) = false := decide_eq_false (by omega)
                have e34 : ((rk : Int) == 4) = false ∨ (rk = 4 ∧ ((tp : Int) == 4) = false) := by
                  by_cases h : rk = 4
                  · exact .inr ⟨h, by simp; omega⟩
                  · exact .inl (by simp; omega)
                have hlv4 : rk ≤ 6 := by omega
                have hrk1 : 1 ≤ rk := by omega
                clear d1 d2 d3 HR2 hrk
                rcases e34 with e3 | ⟨e3, e4⟩
                · skip
                  go_wp2_with fail
                  refine CP.out.mono ?_
                  rintro e w1 ⟨rfl, hb1⟩
                  go_wp2_with fail
                  refine (CB.out _).mono ?_
                  rintro e w2 ⟨rfl, hb2⟩
                  have H9 := Lib.hid ((H0.out.then_ hb1).then_ hb2); have T9 := Lib.hid ((T0.out.then_ hb1).then_ hb2)
                  have M9' := Lib.hid ((M9.out.then_ hb1).then_ hb2); have A9' := Lib.hid ((A9.out.then_ hb1).then_ hb2)
                  clear hb1 hb2 H0 T0 M9 A9 CP CB x1 x2 f2 hlt
                  go_wp2_with (go_at_call 115; (with_reducible refine (CRK.out _).mono ?_); rintro e w' ⟨rfl, rfl⟩)
                  refine (rf_pass H9.out.1 HNE.out).mono ?_
                  rintro e w3 ⟨rfl, hq⟩
                  have hk3 := hq.2
                  have H3 := Lib.hid (H9.out.trans hq); have T3 := Lib.hid (T9.out.one hk3 hgw)
                  have M3 := Lib.hid (M9'.out.oneKept hk3 hgX.symm); have A3 := Lib.hid (A9'.out.oneKept hk3 hgR.symm)
                  clear hq hk3 H9 T9 M9' A9'
                  go_upto_region 32 with fail
                  go_cut [] from 106 to 114 (fun wx => XSt B g o w bR bX least RR g' (lv + 1) wx)
                  case first =>
                    have H4 := Lib.hid (H3.out.then_ (Below.refl _ _).drew); have T4 := Lib.hid (T3.out.then_ (Below.refl _ _).drew)
                    have M4 := M3.out.drew; have A4 := Lib.hid (A3.out.drew)
                    have CE := Lib.hid (IH g' (by omega) (lv + 2) l'.tail o w3.drew (by omega) (by omega) ho hns H4.out.1)
                    rw [show ((lv + 2 : Nat) : Int) = (rk : Int) + 1 by have := HRK.out; omega] at CE
                    have hw1 : IntKind.i64.wrap ((rk : Int) + 1) = (rk : Int) + 1 := IntWalk.i64_in _ (by omega)
                    have n0 := M4.cell 0; have n1 := M4.cell 1; have n2 := M4.cell 2; simp at n0 n1 n2
                    have M4h := Lib.hid M4
                    have hk2 : I64 k2 := by unfold I64; omega
                    clear M4 hns H3 T3 M3 A3
                    go_region_with (first | (go_at_call 115; (with_reducible refine (CRK.out _).mono ?_); rintro e w' ⟨rfl, rfl⟩) | (go_at_call 93; (with_reducible refine CE.out.mono ?_); intro e w5 hp; obtain ⟨k', n', ab, mb, db, rfl, hk5, hst⟩ := hp.open_; clear hp; have M5 := M4h.out.oneKept hk5 hgX.symm; have N5 := M5.alloc (.cells #[.int .i64 k, .int .i64 n, .slice a m d, .int .i64 k', .int .i64 n', .slice ab mb db] 111); have p0 := M5.cell 0; have p1 := M5.cell 1; have p2 := M5.cell 2; have z0 := N5.frozen 0; have z1 := N5.frozen 1; have z2 := N5.frozen 2; have zl := N5.lt; have y0 := N5.cell 0; have y1 := N5.cell 1; have y2 := N5.cell 2; simp at p0 p1 p2 y0 y1 y2; have M5h := Lib.hid M5; have N5h := Lib.hid N5; have hst5 := Lib.hid hst; have hk5h := Lib.hid hk5; clear M5 N5 hst hk5))
                    all_goals
                      clear p0 p1 p2 z0 z1 z2 zl y0 y1 y2
                      have hs3 : w.heap.size ≤ w3.drew.heap.size := H4.out.2.size
                      have hRM : bR < w3.drew.heap.size := A4.out.lt
                      have hXM : bX < w3.drew.heap.size := M4h.out.lt
                      have hs5 : w3.drew.heap.size ≤ w5.heap.size := hk5h.out.size
                      have A5 := A4.out.oneKept hk5h.out hgR.symm
                      have XX : XSt B g o w bR bX least RR g' (lv + 1) ((((w5.alloc (.cells #[.int .i64 k, .int .i64 n, .slice a m d, .int .i64 k', .int .i64 n', .slice ab mb db] 111)).setCell ⟨bX, 0, none⟩ (.int .i64 k2)).setCell ⟨bX, 1, none⟩ (.int .i64 0)).setCell ⟨bX, 2, none⟩ (.slice (some ⟨w5.heap.size, 0, none⟩) 2 2)) := by
                        refine ⟨_, _, _, _, _, ex_store N5h.out (.int .i64 k2) (.int .i64 0) (.slice (some ⟨w5.heap.size, 0, none⟩) 2 2), (A5.alloc (.cells #[.int .i64 k, .int .i64 n, .slice a m d, .int .i64 k', .int .i64 n', .slice ab mb db] 111)).apart3 (p := bX) hRX (.int .i64 k2) (.int .i64 0) (.slice (some ⟨w5.heap.size, 0, none⟩) 2 2), ?_⟩
                        rcases hst5.out with ⟨Y, E, l2, hR, hTY, hQ⟩ | ⟨c, hc, hR, hF⟩
                        · have hDlt : ∀ b, D b → b < w3.drew.heap.size := fun b hb => (T4.out.2 b hb).2
                          have no : ∀ b, b < w3.drew.heap.size → ¬ D b → ¬ (D b ∨ E b ∨ b = w5.heap.size) := fun b hb hnd h => by
                            rcases h with h | h | h
                            · exact hnd h
                            · have := (hTY.2 b h).1; omega
                            · omega
                          exact .inl ⟨.node k2 0 [X, Y], _, l2, (TG.node2 (T4.out.one hk5h.out hgw) (hTY.weak hs3) (by omega) hk2).set3 (no bX hXM hDX) _ _ _, no bR hRM hDR, no bX hXM hDX, ((H4.out.trans hQ).then_ (below_new (Below.refl _ _) _)).store3 HBX.out HBB2.out hgX _ _ _, by rw [HR.out, hR]; rfl⟩
                        · exact .inr ⟨c, hc, by rw [HR.out, hR]; rfl, ((H4.out.failed hF).then_ (below_new (Below.refl _ _) _)).store3 HBX.out hgX _ _ _⟩
                      have XXh := Lib.hid XX
                      clear XX
                      go_wp2_with fail
                      go_meet
                      case rel => exact XXh.out
                  case rest =>
                    have HC := Lib.hid hcut
                    clear hcut H3 T3 M3 A3
                    go_wp2_with (go_at_call 115; (with_reducible refine (CRK.out _).mono ?_); rintro e w' ⟨rfl, rfl⟩)
                    go_roundg g'
                    case measure => omega
                    case rel => exact ⟨rk, by omega, rfl, by omega, by omega, by rw [HRK.out]; exact HC.out⟩
                · have e1q : decide ((4 : Int) < (least : Int)) = false := by rw [e3] at e1'; exact e1'
                  have e2q : decide ((tp : Int) < (4 : Int)) = false := by rw [e3] at e2'; exact e2'
                  have HR4 := Lib.hid e3
                  clear e3
                  have hr4 : (rk : Int) = 4 := by have := HR4.out; omega
                  rw [hr4] at CRK
                  clear hr4 e1 e1' e2 e2'
                  go_wp2_with fail
                  refine CP.out.mono ?_
                  rintro e w1 ⟨rfl, hb1⟩
                  go_wp2_with fail
                  refine (CB.out _).mono ?_
                  rintro e w2 ⟨rfl, hb2⟩
                  have H9 := Lib.hid ((H0.out.then_ hb1).then_ hb2); have T9 := Lib.hid ((T0.out.then_ hb1).then_ hb2)
                  have M9' := Lib.hid ((M9.out.then_ hb1).then_ hb2); have A9' := Lib.hid ((A9.out.then_ hb1).then_ hb2)
                  clear hb1 hb2 H0 T0 M9 A9 CP CB x1 x2 f2 hlt
                  go_wp2_with (go_at_call 115; (with_reducible refine (CRK.out _).mono ?_); rintro e w' ⟨rfl, rfl⟩)
                  refine (rf_pass H9.out.1 HNE.out).mono ?_
                  rintro e w3 ⟨rfl, hq⟩
                  have hk3 := hq.2
                  have H3 := Lib.hid (H9.out.trans hq); have T3 := Lib.hid (T9.out.one hk3 hgw)
                  have M3 := Lib.hid (M9'.out.oneKept hk3 hgX.symm); have A3 := Lib.hid (A9'.out.oneKept hk3 hgR.symm)
                  clear hq hk3 H9 T9 M9' A9'
                  go_upto_region 32 with fail
                  go_cut [] from 106 to 114 (fun wx => XSt B g o w bR bX least RR g' (lv + 1) wx)
                  case first =>
                    have H4 := Lib.hid (H3.out.then_ (Below.refl _ _).drew); have T4 := Lib.hid (T3.out.then_ (Below.refl _ _).drew)
                    have M4 := M3.out.drew; have A4 := Lib.hid (A3.out.drew)
                    have CE := Lib.hid (IH g' (by omega) (lv + 2) l'.tail o w3.drew (by omega) (by omega) ho hns H4.out.1)
                    rw [show ((lv + 2 : Nat) : Int) = 5 by have := HRK.out; have := HR4.out; omega] at CE
                    have hw1 : IntKind.i64.wrap 5 = 5 := by decide
                    have n0 := M4.cell 0; have n1 := M4.cell 1; have n2 := M4.cell 2; simp at n0 n1 n2
                    have M4h := Lib.hid M4
                    have hk2 : I64 k2 := by unfold I64; omega
                    clear M4 hns H3 T3 M3 A3
                    go_region_with (first | (go_at_call 115; (with_reducible refine (CRK.out _).mono ?_); rintro e w' ⟨rfl, rfl⟩) | (go_at_call 93; (with_reducible refine CE.out.mono ?_); intro e w5 hp; obtain ⟨k', n', ab, mb, db, rfl, hk5, hst⟩ := hp.open_; clear hp; have M5 := M4h.out.oneKept hk5 hgX.symm; have N5 := M5.alloc (.cells #[.int .i64 k, .int .i64 n, .slice a m d, .int .i64 k', .int .i64 n', .slice ab mb db] 111); have p0 := M5.cell 0; have p1 := M5.cell 1; have p2 := M5.cell 2; have z0 := N5.frozen 0; have z1 := N5.frozen 1; have z2 := N5.frozen 2; have zl := N5.lt; have y0 := N5.cell 0; have y1 := N5.cell 1; have y2 := N5.cell 2; simp at p0 p1 p2 y0 y1 y2; have M5h := Lib.hid M5; have N5h := Lib.hid N5; have hst5 := Lib.hid hst; have hk5h := Lib.hid hk5; clear M5 N5 hst hk5))
                    all_goals
                      clear p0 p1 p2 z0 z1 z2 zl y0 y1 y2
                      have hs3 : w.heap.size ≤ w3.drew.heap.size := H4.out.2.size
                      have hRM : bR < w3.drew.heap.size := A4.out.lt
                      have hXM : bX < w3.drew.heap.size := M4h.out.lt
                      have hs5 : w3.drew.heap.size ≤ w5.heap.size := hk5h.out.size
                      have A5 := A4.out.oneKept hk5h.out hgR.symm
                      have XX : XSt B g o w bR bX least RR g' (lv + 1) ((((w5.alloc (.cells #[.int .i64 k, .int .i64 n, .slice a m d, .int .i64 k', .int .i64 n', .slice ab mb db] 111)).setCell ⟨bX, 0, none⟩ (.int .i64 k2)).setCell ⟨bX, 1, none⟩ (.int .i64 0)).setCell ⟨bX, 2, none⟩ (.slice (some ⟨w5.heap.size, 0, none⟩) 2 2)) := by
                        refine ⟨_, _, _, _, _, ex_store N5h.out (.int .i64 k2) (.int .i64 0) (.slice (some ⟨w5.heap.size, 0, none⟩) 2 2), (A5.alloc (.cells #[.int .i64 k, .int .i64 n, .slice a m d, .int .i64 k', .int .i64 n', .slice ab mb db] 111)).apart3 (p := bX) hRX (.int .i64 k2) (.int .i64 0) (.slice (some ⟨w5.heap.size, 0, none⟩) 2 2), ?_⟩
                        rcases hst5.out with ⟨Y, E, l2, hR, hTY, hQ⟩ | ⟨c, hc, hR, hF⟩
                        · have hDlt : ∀ b, D b → b < w3.drew.heap.size := fun b hb => (T4.out.2 b hb).2
                          have no : ∀ b, b < w3.drew.heap.size → ¬ D b → ¬ (D b ∨ E b ∨ b = w5.heap.size) := fun b hb hnd h => by
                            rcases h with h | h | h
                            · exact hnd h
                            · have := (hTY.2 b h).1; omega
                            · omega
                          exact .inl ⟨.node k2 0 [X, Y], _, l2, (TG.node2 (T4.out.one hk5h.out hgw) (hTY.weak hs3) (by omega) hk2).set3 (no bX hXM hDX) _ _ _, no bR hRM hDR, no bX hXM hDX, ((H4.out.trans hQ).then_ (below_new (Below.refl _ _) _)).store3 HBX.out HBB2.out hgX _ _ _, by rw [HR.out, hR]; rfl⟩
                        · exact .inr ⟨c, hc, by rw [HR.out, hR]; rfl, ((H4.out.failed hF).then_ (below_new (Below.refl _ _) _)).store3 HBX.out hgX _ _ _⟩
                      have XXh := Lib.hid XX
                      clear XX
                      go_wp2_with fail
                      go_meet
                      case rel => exact XXh.out
                  case rest =>
                    have HC := Lib.hid hcut
                    clear hcut H3 T3 M3 A3
                    go_wp2_with (go_at_call 115; (with_reducible refine (CRK.out _).mono ?_); rintro e w' ⟨rfl, rfl⟩)
                    go_roundg g'
                    case measure => omega
                    case rel => exact ⟨4, by omega, rfl, by omega, by omega, by rw [← HR4.out, HRK.out]; exact HC.out⟩
        · have HR := Lib.hid hr; have H9 := Lib.hid hF
          obtain ⟨oo, x1, x2, f2⟩ := hF.1.cells
          have e1 : (c == 0) = false := by simpa using hc
          have hlt := hF.1.lt
          clear hr hF
          have n0 := M9.out.cell 0; have n1 := M9.out.cell 1; have n2 := M9.out.cell 2; simp at n0 n1 n2
          have a1 := A9.out
          have z0 := a1.frozen 0; have z1 := a1.frozen 1; have z2 := a1.frozen 2; have zl := a1.lt; have y0 := a1.cell 0; have y1 := a1.cell 1; have y2 := a1.cell 2; simp at y0 y1 y2
          have F1 := Lib.hid (ex_store a1 (.int .i64 k) (.int .i64 n) (.slice a m d))
          have F2 := Lib.hid (H9.out.store3 (b := bR) HBR.out hgR (.int .i64 k) (.int .i64 n) (.slice a m d))
          clear a1
          go_wp2_with fail
          generalize World.setCell (World.setCell (World.setCell wr _ _) _ _) _ _ = W9 at F1 F2 ⊢
          have e0 := F1.out.cell 0; have e1 := F1.out.cell 1; have e2 := F1.out.cell 2
          simp at e0 e1 e2
          (try simp only [Exit.inBlock, Exit.then])
          refine bodyPost_ret (v := .agg #[.int .i64 k, .int .i64 n, .slice a m d]) ?_ rfl ?_
          · simp [results, Tryz.results93, go_sem, e0, e1, e2]
          · exact (by rw [HR.out]; exact QEPost.bad_ hc F2.out)
theorem rf_expr {g : Nat} : ∀ f, ∀ f', f' ≤ f → QExprOk B g f'
  | 0, f', h => by
    obtain rfl : f' = 0 := by omega
    intro least l o w _ _ _ hns; exact absurd (by rw [expR]) hns
  | f + 1, f', h => by
    by_cases e : f' ≤ f
    · exact rf_expr f f' e
    · obtain rfl : f' = f + 1 := by omega
      exact rf_expr_step (rf_expr f)
end Go.Proofs.YtdmkghgachapaabGreatDoor
