/- Contract of recur.Normal. -/
import Derived.Test.YtdmkghgachapaaaGreatDoorSort
import Derived.Deep.RegionHeldLaw
import Derived.Deep.RegionLaw
namespace Go.Proofs.YtdmkghgachapaaaGreatDoor
set_option linter.unusedVariables false
set_option maxRecDepth 100000
open Go.RowKit greg

def nW (u f : Int) (ws ms : List Int) : List Int := if ws.length + ms.length = 0 ∧ u = 2 then [(f - 1) % 7] else ws
def nM (u f : Int) (ws ms : List Int) : List Int := if ws.length + ms.length = 0 ∧ (u = 3 ∨ u = 4) then [gD f] else ms
def nN (u f : Int) (ws ms ns : List Int) : List Int := if ws.length + ms.length = 0 ∧ u = 4 ∧ ns.length = 0 then [gM f] else ns
def nC (u ev f : Int) (ws ms : List Int) : Bool := decide (u = 1) && (decide (ev % 7 = 0) && listedB (nW u f ws ms) [(f - 1) % 7])
/-- What recur.Normal leaves. -/
def NormOut (E u ev f cn un : Int) (ws ms ns : List Int) (w : World) (e : Ending) (w' : World) : Prop :=
  (E ≠ 0 ∧ e = .returned (.tuple #[.agg #[.int .i64 0, .int .i64 0, .int .i64 0, .int .i64 0, .int .i64 0, .slice none 0 0, .slice none 0 0, .slice none 0 0], .int .i64 E]) ∧ Below w.heap.size w w') ∨
  (E = 0 ∧ ∃ p1 m1 q1 p2 m2 q2 p3 m3 q3, e = .returned (.tuple #[.agg #[.int .i64 (if nC u ev f ws ms = true then 2 else u), .int .i64 (if nC u ev f ws ms = true then ev / 7 else ev), .int .i64 f, .int .i64 cn, .int .i64 un, .slice p1 m1 q1, .slice p2 m2 q2, .slice p3 m3 q3], .int .i64 0]) ∧
    Ints w' w'.heap.size p1 m1 (sortI (if nC u ev f ws ms = true then [(f - 1) % 7] else nW u f ws ms)) ∧ Ints w' w'.heap.size p2 m2 (sortI (nM u f ws ms)) ∧ Ints w' w'.heap.size p3 m3 (sortI (nN u f ws ms ns)) ∧ Below w.heap.size w w' ∧ (m1 ≤ q1 ∧ q1 ≤ 9223372036854775807) ∧ (m2 ≤ q2 ∧ q2 ≤ 9223372036854775807) ∧ (m3 ≤ q3 ∧ q3 ≤ 9223372036854775807))
/-- A list in memory that lies elsewhere than in block A. -/
def IntsA (w : World) (A : Nat) (p : Option Addr) (n : Nat) (xs : List Int) : Prop := Ints w w.heap.size p n xs ∧ (0 < n → ∀ b o, p = some ⟨b, o, none⟩ → b ≠ A)
/-- The three lists of the box. -/
def Three (w : World) (A : Nat) (u ev f cn un : Int) (xs ys zs : List Int) : Prop :=
  ∃ p1 m1 q1 p2 m2 q2 p3 m3 q3, At w A (.cells #[.int .i64 u, .int .i64 ev, .int .i64 f, .int .i64 cn, .int .i64 un, .slice p1 m1 q1, .slice p2 m2 q2, .slice p3 m3 q3] 24) ∧
    IntsA w A p1 m1 xs ∧ IntsA w A p2 m2 ys ∧ IntsA w A p3 m3 zs
theorem intsA_old {w w' : World} {a : Option Addr} {n : Nat} {xs : List Int} (h : Ints w w.heap.size a n xs) (hb : Below w.heap.size w w') : IntsA w' w.heap.size a n xs :=
  ⟨h.far (Below.refl _ _) hb, fun hn b o e => by
    obtain ⟨b', o', e', hlt, _⟩ := h.2.2.2 hn
    rw [e] at e'; injection e' with e'; injection e' with e'; omega⟩
theorem one_ints {w : World} {b : Nat} {v : Int} (h : At w b (.cells #[.int .i64 v] 3)) (hv : I64 v) : Ints w w.heap.size (some ⟨b, 0, none⟩) 1 [v] := At.ints [v] h (by intro x hx; simp at hx; subst hx; exact hv) (by simp)
theorem ints_far {w w' : World} {a : Option Addr} {n : Nat} {xs : List Int} (h : Ints w w.heap.size a n xs) {A : Nat} (k : OneKept A w w') (hA : 0 < n → ∀ b o, a = some ⟨b, o, none⟩ → b ≠ A) : Ints w' w'.heap.size a n xs :=
  ⟨h.1, h.2.1, h.2.2.1, fun hn => by
    obtain ⟨b, off, e, hlt, hc⟩ := h.2.2.2 hn
    refine ⟨b, off, e, Nat.lt_of_lt_of_le hlt k.size, fun i hi => ?_⟩
    rw [← hc i hi]
    have hb := k.block b hlt (hA hn b off e)
    simp [World.cell?, hb]⟩
theorem IntsA.kept {w w' : World} {A : Nat} {a : Option Addr} {n : Nat} {xs : List Int} (h : IntsA w A a n xs) (k : OneKept A w w') : IntsA w' A a n xs := ⟨ints_far h.1 k h.2, h.2⟩
theorem intsA_new {w' : World} {A g : Nat} {v : Int} (h : At w' g (.cells #[.int .i64 v] 3)) (hA : A < g) (hv : I64 v) : IntsA w' A (some ⟨g, 0, none⟩) 1 [v] :=
  ⟨one_ints h hv, fun _ b o e => by injection e with e; injection e with e; omega⟩
set_option maxHeartbeats 4000000 in
theorem recur_Normal (w : World) (u ev f cn un : Int) (a1 a2 a3 : Option Addr) (n1 n2 n3 c1 c2 c3 : Nat) (ws ms ns : List Int)
    (h1 : Ints w w.heap.size a1 n1 ws) (h2 : Ints w w.heap.size a2 n2 ms) (h3 : Ints w w.heap.size a3 n3 ns) (k1 : n1 ≤ c1) (k2 : n2 ≤ c2) (k3 : n3 ≤ c3) (m1 : c1 ≤ 9223372036854775807) (m2 : c2 ≤ 9223372036854775807) (m3 : c3 ≤ 9223372036854775807) :
    Calls Tryz.prog 6 #[.agg #[.int .i64 u, .int .i64 ev, .int .i64 f, .int .i64 cn, .int .i64 un, .slice a1 n1 c1, .slice a2 n2 c2, .slice a3 n3 c3]] w (NormOut (recurErr u ev f cn un ws ms ns) u ev f cn un ws ms ns w) := by
  obtain ⟨E, hE⟩ : ∃ E, E = recurErr u ev f cn un ws ms ns := ⟨_, rfl⟩
  rw [← hE]
  have HE := Lib.hid hE
  have H1 := Lib.hid h1; have H2 := Lib.hid h2; have H3 := Lib.hid h3; clear h1 h2 h3 hE
  go_enter Tryz.func6, Tryz.ntmps6
  go_wp2_with fail
  have t0 := (At.new w (.cells #[.int .i64 u, .int .i64 ev, .int .i64 f, .int .i64 cn, .int .i64 un, .slice a1 n1 c1, .slice a2 n2 c2, .slice a3 n3 c3] 24)).alloc (.cells #[.int .i64 0, .int .i64 0, .int .i64 0, .int .i64 0, .int .i64 0, .slice none 0 0, .slice none 0 0, .slice none 0 0] 24)
  have tr := At.new1 w (.cells #[.int .i64 u, .int .i64 ev, .int .i64 f, .int .i64 cn, .int .i64 un, .slice a1 n1 c1, .slice a2 n2 c2, .slice a3 n3 c3] 24) (.cells #[.int .i64 0, .int .i64 0, .int .i64 0, .int .i64 0, .int .i64 0, .slice none 0 0, .slice none 0 0, .slice none 0 0] 24)
  have b0 := below_new (below_new (Below.refl w.heap.size w) (.cells #[.int .i64 u, .int .i64 ev, .int .i64 f, .int .i64 cn, .int .i64 un, .slice a1 n1 c1, .slice a2 n2 c2, .slice a3 n3 c3] 24)) (.cells #[.int .i64 0, .int .i64 0, .int .i64 0, .int .i64 0, .int .i64 0, .slice none 0 0, .slice none 0 0, .slice none 0 0] 24)
  generalize World.alloc (World.alloc w _) _ = W0 at t0 tr b0 ⊢
  have B0 := Lib.hid b0
  have T0 := Lib.hid t0; have TR := Lib.hid tr
  have ltr := tr.lt
  have y0 : W0.cell? ⟨w.heap.size, 0, none⟩ = some (.int .i64 u) := t0.cell 0
  have y1 : W0.cell? ⟨w.heap.size, 1, none⟩ = some (.int .i64 ev) := t0.cell 1
  have y2 : W0.cell? ⟨w.heap.size, 2, none⟩ = some (.int .i64 f) := t0.cell 2
  have y3 : W0.cell? ⟨w.heap.size, 3, none⟩ = some (.int .i64 cn) := t0.cell 3
  have y4 : W0.cell? ⟨w.heap.size, 4, none⟩ = some (.int .i64 un) := t0.cell 4
  have y5 : W0.cell? ⟨w.heap.size, 5, none⟩ = some (.slice a1 n1 c1) := t0.cell 5
  have y6 : W0.cell? ⟨w.heap.size, 6, none⟩ = some (.slice a2 n2 c2) := t0.cell 6
  have y7 : W0.cell? ⟨w.heap.size, 7, none⟩ = some (.slice a3 n3 c3) := t0.cell 7
  clear t0 tr b0
  refine (recur_Check W0 _ _ _ _ _ _ _ _ _ _ _ _ _ _ ws ms ns (H1.out.far B0.out (Below.refl _ _)) (H2.out.far B0.out (Below.refl _ _)) (H3.out.far B0.out (Below.refl _ _)) k1 k2 k3 m1 m2 m3).mono ?_
  rw [← HE.out]
  rintro e w1 ⟨rfl, hb⟩
  have HB := Lib.hid hb
  have B1 := Lib.hid (below_then B0.out hb)
  clear hb y0 y1 y2 y3 y4 y5 y6 y7
  have t0 := T0.out.then_ HB.out; have tr := TR.out.then_ HB.out
  by_cases hz : E = 0
  case neg =>
    have hz' : (E == 0) = false := by simpa using hz
    have HZ := Lib.hid hz
    clear hz
    have z0 : w1.cell? ⟨(w.heap.size + 1), 0, none⟩ = some (.int .i64 0) := tr.cell 0
    have z1 : w1.cell? ⟨(w.heap.size + 1), 1, none⟩ = some (.int .i64 0) := tr.cell 1
    have z2 : w1.cell? ⟨(w.heap.size + 1), 2, none⟩ = some (.int .i64 0) := tr.cell 2
    have z3 : w1.cell? ⟨(w.heap.size + 1), 3, none⟩ = some (.int .i64 0) := tr.cell 3
    have z4 : w1.cell? ⟨(w.heap.size + 1), 4, none⟩ = some (.int .i64 0) := tr.cell 4
    have z5 : w1.cell? ⟨(w.heap.size + 1), 5, none⟩ = some (.slice none 0 0) := tr.cell 5
    have z6 : w1.cell? ⟨(w.heap.size + 1), 6, none⟩ = some (.slice none 0 0) := tr.cell 6
    have z7 : w1.cell? ⟨(w.heap.size + 1), 7, none⟩ = some (.slice none 0 0) := tr.cell 7
    have zf0 : w1.frozen? ⟨(w.heap.size + 1), 0, none⟩ = false := tr.frozen 0
    have zf1 : w1.frozen? ⟨(w.heap.size + 1), 1, none⟩ = false := tr.frozen 1
    have zf2 : w1.frozen? ⟨(w.heap.size + 1), 2, none⟩ = false := tr.frozen 2
    have zf3 : w1.frozen? ⟨(w.heap.size + 1), 3, none⟩ = false := tr.frozen 3
    have zf4 : w1.frozen? ⟨(w.heap.size + 1), 4, none⟩ = false := tr.frozen 4
    have zf5 : w1.frozen? ⟨(w.heap.size + 1), 5, none⟩ = false := tr.frozen 5
    have zf6 : w1.frozen? ⟨(w.heap.size + 1), 6, none⟩ = false := tr.frozen 6
    have zf7 : w1.frozen? ⟨(w.heap.size + 1), 7, none⟩ = false := tr.frozen 7
    have JR := Lib.hid tr
    clear t0 tr
    go_wp2_with fail
    clear z0 z1 z2 z3 z4 z5 z6 z7
    have AF := ((((((((JR.out.store 0 (.int .i64 0)).store 1 (.int .i64 0)).store 2 (.int .i64 0)).store 3 (.int .i64 0)).store 4 (.int .i64 0)).store 5 (.slice none 0 0)).store 6 (.slice none 0 0)).store 7 (.slice none 0 0))
    have KX := (((((((((OneKept.refl (w.heap.size + 1) w1).set 0 (.int .i64 0)).set 1 (.int .i64 0)).set 2 (.int .i64 0)).set 3 (.int .i64 0)).set 4 (.int .i64 0)).set 5 (.slice none 0 0)).set 6 (.slice none 0 0)).set 7 (.slice none 0 0))
    simp only [List.setIfInBounds_toArray, List.set_cons_succ, List.set_cons_zero] at AF
    have e0 : ((((((((w1.setCell ⟨w.heap.size + 1, 0, none⟩ (.int .i64 0)).setCell ⟨w.heap.size + 1, 1, none⟩ (.int .i64 0)).setCell ⟨w.heap.size + 1, 2, none⟩ (.int .i64 0)).setCell ⟨w.heap.size + 1, 3, none⟩ (.int .i64 0)).setCell ⟨w.heap.size + 1, 4, none⟩ (.int .i64 0)).setCell ⟨w.heap.size + 1, 5, none⟩ (.slice none 0 0)).setCell ⟨w.heap.size + 1, 6, none⟩ (.slice none 0 0)).setCell ⟨w.heap.size + 1, 7, none⟩ (.slice none 0 0)).cell? ⟨w.heap.size + 1, 0, none⟩ = some (.int .i64 0) := AF.cell 0
    have e1 : ((((((((w1.setCell ⟨w.heap.size + 1, 0, none⟩ (.int .i64 0)).setCell ⟨w.heap.size + 1, 1, none⟩ (.int .i64 0)).setCell ⟨w.heap.size + 1, 2, none⟩ (.int .i64 0)).setCell ⟨w.heap.size + 1, 3, none⟩ (.int .i64 0)).setCell ⟨w.heap.size + 1, 4, none⟩ (.int .i64 0)).setCell ⟨w.heap.size + 1, 5, none⟩ (.slice none 0 0)).setCell ⟨w.heap.size + 1, 6, none⟩ (.slice none 0 0)).setCell ⟨w.heap.size + 1, 7, none⟩ (.slice none 0 0)).cell? ⟨w.heap.size + 1, 1, none⟩ = some (.int .i64 0) := AF.cell 1
    have e2 : ((((((((w1.setCell ⟨w.heap.size + 1, 0, none⟩ (.int .i64 0)).setCell ⟨w.heap.size + 1, 1, none⟩ (.int .i64 0)).setCell ⟨w.heap.size + 1, 2, none⟩ (.int .i64 0)).setCell ⟨w.heap.size + 1, 3, none⟩ (.int .i64 0)).setCell ⟨w.heap.size + 1, 4, none⟩ (.int .i64 0)).setCell ⟨w.heap.size + 1, 5, none⟩ (.slice none 0 0)).setCell ⟨w.heap.size + 1, 6, none⟩ (.slice none 0 0)).setCell ⟨w.heap.size + 1, 7, none⟩ (.slice none 0 0)).cell? ⟨w.heap.size + 1, 2, none⟩ = some (.int .i64 0) := AF.cell 2
    have e3 : ((((((((w1.setCell ⟨w.heap.size + 1, 0, none⟩ (.int .i64 0)).setCell ⟨w.heap.size + 1, 1, none⟩ (.int .i64 0)).setCell ⟨w.heap.size + 1, 2, none⟩ (.int .i64 0)).setCell ⟨w.heap.size + 1, 3, none⟩ (.int .i64 0)).setCell ⟨w.heap.size + 1, 4, none⟩ (.int .i64 0)).setCell ⟨w.heap.size + 1, 5, none⟩ (.slice none 0 0)).setCell ⟨w.heap.size + 1, 6, none⟩ (.slice none 0 0)).setCell ⟨w.heap.size + 1, 7, none⟩ (.slice none 0 0)).cell? ⟨w.heap.size + 1, 3, none⟩ = some (.int .i64 0) := AF.cell 3
    have e4 : ((((((((w1.setCell ⟨w.heap.size + 1, 0, none⟩ (.int .i64 0)).setCell ⟨w.heap.size + 1, 1, none⟩ (.int .i64 0)).setCell ⟨w.heap.size + 1, 2, none⟩ (.int .i64 0)).setCell ⟨w.heap.size + 1, 3, none⟩ (.int .i64 0)).setCell ⟨w.heap.size + 1, 4, none⟩ (.int .i64 0)).setCell ⟨w.heap.size + 1, 5, none⟩ (.slice none 0 0)).setCell ⟨w.heap.size + 1, 6, none⟩ (.slice none 0 0)).setCell ⟨w.heap.size + 1, 7, none⟩ (.slice none 0 0)).cell? ⟨w.heap.size + 1, 4, none⟩ = some (.int .i64 0) := AF.cell 4
    have e5 : ((((((((w1.setCell ⟨w.heap.size + 1, 0, none⟩ (.int .i64 0)).setCell ⟨w.heap.size + 1, 1, none⟩ (.int .i64 0)).setCell ⟨w.heap.size + 1, 2, none⟩ (.int .i64 0)).setCell ⟨w.heap.size + 1, 3, none⟩ (.int .i64 0)).setCell ⟨w.heap.size + 1, 4, none⟩ (.int .i64 0)).setCell ⟨w.heap.size + 1, 5, none⟩ (.slice none 0 0)).setCell ⟨w.heap.size + 1, 6, none⟩ (.slice none 0 0)).setCell ⟨w.heap.size + 1, 7, none⟩ (.slice none 0 0)).cell? ⟨w.heap.size + 1, 5, none⟩ = some (.slice none 0 0) := AF.cell 5
    have e6 : ((((((((w1.setCell ⟨w.heap.size + 1, 0, none⟩ (.int .i64 0)).setCell ⟨w.heap.size + 1, 1, none⟩ (.int .i64 0)).setCell ⟨w.heap.size + 1, 2, none⟩ (.int .i64 0)).setCell ⟨w.heap.size + 1, 3, none⟩ (.int .i64 0)).setCell ⟨w.heap.size + 1, 4, none⟩ (.int .i64 0)).setCell ⟨w.heap.size + 1, 5, none⟩ (.slice none 0 0)).setCell ⟨w.heap.size + 1, 6, none⟩ (.slice none 0 0)).setCell ⟨w.heap.size + 1, 7, none⟩ (.slice none 0 0)).cell? ⟨w.heap.size + 1, 6, none⟩ = some (.slice none 0 0) := AF.cell 6
    have e7 : ((((((((w1.setCell ⟨w.heap.size + 1, 0, none⟩ (.int .i64 0)).setCell ⟨w.heap.size + 1, 1, none⟩ (.int .i64 0)).setCell ⟨w.heap.size + 1, 2, none⟩ (.int .i64 0)).setCell ⟨w.heap.size + 1, 3, none⟩ (.int .i64 0)).setCell ⟨w.heap.size + 1, 4, none⟩ (.int .i64 0)).setCell ⟨w.heap.size + 1, 5, none⟩ (.slice none 0 0)).setCell ⟨w.heap.size + 1, 6, none⟩ (.slice none 0 0)).setCell ⟨w.heap.size + 1, 7, none⟩ (.slice none 0 0)).cell? ⟨w.heap.size + 1, 7, none⟩ = some (.slice none 0 0) := AF.cell 7
    exact bodyPost_ret (v := .tuple #[.agg #[.int .i64 0, .int .i64 0, .int .i64 0, .int .i64 0, .int .i64 0, .slice none 0 0, .slice none 0 0, .slice none 0 0], .int .i64 E]) (by simp [results, Tryz.results6, go_sem, e0, e1, e2, e3, e4, e5, e6, e7]) rfl (.inl ⟨HZ.out, rfl, KX.below B1.out (by omega) B1.out.size⟩)
  subst hz
  have ok := recOk_of HE.out.symm
  have OK := Lib.hid ok
  obtain ⟨o1, o2, o3, o4, o5, o6, o7, o8, o9, o10, o11, o12, o13, o14⟩ := ok
  have y0 : w1.cell? ⟨w.heap.size, 0, none⟩ = some (.int .i64 u) := t0.cell 0
  have y1 : w1.cell? ⟨w.heap.size, 1, none⟩ = some (.int .i64 ev) := t0.cell 1
  have y2 : w1.cell? ⟨w.heap.size, 2, none⟩ = some (.int .i64 f) := t0.cell 2
  have y3 : w1.cell? ⟨w.heap.size, 3, none⟩ = some (.int .i64 cn) := t0.cell 3
  have y4 : w1.cell? ⟨w.heap.size, 4, none⟩ = some (.int .i64 un) := t0.cell 4
  have y5 : w1.cell? ⟨w.heap.size, 5, none⟩ = some (.slice a1 n1 c1) := t0.cell 5
  have y6 : w1.cell? ⟨w.heap.size, 6, none⟩ = some (.slice a2 n2 c2) := t0.cell 6
  have y7 : w1.cell? ⟨w.heap.size, 7, none⟩ = some (.slice a3 n3 c3) := t0.cell 7
  go_wp2_with fail
  refine (recur_at w1 f o5 o6).mono ?_
  rintro e w2 ⟨rfl, hb⟩
  have HB2 := Lib.hid (HB.out.trans (hb.mono HB.out.size))
  have B2 := Lib.hid (below_then B1.out hb)
  clear hb y0 y1 y2 y3 y4 y5 y6 y7 t0 tr
  go_upto_region 5 with fail
  have t0 := (T0.out.then_ HB2.out).alloc (.cells #[.int .i64 f, .int .i64 ((f - 1) % 7), .int .i64 (gY f), .int .i64 (gM f), .int .i64 (gD f), .int .i64 (mlen f)] 54); have tr := (TR.out.then_ HB2.out).alloc (.cells #[.int .i64 f, .int .i64 ((f - 1) % 7), .int .i64 (gY f), .int .i64 (gM f), .int .i64 (gD f), .int .i64 (mlen f)] 54)
  have tm := At.new w2 (.cells #[.int .i64 f, .int .i64 ((f - 1) % 7), .int .i64 (gY f), .int .i64 (gM f), .int .i64 (gD f), .int .i64 (mlen f)] 54)
  have b3 := below_new B2.out (.cells #[.int .i64 f, .int .i64 ((f - 1) % 7), .int .i64 (gY f), .int .i64 (gM f), .int .i64 (gD f), .int .i64 (mlen f)] 54)
  have hb3 := below_new HB2.out (.cells #[.int .i64 f, .int .i64 ((f - 1) % 7), .int .i64 (gY f), .int .i64 (gM f), .int .i64 (gD f), .int .i64 (mlen f)] 54)
  have hmA : w.heap.size + 1 < w2.heap.size := (TR.out.then_ HB2.out).lt
  generalize World.alloc w2 _ = W3 at t0 tr tm b3 hb3 ⊢
  generalize w2.heap.size = mb at *
  have hmlt := tm.lt
  have hAlt := t0.lt
  have i1 := H1.out.1; have i2 := H2.out.1; have i3 := H3.out.1
  have g1 := gY_in f o5 o6
  have g2 := (greg_spec f).1
  have vW : I64 ((f - 1) % 7) := by unfold I64; omega
  have vM : I64 (gD f) := by have := g2.2.2.1; have := g2.2.2.2; have := mlen_in f g1.2.2.1 g1.2.2.2; unfold mlen at this; unfold I64; omega
  have vN : I64 (gM f) := by unfold I64; omega
  have VW := Lib.hid vW; have VM := Lib.hid vM; have VN := Lib.hid vN
  clear g1 g2 vW vM vN
  have T3 := Lib.hid t0; have R3 := Lib.hid tr; have M3 := Lib.hid tm; have B3 := Lib.hid b3
  have y0 : W3.cell? ⟨w.heap.size, 0, none⟩ = some (.int .i64 u) := t0.cell 0
  have y1 : W3.cell? ⟨w.heap.size, 1, none⟩ = some (.int .i64 ev) := t0.cell 1
  have y2 : W3.cell? ⟨w.heap.size, 2, none⟩ = some (.int .i64 f) := t0.cell 2
  have y3 : W3.cell? ⟨w.heap.size, 3, none⟩ = some (.int .i64 cn) := t0.cell 3
  have y4 : W3.cell? ⟨w.heap.size, 4, none⟩ = some (.int .i64 un) := t0.cell 4
  have y5 : W3.cell? ⟨w.heap.size, 5, none⟩ = some (.slice a1 n1 c1) := t0.cell 5
  have y6 : W3.cell? ⟨w.heap.size, 6, none⟩ = some (.slice a2 n2 c2) := t0.cell 6
  have y7 : W3.cell? ⟨w.heap.size, 7, none⟩ = some (.slice a3 n3 c3) := t0.cell 7
  have yf0 : W3.frozen? ⟨w.heap.size, 0, none⟩ = false := t0.frozen 0
  have yf1 : W3.frozen? ⟨w.heap.size, 1, none⟩ = false := t0.frozen 1
  have yf2 : W3.frozen? ⟨w.heap.size, 2, none⟩ = false := t0.frozen 2
  have yf3 : W3.frozen? ⟨w.heap.size, 3, none⟩ = false := t0.frozen 3
  have yf4 : W3.frozen? ⟨w.heap.size, 4, none⟩ = false := t0.frozen 4
  have yf5 : W3.frozen? ⟨w.heap.size, 5, none⟩ = false := t0.frozen 5
  have yf6 : W3.frozen? ⟨w.heap.size, 6, none⟩ = false := t0.frozen 6
  have yf7 : W3.frozen? ⟨w.heap.size, 7, none⟩ = false := t0.frozen 7
  have x0 : W3.cell? ⟨mb, 0, none⟩ = some (.int .i64 f) := tm.cell 0
  have x1 : W3.cell? ⟨mb, 1, none⟩ = some (.int .i64 ((f - 1) % 7)) := tm.cell 1
  have x2 : W3.cell? ⟨mb, 2, none⟩ = some (.int .i64 (gY f)) := tm.cell 2
  have x3 : W3.cell? ⟨mb, 3, none⟩ = some (.int .i64 (gM f)) := tm.cell 3
  have x4 : W3.cell? ⟨mb, 4, none⟩ = some (.int .i64 (gD f)) := tm.cell 4
  have x5 : W3.cell? ⟨mb, 5, none⟩ = some (.int .i64 (mlen f)) := tm.cell 5
  clear t0 tr tm b3 hb3
  go_upto_if 22 with fail
  go_cut [] from 15 (fun wx => Three wx w.heap.size u ev f cn un (nW u f ws ms) (nM u f ws ms) (nN u f ws ms ns) ∧ At wx (w.heap.size + 1) (.cells #[.int .i64 0, .int .i64 0, .int .i64 0, .int .i64 0, .int .i64 0, .slice none 0 0, .slice none 0 0, .slice none 0 0] 24) ∧ At wx mb (.cells #[.int .i64 f, .int .i64 ((f - 1) % 7), .int .i64 (gY f), .int .i64 (gM f), .int .i64 (gD f), .int .i64 (mlen f)] 54) ∧ Below w.heap.size w wx)
  case first =>
    by_cases hs : n1 + n2 = 0
    · obtain rfl : n1 = 0 := by omega
      obtain rfl : n2 = 0 := by omega
      rcases (show u = 1 ∨ u = 2 ∨ u = 3 ∨ u = 4 by omega) with rfl | rfl | rfl | rfl
      · go_wp2_with fail
        go_meet
        case rel =>
          have e1 : nW 1 f ws ms = ws := by unfold nW; rw [if_neg (by omega)]
          have e2 : nM 1 f ws ms = ms := by unfold nM; rw [if_neg (by omega)]
          have e3 : nN 1 f ws ms ns = ns := by unfold nN; rw [if_neg (by omega)]
          rw [e1, e2, e3]
          exact ⟨⟨_, _, _, _, _, _, _, _, _, T3.out, intsA_old H1.out B3.out, intsA_old H2.out B3.out, intsA_old H3.out B3.out⟩, R3.out, M3.out, B3.out⟩
      · go_wp2_with fail
        go_meet
        case rel =>
          have e1 : nW 2 f ws ms = [(f - 1) % 7] := by unfold nW; rw [if_pos (by omega)]
          have e2 : nM 2 f ws ms = ms := by unfold nM; rw [if_neg (by omega)]
          have e3 : nN 2 f ws ms ns = ns := by unfold nN; rw [if_neg (by omega)]
          rw [e1, e2, e3]
          have bx := below_new (below_set B3.out (p := ⟨w.heap.size, 5, none⟩) (Nat.le_refl _) (.slice (some ⟨W3.heap.size, 0, none⟩) 1 1)) (.cells #[.int .i64 ((f - 1) % 7)] 3)
          have tx := (T3.out.store 5 (.slice (some ⟨W3.heap.size, 0, none⟩) 1 1)).alloc (.cells #[.int .i64 ((f - 1) % 7)] 3)
          have nx := At.newAt (W3.setCell ⟨w.heap.size, 5, none⟩ (.slice (some ⟨W3.heap.size, 0, none⟩) 1 1)) (.cells #[.int .i64 ((f - 1) % 7)] 3) W3.heap.size (by simp [World.setCell])
          have rx := (R3.out.apart (p := ⟨w.heap.size, 5, none⟩) (by simp) (.slice (some ⟨W3.heap.size, 0, none⟩) 1 1)).alloc (.cells #[.int .i64 ((f - 1) % 7)] 3)
          have mx := (M3.out.apart (p := ⟨w.heap.size, 5, none⟩) (by simp only; omega) (.slice (some ⟨W3.heap.size, 0, none⟩) 1 1)).alloc (.cells #[.int .i64 ((f - 1) % 7)] 3)
          exact ⟨⟨_, _, _, _, _, _, _, _, _, tx, intsA_new nx hAlt VW.out, intsA_old H2.out bx, intsA_old H3.out bx⟩, rx, mx, bx⟩
      · go_wp2_with fail
        go_meet
        case rel =>
          have e1 : nW 3 f ws ms = ws := by unfold nW; rw [if_neg (by omega)]
          have e2 : nM 3 f ws ms = [gD f] := by unfold nM; rw [if_pos (by omega)]
          have e3 : nN 3 f ws ms ns = ns := by unfold nN; rw [if_neg (by omega)]
          rw [e1, e2, e3]
          have bx := below_new (below_set B3.out (p := ⟨w.heap.size, 6, none⟩) (Nat.le_refl _) (.slice (some ⟨W3.heap.size, 0, none⟩) 1 1)) (.cells #[.int .i64 (gD f)] 3)
          have tx := (T3.out.store 6 (.slice (some ⟨W3.heap.size, 0, none⟩) 1 1)).alloc (.cells #[.int .i64 (gD f)] 3)
          have nx := At.newAt (W3.setCell ⟨w.heap.size, 6, none⟩ (.slice (some ⟨W3.heap.size, 0, none⟩) 1 1)) (.cells #[.int .i64 (gD f)] 3) W3.heap.size (by simp [World.setCell])
          have rx := (R3.out.apart (p := ⟨w.heap.size, 6, none⟩) (by simp) (.slice (some ⟨W3.heap.size, 0, none⟩) 1 1)).alloc (.cells #[.int .i64 (gD f)] 3)
          have mx := (M3.out.apart (p := ⟨w.heap.size, 6, none⟩) (by simp only; omega) (.slice (some ⟨W3.heap.size, 0, none⟩) 1 1)).alloc (.cells #[.int .i64 (gD f)] 3)
          exact ⟨⟨_, _, _, _, _, _, _, _, _, tx, intsA_old H1.out bx, intsA_new nx hAlt VM.out, intsA_old H3.out bx⟩, rx, mx, bx⟩
      · have e1 := Lib.hid (show nW 4 f ws ms = ws by unfold nW; rw [if_neg (by omega)])
        have e2 := Lib.hid (show nM 4 f ws ms = [gD f] by unfold nM; rw [if_pos (by omega)])
        rcases Nat.eq_zero_or_pos n3 with rfl | hn3
        · have e3 := Lib.hid (show nN 4 f ws ms ns = [gM f] by unfold nN; rw [if_pos (by omega)])
          go_wp2_with fail
          go_meet
          case rel =>
            rw [e1.out, e2.out, e3.out]
            have bx := below_new (below_new (below_set (below_set B3.out (p := ⟨w.heap.size, 7, none⟩) (Nat.le_refl _) (.slice (some ⟨W3.heap.size, 0, none⟩) 1 1)) (p := ⟨w.heap.size, 6, none⟩) (Nat.le_refl _) (.slice (some ⟨W3.heap.size + 1, 0, none⟩) 1 1)) (.cells #[.int .i64 (gM f)] 3)) (.cells #[.int .i64 (gD f)] 3)
            have tx := (((T3.out.store 7 (.slice (some ⟨W3.heap.size, 0, none⟩) 1 1)).store 6 (.slice (some ⟨W3.heap.size + 1, 0, none⟩) 1 1)).alloc (.cells #[.int .i64 (gM f)] 3)).alloc (.cells #[.int .i64 (gD f)] 3)
            have n7 := (At.newAt ((W3.setCell ⟨w.heap.size, 7, none⟩ (.slice (some ⟨W3.heap.size, 0, none⟩) 1 1)).setCell ⟨w.heap.size, 6, none⟩ (.slice (some ⟨W3.heap.size + 1, 0, none⟩) 1 1)) (.cells #[.int .i64 (gM f)] 3) W3.heap.size (by simp [World.setCell])).alloc (.cells #[.int .i64 (gD f)] 3)
            have n6 := At.newAt (((W3.setCell ⟨w.heap.size, 7, none⟩ (.slice (some ⟨W3.heap.size, 0, none⟩) 1 1)).setCell ⟨w.heap.size, 6, none⟩ (.slice (some ⟨W3.heap.size + 1, 0, none⟩) 1 1)).alloc (.cells #[.int .i64 (gM f)] 3)) (.cells #[.int .i64 (gD f)] 3) (W3.heap.size + 1) (by simp [World.setCell])
            have rx := (((R3.out.apart (p := ⟨w.heap.size, 7, none⟩) (by simp) (.slice (some ⟨W3.heap.size, 0, none⟩) 1 1)).apart (p := ⟨w.heap.size, 6, none⟩) (by simp) (.slice (some ⟨W3.heap.size + 1, 0, none⟩) 1 1)).alloc (.cells #[.int .i64 (gM f)] 3)).alloc (.cells #[.int .i64 (gD f)] 3)
            have mx := (((M3.out.apart (p := ⟨w.heap.size, 7, none⟩) (by simp only; omega) (.slice (some ⟨W3.heap.size, 0, none⟩) 1 1)).apart (p := ⟨w.heap.size, 6, none⟩) (by simp only; omega) (.slice (some ⟨W3.heap.size + 1, 0, none⟩) 1 1)).alloc (.cells #[.int .i64 (gM f)] 3)).alloc (.cells #[.int .i64 (gD f)] 3)
            exact ⟨⟨_, _, _, _, _, _, _, _, _, tx, intsA_old H1.out bx, intsA_new n6 (by omega) VM.out, intsA_new n7 (by omega) VN.out⟩, rx, mx, bx⟩
        · have e3 := Lib.hid (show nN 4 f ws ms ns = ns by unfold nN; rw [if_neg (by omega)])
          go_wp2_with fail
          go_meet
          case rel =>
            rw [e1.out, e2.out, e3.out]
            have bx := below_new (below_set B3.out (p := ⟨w.heap.size, 6, none⟩) (Nat.le_refl _) (.slice (some ⟨W3.heap.size, 0, none⟩) 1 1)) (.cells #[.int .i64 (gD f)] 3)
            have tx := (T3.out.store 6 (.slice (some ⟨W3.heap.size, 0, none⟩) 1 1)).alloc (.cells #[.int .i64 (gD f)] 3)
            have nx := At.newAt (W3.setCell ⟨w.heap.size, 6, none⟩ (.slice (some ⟨W3.heap.size, 0, none⟩) 1 1)) (.cells #[.int .i64 (gD f)] 3) W3.heap.size (by simp [World.setCell])
            have rx := (R3.out.apart (p := ⟨w.heap.size, 6, none⟩) (by simp) (.slice (some ⟨W3.heap.size, 0, none⟩) 1 1)).alloc (.cells #[.int .i64 (gD f)] 3)
            have mx := (M3.out.apart (p := ⟨w.heap.size, 6, none⟩) (by simp only; omega) (.slice (some ⟨W3.heap.size, 0, none⟩) 1 1)).alloc (.cells #[.int .i64 (gD f)] 3)
            exact ⟨⟨_, _, _, _, _, _, _, _, _, tx, intsA_old H1.out bx, intsA_new nx hAlt VM.out, intsA_old H3.out bx⟩, rx, mx, bx⟩
    · have hsum : IntKind.i64.wrap ((n1 : Int) + (n2 : Int)) = (n1 : Int) + (n2 : Int) := IntWalk.i64_in _ (by omega)
      have hsum2 : ((n1 : Int) + (n2 : Int) == 0) = false := by rw [beq_eq_false_iff_ne]; omega
      have e1 := Lib.hid (show nW u f ws ms = ws by unfold nW; rw [if_neg (by omega)])
      have e2 := Lib.hid (show nM u f ws ms = ms by unfold nM; rw [if_neg (by omega)])
      have e3 := Lib.hid (show nN u f ws ms ns = ns by unfold nN; rw [if_neg (by omega)])
      go_wp2_with fail
      go_meet
      case rel =>
        rw [e1.out, e2.out, e3.out]
        exact ⟨⟨_, _, _, _, _, _, _, _, _, T3.out, intsA_old H1.out B3.out, intsA_old H2.out B3.out, intsA_old H3.out B3.out⟩, R3.out, M3.out, B3.out⟩
  case rest =>
  obtain ⟨hth, hr, hm, hb⟩ := hcut
  obtain ⟨p1, l1, q1, p2, l2, q2, p3, l3, q3, ha, hx1, hx2, hx3⟩ := hth
  have HA := Lib.hid ha; have HR := Lib.hid hr; have HM := Lib.hid hm; have HBc := Lib.hid hb
  have X1 := Lib.hid hx1; have X2 := Lib.hid hx2; have X3 := Lib.hid hx3
  have hAc := ha.lt
  clear y0 yf0 y1 yf1 y2 yf2 y3 yf3 y4 yf4 y5 yf5 y6 yf6 y7 yf7 x0 x1 x2 x3 x4 x5 hx1 hx2 hx3 hb
  have y0 : wc.cell? ⟨w.heap.size, 0, none⟩ = some (.int .i64 u) := ha.cell 0
  have y1 : wc.cell? ⟨w.heap.size, 1, none⟩ = some (.int .i64 ev) := ha.cell 1
  have y2 : wc.cell? ⟨w.heap.size, 2, none⟩ = some (.int .i64 f) := ha.cell 2
  have y3 : wc.cell? ⟨w.heap.size, 3, none⟩ = some (.int .i64 cn) := ha.cell 3
  have y4 : wc.cell? ⟨w.heap.size, 4, none⟩ = some (.int .i64 un) := ha.cell 4
  have y5 : wc.cell? ⟨w.heap.size, 5, none⟩ = some (.slice p1 l1 q1) := ha.cell 5
  have y6 : wc.cell? ⟨w.heap.size, 6, none⟩ = some (.slice p2 l2 q2) := ha.cell 6
  have y7 : wc.cell? ⟨w.heap.size, 7, none⟩ = some (.slice p3 l3 q3) := ha.cell 7
  have yf0 : wc.frozen? ⟨w.heap.size, 0, none⟩ = false := ha.frozen 0
  have yf1 : wc.frozen? ⟨w.heap.size, 1, none⟩ = false := ha.frozen 1
  have yf2 : wc.frozen? ⟨w.heap.size, 2, none⟩ = false := ha.frozen 2
  have yf3 : wc.frozen? ⟨w.heap.size, 3, none⟩ = false := ha.frozen 3
  have yf4 : wc.frozen? ⟨w.heap.size, 4, none⟩ = false := ha.frozen 4
  have yf5 : wc.frozen? ⟨w.heap.size, 5, none⟩ = false := ha.frozen 5
  have yf6 : wc.frozen? ⟨w.heap.size, 6, none⟩ = false := ha.frozen 6
  have yf7 : wc.frozen? ⟨w.heap.size, 7, none⟩ = false := ha.frozen 7
  have xx1 : wc.cell? ⟨mb, 1, none⟩ = some (.int .i64 ((f - 1) % 7)) := hm.cell 1
  have htm : ev.tmod 7 = ev % 7 := Int.tmod_eq_emod_of_nonneg (by omega)
  clear ha hr hm
  obtain ⟨NC, hNC⟩ : ∃ NC, NC = nC u ev f ws ms := ⟨_, rfl⟩
  have HNC := Lib.hid hNC
  clear hNC
  go_upto_region 15 with fail
  go_cut [70] from 54 (fun v wx => v = .bool NC ∧ Below wc.heap.size wc wx)
  case first =>
    by_cases hu : u = 1
    · subst hu
      by_cases hd : ev % 7 = 0
      · have hl : ∃ b, b = listedB (nW 1 f ws ms) [(f - 1) % 7] := ⟨_, rfl⟩
        obtain ⟨b, hb⟩ := hl
        have HLB := Lib.hid hb
        have hnc := Lib.hid (show nC 1 ev f ws ms = b by unfold nC; rw [← hb]; simp [hd])
        clear hb
        go_wp2_with fail
        have j1 := At.new wc (.cells #[.int .i64 ((f - 1) % 7)] 3)
        have jb := below_new (Below.refl wc.heap.size wc) (.cells #[.int .i64 ((f - 1) % 7)] 3)
        refine (recur_listed _ _ _ _ _ _ _ [(f - 1) % 7] (nW 1 f ws ms) (one_ints j1 VW.out) (X1.out.1.far (Below.refl _ _) jb)).mono ?_
        rw [← HLB.out]
        rintro e w5 ⟨rfl, hb5⟩
        have HBW := Lib.hid (below_then jb hb5)
        clear j1 jb hb5
        go_wp2_with fail
        go_meet
        case rel => exact ⟨by rw [HNC.out, hnc.out], HBW.out⟩
      · have hnc := Lib.hid (show nC 1 ev f ws ms = false by unfold nC; simp [hd])
        have hd' : (ev % 7 == 0) = false := by simpa using hd
        clear hd
        go_wp2_with fail
        go_meet
        case rel => exact ⟨by rw [HNC.out, hnc.out], Below.refl _ _⟩
    · have hu' : (u == 1) = false := by simpa using hu
      have hnc := Lib.hid (show nC u ev f ws ms = false by unfold nC; simp [hu])
      clear hu
      go_wp2_with fail
      go_meet
      case rel => exact ⟨by rw [HNC.out, hnc.out], Below.refl _ _⟩
  case rest =>
  obtain ⟨rfl, hbw⟩ := hcut
  have HBW := Lib.hid hbw
  clear hbw y0 yf0 y1 yf1 y2 yf2 y3 yf3 y4 yf4 y5 yf5 y6 yf6 y7 yf7 xx1
  have Y1 := Lib.hid (X1.out.kept (.of_below HBW.out)); have Y2 := Lib.hid (X2.out.kept (.of_below HBW.out)); have Y3 := Lib.hid (X3.out.kept (.of_below HBW.out))
  have HA2 := Lib.hid (HA.out.then_ HBW.out); have HR2 := Lib.hid (HR.out.then_ HBW.out); have HM2 := Lib.hid (HM.out.then_ HBW.out)
  have HB2c := Lib.hid (below_then HBc.out HBW.out)
  have ha := HA2.out; have hm := HM2.out
  have hAd := ha.lt
  have y0 : wc.cell? ⟨w.heap.size, 0, none⟩ = some (.int .i64 u) := ha.cell 0
  have y1 : wc.cell? ⟨w.heap.size, 1, none⟩ = some (.int .i64 ev) := ha.cell 1
  have y2 : wc.cell? ⟨w.heap.size, 2, none⟩ = some (.int .i64 f) := ha.cell 2
  have y3 : wc.cell? ⟨w.heap.size, 3, none⟩ = some (.int .i64 cn) := ha.cell 3
  have y4 : wc.cell? ⟨w.heap.size, 4, none⟩ = some (.int .i64 un) := ha.cell 4
  have y5 : wc.cell? ⟨w.heap.size, 5, none⟩ = some (.slice p1 l1 q1) := ha.cell 5
  have y6 : wc.cell? ⟨w.heap.size, 6, none⟩ = some (.slice p2 l2 q2) := ha.cell 6
  have y7 : wc.cell? ⟨w.heap.size, 7, none⟩ = some (.slice p3 l3 q3) := ha.cell 7
  have yf0 : wc.frozen? ⟨w.heap.size, 0, none⟩ = false := ha.frozen 0
  have yf1 : wc.frozen? ⟨w.heap.size, 1, none⟩ = false := ha.frozen 1
  have yf2 : wc.frozen? ⟨w.heap.size, 2, none⟩ = false := ha.frozen 2
  have yf3 : wc.frozen? ⟨w.heap.size, 3, none⟩ = false := ha.frozen 3
  have yf4 : wc.frozen? ⟨w.heap.size, 4, none⟩ = false := ha.frozen 4
  have yf5 : wc.frozen? ⟨w.heap.size, 5, none⟩ = false := ha.frozen 5
  have yf6 : wc.frozen? ⟨w.heap.size, 6, none⟩ = false := ha.frozen 6
  have yf7 : wc.frozen? ⟨w.heap.size, 7, none⟩ = false := ha.frozen 7
  have xx1 : wc.cell? ⟨mb, 1, none⟩ = some (.int .i64 ((f - 1) % 7)) := hm.cell 1
  clear ha hm
  go_upto_if 70 with fail
  go_cut [] from 71 (fun wx => Three wx w.heap.size (if NC = true then 2 else u) (if NC = true then ev / 7 else ev) f cn un (if NC = true then [(f - 1) % 7] else nW u f ws ms) (nM u f ws ms) (nN u f ws ms ns) ∧ At wx (w.heap.size + 1) (.cells #[.int .i64 0, .int .i64 0, .int .i64 0, .int .i64 0, .int .i64 0, .slice none 0 0, .slice none 0 0, .slice none 0 0] 24) ∧ Below w.heap.size w wx)
  case first =>
    cases NC with
    | false =>
      go_wp2_with fail
      go_meet
      case rel => exact ⟨⟨_, _, _, _, _, _, _, _, _, HA2.out, Y1.out, Y2.out, Y3.out⟩, HR2.out, HB2c.out⟩
    | true =>
      have htd : ev.tdiv 7 = ev / 7 := Int.tdiv_eq_ediv_of_nonneg (by omega)
      go_upto_region 16 with fail
      go_region
      go_wp2_with fail
      go_meet
      case rel =>
        have tx := ((((HA2.out.store 0 (.int .i64 2)).store 1 (.int .i64 (ev / 7))).store 5 (.slice (some ⟨wc.heap.size, 0, none⟩) 1 1)).alloc (.cells #[.int .i64 ((f - 1) % 7)] 3)).drew
        have nx := (At.newAt (((wc.setCell ⟨w.heap.size, 0, none⟩ (.int .i64 2)).setCell ⟨w.heap.size, 1, none⟩ (.int .i64 (ev / 7))).setCell ⟨w.heap.size, 5, none⟩ (.slice (some ⟨wc.heap.size, 0, none⟩) 1 1)) (.cells #[.int .i64 ((f - 1) % 7)] 3) wc.heap.size (by simp [World.setCell])).drew
        have kx := (((((OneKept.refl w.heap.size wc).set 0 (.int .i64 2)).set 1 (.int .i64 (ev / 7))).set 5 (.slice (some ⟨wc.heap.size, 0, none⟩) 1 1)).alloc (.cells #[.int .i64 ((f - 1) % 7)] 3)).drew
        have bx := (below_new (below_set (below_set (below_set HB2c.out (p := ⟨w.heap.size, 0, none⟩) (Nat.le_refl _) (.int .i64 2)) (p := ⟨w.heap.size, 1, none⟩) (Nat.le_refl _) (.int .i64 (ev / 7))) (p := ⟨w.heap.size, 5, none⟩) (Nat.le_refl _) (.slice (some ⟨wc.heap.size, 0, none⟩) 1 1)) (.cells #[.int .i64 ((f - 1) % 7)] 3)).drew
        exact ⟨⟨_, _, _, _, _, _, _, _, _, tx, intsA_new nx hAd VW.out, Y2.out.kept kx, Y3.out.kept kx⟩, HR2.out.oneKept kx (by omega), bx⟩
  case rest =>
  obtain ⟨hth, hr, hb⟩ := hcut
  rw [HNC.out] at hth
  clear y0 yf0 y1 yf1 y2 yf2 y3 yf3 y4 yf4 y5 yf5 y6 yf6 y7 yf7 xx1 Y1 Y2 Y3 HA2 HR2 HM2 HB2c X1 X2 X3 HA HR HM HBW HBc
  obtain ⟨p1, l1, q1, p2, l2, q2, p3, l3, q3, ha, hx1, hx2, hx3⟩ := hth
  obtain ⟨U2, hU2⟩ : ∃ x, x = (if nC u ev f ws ms = true then 2 else u) := ⟨_, rfl⟩
  obtain ⟨V2, hV2⟩ : ∃ x, x = (if nC u ev f ws ms = true then ev / 7 else ev) := ⟨_, rfl⟩
  rw [← hU2, ← hV2] at ha
  have HU2 := Lib.hid hU2; have HV2 := Lib.hid hV2
  have HA := Lib.hid ha; have HR := Lib.hid hr; have HBc := Lib.hid hb
  have X1 := Lib.hid hx1; have X2 := Lib.hid hx2; have X3 := Lib.hid hx3
  have hAd2 := ha.lt
  have lw1 : l1 ≤ 100000 := by
    have h := hx1.1.1
    unfold nW at h
    split at h
    · simp at h; omega
    · split at h
      · simp at h; omega
      · omega
  have lw2 : l2 ≤ 100000 := by
    have h := hx2.1.1
    unfold nM at h
    split at h
    · simp at h; omega
    · omega
  have lw3 : l3 ≤ 100000 := by
    have h := hx3.1.1
    unfold nN at h
    split at h
    · simp at h; omega
    · omega
  clear hx1 hx2 hx3 hb hU2 hV2 hr
  have y0 : wc.cell? ⟨w.heap.size, 0, none⟩ = some (.int .i64 U2) := ha.cell 0
  have y1 : wc.cell? ⟨w.heap.size, 1, none⟩ = some (.int .i64 V2) := ha.cell 1
  have y2 : wc.cell? ⟨w.heap.size, 2, none⟩ = some (.int .i64 f) := ha.cell 2
  have y3 : wc.cell? ⟨w.heap.size, 3, none⟩ = some (.int .i64 cn) := ha.cell 3
  have y4 : wc.cell? ⟨w.heap.size, 4, none⟩ = some (.int .i64 un) := ha.cell 4
  have y5 : wc.cell? ⟨w.heap.size, 5, none⟩ = some (.slice p1 l1 q1) := ha.cell 5
  have y6 : wc.cell? ⟨w.heap.size, 6, none⟩ = some (.slice p2 l2 q2) := ha.cell 6
  have y7 : wc.cell? ⟨w.heap.size, 7, none⟩ = some (.slice p3 l3 q3) := ha.cell 7
  have yf0 : wc.frozen? ⟨w.heap.size, 0, none⟩ = false := ha.frozen 0
  have yf1 : wc.frozen? ⟨w.heap.size, 1, none⟩ = false := ha.frozen 1
  have yf2 : wc.frozen? ⟨w.heap.size, 2, none⟩ = false := ha.frozen 2
  have yf3 : wc.frozen? ⟨w.heap.size, 3, none⟩ = false := ha.frozen 3
  have yf4 : wc.frozen? ⟨w.heap.size, 4, none⟩ = false := ha.frozen 4
  have yf5 : wc.frozen? ⟨w.heap.size, 5, none⟩ = false := ha.frozen 5
  have yf6 : wc.frozen? ⟨w.heap.size, 6, none⟩ = false := ha.frozen 6
  have yf7 : wc.frozen? ⟨w.heap.size, 7, none⟩ = false := ha.frozen 7
  clear ha
  have KA := Lib.hid (show ∀ W, Below wc.heap.size wc W → At W w.heap.size (.cells #[.int .i64 U2, .int .i64 V2, .int .i64 f, .int .i64 cn, .int .i64 un, .slice p1 l1 q1, .slice p2 l2 q2, .slice p3 l3 q3] 24) from fun W h => HA.out.then_ h)
  obtain ⟨W9, hW9⟩ : ∃ W, W = wc := ⟨_, rfl⟩
  have SC1 := Lib.hid (show ∀ W, Below wc.heap.size wc W → Calls Tryz.prog 19 #[.slice p1 l1 q1] W (SortedOut l1 (if nC u ev f ws ms = true then [(f - 1) % 7] else nW u f ws ms) W) from fun W h => recur_sorted W p1 l1 q1 _ (X1.out.1.far (Below.refl _ _) h) lw1)
  have SC2 := Lib.hid (show ∀ W, Below wc.heap.size wc W → Calls Tryz.prog 19 #[.slice p2 l2 q2] W (SortedOut l2 (nM u f ws ms) W) from fun W h => recur_sorted W p2 l2 q2 _ (X2.out.1.far (Below.refl _ _) h) lw2)
  have SC3 := Lib.hid (show ∀ W, Below wc.heap.size wc W → Calls Tryz.prog 19 #[.slice p3 l3 q3] W (SortedOut l3 (nN u f ws ms ns) W) from fun W h => recur_sorted W p3 l3 q3 _ (X3.out.1.far (Below.refl _ _) h) lw3)
  go_upto_region 17 with fail
  go_cut [] from 80 (fun wx => ∃ s1 z1 s2 z2 s3 z3, At wx w.heap.size (.cells #[.int .i64 U2, .int .i64 V2, .int .i64 f, .int .i64 cn, .int .i64 un, .slice s1 l1 z1, .slice s2 l2 z2, .slice s3 l3 z3] 24) ∧
    Ints wx wx.heap.size s1 l1 (sortI (if nC u ev f ws ms = true then [(f - 1) % 7] else nW u f ws ms)) ∧ Ints wx wx.heap.size s2 l2 (sortI (nM u f ws ms)) ∧ Ints wx wx.heap.size s3 l3 (sortI (nN u f ws ms ns)) ∧ At wx (w.heap.size + 1) (.cells #[.int .i64 0, .int .i64 0, .int .i64 0, .int .i64 0, .int .i64 0, .slice none 0 0, .slice none 0 0, .slice none 0 0] 24) ∧ Below w.heap.size w wx ∧ (∀ b o, s1 = some ⟨b, o, none⟩ → w.heap.size + 2 ≤ b) ∧ (∀ b o, s2 = some ⟨b, o, none⟩ → w.heap.size + 2 ≤ b) ∧ (∀ b o, s3 = some ⟨b, o, none⟩ → w.heap.size + 2 ≤ b) ∧ ((l1 ≤ z1 ∧ z1 ≤ 9223372036854775807) ∧ (l2 ≤ z2 ∧ z2 ≤ 9223372036854775807) ∧ (l3 ≤ z3 ∧ z3 ≤ 9223372036854775807)))
  case first =>
    have hRl := HR.out.lt
    go_region_law
      (first
        | (rw [if_pos (by rfl)]; go_simp; go_at_call 19; (with_reducible refine Calls.mono (SC1.out _ ?_) ?_); (focus (first | exact (Below.refl _ _).drew | exact cb1 | exact cb2 | assumption)); rintro e w21 ⟨s1, z1, rfl, hn1, hz1, hI1, hb1, hg1⟩; have cb1 : Below wc.heap.size wc w21 := (by first | exact below_then (Below.refl _ _).drew hb1 | exact below_then cb1 hb1 | exact below_then cb2 hb1); have ha1 := KA.out _ cb1; have u1_1 : w21.cell? ⟨w.heap.size, 5, none⟩ = some (.slice p1 l1 q1) := ha1.cell 5; have u1_2 : w21.cell? ⟨w.heap.size, 6, none⟩ = some (.slice p2 l2 q2) := ha1.cell 6; have u1_3 : w21.cell? ⟨w.heap.size, 7, none⟩ = some (.slice p3 l3 q3) := ha1.cell 7; have v1_1 : w21.frozen? ⟨w.heap.size, 5, none⟩ = false := ha1.frozen 5; have v1_2 : w21.frozen? ⟨w.heap.size, 6, none⟩ = false := ha1.frozen 6; have v1_3 : w21.frozen? ⟨w.heap.size, 7, none⟩ = false := ha1.frozen 7)
        | (rw [if_pos (by rfl)]; go_simp; go_at_call 19; (with_reducible refine Calls.mono (SC2.out _ ?_) ?_); (focus (first | exact (Below.refl _ _).drew | exact cb1 | exact cb2 | assumption)); rintro e w22 ⟨s2, z2, rfl, hn2, hz2, hI2, hb2, hg2⟩; have cb2 : Below wc.heap.size wc w22 := (by first | exact below_then (Below.refl _ _).drew hb2 | exact below_then cb1 hb2 | exact below_then cb2 hb2); have ha2 := KA.out _ cb2; have u2_1 : w22.cell? ⟨w.heap.size, 5, none⟩ = some (.slice p1 l1 q1) := ha2.cell 5; have u2_2 : w22.cell? ⟨w.heap.size, 6, none⟩ = some (.slice p2 l2 q2) := ha2.cell 6; have u2_3 : w22.cell? ⟨w.heap.size, 7, none⟩ = some (.slice p3 l3 q3) := ha2.cell 7; have v2_1 : w22.frozen? ⟨w.heap.size, 5, none⟩ = false := ha2.frozen 5; have v2_2 : w22.frozen? ⟨w.heap.size, 6, none⟩ = false := ha2.frozen 6; have v2_3 : w22.frozen? ⟨w.heap.size, 7, none⟩ = false := ha2.frozen 7)
        | (rw [if_pos (by rfl)]; go_simp; go_at_call 19; (with_reducible refine Calls.mono (SC3.out _ ?_) ?_); (focus (first | exact (Below.refl _ _).drew | exact cb1 | exact cb2 | assumption)); rintro e w23 ⟨s3, z3, rfl, hn3, hz3, hI3, hb3, hg3⟩; have cb3 : Below wc.heap.size wc w23 := (by first | exact below_then (Below.refl _ _).drew hb3 | exact below_then cb1 hb3 | exact below_then cb2 hb3); have ha3 := KA.out _ cb3; have u3_1 : w23.cell? ⟨w.heap.size, 5, none⟩ = some (.slice p1 l1 q1) := ha3.cell 5; have u3_2 : w23.cell? ⟨w.heap.size, 6, none⟩ = some (.slice p2 l2 q2) := ha3.cell 6; have u3_3 : w23.cell? ⟨w.heap.size, 7, none⟩ = some (.slice p3 l3 q3) := ha3.cell 7; have v3_1 : w23.frozen? ⟨w.heap.size, 5, none⟩ = false := ha3.frozen 5; have v3_2 : w23.frozen? ⟨w.heap.size, 6, none⟩ = false := ha3.frozen 6; have v3_3 : w23.frozen? ⟨w.heap.size, 7, none⟩ = false := ha3.frozen 7))
    all_goals
      go_wp2_with fail
      go_meet
      case rel =>
        have kx := (((OneKept.refl w.heap.size w23).set 5 (.slice s1 l1 z1)).set 6 (.slice s2 l2 z2)).set 7 (.slice s3 l3 z3)
        have tx := ((ha3.store 5 (.slice s1 l1 z1)).store 6 (.slice s2 l2 z2)).store 7 (.slice s3 l3 z3)
        have c12 := cb1.size
        have c23 := cb2.size
        have d13 : Below w21.heap.size w21 w23 := below_then hb2 hb3
        refine ⟨s1, z1, s2, z2, s3, z3, tx, ints_far (hI1.far (Below.refl _ _) d13) kx (fun _ b o e => ?_), ints_far (hI2.far (Below.refl _ _) hb3) kx (fun _ b o e => ?_), ints_far hI3 kx (fun _ b o e => ?_), (HR.out.then_ cb3).oneKept kx (by omega), kx.below (below_then HBc.out cb3) (Nat.le_refl _) (below_then HBc.out cb3).size, fun b o e => ?_, fun b o e => ?_, fun b o e => ?_, ⟨hn1, hz1⟩, ⟨hn2, hz2⟩, ⟨hn3, hz3⟩⟩
        · have h : wc.heap.size ≤ b := hg1 b o e
          omega
        · have h := hg2 b o e
          omega
        · have h := hg3 b o e
          omega
        · have h : wc.heap.size ≤ b := hg1 b o e
          omega
        · have h := hg2 b o e
          omega
        · have h := hg3 b o e
          omega
  case rest =>
  obtain ⟨s1, z1, s2, z2, s3, z3, ha, hI1, hI2, hI3, hr, hb, hg1, hg2, hg3, hcaps⟩ := hcut
  have HCP := Lib.hid hcaps
  clear hcaps
  clear y0 yf0 y1 yf1 y2 yf2 y3 yf3 y4 yf4 y5 yf5 y6 yf6 y7 yf7 HA HR HBc X1 X2 X3 SC1 SC2 SC3 KA
  have q0 : wc.cell? ⟨w.heap.size, 0, none⟩ = some (.int .i64 U2) := ha.cell 0
  have q1 : wc.cell? ⟨w.heap.size, 1, none⟩ = some (.int .i64 V2) := ha.cell 1
  have q2 : wc.cell? ⟨w.heap.size, 2, none⟩ = some (.int .i64 f) := ha.cell 2
  have q3 : wc.cell? ⟨w.heap.size, 3, none⟩ = some (.int .i64 cn) := ha.cell 3
  have q4 : wc.cell? ⟨w.heap.size, 4, none⟩ = some (.int .i64 un) := ha.cell 4
  have q5 : wc.cell? ⟨w.heap.size, 5, none⟩ = some (.slice s1 l1 z1) := ha.cell 5
  have q6 : wc.cell? ⟨w.heap.size, 6, none⟩ = some (.slice s2 l2 z2) := ha.cell 6
  have q7 : wc.cell? ⟨w.heap.size, 7, none⟩ = some (.slice s3 l3 z3) := ha.cell 7
  have r0 : wc.cell? ⟨(w.heap.size + 1), 0, none⟩ = some (.int .i64 0) := hr.cell 0
  have r1 : wc.cell? ⟨(w.heap.size + 1), 1, none⟩ = some (.int .i64 0) := hr.cell 1
  have r2 : wc.cell? ⟨(w.heap.size + 1), 2, none⟩ = some (.int .i64 0) := hr.cell 2
  have r3 : wc.cell? ⟨(w.heap.size + 1), 3, none⟩ = some (.int .i64 0) := hr.cell 3
  have r4 : wc.cell? ⟨(w.heap.size + 1), 4, none⟩ = some (.int .i64 0) := hr.cell 4
  have r5 : wc.cell? ⟨(w.heap.size + 1), 5, none⟩ = some (.slice none 0 0) := hr.cell 5
  have r6 : wc.cell? ⟨(w.heap.size + 1), 6, none⟩ = some (.slice none 0 0) := hr.cell 6
  have r7 : wc.cell? ⟨(w.heap.size + 1), 7, none⟩ = some (.slice none 0 0) := hr.cell 7
  have rf0 : wc.frozen? ⟨(w.heap.size + 1), 0, none⟩ = false := hr.frozen 0
  have rf1 : wc.frozen? ⟨(w.heap.size + 1), 1, none⟩ = false := hr.frozen 1
  have rf2 : wc.frozen? ⟨(w.heap.size + 1), 2, none⟩ = false := hr.frozen 2
  have rf3 : wc.frozen? ⟨(w.heap.size + 1), 3, none⟩ = false := hr.frozen 3
  have rf4 : wc.frozen? ⟨(w.heap.size + 1), 4, none⟩ = false := hr.frozen 4
  have rf5 : wc.frozen? ⟨(w.heap.size + 1), 5, none⟩ = false := hr.frozen 5
  have rf6 : wc.frozen? ⟨(w.heap.size + 1), 6, none⟩ = false := hr.frozen 6
  have rf7 : wc.frozen? ⟨(w.heap.size + 1), 7, none⟩ = false := hr.frozen 7
  have J1 := Lib.hid hI1; have J2 := Lib.hid hI2; have J3 := Lib.hid hI3; have JB := Lib.hid hb; have JR := Lib.hid hr
  have G1 := Lib.hid hg1; have G2 := Lib.hid hg2; have G3 := Lib.hid hg3
  clear hI1 hI2 hI3 hb ha hr hg1 hg2 hg3
  go_wp2_with fail
  clear q0 r0 rf0 q1 r1 rf1 q2 r2 rf2 q3 r3 rf3 q4 r4 rf4 q5 r5 rf5 q6 r6 rf6 q7 r7 rf7
  have AF := ((((((((JR.out.store 0 (.int .i64 U2)).store 1 (.int .i64 V2)).store 2 (.int .i64 f)).store 3 (.int .i64 cn)).store 4 (.int .i64 un)).store 5 (.slice s1 l1 z1)).store 6 (.slice s2 l2 z2)).store 7 (.slice s3 l3 z3))
  have KX := (((((((((OneKept.refl (w.heap.size + 1) wc).set 0 (.int .i64 U2)).set 1 (.int .i64 V2)).set 2 (.int .i64 f)).set 3 (.int .i64 cn)).set 4 (.int .i64 un)).set 5 (.slice s1 l1 z1)).set 6 (.slice s2 l2 z2)).set 7 (.slice s3 l3 z3))
  simp only [List.setIfInBounds_toArray, List.set_cons_succ, List.set_cons_zero] at AF
  have e0 : ((((((((wc.setCell ⟨w.heap.size + 1, 0, none⟩ (.int .i64 U2)).setCell ⟨w.heap.size + 1, 1, none⟩ (.int .i64 V2)).setCell ⟨w.heap.size + 1, 2, none⟩ (.int .i64 f)).setCell ⟨w.heap.size + 1, 3, none⟩ (.int .i64 cn)).setCell ⟨w.heap.size + 1, 4, none⟩ (.int .i64 un)).setCell ⟨w.heap.size + 1, 5, none⟩ (.slice s1 l1 z1)).setCell ⟨w.heap.size + 1, 6, none⟩ (.slice s2 l2 z2)).setCell ⟨w.heap.size + 1, 7, none⟩ (.slice s3 l3 z3)).cell? ⟨w.heap.size + 1, 0, none⟩ = some (.int .i64 U2) := AF.cell 0
  have e1 : ((((((((wc.setCell ⟨w.heap.size + 1, 0, none⟩ (.int .i64 U2)).setCell ⟨w.heap.size + 1, 1, none⟩ (.int .i64 V2)).setCell ⟨w.heap.size + 1, 2, none⟩ (.int .i64 f)).setCell ⟨w.heap.size + 1, 3, none⟩ (.int .i64 cn)).setCell ⟨w.heap.size + 1, 4, none⟩ (.int .i64 un)).setCell ⟨w.heap.size + 1, 5, none⟩ (.slice s1 l1 z1)).setCell ⟨w.heap.size + 1, 6, none⟩ (.slice s2 l2 z2)).setCell ⟨w.heap.size + 1, 7, none⟩ (.slice s3 l3 z3)).cell? ⟨w.heap.size + 1, 1, none⟩ = some (.int .i64 V2) := AF.cell 1
  have e2 : ((((((((wc.setCell ⟨w.heap.size + 1, 0, none⟩ (.int .i64 U2)).setCell ⟨w.heap.size + 1, 1, none⟩ (.int .i64 V2)).setCell ⟨w.heap.size + 1, 2, none⟩ (.int .i64 f)).setCell ⟨w.heap.size + 1, 3, none⟩ (.int .i64 cn)).setCell ⟨w.heap.size + 1, 4, none⟩ (.int .i64 un)).setCell ⟨w.heap.size + 1, 5, none⟩ (.slice s1 l1 z1)).setCell ⟨w.heap.size + 1, 6, none⟩ (.slice s2 l2 z2)).setCell ⟨w.heap.size + 1, 7, none⟩ (.slice s3 l3 z3)).cell? ⟨w.heap.size + 1, 2, none⟩ = some (.int .i64 f) := AF.cell 2
  have e3 : ((((((((wc.setCell ⟨w.heap.size + 1, 0, none⟩ (.int .i64 U2)).setCell ⟨w.heap.size + 1, 1, none⟩ (.int .i64 V2)).setCell ⟨w.heap.size + 1, 2, none⟩ (.int .i64 f)).setCell ⟨w.heap.size + 1, 3, none⟩ (.int .i64 cn)).setCell ⟨w.heap.size + 1, 4, none⟩ (.int .i64 un)).setCell ⟨w.heap.size + 1, 5, none⟩ (.slice s1 l1 z1)).setCell ⟨w.heap.size + 1, 6, none⟩ (.slice s2 l2 z2)).setCell ⟨w.heap.size + 1, 7, none⟩ (.slice s3 l3 z3)).cell? ⟨w.heap.size + 1, 3, none⟩ = some (.int .i64 cn) := AF.cell 3
  have e4 : ((((((((wc.setCell ⟨w.heap.size + 1, 0, none⟩ (.int .i64 U2)).setCell ⟨w.heap.size + 1, 1, none⟩ (.int .i64 V2)).setCell ⟨w.heap.size + 1, 2, none⟩ (.int .i64 f)).setCell ⟨w.heap.size + 1, 3, none⟩ (.int .i64 cn)).setCell ⟨w.heap.size + 1, 4, none⟩ (.int .i64 un)).setCell ⟨w.heap.size + 1, 5, none⟩ (.slice s1 l1 z1)).setCell ⟨w.heap.size + 1, 6, none⟩ (.slice s2 l2 z2)).setCell ⟨w.heap.size + 1, 7, none⟩ (.slice s3 l3 z3)).cell? ⟨w.heap.size + 1, 4, none⟩ = some (.int .i64 un) := AF.cell 4
  have e5 : ((((((((wc.setCell ⟨w.heap.size + 1, 0, none⟩ (.int .i64 U2)).setCell ⟨w.heap.size + 1, 1, none⟩ (.int .i64 V2)).setCell ⟨w.heap.size + 1, 2, none⟩ (.int .i64 f)).setCell ⟨w.heap.size + 1, 3, none⟩ (.int .i64 cn)).setCell ⟨w.heap.size + 1, 4, none⟩ (.int .i64 un)).setCell ⟨w.heap.size + 1, 5, none⟩ (.slice s1 l1 z1)).setCell ⟨w.heap.size + 1, 6, none⟩ (.slice s2 l2 z2)).setCell ⟨w.heap.size + 1, 7, none⟩ (.slice s3 l3 z3)).cell? ⟨w.heap.size + 1, 5, none⟩ = some (.slice s1 l1 z1) := AF.cell 5
  have e6 : ((((((((wc.setCell ⟨w.heap.size + 1, 0, none⟩ (.int .i64 U2)).setCell ⟨w.heap.size + 1, 1, none⟩ (.int .i64 V2)).setCell ⟨w.heap.size + 1, 2, none⟩ (.int .i64 f)).setCell ⟨w.heap.size + 1, 3, none⟩ (.int .i64 cn)).setCell ⟨w.heap.size + 1, 4, none⟩ (.int .i64 un)).setCell ⟨w.heap.size + 1, 5, none⟩ (.slice s1 l1 z1)).setCell ⟨w.heap.size + 1, 6, none⟩ (.slice s2 l2 z2)).setCell ⟨w.heap.size + 1, 7, none⟩ (.slice s3 l3 z3)).cell? ⟨w.heap.size + 1, 6, none⟩ = some (.slice s2 l2 z2) := AF.cell 6
  have e7 : ((((((((wc.setCell ⟨w.heap.size + 1, 0, none⟩ (.int .i64 U2)).setCell ⟨w.heap.size + 1, 1, none⟩ (.int .i64 V2)).setCell ⟨w.heap.size + 1, 2, none⟩ (.int .i64 f)).setCell ⟨w.heap.size + 1, 3, none⟩ (.int .i64 cn)).setCell ⟨w.heap.size + 1, 4, none⟩ (.int .i64 un)).setCell ⟨w.heap.size + 1, 5, none⟩ (.slice s1 l1 z1)).setCell ⟨w.heap.size + 1, 6, none⟩ (.slice s2 l2 z2)).setCell ⟨w.heap.size + 1, 7, none⟩ (.slice s3 l3 z3)).cell? ⟨w.heap.size + 1, 7, none⟩ = some (.slice s3 l3 z3) := AF.cell 7
  exact bodyPost_ret (v := .tuple #[.agg #[.int .i64 U2, .int .i64 V2, .int .i64 f, .int .i64 cn, .int .i64 un, .slice s1 l1 z1, .slice s2 l2 z2, .slice s3 l3 z3], .int .i64 0]) (by simp [results, Tryz.results6, go_sem, e0, e1, e2, e3, e4, e5, e6, e7]) rfl (.inr ⟨rfl, s1, l1, z1, s2, l2, z2, s3, l3, z3, by rw [← HU2.out, ← HV2.out], ints_far J1.out KX (fun _ b o e => by have h := G1.out b o e; omega), ints_far J2.out KX (fun _ b o e => by have h := G2.out b o e; omega), ints_far J3.out KX (fun _ b o e => by have h := G3.out b o e; omega), KX.below JB.out (by omega) JB.out.size, HCP.out⟩)
end Go.Proofs.YtdmkghgachapaaaGreatDoor
