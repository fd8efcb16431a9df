/- The reference's expr behind an error; a month's line under construction. -/
import Derived.Test.YtchahccnmjaejacDoorRfp0
namespace Go.Proofs.YtchahccnmjaejacDoor
set_option linter.unusedVariables false
set_option maxRecDepth 100000
open Go.RowKit Go.Shelf
variable {B G : Nat → Prop}
variable {g lb tb : Nat} {O : Obj} {t : PRule} {v : Value} {w : World}

set_option maxHeartbeats 4000000 in
theorem rf_expr_bad (W : World) (c : Int) (h : QBad W g c) (hc : c ≠ 0) :
    Calls Tryd.prog 17 #[.pointer (some ⟨g, 0, none⟩), .int .i64 1] W fun e W' => e = .returned (.agg #[.int .i64 1, .int .i64 0, .slice none 0 0]) ∧ Below W.heap.size W W' := by
  obtain ⟨bR, hbR⟩ : ∃ b, b = W.heap.size := ⟨_, rfl⟩
  obtain ⟨bX, hbX⟩ : ∃ b, b = W.heap.size + 1 := ⟨_, rfl⟩
  have A0 := Lib.hid ((At.newAt W zeroE bR hbR).alloc zeroE)
  have M0 := Lib.hid (At.newAt (W.alloc zeroE) zeroE bX (by rw [hbX, World.size_alloc]))
  have H0 := Lib.hid (h.then_ (show Below W.heap.size W ((W.alloc zeroE).alloc zeroE) from below_new (below_new (Below.refl _ _) _) _))
  have B0 := Lib.hid (show Below W.heap.size W ((W.alloc zeroE).alloc zeroE) from below_new (below_new (Below.refl _ _) _) _)
  have HBR := Lib.hid (show W.heap.size ≤ bR by omega)
  have HBX := Lib.hid (show W.heap.size ≤ bX by omega)
  have hlt := h.lt
  have hgR : g ≠ bR := by omega
  have hgX : g ≠ bX := by omega
  have hRX : bR ≠ bX := by omega
  have HC := Lib.hid hc
  clear h hc hlt
  go_enter Tryd.func17, Tryd.ntmps17
  go_upto_region 3 with fail
  (try rw [World.size_alloc])
  rw [← hbX, ← hbR]
  clear hbX hbR
  generalize World.alloc (World.alloc W _) _ = W0 at A0 M0 H0 B0 ⊢
  go_wp2_with fail
  refine (rf_peek_bad H0.out HC.out).mono ?_
  rintro e w1 ⟨rfl, hb1⟩
  have H1 := Lib.hid (H0.out.then_ hb1)
  go_wp2_with fail
  refine (rf_number_bad H1.out HC.out).mono ?_
  rintro e w2 ⟨rfl, hb2⟩
  have H2 := Lib.hid ((H1.out.then_ hb2))
  have hb := Lib.hid (below_then (below_then B0.out hb1) hb2)
  have zz := (M0.out.then_ hb1).then_ hb2
  have A2 := (A0.out.then_ hb1).then_ hb2
  have z0 := zz.frozen 0; have z1 := zz.frozen 1; have z2 := zz.frozen 2; have zl := zz.lt; have y0 := zz.cell 0; have y1 := zz.cell 1; have y2 := zz.cell 2; simp at y0 y1 y2
  have M9 := Lib.hid (ex_store zz (.int .i64 1) (.int .i64 0) (.slice none 0 0))
  have A9 := Lib.hid (A2.apart3 (p := bX) hRX (.int .i64 1) (.int .i64 0) (.slice none 0 0))
  obtain ⟨A, m, cc, o, ha⟩ := H2.out
  have q9 := ha.apart3 (p := bX) hgX (.int .i64 1) (.int .i64 0) (.slice none 0 0)
  have B9 := Lib.hid (below_set (below_set (below_set hb.out (p := ⟨bX, 0, none⟩) HBX.out (.int .i64 1)) (p := ⟨bX, 1, none⟩) HBX.out (.int .i64 0)) (p := ⟨bX, 2, none⟩) HBX.out (.slice none 0 0))
  have Q9 := Lib.hid q9
  clear ha q9 zz A2 hb hb1 hb2 A0 M0 H0 H1 H2 B0
  have e1 : (c == 0) = false := by simpa using HC.out
  go_upto_region 25 with fail
  generalize World.setCell (World.setCell (World.setCell w2 _ _) _ _) _ _ = W5 at M9 A9 B9 Q9 ⊢
  clear z0 z1 z2 zl y0 y1 y2
  have x1 : W5.cell? ⟨g, 1, none⟩ = some (.int .i64 c) := Q9.out.cell 1
  have hlt := Q9.out.lt
  have n0 := M9.out.cell 0; have n1 := M9.out.cell 1; have n2 := M9.out.cell 2; simp at n0 n1 n2
  have a1 := A9.out
  have z0 := a1.frozen 0; have z1 := a1.frozen 1; have z2 := a1.frozen 2; have zl := a1.lt; have y0 := a1.cell 0; have y1 := a1.cell 1; have y2 := a1.cell 2; simp at y0 y1 y2
  have F1 := Lib.hid (ex_store a1 (.int .i64 1) (.int .i64 0) (.slice none 0 0))
  have F2 := Lib.hid (below_set (below_set (below_set B9.out (p := ⟨bR, 0, none⟩) HBR.out (.int .i64 1)) (p := ⟨bR, 1, none⟩) HBR.out (.int .i64 0)) (p := ⟨bR, 2, none⟩) HBR.out (.slice none 0 0))
  clear a1
  refine wp_loop_rounds 1 ?_
  rw [rounds_succ]
  go_wp2_with fail
  generalize World.setCell (World.setCell (World.setCell W5 _ _) _ _) _ _ = W9 at F1 F2 ⊢
  have e0 := F1.out.cell 0; have e1 := F1.out.cell 1; have e2 := F1.out.cell 2
  simp at e0 e1 e2
  (try simp only [Exit.inBlock, Exit.then])
  refine bodyPost_ret (v := .agg #[.int .i64 1, .int .i64 0, .slice none 0 0]) ?_ rfl ?_
  · simp [results, Tryd.results17, go_sem, e0, e1, e2]
  · exact ⟨rfl, F2.out⟩
/-- The block of a month in the making. -/
structure Mx (B G : Nat → Prop) (g lb tb mb : Nat) : Prop where
  mG : G mb
  gm : g ≠ mb
  lm : lb ≠ mb
  tm : tb < mb
  nB : ¬ B mb
theorem RQ.setb {mb : Nat} {l : List Tok} {W : World} (mx : Mx B G g lb tb mb) (h : RQ B G g lb tb O l t v w W) (i : Nat) (u : Value) : RQ B G g lb tb O l t v w (W.setCell ⟨mb, i, none⟩ u) :=
  ⟨h.tr.one ((OneKept.refl mb W).set i u) mx.mG (by have := mx.tm; omega), h.rd.set mx.nB mx.gm i u, h.ln.apart (p := ⟨mb, i, none⟩) mx.lm u, below_set h.bel (Nat.le_of_lt mx.tm) u⟩
theorem FQ.setb {mb : Nat} {c : Int} {W : World} (mx : Mx B G g lb tb mb) (h : FQ G g lb tb O t v c w W) (i : Nat) (u : Value) : FQ G g lb tb O t v c w (W.setCell ⟨mb, i, none⟩ u) := by
  obtain ⟨⟨t0, he, h1⟩, ⟨A, m, cc, o, ha⟩, h3, h4⟩ := h
  exact ⟨⟨t0, he, h1.one ((OneKept.refl mb W).set i u) mx.mG (by have := mx.tm; omega)⟩, ⟨A, m, cc, o, ha.apart (p := ⟨mb, i, none⟩) mx.gm u⟩, h3.apart (p := ⟨mb, i, none⟩) mx.lm u, below_set h4 (Nat.le_of_lt mx.tm) u⟩
theorem RQ.fresh {G' : Nat → Prop} {l : List Tok} {W W' : World} (h : RQ B G g lb tb O l t v w W) (k : Below W.heap.size W W') (hG : ∀ b, G' b → G b ∨ (W.heap.size ≤ b ∧ b < W'.heap.size)) : RQ B G' g lb tb O l t v w W' :=
  ⟨h.tr.fresh k hG, h.rd.then_ k, h.ln.then_ k, h.bel.trans (k.mono (Nat.le_of_lt h.tr.lt))⟩
theorem FQ.fresh {G' : Nat → Prop} {c : Int} {W W' : World} (h : FQ G g lb tb O t v c w W) (k : Below W.heap.size W W') (hG : ∀ b, G' b → G b ∨ (W.heap.size ≤ b ∧ b < W'.heap.size)) : FQ G' g lb tb O t v c w W' := by
  obtain ⟨⟨t0, he, h1⟩, h2, h3, h4⟩ := h
  exact ⟨⟨t0, he, h1.fresh k hG⟩, h2.then_ k, h3.then_ k, h4.trans (k.mono (Nat.le_of_lt h1.lt))⟩
theorem stx_str {G' : Nat → Prop} {α : Type} {val : α → Value} {R : Res (α × List Tok)} {x : Value} {W W' : World} (h : StX B G g lb tb O t v w val R x W) (k : Below W.heap.size W W') (hG : ∀ b, G' b → G b ∨ (W.heap.size ≤ b ∧ b < W'.heap.size)) : StR B G' g lb tb O t v w (R.bind fun p => .good p.2) W' := by
  cases R with
  | stuck => exact h.elim
  | bad c => exact ⟨h.1, h.2.fresh k hG⟩
  | good p => exact h.2.fresh k hG
theorem stx_val {R : Res (Tok × List Tok)} {X : ByteArray} {W : World} (h : StX B G g lb tb O t v w (fun x => .string (tkS x)) R (.string X) W) : ∀ p, R = .good p → X = tkS p.1 := by
  rintro p rfl
  injection h.1
/-- A month whose first number is read. -/
def MS (B G : Nat → Prop) (g lb tb : Nat) (O : Obj) (t : PRule) (v : Value) (w : World) (R : Res (List Tok)) (X : ByteArray) (z : Int) (W : World) : Prop :=
  (∃ (x : Tok) (l2 : List Tok), R.bind monP = (if hd l2 = [] then .good ((x, z, z), l2) else (signP l2).bind fun s => .good ((x, z, s.1), s.2)) ∧ X = tkS x ∧ RQ B G g lb tb O l2 t v w W) ∨ (∃ c, c ≠ 0 ∧ R.bind monP = .bad c ∧ FQ G g lb tb O t v c w W)
theorem ms_of {R : Res (List Tok)} {X : ByteArray} {z : Int} {W : World} (hX : ∀ p, R.bind wordP = .good p → X = tkS p.1) (h : StX B G g lb tb O t v w (fun x : Int => .int .i64 x) (((R.bind wordP).bind fun p => .good p.2).bind signP) (.int .i64 z) W) : MS B G g lb tb O t v w R X z W := by
  cases R with
  | stuck => exact h.elim
  | bad c => exact .inr ⟨c, h.1, rfl, h.2⟩
  | good l =>
    have hX' : ∀ p, wordP l = .good p → X = tkS p.1 := hX
    have h' : StX B G g lb tb O t v w (fun x : Int => .int .i64 x) (((wordP l).bind fun p => .good p.2).bind signP) (.int .i64 z) W := h
    rcases wordP_cases l with e | e
    · rw [e] at h'
      exact .inr ⟨4, h'.1, by show monP l = _; rw [monP, e]; rfl, h'.2⟩
    · rw [e] at h'
      have h2 : StX B G g lb tb O t v w (fun x : Int => .int .i64 x) (signP l.tail) (.int .i64 z) W := h'
      rcases signP_cases l.tail with ⟨c, es⟩ | ⟨q, es⟩
      · rw [es] at h2
        exact .inr ⟨c, h2.1, by show monP l = _; rw [monP, e]; show (signP l.tail).bind _ = _; rw [es]; rfl, h2.2⟩
      · rw [es] at h2
        obtain ⟨hz, h3⟩ := h2
        injection hz with _ hz
        subst hz
        exact .inl ⟨hd l, q.2, by show monP l = _; rw [monP, e]; show (signP l.tail).bind _ = _; rw [es]; rfl, hX' _ e, h3⟩
theorem MS.setb {mb : Nat} {R : Res (List Tok)} {X : ByteArray} {z : Int} {W : World} (mx : Mx B G g lb tb mb) (h : MS B G g lb tb O t v w R X z W) (i : Nat) (u : Value) : MS B G g lb tb O t v w R X z (W.setCell ⟨mb, i, none⟩ u) := by
  rcases h with ⟨x, l2, h1, h2, h3⟩ | ⟨c, h1, h2, h3⟩
  · exact .inl ⟨x, l2, h1, h2, h3.setb mx i u⟩
  · exact .inr ⟨c, h1, h2, h3.setb mx i u⟩
theorem QAt.grow {l : List Tok} {o : Nat} {W W1 w4 : World} {row : Option Nat} (h : QAt B W g l o) (hW : Below W.heap.size W W1) (hg : W1.grownBy w4 row) (hn : row ≠ some g) (hB : ∀ b, B b → row ≠ some b) : QAt B w4 g l o := by
  obtain ⟨A, m, c, h1, ⟨q1, q2, q3, q4, q5⟩, h3⟩ := h
  refine ⟨A, m, c, (h1.then_ hW).grow hg hn, ⟨q1, q2, q3, fun b hb => Nat.lt_of_lt_of_le (q4 b hb) (Nat.le_trans hW.size hg.size), fun h0 => ?_⟩, h3⟩
  obtain ⟨b', off, e, hb', hl, hc⟩ := q5 h0
  refine ⟨b', off, e, hb', hl, fun j t hj => ?_⟩
  rw [← hc j t hj]
  unfold World.cell?
  simp only
  rw [hg.block b' (Nat.lt_of_lt_of_le (q4 b' hl) hW.size) (Ne.symm (hB b' hl)), hW.block b' (q4 b' hl)]
theorem QAt.cells0 {l : List Tok} {o : Nat} {W : World} (h : QAt B W g l o) : ∃ A m c, W.cell? ⟨g, 0, none⟩ = some (.slice A m c) ∧ m = l.length ∧ W.cell? ⟨g, 1, none⟩ = some (.int .i64 0) := by
  obtain ⟨A, m, c, h1, h2, _⟩ := h
  exact ⟨A, m, c, h1.cell 0, h2.1, h1.cell 1⟩
theorem QBad.cells0 {e : Int} {W : World} (h : QBad W g e) : ∃ A m c, W.cell? ⟨g, 0, none⟩ = some (.slice A m c) ∧ W.cell? ⟨g, 1, none⟩ = some (.int .i64 e) := by
  obtain ⟨A, m, c, o, h1⟩ := h
  exact ⟨A, m, c, h1.cell 0, h1.cell 1⟩
theorem row_body {f i : Nat} {l : List Tok} {t : PRule} : rowP f i l t = ((needP (kOf i) l).bind fun l => restP f i l t).bind fun p => if hd p.2 = [] then .good p.1 else .bad 4 := by
  unfold rowP; rw [Res.assoc]
end Go.Proofs.YtchahccnmjaejacDoor
