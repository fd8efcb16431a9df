/- Contract of the reference's expr. -/
import Derived.Test.YtchahccnmjaejacDoorRfe2
import Derived.Deep.CutRange
namespace Go.Proofs.YtchahccnmjaejacDoor
set_option linter.unusedVariables false
set_option maxRecDepth 100000
open Go.RowKit Go.Shelf
variable {B : Nat → Prop}

theorem QAt.open_ {w : World} {g : Nat} {l : List Tok} {o : Nat} (h : QAt B w g l o) (k : Nat) : QAt B (w.setCell ⟨g, 2, none⟩ (.int .i64 k)) g l k := by
  obtain ⟨A, m, c, h1, ⟨q1, q2, q3, q4, q5⟩, h3⟩ := h
  refine ⟨A, m, c, h1.store 2 _, ⟨q1, q2, q3, by simpa [World.setCell] using q4, fun h0 => ?_⟩, h3⟩
  obtain ⟨b', off, e, hb', hl, hc⟩ := q5 h0
  refine ⟨b', off, e, hb', hl, fun j t hj => ?_⟩
  rw [← hc j t hj]
  unfold World.cell?
  simp only
  rw [Below.heap_setCell w ⟨g, 2, none⟩ _ b' (by simpa using hb')]
theorem QWent.open_ {w W : World} {g : Nat} {l : List Tok} {o : Nat} (h : QWent B g l o w W) (k : Nat) : QWent B g l k w (W.setCell ⟨g, 2, none⟩ (.int .i64 k)) := ⟨h.1.open_ k, h.2.set 2 _⟩
theorem QAt.cells {w : World} {g : Nat} {l : List Tok} {o : Nat} (h : QAt B w g l o) : w.cell? ⟨g, 1, none⟩ = some (.int .i64 0) ∧ w.cell? ⟨g, 2, none⟩ = some (.int .i64 (o : Int)) ∧ w.frozen? ⟨g, 2, none⟩ = false := by
  obtain ⟨A, m, c, h1, _, _⟩ := h
  exact ⟨h1.cell 1, h1.cell 2, h1.frozen 2⟩
theorem QBad.cells {w : World} {g : Nat} {c : Int} (h : QBad w g c) : ∃ o : Int, w.cell? ⟨g, 1, none⟩ = some (.int .i64 c) ∧ w.cell? ⟨g, 2, none⟩ = some (.int .i64 o) ∧ w.frozen? ⟨g, 2, none⟩ = false := by
  obtain ⟨A, m, cc, o, h1⟩ := h
  exact ⟨o, h1.cell 1, h1.cell 2, h1.frozen 2⟩
theorem QFail.open_ {w W : World} {g : Nat} {c : Int} (h : QFail g c w W) (k : Int) : QFail g c w (W.setCell ⟨g, 2, none⟩ (.int .i64 k)) := by
  obtain ⟨⟨A, m, cc, o, h1⟩, h2⟩ := h
  exact ⟨⟨A, m, cc, k, h1.store 2 _⟩, h2.set 2 _⟩
theorem op_facts {t : Tok} {k : Int} {lv : Nat} (h : opOf t = some (k, lv)) : 4 ≤ k ∧ k ≤ 13 ∧ lvl k + 1 = ((lv + 1 : Nat) : Int) ∧ lv ≤ 5 ∧ t ≠ [] ∧ binK t = k := by
  refine ⟨?_, ?_, ?_, ?_, opOf_ne h, by unfold binK; rw [h]⟩
  all_goals
    unfold opOf at h
    repeat' split at h
    all_goals first | (cases h; done) | (injection h with h; injection h with h1 h2; subst h1 h2; decide)
/-- What a call leaves of expr. -/
def QEPost (B : Nat → Prop) (g o : Nat) (w : World) : PRes → Ending → World → Prop
  | .stuck, _, _ => False
  | .bad c, e, w' => (∃ (k n : Int) (a : Option Addr) (m d : Nat), e = .returned (.agg #[.int .i64 k, .int .i64 n, .slice a m d])) ∧ c ≠ 0 ∧ QFail g c w w'
  | .good p, e, w' => (∃ v D, e = .returned v ∧ TG w.heap.size D w' p.1 v) ∧ QWent B g p.2 o w w'
def QExprOk (B : Nat → Prop) (g f : Nat) : Prop := ∀ (least : Nat) (l : List Tok) (o : Nat) (w : World), 1 ≤ least → least ≤ 7 → o ≤ 12 → expR f least l o ≠ .stuck → QAt B w g l o →
  Calls Tryd.prog 17 #[.pointer (some ⟨g, 0, none⟩), .int .i64 (least : Int)] w (QEPost B g o w (expR f least l o))
theorem QEPost.open_ {g o : Nat} {w : World} {R : PRes} {e : Ending} {w' : World} (h : QEPost B g o w R e w') : ∃ (k n : Int) (a : Option Addr) (m d : Nat), e = .returned (.agg #[.int .i64 k, .int .i64 n, .slice a m d]) ∧ OneKept g w w' ∧
    ((∃ Y E l2, R = .good (Y, l2) ∧ TG w.heap.size E w' Y (.agg #[.int .i64 k, .int .i64 n, .slice a m d]) ∧ QWent B g l2 o w w') ∨ (∃ c, c ≠ 0 ∧ R = .bad c ∧ QFail g c w w')) := by
  cases R with
  | stuck => exact h.elim
  | bad c =>
    obtain ⟨⟨k, n, aa, mm, dd, he⟩, hc, hf⟩ := h
    exact ⟨k, n, aa, mm, dd, he, hf.2, .inr ⟨c, hc, rfl, hf⟩⟩
  | good p =>
    obtain ⟨⟨v, D, he, ht⟩, hw⟩ := h
    obtain ⟨k, n, aa, mm, dd, rfl⟩ := ht.form
    exact ⟨k, n, aa, mm, dd, he, hw.2, .inl ⟨p.1, D, p.2, rfl, ht, hw⟩⟩
/-- At the head of the loop of expr: an expression in box bX, and what remains to be read; or an error. -/
def XSt (B : Nat → Prop) (g o : Nat) (w : World) (bR bX least : Nat) (RR : PRes) (gf top : Nat) (W : World) : Prop :=
  ∃ (k n : Int) (a : Option Addr) (m d : Nat), At W bX (exO (.int .i64 k) (.int .i64 n) (.slice a m d)) ∧ At W bR zeroE ∧
    ((∃ X D l', TG w.heap.size D W X (.agg #[.int .i64 k, .int .i64 n, .slice a m d]) ∧ ¬ D bR ∧ ¬ D bX ∧ QWent B g l' o w W ∧ RR = loopR gf least top X l' o) ∨ (∃ c, c ≠ 0 ∧ RR = .bad c ∧ QFail g c w W))
theorem QEPost.bad_ {g o : Nat} {w W : World} {c k n : Int} {a : Option Addr} {m d : Nat} (hc : c ≠ 0) (h : QFail g c w W) : QEPost B g o w (.bad c) (.returned (.agg #[.int .i64 k, .int .i64 n, .slice a m d])) W := ⟨⟨k, n, a, m, d, rfl⟩, hc, h⟩
theorem QEPost.good_ {g o : Nat} {w W : World} {X : Tree} {l : List Tok} {D : Nat → Prop} {v : Value} (h : TG w.heap.size D W X v) (hl : QWent B g l o w W) : QEPost B g o w (.good (X, l)) (.returned v) W := ⟨⟨v, D, rfl, h⟩, hl⟩
set_option maxHeartbeats 16000000 in
theorem rf_expr_step {g f : Nat} (IH : ∀ f', f' ≤ f → QExprOk B g f') : QExprOk B g (f + 1) := by
  intro least l o w hl1 hl7 ho hns h
  have hgw := h.lt
  have hBw := h.bound
  obtain ⟨RR, hRR⟩ : ∃ RR, RR = expR (f + 1) least l o := ⟨_, rfl⟩
  rw [← hRR] at hns ⊢
  have HRR := Lib.hid hRR; have HNS := Lib.hid hns
  have H0 := Lib.hid ((QWent.refl h).then_ (show Below w.heap.size w ((w.alloc zeroE).alloc zeroE) from below_new (below_new (Below.refl _ _) _) _))
  obtain ⟨bR, hbR⟩ : ∃ b, b = w.heap.size := ⟨_, rfl⟩
  obtain ⟨bX, hbX⟩ : ∃ b, b = w.heap.size + 1 := ⟨_, rfl⟩
  have A0 := Lib.hid ((At.newAt w zeroE bR hbR).alloc zeroE)
  have M0 := Lib.hid (At.newAt (w.alloc zeroE) zeroE bX (by rw [hbX, World.size_alloc]))
  have HBR := Lib.hid (show w.heap.size ≤ bR by omega)
  have HBX := Lib.hid (show w.heap.size ≤ bX by omega)
  have HBB := Lib.hid (show ¬ B bR from fun h => by have := hBw bR h; omega)
  have HBB2 := Lib.hid (show ¬ B bX from fun h => by have := hBw bX h; omega)
  have hgR : g ≠ bR := by omega
  have hgX : g ≠ bX := by omega
  have hRX : bR ≠ bX := by omega
  have hXR : bX ≠ bR := by omega
  clear h hRR hns hBw
  go_enter Tryd.func17, Tryd.ntmps17
  go_upto_region 3 with fail
  (try rw [World.size_alloc])
  rw [← hbX, ← hbR]
  clear hbX hbR
  generalize World.alloc (World.alloc w _) _ = W0 at A0 M0 H0 ⊢
  go_cut [7] from 9 to 10 (fun v wx => v = .string (tkS (hd l)) ∧ At wx bR zeroE ∧ At wx bX zeroE ∧ QWent B g l o w wx)
  case first =>
    go_wp2_with fail
    refine (rf_peek H0.out.1).mono ?_
    rintro e w1 ⟨rfl, hb⟩
    have A1 := Lib.hid (A0.out.then_ hb); have M1 := Lib.hid (M0.out.then_ hb); have H1 := Lib.hid (H0.out.then_ hb)
    clear A0 M0 H0 hb
    go_wp2_with fail
    go_meet
    case rel => exact ⟨rfl, A1.out, M1.out, H1.out⟩
  case rest =>
    obtain ⟨rfl, a1, m1, h1⟩ := hcut
    have A1 := Lib.hid a1; have M1 := Lib.hid m1; have H1 := Lib.hid h1
    clear a1 m1 h1 A0 M0 H0
    apply_assumption
    go_cut [6, 7] from 9 to 72 (fun vt _ wx => ∃ top : Nat, vt = .int .i64 top ∧ 1 ≤ top ∧ top ≤ 9 ∧ XSt B g o w bR bX least RR f top wx)
    case first =>
      by_cases c1 : hd l = tNot ∧ least ≤ 3
      · obtain ⟨c1, c1'⟩ := c1
        rw [c1]
        have hns : expR f 3 l.tail o ≠ .stuck := fun h => HNS.out (by rw [HRR.out, expR, if_pos ⟨c1, c1'⟩, h]; rfl)
        have HR := Lib.hid (show RR = (expR f 3 l.tail o).bind fun p => loopR f least 3 (.node 11 0 [p.1]) p.2 o by rw [HRR.out, expR, if_pos ⟨c1, c1'⟩])
        clear HNS HRR
        go_wp2_with fail
        refine (rf_pass H1.out.1 (by rw [c1]; decide)).mono ?_
        rintro e w2 ⟨rfl, hw⟩
        have hk2 := hw.2
        have H2 := Lib.hid (H1.out.trans hw)
        have A2 := Lib.hid (A1.out.oneKept hk2 hgR.symm); have M2 := Lib.hid (M1.out.oneKept hk2 hgX.symm)
        have CE := Lib.hid (IH f (Nat.le_refl _) 3 l.tail o w2 (by omega) (by omega) ho hns H2.out.1)
        clear hw hk2 hns H1 A1 M1 
        go_wp2_with fail
        refine CE.out.mono ?_
        intro e w3 hp
        obtain ⟨k', n', ab, mb, db, rfl, hk3, hst⟩ := hp.open_
        clear hp CE
        have A3 := (A2.out.oneKept hk3 hgR.symm).alloc (exO (.int .i64 k') (.int .i64 n') (.slice ab mb db))
        have zz := (M2.out.oneKept hk3 hgX.symm).alloc (exO (.int .i64 k') (.int .i64 n') (.slice ab mb db))
        have z0 := zz.frozen 0; have z1 := zz.frozen 1; have z2 := zz.frozen 2; have zl := zz.lt; have y0 := zz.cell 0; have y1 := zz.cell 1; have y2 := zz.cell 2; simp at y0 y1 y2
        have hRM : bR < w2.heap.size := A2.out.lt
        have hXM : bX < w2.heap.size := M2.out.lt
        have hs3 : w2.heap.size ≤ w3.heap.size := hk3.size
        have hs2 : w.heap.size ≤ w2.heap.size := H2.out.2.size
        have M9 := Lib.hid (ex_store zz (.int .i64 11) (.int .i64 0) (.slice (some ⟨w3.heap.size, 0, none⟩) 1 1))
        have A9 := Lib.hid (A3.apart3 (p := bX) hRX (.int .i64 11) (.int .i64 0) (.slice (some ⟨w3.heap.size, 0, none⟩) 1 1))
        have HX := Lib.hid (show XSt B g o w bR bX least RR f 3 ((((w3.alloc (exO (.int .i64 k') (.int .i64 n') (.slice ab mb db))).setCell ⟨bX, 0, none⟩ (.int .i64 11)).setCell ⟨bX, 1, none⟩ (.int .i64 0)).setCell ⟨bX, 2, none⟩ (.slice (some ⟨w3.heap.size, 0, none⟩) 1 1)) from
          ⟨_, _, _, _, _, M9.out, A9.out, by
            rcases hst with ⟨Y, E, l2, hR, hT, hQ⟩ | ⟨c, hc, hR, hF⟩
            · have no : ∀ b, b < w2.heap.size → ¬ (E b ∨ b = w3.heap.size) := fun b hb h => by
                rcases h with h | h
                · have := (hT.2 b h).1; omega
                · omega
              exact .inl ⟨.node 11 0 [Y], _, l2, (TG.node1 (hT.weak hs2) (by omega) (by unfold I64; omega)).set3 (no bX hXM) _ _ _, no bR hRM, no bX hXM, ((H2.out.trans hQ).then_ (below_new (Below.refl _ _) _)).store3 HBX.out HBB2.out hgX _ _ _, by rw [HR.out, hR]; rfl⟩
            · exact .inr ⟨c, hc, by rw [HR.out, hR]; rfl, ((H2.out.failed hF).then_ (below_new (Below.refl _ _) _)).store3 HBX.out hgX _ _ _⟩⟩)
        clear hst A3 zz M9 A9 H2 A2 M2 hk3 hRM hXM hs3 hs2
        go_wp2_with fail
        go_meet
        case rel => exact ⟨3, rfl, by omega, by omega, HX.out⟩
      · by_cases c2 : hd l = [45]
        · rw [c2]
          have hns : expR f 7 l.tail o ≠ .stuck := fun h => HNS.out (by rw [HRR.out, expR, if_neg c1, if_pos c2, h]; rfl)
          have HR := Lib.hid (show RR = (expR f 7 l.tail o).bind fun p => loopR f least 7 (.node 3 0 [p.1]) p.2 o by rw [HRR.out, expR, if_neg c1, if_pos c2])
          clear HNS HRR
          go_wp2_with fail
          refine (rf_pass H1.out.1 (by rw [c2]; decide)).mono ?_
          rintro e w2 ⟨rfl, hw⟩
          have hk2 := hw.2
          have H2 := Lib.hid (H1.out.trans hw)
          have A2 := Lib.hid (A1.out.oneKept hk2 hgR.symm); have M2 := Lib.hid (M1.out.oneKept hk2 hgX.symm)
          have CE := Lib.hid (IH f (Nat.le_refl _) 7 l.tail o w2 (by omega) (by omega) ho hns H2.out.1)
          clear hw hk2 hns H1 A1 M1 
          go_wp2_with fail
          refine CE.out.mono ?_
          intro e w3 hp
          obtain ⟨k', n', ab, mb, db, rfl, hk3, hst⟩ := hp.open_
          clear hp CE
          have A3 := (A2.out.oneKept hk3 hgR.symm).alloc (exO (.int .i64 k') (.int .i64 n') (.slice ab mb db))
          have zz := (M2.out.oneKept hk3 hgX.symm).alloc (exO (.int .i64 k') (.int .i64 n') (.slice ab mb db))
          have z0 := zz.frozen 0; have z1 := zz.frozen 1; have z2 := zz.frozen 2; have zl := zz.lt; have y0 := zz.cell 0; have y1 := zz.cell 1; have y2 := zz.cell 2; simp at y0 y1 y2
          have hRM : bR < w2.heap.size := A2.out.lt
          have hXM : bX < w2.heap.size := M2.out.lt
          have hs3 : w2.heap.size ≤ w3.heap.size := hk3.size
          have hs2 : w.heap.size ≤ w2.heap.size := H2.out.2.size
          have M9 := Lib.hid (ex_store zz (.int .i64 3) (.int .i64 0) (.slice (some ⟨w3.heap.size, 0, none⟩) 1 1))
          have A9 := Lib.hid (A3.apart3 (p := bX) hRX (.int .i64 3) (.int .i64 0) (.slice (some ⟨w3.heap.size, 0, none⟩) 1 1))
          have HX := Lib.hid (show XSt B g o w bR bX least RR f 7 ((((w3.alloc (exO (.int .i64 k') (.int .i64 n') (.slice ab mb db))).setCell ⟨bX, 0, none⟩ (.int .i64 3)).setCell ⟨bX, 1, none⟩ (.int .i64 0)).setCell ⟨bX, 2, none⟩ (.slice (some ⟨w3.heap.size, 0, none⟩) 1 1)) from
            ⟨_, _, _, _, _, M9.out, A9.out, by
              rcases hst with ⟨Y, E, l2, hR, hT, hQ⟩ | ⟨c, hc, hR, hF⟩
              · have no : ∀ b, b < w2.heap.size → ¬ (E b ∨ b = w3.heap.size) := fun b hb h => by
                  rcases h with h | h
                  · have := (hT.2 b h).1; omega
                  · omega
                exact .inl ⟨.node 3 0 [Y], _, l2, (TG.node1 (hT.weak hs2) (by omega) (by unfold I64; omega)).set3 (no bX hXM) _ _ _, no bR hRM, no bX hXM, ((H2.out.trans hQ).then_ (below_new (Below.refl _ _) _)).store3 HBX.out HBB2.out hgX _ _ _, by rw [HR.out, hR]; rfl⟩
              · exact .inr ⟨c, hc, by rw [HR.out, hR]; rfl, ((H2.out.failed hF).then_ (below_new (Below.refl _ _) _)).store3 HBX.out hgX _ _ _⟩⟩)
          clear hst A3 zz M9 A9 H2 A2 M2 hk3 hRM hXM hs3 hs2
          go_wp2_with fail
          go_meet
          case rel => exact ⟨7, rfl, by omega, by omega, HX.out⟩
        · by_cases c3 : hd l = [121]
          · rw [c3]
            have HR := Lib.hid (show RR = loopR f least 9 (.node 2 0 []) l.tail o by rw [HRR.out, expR, if_neg c1, if_neg c2, if_pos c3])
            clear HNS HRR
            go_wp2_with fail
            refine (rf_pass H1.out.1 (by rw [c3]; decide)).mono ?_
            rintro e w2 ⟨rfl, hq⟩
            have hk2 := hq.2
            have zz := M1.out.oneKept hk2 hgX.symm
            have z0 := zz.frozen 0; have z1 := zz.frozen 1; have z2 := zz.frozen 2; have zl := zz.lt; have y0 := zz.cell 0; have y1 := zz.cell 1; have y2 := zz.cell 2; simp at y0 y1 y2
            have M9 := Lib.hid (ex_store zz (.int .i64 2) (.int .i64 0) (.slice none 0 0))
            have A9 := Lib.hid ((A1.out.oneKept hk2 hgR.symm).apart3 (p := bX) hRX (.int .i64 2) (.int .i64 0) (.slice none 0 0))
            have F9 := Lib.hid ((H1.out.trans hq).store3 (b := bX) HBX.out HBB2.out hgX (.int .i64 2) (.int .i64 0) (.slice none 0 0))
            clear zz hq hk2 A1 M1 H1
            go_wp2_with fail
            go_meet
            case rel => exact ⟨9, rfl, by omega, by omega, _, _, _, _, _, M9.out, A9.out, .inl ⟨_, _, _, TG.leaf _ _ (by unfold I64; omega) (by unfold I64; omega), id, id, F9.out, HR.out⟩⟩
          · by_cases c4 : hd l = [40]
            · rw [c4]
              have HQ := Lib.hid (show RR = if 12 < o + 1 then .bad 2 else (expR f 1 l.tail (o + 1)).bind fun p => if hd p.2 = [41] then loopR f least 9 p.1 p.2.tail o else .bad 4 by rw [HRR.out, expR, if_neg c1, if_neg c2, if_neg c3, if_pos c4])
              clear HRR
              obtain ⟨x1, x2, f2⟩ := H1.out.1.cells
              have hlt := H1.out.1.lt
              have ho1 : IntKind.i64.wrap ((o : Int) + 1) = (o : Int) + 1 := IntWalk.i64_in _ (by omega)
              have H2 := Lib.hid (H1.out.open_ (o + 1))
              have A2 := Lib.hid (A1.out.apart (p := ⟨g, 2, none⟩) hgR.symm (.int .i64 ((o + 1 : Nat) : Int)))
              have M2 := Lib.hid (M1.out.apart (p := ⟨g, 2, none⟩) hgX.symm (.int .i64 ((o + 1 : Nat) : Int)))
              rw [show ((o + 1 : Nat) : Int) = (o : Int) + 1 by omega] at H2 A2 M2
              clear H1 A1 M1
              go_upto_region 18 with fail
              generalize World.setCell wc _ _ = W2 at H2 A2 M2 ⊢
              clear x1 x2 f2 hlt
              obtain ⟨x1, x2, f2⟩ := H2.out.1.cells
              rw [show ((o + 1 : Nat) : Int) = (o : Int) + 1 by omega] at x2
              have hlt := H2.out.1.lt
              by_cases hd12 : 12 < o + 1
              · have HR := Lib.hid (show RR = .bad 2 by rw [HQ.out, if_pos hd12])
                have t1 : (12 : Int) < (o : Int) + 1 := by omega
                clear hd12 HQ HNS
                go_wp2_with fail
                refine (rf_fail 2 H2.out.1).mono ?_
                rintro e w3 ⟨rfl, hq⟩
                have M9 := Lib.hid (M2.out.oneKept hq.2 hgX.symm); have A9 := Lib.hid (A2.out.oneKept hq.2 hgR.symm); have H9 := Lib.hid (H2.out.failed hq)
                clear hq H2 A2 M2 x1 x2 f2 hlt
                have n0 := M9.out.cell 0; have n1 := M9.out.cell 1; have n2 := M9.out.cell 2; simp at n0 n1 n2
                have a1 := A9.out
                have z0 := a1.frozen 0; have z1 := a1.frozen 1; have z2 := a1.frozen 2; have zl := a1.lt; have y0 := a1.cell 0; have y1 := a1.cell 1; have y2 := a1.cell 2; simp at y0 y1 y2
                have F1 := Lib.hid (ex_store a1 (.int .i64 0) (.int .i64 0) (.slice none 0 0))
                have F2 := Lib.hid (H9.out.store3 (b := bR) HBR.out hgR (.int .i64 0) (.int .i64 0) (.slice none 0 0))
                clear a1
                go_wp2_with fail
                generalize World.setCell (World.setCell (World.setCell w3 _ _) _ _) _ _ = W9 at F1 F2 ⊢
                have e0 := F1.out.cell 0; have e1 := F1.out.cell 1; have e2 := F1.out.cell 2
                simp at e0 e1 e2
                (try simp only [Exit.inBlock, Exit.then])
                refine bodyPost_ret (v := .agg #[.int .i64 0, .int .i64 0, .slice none 0 0]) ?_ rfl ?_
                · simp [results, Tryd.results17, go_sem, e0, e1, e2]
                · exact (by rw [HR.out]; exact QEPost.bad_ (by decide) F2.out)
              · have t1 : ¬ (12 : Int) < (o : Int) + 1 := by omega
                have hns : expR f 1 l.tail (o + 1) ≠ .stuck := fun h => HNS.out (by rw [HQ.out, if_neg hd12, h]; rfl)
                have HR := Lib.hid (show RR = (expR f 1 l.tail (o + 1)).bind fun p => if hd p.2 = [41] then loopR f least 9 p.1 p.2.tail o else .bad 4 by rw [HQ.out, if_neg hd12])
                clear HQ HNS
                go_wp2_with fail
                refine (rf_pass H2.out.1 (by rw [c4]; decide)).mono ?_
                rintro e w3 ⟨rfl, hq⟩
                have hk3 := hq.2
                have H3 := Lib.hid (H2.out.trans hq)
                have A3 := Lib.hid (A2.out.oneKept hk3 hgR.symm); have M3 := Lib.hid (M2.out.oneKept hk3 hgX.symm)
                have CE := Lib.hid (IH f (Nat.le_refl _) 1 l.tail (o + 1) w3 (by omega) (by omega) (by omega) hns H3.out.1)
                clear hq hk3 hns H2 A2 M2 hd12 x1 x2 f2 hlt
                go_wp2_with fail
                refine CE.out.mono ?_
                intro e w4 hp
                obtain ⟨k', n', ab, mb, db, rfl, hk4, hst⟩ := hp.open_
                clear hp CE
                have hRM : bR < w3.heap.size := A3.out.lt
                have hXM : bX < w3.heap.size := M3.out.lt
                have hs3 : w.heap.size ≤ w3.heap.size := H3.out.2.size
                have zz := M3.out.oneKept hk4 hgX.symm
                have z0 := zz.frozen 0; have z1 := zz.frozen 1; have z2 := zz.frozen 2; have zl := zz.lt; have y0 := zz.cell 0; have y1 := zz.cell 1; have y2 := zz.cell 2; simp at y0 y1 y2
                have M9 := Lib.hid (ex_store zz (.int .i64 k') (.int .i64 n') (.slice ab mb db))
                have A9 := Lib.hid ((A3.out.oneKept hk4 hgR.symm).apart3 (p := bX) hRX (.int .i64 k') (.int .i64 n') (.slice ab mb db))
                have HST := Lib.hid (show (∃ Y E l2, (RR = if hd l2 = [41] then loopR f least 9 Y l2.tail o else .bad 4) ∧ TG w.heap.size E (((w4.setCell ⟨bX, 0, none⟩ (.int .i64 k')).setCell ⟨bX, 1, none⟩ (.int .i64 n')).setCell ⟨bX, 2, none⟩ (.slice ab mb db)) Y (.agg #[.int .i64 k', .int .i64 n', .slice ab mb db]) ∧ ¬ E bR ∧ ¬ E bX ∧ QWent B g l2 (o + 1) w (((w4.setCell ⟨bX, 0, none⟩ (.int .i64 k')).setCell ⟨bX, 1, none⟩ (.int .i64 n')).setCell ⟨bX, 2, none⟩ (.slice ab mb db))) ∨ (∃ c, c ≠ 0 ∧ RR = .bad c ∧ QFail g c w (((w4.setCell ⟨bX, 0, none⟩ (.int .i64 k')).setCell ⟨bX, 1, none⟩ (.int .i64 n')).setCell ⟨bX, 2, none⟩ (.slice ab mb db))) from by
                  rcases hst with ⟨Y, E, l2, hR, hT, hQ⟩ | ⟨c, hc, hR, hF⟩
                  · have no : ∀ b, b < w3.heap.size → ¬ E b := fun b hb h => by have := (hT.2 b h).1; omega
                    exact .inl ⟨Y, E, l2, by rw [HR.out, hR]; rfl, (hT.weak hs3).set3 (no bX hXM) _ _ _, no bR hRM, no bX hXM, (H3.out.trans hQ).store3 HBX.out HBB2.out hgX _ _ _⟩
                  · exact .inr ⟨c, hc, by rw [HR.out, hR]; rfl, (H3.out.failed hF).store3 HBX.out hgX _ _ _⟩)
                clear hst zz hk4 hRM hXM hs3 H3 A3 M3 HR
                go_upto_region 23 with fail
                generalize World.setCell (World.setCell (World.setCell w4 _ _) _ _) _ _ = W5 at M9 A9 HST ⊢
                clear z0 z1 z2 zl y0 y1 y2
                rcases HST.out with ⟨Y, E, l2, hR, hT, hE1, hE2, hQ⟩ | ⟨c, hc, hR, hF⟩
                · have CN := Lib.hid (show Calls Tryd.prog 14 #[.pointer (some ⟨g, 0, none⟩), .string ⟨#[41]⟩] W5 (fun e w' => e = .returned (.tuple #[]) ∧ if hd l2 = [41] then QWent B g l2.tail (o + 1) W5 w' else QFail g 4 W5 w') from rf_need [41] (by simp) hQ.1)
                  have hk5 := hQ.2
                  have T5 := Lib.hid hT; have H5 := Lib.hid hQ
                  by_cases c5 : hd l2 = [41]
                  · simp only [if_pos c5] at CN hR
                    have HR := Lib.hid hR
                    clear hR c5 hT hQ HST hk5
                    go_wp2_with fail
                    refine CN.out.mono ?_
                    rintro e w6 ⟨rfl, hq⟩
                    have hk6 := hq.2
                    have H6 := Lib.hid (H5.out.trans hq)
                    have M6 := Lib.hid (M9.out.oneKept hk6 hgX.symm); have A6 := Lib.hid (A9.out.oneKept hk6 hgR.symm)
                    have T6 := Lib.hid (T5.out.one hk6 hgw)
                    clear hq hk6 CN T5 H5 M9 A9
                    obtain ⟨x1, x2, f2⟩ := H6.out.1.cells
                    have hlt := H6.out.1.lt
                    rw [show ((o + 1 : Nat) : Int) = (o : Int) + 1 by omega] at x2
                    have ho2 : IntKind.i64.wrap ((o : Int) + 1 - 1) = (o : Int) := by rw [Int.add_sub_cancel]; exact IntWalk.i64_in _ (by omega)
                    have ho3 : (o : Int) + 1 - 1 = (o : Int) := by omega
                    have H7 := Lib.hid (H6.out.open_ o)
                    have M7 := Lib.hid (M6.out.apart (p := ⟨g, 2, none⟩) hgX.symm (.int .i64 (o : Int)))
                    have A7 := Lib.hid (A6.out.apart (p := ⟨g, 2, none⟩) hgR.symm (.int .i64 (o : Int)))
                    have hEg : ¬ E g := fun h => by have := (T6.out.2 g h).1; omega
                    have T7 := Lib.hid (T6.out.set hEg 2 (.int .i64 (o : Int)))
                    clear H6 M6 A6 T6 hEg
                    go_wp2_with fail
                    go_meet
                    case rel => exact ⟨9, rfl, by omega, by omega, _, _, _, _, _, M7.out, A7.out, .inl ⟨Y, E, l2.tail, T7.out, hE1, hE2, H7.out, HR.out⟩⟩
                  · simp only [if_neg c5] at CN hR
                    have HR := Lib.hid hR
                    clear hR c5 hT hQ HST hk5
                    go_wp2_with fail
                    refine CN.out.mono ?_
                    rintro e w6 ⟨rfl, hq⟩
                    have hk6 := hq.2
                    have H6 := Lib.hid (H5.out.failed hq)
                    have M6 := Lib.hid (M9.out.oneKept hk6 hgX.symm); have A6 := Lib.hid (A9.out.oneKept hk6 hgR.symm)
                    clear hq hk6 CN T5 H5 M9 A9
                    obtain ⟨oo, x1, x2, f2⟩ := H6.out.1.cells
                    have hlt := H6.out.1.lt
                    have H7 := Lib.hid (H6.out.open_ (wrap64 (oo - 1)))
                    have M7 := Lib.hid (M6.out.apart (p := ⟨g, 2, none⟩) hgX.symm (.int .i64 (wrap64 (oo - 1))))
                    have A7 := Lib.hid (A6.out.apart (p := ⟨g, 2, none⟩) hgR.symm (.int .i64 (wrap64 (oo - 1))))
                    clear H6 M6 A6
                    go_wp2_with fail
                    go_meet
                    case rel => exact ⟨9, rfl, by omega, by omega, _, _, _, _, _, M7.out, A7.out, .inr ⟨4, by decide, HR.out, H7.out⟩⟩
                · have HR := Lib.hid hR; have H5 := Lib.hid hF
                  have CN := Lib.hid (show Calls Tryd.prog 14 #[.pointer (some ⟨g, 0, none⟩), .string ⟨#[41]⟩] W5 (fun e w' => e = .returned (.tuple #[]) ∧ Below W5.heap.size W5 w') from rf_need_bad [41] (by simp) hF.1 hc)
                  clear hR hF HST
                  go_wp2_with fail
                  refine CN.out.mono ?_
                  rintro e w6 ⟨rfl, hq⟩
                  have H6 := Lib.hid (H5.out.then_ hq)
                  have M6 := Lib.hid (M9.out.then_ hq); have A6 := Lib.hid (A9.out.then_ hq)
                  clear hq CN H5 M9 A9
                  obtain ⟨oo, x1, x2, f2⟩ := H6.out.1.cells
                  have hlt := H6.out.1.lt
                  have H7 := Lib.hid (H6.out.open_ (wrap64 (oo - 1)))
                  have M7 := Lib.hid (M6.out.apart (p := ⟨g, 2, none⟩) hgX.symm (.int .i64 (wrap64 (oo - 1))))
                  have A7 := Lib.hid (A6.out.apart (p := ⟨g, 2, none⟩) hgR.symm (.int .i64 (wrap64 (oo - 1))))
                  clear H6 M6 A6
                  go_wp2_with fail
                  go_meet
                  case rel => exact ⟨9, rfl, by omega, by omega, _, _, _, _, _, M7.out, A7.out, .inr ⟨c, hc, HR.out, H7.out⟩⟩
            · have hR : RR = (natP l).bind fun p => loopR f least 9 (.node 1 p.1 []) p.2 o := by rw [HRR.out, expR, if_neg c1, if_neg c2, if_neg c3, if_neg c4]
              have HR := Lib.hid hR
              obtain ⟨TK, hTK⟩ : ∃ T, T = tkS (hd l) := ⟨_, rfl⟩
              rw [← hTK]
              have q2 := tk_ne (T := ⟨#[45]⟩) (t := [45]) hTK rfl c2
              have q3 := tk_ne (T := ⟨#[121]⟩) (t := [121]) hTK rfl c3
              have q4 := tk_ne (T := ⟨#[40]⟩) (t := [40]) hTK rfl c4
              rw [show (⟨#[45]⟩ : ByteArray).toList = [45] from by rw [str_list]] at q2
              rw [show (⟨#[121]⟩ : ByteArray).toList = [121] from by rw [str_list]] at q3
              rw [show (⟨#[40]⟩ : ByteArray).toList = [40] from by rw [str_list]] at q4
              obtain ⟨q2, q2'⟩ := q2; obtain ⟨q3, q3'⟩ := q3; obtain ⟨q4, q4'⟩ := q4
              have q1 : (TK.toList == [110, 111, 116]) = false ∨ ((TK.toList == [110, 111, 116]) = true ∧ decide ((least : Int) ≤ 3) = false) := by
                by_cases e : hd l = tNot
                · refine .inr ⟨by rw [hTK, e, str_list]; decide, decide_eq_false (fun h => c1 ⟨e, by omega⟩)⟩
                · have := (tk_ne (T := ⟨#[110, 111, 116]⟩) (t := [110, 111, 116]) hTK rfl e).1
                  rw [show (⟨#[110, 111, 116]⟩ : ByteArray).toList = [110, 111, 116] from by rw [str_list]] at this
                  exact .inl this
              have CN := Lib.hid (rf_number H1.out.1)
              have hnat : (∃ c, c ≠ 0 ∧ natP l = .bad c) ∨ ∃ n, natP l = .good (n, l.tail) ∧ I64 n := by
                rcases natP_cases l with ⟨c, e⟩ | ⟨n, e⟩
                · refine .inl ⟨c, ?_, e⟩
                  unfold natP at e
                  split at e
                  · injection e with e; omega
                  · split at e
                    · injection e with e; omega
                    · cases e
                · refine .inr ⟨n, e, ?_⟩
                  have hok : okT (hd l) := by
                    cases l with
                    | nil => rintro ⟨c, r, e, _⟩; cases e
                    | cons t r => exact (H1.out.1.ok t (by simp)).1
                  have := natP_in e hok
                  simp only at this
                  unfold I64; omega
              have zz := M1.out
              have z0 := zz.frozen 0
              clear zz z0 c1 c2 c3 c4 hTK HRR hR HNS
              rcases q1 with q1 | ⟨q1, q1'⟩
              all_goals
                rcases hnat with ⟨c, hc, hn⟩ | ⟨n, hn, hi⟩
                · rw [hn] at CN HR
                  clear hn
                  go_wp2_with fail
                  refine CN.out.mono ?_
                  rintro e w2 ⟨rfl, hc', hq⟩
                  have hk2 := hq.2
                  have zz := M1.out.oneKept hk2 hgX.symm
                  have z0 := zz.frozen 0; have z1 := zz.frozen 1; have z2 := zz.frozen 2; have zl := zz.lt; have y0 := zz.cell 0; have y1 := zz.cell 1; have y2 := zz.cell 2; simp at y0 y1 y2
                  have M9 := Lib.hid (ex_store zz (.int .i64 1) (.int .i64 0) (.slice none 0 0))
                  have A9 := Lib.hid ((A1.out.oneKept hk2 hgR.symm).apart3 (p := bX) hRX (.int .i64 1) (.int .i64 0) (.slice none 0 0))
                  have F9 := Lib.hid ((H1.out.failed hq).store3 (b := bX) HBX.out hgX (.int .i64 1) (.int .i64 0) (.slice none 0 0))
                  clear zz hq hk2 A1 M1 H1 CN
                  go_wp2_with fail
                  go_meet
                  case rel => exact ⟨9, rfl, by omega, by omega, _, _, _, _, _, M9.out, A9.out, .inr ⟨c, hc, HR.out, F9.out⟩⟩
                · rw [hn] at CN HR
                  clear hn
                  go_wp2_with fail
                  refine CN.out.mono ?_
                  rintro e w2 ⟨rfl, hq⟩
                  have hk2 := hq.2
                  have zz := M1.out.oneKept hk2 hgX.symm
                  have z0 := zz.frozen 0; have z1 := zz.frozen 1; have z2 := zz.frozen 2; have zl := zz.lt; have y0 := zz.cell 0; have y1 := zz.cell 1; have y2 := zz.cell 2; simp at y0 y1 y2
                  have M9 := Lib.hid (ex_store zz (.int .i64 1) (.int .i64 n) (.slice none 0 0))
                  have A9 := Lib.hid ((A1.out.oneKept hk2 hgR.symm).apart3 (p := bX) hRX (.int .i64 1) (.int .i64 n) (.slice none 0 0))
                  have F9 := Lib.hid ((H1.out.trans hq).store3 (b := bX) HBX.out HBB2.out hgX (.int .i64 1) (.int .i64 n) (.slice none 0 0))
                  have HI := Lib.hid hi
                  clear zz hq hk2 A1 M1 H1 CN hi
                  go_wp2_with fail
                  go_meet
                  case rel => exact ⟨9, rfl, by omega, by omega, _, _, _, _, _, M9.out, A9.out, .inl ⟨_, _, _, TG.leaf _ _ (by unfold I64; omega) HI.out, id, id, F9.out, HR.out⟩⟩
    case rest =>
      obtain ⟨top, rfl, ht1, ht9, hst⟩ := hcut
      have HX := Lib.hid hst
      clear hst A1 M1 H1 HRR
      have H34 := Lib.hid (show ∀ W, XSt B g o w bR bX least RR f top W → True from fun _ _ => trivial)
      clear H34
      go_wp2_with fail
      go_loopg [6] f (fun gf vt wr => ∃ tp : Nat, gf ≤ f ∧ vt = .int .i64 tp ∧ 1 ≤ tp ∧ tp ≤ 9 ∧ XSt B g o w bR bX least RR gf tp wr)
      case atStart => exact ⟨top, Nat.le_refl _, rfl, ht1, ht9, HX.out⟩
      case round =>
        clear HX
        obtain ⟨tp, hgf, rfl, hp1, hp9, k, n, a, m, d, m9, a9, hcase⟩ := hrel
        have M9 := Lib.hid m9; have A9 := Lib.hid a9
        clear m9 a9
        rcases hcase with ⟨X, D, l', hT, hDR, hDX, hQ, hr⟩ | ⟨c, hc, hr, hF⟩
        · cases gk with
          | zero => exact absurd (hr.trans (by rw [loopR])) HNS.out
          | succ g' =>
            have H0 := Lib.hid hQ; have T0 := Lib.hid hT
            obtain ⟨x1, x2, f2⟩ := hQ.1.cells
            have hlt := hQ.1.lt
            have CB := Lib.hid (fun W => rf_binary (hd l') W)
            have CP := Lib.hid (rf_peek hQ.1)
            have HRL := Lib.hid hr
            clear hr hT hQ
            cases hop : opOf (hd l') with
            | none =>
              have hbk : binK (hd l') = 0 := by unfold binK; rw [hop]
              rw [hbk] at CB
              have HR := Lib.hid (show RR = .good (X, l') by rw [HRL.out, loopR, hop])
              generalize tkS (hd l') = TK at CP CB
              clear hop hbk HRL HNS
              go_wp2_with fail
              refine CP.out.mono ?_
              rintro e w1 ⟨rfl, hb1⟩
              go_wp2_with fail
              refine (CB.out _).mono ?_
              rintro e w2 ⟨rfl, hb2⟩
              have H9 := Lib.hid ((H0.out.then_ hb1).then_ hb2); have T9 := Lib.hid ((T0.out.then_ hb1).then_ hb2)
              have M9' := Lib.hid ((M9.out.then_ hb1).then_ hb2); have A9' := Lib.hid ((A9.out.then_ hb1).then_ hb2)
              clear hb1 hb2 H0 T0 M9 A9 CP CB x1 x2 f2 hlt
              have M9 := M9'; have A9 := A9'
              clear M9' A9'
              have n0 := M9.out.cell 0; have n1 := M9.out.cell 1; have n2 := M9.out.cell 2; simp at n0 n1 n2
              have a1 := A9.out
              have z0 := a1.frozen 0; have z1 := a1.frozen 1; have z2 := a1.frozen 2; have zl := a1.lt; have y0 := a1.cell 0; have y1 := a1.cell 1; have y2 := a1.cell 2; simp at y0 y1 y2
              have F1 := Lib.hid (ex_store a1 (.int .i64 k) (.int .i64 n) (.slice a m d))
              have F2 := Lib.hid (H9.out.store3 (b := bR) HBR.out HBB.out hgR (.int .i64 k) (.int .i64 n) (.slice a m d))
              have F3 := Lib.hid (T9.out.set3 hDR (.int .i64 k) (.int .i64 n) (.slice a m d))
              clear a1
              go_wp2_with fail
              generalize World.setCell (World.setCell (World.setCell w2 _ _) _ _) _ _ = W9 at F1 F2 F3 ⊢
              have e0 := F1.out.cell 0; have e1 := F1.out.cell 1; have e2 := F1.out.cell 2
              simp at e0 e1 e2
              (try simp only [Exit.inBlock, Exit.then])
              refine bodyPost_ret (v := .agg #[.int .i64 k, .int .i64 n, .slice a m d]) ?_ rfl ?_
              · simp [results, Tryd.results17, go_sem, e0, e1, e2]
              · exact (by rw [HR.out]; exact QEPost.good_ F3.out F2.out)
            | some q =>
              obtain ⟨k2, lv⟩ := q
              obtain ⟨k4, k13, hlv, hlv5, hne, hbk⟩ := op_facts hop
              rw [hbk] at CB
              have hr2 : RR = if lv + 1 < least ∨ tp < lv + 1 ∨ (lv + 1 = 4 ∧ tp = 4) then .good (X, l') else (expR g' (lv + 2) l'.tail o).bind fun p => loopR g' least (lv + 1) (.node k2 0 [X, p.1]) p.2 o := by rw [HRL.out, loopR, hop]
              have HR2 := Lib.hid hr2
              have CRK := Lib.hid (fun W => ref_rank k2 W (by omega) k13)
              rw [hlv] at CRK
              obtain ⟨rk, hrk⟩ : ∃ rk, rk = lv + 1 := ⟨_, rfl⟩
              rw [← hrk] at CRK
              have q0 : (k2 == 0) = false := by simp; omega
              have HNE := Lib.hid hne
              generalize tkS (hd l') = TK at CP CB
              have HRK := Lib.hid hrk
              clear hop hbk HRL hr2 hlv hne
              by_cases d1 : lv + 1 < least
              · have HR := Lib.hid (show RR = .good (X, l') by rw [HR2.out, if_pos (.inl d1)])
                have e1 : decide (rk < least) = true := decide_eq_true (by omega)
                have e1' : decide ((rk : Int) < (least : Int)) = true := decide_eq_true (by omega)
                clear d1 HR2 HNS hrk
                go_wp2_with fail
                refine CP.out.mono ?_
                rintro e w1 ⟨rfl, hb1⟩
                go_wp2_with fail
                refine (CB.out _).mono ?_
                rintro e w2 ⟨rfl, hb2⟩
                have H9 := Lib.hid ((H0.out.then_ hb1).then_ hb2); have T9 := Lib.hid ((T0.out.then_ hb1).then_ hb2)
                have M9' := Lib.hid ((M9.out.then_ hb1).then_ hb2); have A9' := Lib.hid ((A9.out.then_ hb1).then_ hb2)
                clear hb1 hb2 H0 T0 M9 A9 CP CB x1 x2 f2 hlt
                have M9 := M9'; have A9 := A9'
                clear M9' A9'
                have n0 := M9.out.cell 0; have n1 := M9.out.cell 1; have n2 := M9.out.cell 2; simp at n0 n1 n2
                have a1 := A9.out
                have z0 := a1.frozen 0; have z1 := a1.frozen 1; have z2 := a1.frozen 2; have zl := a1.lt; have y0 := a1.cell 0; have y1 := a1.cell 1; have y2 := a1.cell 2; simp at y0 y1 y2
                have F1 := Lib.hid (ex_store a1 (.int .i64 k) (.int .i64 n) (.slice a m d))
                have F2 := Lib.hid (H9.out.store3 (b := bR) HBR.out HBB.out hgR (.int .i64 k) (.int .i64 n) (.slice a m d))
                have F3 := Lib.hid (T9.out.set3 hDR (.int .i64 k) (.int .i64 n) (.slice a m d))
                clear a1
                go_wp2_with (go_at_call 38; (with_reducible refine (CRK.out _).mono ?_); rintro e w' ⟨rfl, rfl⟩)
                generalize World.setCell (World.setCell (World.setCell w2 _ _) _ _) _ _ = W9 at F1 F2 F3 ⊢
                have e0 := F1.out.cell 0; have e1 := F1.out.cell 1; have e2 := F1.out.cell 2
                simp at e0 e1 e2
                (try simp only [Exit.inBlock, Exit.then])
                refine bodyPost_ret (v := .agg #[.int .i64 k, .int .i64 n, .slice a m d]) ?_ rfl ?_
                · simp [results, Tryd.results17, go_sem, e0, e1, e2]
                · exact (by rw [HR.out]; exact QEPost.good_ F3.out F2.out)
              by_cases d2 : tp < lv + 1
              · have HR := Lib.hid (show RR = .good (X, l') by rw [HR2.out, if_pos (.inr (.inl d2))])
                have e1 : decide (rk < least) = false := decide_eq_false (by omega)
                have e1' : decide ((rk : Int) < (least : Int)) = false := decide_eq_false (by omega)
                have e2 : decide (tp < rk) = true := decide_eq_true (by omega)
                have e2' : decide ((tp : Int) < (rk : Int)) = true := decide_eq_true (by omega)
                clear d1 d2 HR2 HNS hrk
                go_wp2_with fail
                refine CP.out.mono ?_
                rintro e w1 ⟨rfl, hb1⟩
                go_wp2_with fail
                refine (CB.out _).mono ?_
                rintro e w2 ⟨rfl, hb2⟩
                have H9 := Lib.hid ((H0.out.then_ hb1).then_ hb2); have T9 := Lib.hid ((T0.out.then_ hb1).then_ hb2)
                have M9' := Lib.hid ((M9.out.then_ hb1).then_ hb2); have A9' := Lib.hid ((A9.out.then_ hb1).then_ hb2)
                clear hb1 hb2 H0 T0 M9 A9 CP CB x1 x2 f2 hlt
                have M9 := M9'; have A9 := A9'
                clear M9' A9'
                have n0 := M9.out.cell 0; have n1 := M9.out.cell 1; have n2 := M9.out.cell 2; simp at n0 n1 n2
                have a1 := A9.out
                have z0 := a1.frozen 0; have z1 := a1.frozen 1; have z2 := a1.frozen 2; have zl := a1.lt; have y0 := a1.cell 0; have y1 := a1.cell 1; have y2 := a1.cell 2; simp at y0 y1 y2
                have F1 := Lib.hid (ex_store a1 (.int .i64 k) (.int .i64 n) (.slice a m d))
                have F2 := Lib.hid (H9.out.store3 (b := bR) HBR.out HBB.out hgR (.int .i64 k) (.int .i64 n) (.slice a m d))
                have F3 := Lib.hid (T9.out.set3 hDR (.int .i64 k) (.int .i64 n) (.slice a m d))
                clear a1
                go_wp2_with (go_at_call 38; (with_reducible refine (CRK.out _).mono ?_); rintro e w' ⟨rfl, rfl⟩)
                generalize World.setCell (World.setCell (World.setCell w2 _ _) _ _) _ _ = W9 at F1 F2 F3 ⊢
                have e0 := F1.out.cell 0; have e1 := F1.out.cell 1; have e2 := F1.out.cell 2
                simp at e0 e1 e2
                (try simp only [Exit.inBlock, Exit.then])
                refine bodyPost_ret (v := .agg #[.int .i64 k, .int .i64 n, .slice a m d]) ?_ rfl ?_
                · simp [results, Tryd.results17, go_sem, e0, e1, e2]
                · exact (by rw [HR.out]; exact QEPost.good_ F3.out F2.out)
              by_cases d3 : lv + 1 = 4 ∧ tp = 4
              · have HR := Lib.hid (show RR = .good (X, l') by rw [HR2.out, if_pos (.inr (.inr d3))])
                have hr4 : (rk : Int) = 4 := by omega
                have ht4 : (tp : Int) = 4 := by omega
                have e1' : decide ((4 : Int) < (least : Int)) = false := decide_eq_false (by omega)
                clear d1 d2 d3 HR2 HNS HRK
                rw [hr4] at CRK
                rw [ht4]
                clear hr4 ht4
                go_wp2_with fail
                refine CP.out.mono ?_
                rintro e w1 ⟨rfl, hb1⟩
                go_wp2_with fail
                refine (CB.out _).mono ?_
                rintro e w2 ⟨rfl, hb2⟩
                have H9 := Lib.hid ((H0.out.then_ hb1).then_ hb2); have T9 := Lib.hid ((T0.out.then_ hb1).then_ hb2)
                have M9' := Lib.hid ((M9.out.then_ hb1).then_ hb2); have A9' := Lib.hid ((A9.out.then_ hb1).then_ hb2)
                clear hb1 hb2 H0 T0 M9 A9 CP CB x1 x2 f2 hlt
                have M9 := M9'; have A9 := A9'
                clear M9' A9'
                have n0 := M9.out.cell 0; have n1 := M9.out.cell 1; have n2 := M9.out.cell 2; simp at n0 n1 n2
                have a1 := A9.out
                have z0 := a1.frozen 0; have z1 := a1.frozen 1; have z2 := a1.frozen 2; have zl := a1.lt; have y0 := a1.cell 0; have y1 := a1.cell 1; have y2 := a1.cell 2; simp at y0 y1 y2
                have F1 := Lib.hid (ex_store a1 (.int .i64 k) (.int .i64 n) (.slice a m d))
                have F2 := Lib.hid (H9.out.store3 (b := bR) HBR.out HBB.out hgR (.int .i64 k) (.int .i64 n) (.slice a m d))
                have F3 := Lib.hid (T9.out.set3 hDR (.int .i64 k) (.int .i64 n) (.slice a m d))
                clear a1
                go_wp2_with (go_at_call 38; (with_reducible refine (CRK.out _).mono ?_); rintro e w' ⟨rfl, rfl⟩)
                generalize World.setCell (World.setCell (World.setCell w2 _ _) _ _) _ _ = W9 at F1 F2 F3 ⊢
                have e0 := F1.out.cell 0; have e1 := F1.out.cell 1; have e2 := F1.out.cell 2
                simp at e0 e1 e2
                (try simp only [Exit.inBlock, Exit.then])
                refine bodyPost_ret (v := .agg #[.int .i64 k, .int .i64 n, .slice a m d]) ?_ rfl ?_
                · simp [results, Tryd.results17, go_sem, e0, e1, e2]
                · exact (by rw [HR.out]; exact QEPost.good_ F3.out F2.out)
              · have hns : expR g' (lv + 2) l'.tail o ≠ .stuck := fun h => HNS.out (by rw [HR2.out, if_neg (by omega), h]; rfl)
                have HR := Lib.hid (show RR = (expR g' (lv + 2) l'.tail o).bind fun p => loopR g' least (lv + 1) (.node k2 0 [X, p.1]) p.2 o by rw [HR2.out, if_neg (by omega)])
                have e1 : decide (rk < least) = false := decide_eq_false (by omega)
                have e1' : decide ((rk : Int) < (least : Int)) = false := decide_eq_false (by omega)
                have e2 : decide (tp < rk) = false := decide_eq_false (by omega)
                have e2' : decide ((tp : Int) < (rk : Int)) = false := decide_eq_false (by omega)
                have e34 : ((rk : Int) == 4) = false ∨ (rk = 4 ∧ ((tp : Int) == 4) = false) := by
                  by_cases h : rk = 4
                  · exact .inr ⟨h, by simp; omega⟩
                  · exact .inl (by simp; omega)
                have hlv4 : rk ≤ 6 := by omega
                have hrk1 : 1 ≤ rk := by omega
                clear d1 d2 d3 HR2 hrk
                rcases e34 with e3 | ⟨e3, e4⟩
                · skip
                  go_wp2_with fail
                  refine CP.out.mono ?_
                  rintro e w1 ⟨rfl, hb1⟩
                  go_wp2_with fail
                  refine (CB.out _).mono ?_
                  rintro e w2 ⟨rfl, hb2⟩
                  have H9 := Lib.hid ((H0.out.then_ hb1).then_ hb2); have T9 := Lib.hid ((T0.out.then_ hb1).then_ hb2)
                  have M9' := Lib.hid ((M9.out.then_ hb1).then_ hb2); have A9' := Lib.hid ((A9.out.then_ hb1).then_ hb2)
                  clear hb1 hb2 H0 T0 M9 A9 CP CB x1 x2 f2 hlt
                  go_wp2_with (go_at_call 38; (with_reducible refine (CRK.out _).mono ?_); rintro e w' ⟨rfl, rfl⟩)
                  refine (rf_pass H9.out.1 HNE.out).mono ?_
                  rintro e w3 ⟨rfl, hq⟩
                  have hk3 := hq.2
                  have H3 := Lib.hid (H9.out.trans hq); have T3 := Lib.hid (T9.out.one hk3 hgw)
                  have M3 := Lib.hid (M9'.out.oneKept hk3 hgX.symm); have A3 := Lib.hid (A9'.out.oneKept hk3 hgR.symm)
                  clear hq hk3 H9 T9 M9' A9'
                  go_upto_region 32 with fail
                  go_cut [] from 106 to 114 (fun wx => XSt B g o w bR bX least RR g' (lv + 1) wx)
                  case first =>
                    have H4 := Lib.hid (H3.out.then_ (Below.refl _ _).drew); have T4 := Lib.hid (T3.out.then_ (Below.refl _ _).drew)
                    have M4 := M3.out.drew; have A4 := Lib.hid (A3.out.drew)
                    have CE := Lib.hid (IH g' (by omega) (lv + 2) l'.tail o w3.drew (by omega) (by omega) ho hns H4.out.1)
                    rw [show ((lv + 2 : Nat) : Int) = (rk : Int) + 1 by have := HRK.out; omega] at CE
                    have hw1 : IntKind.i64.wrap ((rk : Int) + 1) = (rk : Int) + 1 := IntWalk.i64_in _ (by omega)
                    have n0 := M4.cell 0; have n1 := M4.cell 1; have n2 := M4.cell 2; simp at n0 n1 n2
                    have M4h := Lib.hid M4
                    have hk2 : I64 k2 := by unfold I64; omega
                    clear M4 hns H3 T3 M3 A3
                    go_region_with (first | (go_at_call 38; (with_reducible refine (CRK.out _).mono ?_); rintro e w' ⟨rfl, rfl⟩) | (go_at_call 17; (with_reducible refine CE.out.mono ?_); intro e w5 hp; obtain ⟨k', n', ab, mb, db, rfl, hk5, hst⟩ := hp.open_; clear hp; have M5 := M4h.out.oneKept hk5 hgX.symm; have N5 := M5.alloc (.cells #[.int .i64 k, .int .i64 n, .slice a m d, .int .i64 k', .int .i64 n', .slice ab mb db] 24); have p0 := M5.cell 0; have p1 := M5.cell 1; have p2 := M5.cell 2; have z0 := N5.frozen 0; have z1 := N5.frozen 1; have z2 := N5.frozen 2; have zl := N5.lt; have y0 := N5.cell 0; have y1 := N5.cell 1; have y2 := N5.cell 2; simp at p0 p1 p2 y0 y1 y2; have M5h := Lib.hid M5; have N5h := Lib.hid N5; have hst5 := Lib.hid hst; have hk5h := Lib.hid hk5; clear M5 N5 hst hk5))
                    all_goals
                      clear p0 p1 p2 z0 z1 z2 zl y0 y1 y2
                      have hs3 : w.heap.size ≤ w3.drew.heap.size := H4.out.2.size
                      have hRM : bR < w3.drew.heap.size := A4.out.lt
                      have hXM : bX < w3.drew.heap.size := M4h.out.lt
                      have hs5 : w3.drew.heap.size ≤ w5.heap.size := hk5h.out.size
                      have A5 := A4.out.oneKept hk5h.out hgR.symm
                      have XX : XSt B g o w bR bX least RR g' (lv + 1) ((((w5.alloc (.cells #[.int .i64 k, .int .i64 n, .slice a m d, .int .i64 k', .int .i64 n', .slice ab mb db] 24)).setCell ⟨bX, 0, none⟩ (.int .i64 k2)).setCell ⟨bX, 1, none⟩ (.int .i64 0)).setCell ⟨bX, 2, none⟩ (.slice (some ⟨w5.heap.size, 0, none⟩) 2 2)) := by
                        refine ⟨_, _, _, _, _, ex_store N5h.out (.int .i64 k2) (.int .i64 0) (.slice (some ⟨w5.heap.size, 0, none⟩) 2 2), (A5.alloc (.cells #[.int .i64 k, .int .i64 n, .slice a m d, .int .i64 k', .int .i64 n', .slice ab mb db] 24)).apart3 (p := bX) hRX (.int .i64 k2) (.int .i64 0) (.slice (some ⟨w5.heap.size, 0, none⟩) 2 2), ?_⟩
                        rcases hst5.out with ⟨Y, E, l2, hR, hTY, hQ⟩ | ⟨c, hc, hR, hF⟩
                        · have hDlt : ∀ b, D b → b < w3.drew.heap.size := fun b hb => (T4.out.2 b hb).2
                          have no : ∀ b, b < w3.drew.heap.size → ¬ D b → ¬ (D b ∨ E b ∨ b = w5.heap.size) := fun b hb hnd h => by
                            rcases h with h | h | h
                            · exact hnd h
                            · have := (hTY.2 b h).1; omega
                            · omega
                          exact .inl ⟨.node k2 0 [X, Y], _, l2, (TG.node2 (T4.out.one hk5h.out hgw) (hTY.weak hs3) (by omega) hk2).set3 (no bX hXM hDX) _ _ _, no bR hRM hDR, no bX hXM hDX, ((H4.out.trans hQ).then_ (below_new (Below.refl _ _) _)).store3 HBX.out HBB2.out hgX _ _ _, by rw [HR.out, hR]; rfl⟩
                        · exact .inr ⟨c, hc, by rw [HR.out, hR]; rfl, ((H4.out.failed hF).then_ (below_new (Below.refl _ _) _)).store3 HBX.out hgX _ _ _⟩
                      have XXh := Lib.hid XX
                      clear XX
                      go_wp2_with fail
                      go_meet
                      case rel => exact XXh.out
                  case rest =>
                    have HC := Lib.hid hcut
                    clear hcut H3 T3 M3 A3
                    go_wp2_with (go_at_call 38; (with_reducible refine (CRK.out _).mono ?_); rintro e w' ⟨rfl, rfl⟩)
                    go_roundg g'
                    case measure => omega
                    case rel => exact ⟨rk, by omega, rfl, by omega, by omega, by rw [HRK.out]; exact HC.out⟩
                · have e1q : decide ((4 : Int) < (least : Int)) = false := by rw [e3] at e1'; exact e1'
                  have e2q : decide ((tp : Int) < (4 : Int)) = false := by rw [e3] at e2'; exact e2'
                  have HR4 := Lib.hid e3
                  clear e3
                  have hr4 : (rk : Int) = 4 := by have := HR4.out; omega
                  rw [hr4] at CRK
                  clear hr4 e1 e1' e2 e2'
                  go_wp2_with fail
                  refine CP.out.mono ?_
                  rintro e w1 ⟨rfl, hb1⟩
                  go_wp2_with fail
                  refine (CB.out _).mono ?_
                  rintro e w2 ⟨rfl, hb2⟩
                  have H9 := Lib.hid ((H0.out.then_ hb1).then_ hb2); have T9 := Lib.hid ((T0.out.then_ hb1).then_ hb2)
                  have M9' := Lib.hid ((M9.out.then_ hb1).then_ hb2); have A9' := Lib.hid ((A9.out.then_ hb1).then_ hb2)
                  clear hb1 hb2 H0 T0 M9 A9 CP CB x1 x2 f2 hlt
                  go_wp2_with (go_at_call 38; (with_reducible refine (CRK.out _).mono ?_); rintro e w' ⟨rfl, rfl⟩)
                  refine (rf_pass H9.out.1 HNE.out).mono ?_
                  rintro e w3 ⟨rfl, hq⟩
                  have hk3 := hq.2
                  have H3 := Lib.hid (H9.out.trans hq); have T3 := Lib.hid (T9.out.one hk3 hgw)
                  have M3 := Lib.hid (M9'.out.oneKept hk3 hgX.symm); have A3 := Lib.hid (A9'.out.oneKept hk3 hgR.symm)
                  clear hq hk3 H9 T9 M9' A9'
                  go_upto_region 32 with fail
                  go_cut [] from 106 to 114 (fun wx => XSt B g o w bR bX least RR g' (lv + 1) wx)
                  case first =>
                    have H4 := Lib.hid (H3.out.then_ (Below.refl _ _).drew); have T4 := Lib.hid (T3.out.then_ (Below.refl _ _).drew)
                    have M4 := M3.out.drew; have A4 := Lib.hid (A3.out.drew)
                    have CE := Lib.hid (IH g' (by omega) (lv + 2) l'.tail o w3.drew (by omega) (by omega) ho hns H4.out.1)
                    rw [show ((lv + 2 : Nat) : Int) = 5 by have := HRK.out; have := HR4.out; omega] at CE
                    have hw1 : IntKind.i64.wrap 5 = 5 := by decide
                    have n0 := M4.cell 0; have n1 := M4.cell 1; have n2 := M4.cell 2; simp at n0 n1 n2
                    have M4h := Lib.hid M4
                    have hk2 : I64 k2 := by unfold I64; omega
                    clear M4 hns H3 T3 M3 A3
                    go_region_with (first | (go_at_call 38; (with_reducible refine (CRK.out _).mono ?_); rintro e w' ⟨rfl, rfl⟩) | (go_at_call 17; (with_reducible refine CE.out.mono ?_); intro e w5 hp; obtain ⟨k', n', ab, mb, db, rfl, hk5, hst⟩ := hp.open_; clear hp; have M5 := M4h.out.oneKept hk5 hgX.symm; have N5 := M5.alloc (.cells #[.int .i64 k, .int .i64 n, .slice a m d, .int .i64 k', .int .i64 n', .slice ab mb db] 24); have p0 := M5.cell 0; have p1 := M5.cell 1; have p2 := M5.cell 2; have z0 := N5.frozen 0; have z1 := N5.frozen 1; have z2 := N5.frozen 2; have zl := N5.lt; have y0 := N5.cell 0; have y1 := N5.cell 1; have y2 := N5.cell 2; simp at p0 p1 p2 y0 y1 y2; have M5h := Lib.hid M5; have N5h := Lib.hid N5; have hst5 := Lib.hid hst; have hk5h := Lib.hid hk5; clear M5 N5 hst hk5))
                    all_goals
                      clear p0 p1 p2 z0 z1 z2 zl y0 y1 y2
                      have hs3 : w.heap.size ≤ w3.drew.heap.size := H4.out.2.size
                      have hRM : bR < w3.drew.heap.size := A4.out.lt
                      have hXM : bX < w3.drew.heap.size := M4h.out.lt
                      have hs5 : w3.drew.heap.size ≤ w5.heap.size := hk5h.out.size
                      have A5 := A4.out.oneKept hk5h.out hgR.symm
                      have XX : XSt B g o w bR bX least RR g' (lv + 1) ((((w5.alloc (.cells #[.int .i64 k, .int .i64 n, .slice a m d, .int .i64 k', .int .i64 n', .slice ab mb db] 24)).setCell ⟨bX, 0, none⟩ (.int .i64 k2)).setCell ⟨bX, 1, none⟩ (.int .i64 0)).setCell ⟨bX, 2, none⟩ (.slice (some ⟨w5.heap.size, 0, none⟩) 2 2)) := by
                        refine ⟨_, _, _, _, _, ex_store N5h.out (.int .i64 k2) (.int .i64 0) (.slice (some ⟨w5.heap.size, 0, none⟩) 2 2), (A5.alloc (.cells #[.int .i64 k, .int .i64 n, .slice a m d, .int .i64 k', .int .i64 n', .slice ab mb db] 24)).apart3 (p := bX) hRX (.int .i64 k2) (.int .i64 0) (.slice (some ⟨w5.heap.size, 0, none⟩) 2 2), ?_⟩
                        rcases hst5.out with ⟨Y, E, l2, hR, hTY, hQ⟩ | ⟨c, hc, hR, hF⟩
                        · have hDlt : ∀ b, D b → b < w3.drew.heap.size := fun b hb => (T4.out.2 b hb).2
                          have no : ∀ b, b < w3.drew.heap.size → ¬ D b → ¬ (D b ∨ E b ∨ b = w5.heap.size) := fun b hb hnd h => by
                            rcases h with h | h | h
                            · exact hnd h
                            · have := (hTY.2 b h).1; omega
                            · omega
                          exact .inl ⟨.node k2 0 [X, Y], _, l2, (TG.node2 (T4.out.one hk5h.out hgw) (hTY.weak hs3) (by omega) hk2).set3 (no bX hXM hDX) _ _ _, no bR hRM hDR, no bX hXM hDX, ((H4.out.trans hQ).then_ (below_new (Below.refl _ _) _)).store3 HBX.out HBB2.out hgX _ _ _, by rw [HR.out, hR]; rfl⟩
                        · exact .inr ⟨c, hc, by rw [HR.out, hR]; rfl, ((H4.out.failed hF).then_ (below_new (Below.refl _ _) _)).store3 HBX.out hgX _ _ _⟩
                      have XXh := Lib.hid XX
                      clear XX
                      go_wp2_with fail
                      go_meet
                      case rel => exact XXh.out
                  case rest =>
                    have HC := Lib.hid hcut
                    clear hcut H3 T3 M3 A3
                    go_wp2_with (go_at_call 38; (with_reducible refine (CRK.out _).mono ?_); rintro e w' ⟨rfl, rfl⟩)
                    go_roundg g'
                    case measure => omega
                    case rel => exact ⟨4, by omega, rfl, by omega, by omega, by rw [← HR4.out, HRK.out]; exact HC.out⟩
        · have HR := Lib.hid hr; have H9 := Lib.hid hF
          obtain ⟨oo, x1, x2, f2⟩ := hF.1.cells
          have e1 : (c == 0) = false := by simpa using hc
          have hlt := hF.1.lt
          clear hr hF
          have n0 := M9.out.cell 0; have n1 := M9.out.cell 1; have n2 := M9.out.cell 2; simp at n0 n1 n2
          have a1 := A9.out
          have z0 := a1.frozen 0; have z1 := a1.frozen 1; have z2 := a1.frozen 2; have zl := a1.lt; have y0 := a1.cell 0; have y1 := a1.cell 1; have y2 := a1.cell 2; simp at y0 y1 y2
          have F1 := Lib.hid (ex_store a1 (.int .i64 k) (.int .i64 n) (.slice a m d))
          have F2 := Lib.hid (H9.out.store3 (b := bR) HBR.out hgR (.int .i64 k) (.int .i64 n) (.slice a m d))
          clear a1
          go_wp2_with fail
          generalize World.setCell (World.setCell (World.setCell wr _ _) _ _) _ _ = W9 at F1 F2 ⊢
          have e0 := F1.out.cell 0; have e1 := F1.out.cell 1; have e2 := F1.out.cell 2
          simp at e0 e1 e2
          (try simp only [Exit.inBlock, Exit.then])
          refine bodyPost_ret (v := .agg #[.int .i64 k, .int .i64 n, .slice a m d]) ?_ rfl ?_
          · simp [results, Tryd.results17, go_sem, e0, e1, e2]
          · exact (by rw [HR.out]; exact QEPost.bad_ hc F2.out)
theorem rf_expr {g : Nat} : ∀ f, ∀ f', f' ≤ f → QExprOk B g f'
  | 0, f', h => by
    obtain rfl : f' = 0 := by omega
    intro least l o w _ _ _ hns; exact absurd (by rw [expR]) hns
  | f + 1, f', h => by
    by_cases e : f' ≤ f
    · exact rf_expr f f' e
    · obtain rfl : f' = f + 1 := by omega
      exact rf_expr_step (rf_expr f)
end Go.Proofs.YtchahccnmjaejacDoor
