/- Several texts in one: Par11, Par12. -/
import Derived.Test.YtdmkghgachapaabGreatDoorPar10
import Derived.Deep.AppendLies
import Derived.Deep.RegionHeldLaw
import Derived.Test.YtdmkghgachapaabGreatDoorMg2
set_option linter.unusedSimpArgs false
namespace Go.Proofs.YtdmkghgachapaabGreatDoor
set_option linter.unusedVariables false
set_option maxRecDepth 100000
open Go.RowKit Go.Shelf
theorem infoMon : (Tryz.prog.info? 128).map (fun i => (i.zero, i.size, i.bytes)) = some (some (.agg #[.string ByteArray.empty, .int .i64 0, .int .i64 0]), 3, 32) := by kernel_rfl
theorem kOf_4 {i : Nat} (h : 4 ≤ i) : kOf i = [109, 111, 110, 116, 104] := by
  obtain ⟨j, rfl⟩ : ∃ j, i = j + 4 := ⟨i - 4, by omega⟩
  rfl
theorem restP_4 {i f : Nat} (h : 4 ≤ i) (l : List Tok) (t : PRule) : restP f i l t = (monP l).bind fun p => .good ({ t with ms := t.ms ++ [p.1] }, p.2) := by
  obtain ⟨j, rfl⟩ : ∃ j, i = j + 4 := ⟨i - 4, by omega⟩
  rfl
theorem At.grow {w w4 : World} {b : Nat} {o : Obj} {row : Option Nat} (h : At w b o) (hg : w.grownBy w4 row) (hne : row ≠ some b) : At w4 b o := (hg.block b h.lt (Ne.symm hne)).trans h
theorem Tr.app {W W1 w4 : World} {tb g : Nat} {t : PRule} {v : Value} {D : Nat → Prop} {k n : Int} {a : Option Addr} {m d base : Nat} (htg : tb < g)
    (h1 : At W tb (trO t k n a m d v)) (h2 : TG (tb + 1) D W t.lp (.agg #[.int .i64 k, .int .i64 n, .slice a m d])) (h3 : ¬ D g) (h4 : tb + 1 ≤ base) (h5 : base ≤ W.heap.size) (h6 : ∀ b, D b → b < base) (h7 : v.ownBlock ≠ some g) (h8 : W.ownsRow base 128 3 v t.ms.length (t.ms.flatMap monC))
    (hW : Below W.heap.size W W1) (x : PMon) {g4 cap4 : Nat} (hown : w4.ownsRow base 128 3 (.slice (some ⟨g4, 0, none⟩) (t.ms.length + 1) cap4) (t.ms.length + 1) (t.ms.flatMap monC ++ monC x)) (hgrow : W1.grownBy w4 v.ownBlock) (hlies : v.ownBlock = some g4 ∨ W.heap.size ≤ g4) (hgl : g < W.heap.size) :
    Tr (w4.setCell ⟨tb, 6, none⟩ (.slice (some ⟨g4, 0, none⟩) (t.ms.length + 1) cap4)) tb g { t with ms := t.ms ++ [x] } (.slice (some ⟨g4, 0, none⟩) (t.ms.length + 1) cap4) := by
  have nown : ∀ b, b < base → v.ownBlock ≠ some b := fun b hb e => by have := (own_lt h8 e).1; omega
  have hk : ∀ b, b < W.heap.size → v.ownBlock ≠ some b → b ≠ tb → (w4.setCell ⟨tb, 6, none⟩ (.slice (some ⟨g4, 0, none⟩) (t.ms.length + 1) cap4)).heap[b]? = W.heap[b]? := fun b hb hn ht =>
    (Below.heap_setCell w4 ⟨tb, 6, none⟩ _ b ht).trans ((hgrow.block b (Nat.lt_of_lt_of_le hb hW.size) (Ne.symm hn)).trans (hW.block b hb))
  have hsz : (w4.setCell ⟨tb, 6, none⟩ (.slice (some ⟨g4, 0, none⟩) (t.ms.length + 1) cap4)).heap.size = w4.heap.size := by simp [World.setCell]
  have hs4 := hgrow.size
  have hs1 := hW.size
  refine ⟨D, k, n, a, m, d, base, ?_, h2.keep (by omega) (fun b hb => hk b (h2.2 b hb).2 (nown b (h6 b hb)) (by have := (h2.2 b hb).1; omega)), h3, h4, by omega, h6, ?_, ?_⟩
  · have ha : At w4 tb (trO t k n a m d v) := (h1.then_ hW).grow hgrow (nown tb (by omega))
    have := ha.store 6 (.slice (some ⟨g4, 0, none⟩) (t.ms.length + 1) cap4)
    simpa using this
  · intro e
    have e' : g4 = g := by simpa [Value.ownBlock] using e
    subst e'
    rcases hlies with h | h
    · exact h7 h
    · omega
  · have := own_kept (w' := w4.setCell ⟨tb, 6, none⟩ (.slice (some ⟨g4, 0, none⟩) (t.ms.length + 1) cap4)) hown (fun b hb => Below.heap_setCell w4 ⟨tb, 6, none⟩ _ b (by have := (own_lt hown hb).1; show b ≠ tb; omega))
    simpa using this
theorem grow_rd {W W1 w4 : World} {g tb : Nat} {S : ByteArray} {l : List Tok} {o : Nat} {row : Option Nat} (h : RdAt W g S l o) (hW : Below W.heap.size W W1) (hg : W1.grownBy w4 row) (hn : row ≠ some g) (htg : tb < g) (i : Nat) (u : Value) : RdAt (w4.setCell ⟨tb, i, none⟩ u) g S l o := by
  obtain ⟨a, n, hp, ha⟩ := h
  exact ⟨a, n, hp, ((ha.then_ hW).grow hg hn).apart (p := ⟨tb, i, none⟩) (by show g ≠ tb; omega) u⟩
theorem grow_bad {W W1 w4 : World} {g tb : Nat} {c : Int} {row : Option Nat} (h : BadAt W g c) (hW : Below W.heap.size W W1) (hg : W1.grownBy w4 row) (hn : row ≠ some g) (htg : tb < g) (i : Nat) (u : Value) : BadAt (w4.setCell ⟨tb, i, none⟩ u) g c := by
  obtain ⟨S, a, n, o, ha⟩ := h
  exact ⟨S, a, n, o, ((ha.then_ hW).grow hg hn).apart (p := ⟨tb, i, none⟩) (by show g ≠ tb; omega) u⟩
theorem grow_bel {w W W1 w4 : World} {tb : Nat} {row : Option Nat} (h : Below tb w W) (ht : tb ≤ W.heap.size) (hW : Below W.heap.size W W1) (hg : W1.grownBy w4 row) (hn : ∀ b, row = some b → tb ≤ b) (i : Nat) (u : Value) : Below tb w (w4.setCell ⟨tb, i, none⟩ u) :=
  below_set ((h.trans (hW.mono ht)).grown hg (by have := hW.size; omega) hn) (Nat.le_refl _) u
set_option maxHeartbeats 8000000 in
theorem row_4 {S : ByteArray} {g tb f : Nat} {t : PRule} {v : Value} {w : World} (i : Nat) (hi4 : 4 ≤ i) (hib : i ≤ 4000) (h : At w g (rd S 0 0 0 0)) (ht : Tr w tb g t v) (hG : Glob g w) (htg : tb < g) (hs1 : 5 < tb) (hs2 : 6 < tb) (hS : S.size ≤ 140737488355328) (hml : t.ms.length ≤ 4000) :
    Calls Tryz.prog 101 #[.pointer (some ⟨g, 0, none⟩), .pointer (some ⟨tb, 0, none⟩), .int .i64 (i : Int)] w (RowPost g tb v w (rowP f i (toks S.data.toList) t)) := by
  obtain ⟨RR, hRR⟩ : ∃ RR, RR = rowP f i (toks S.data.toList) t := ⟨_, rfl⟩
  rw [← hRR]
  obtain ⟨l, hl⟩ : ∃ l, l = toks S.data.toList := ⟨_, rfl⟩
  rw [← hl] at hRR
  have HRR := Lib.hid hRR
  have CS := Lib.hid (rd_scan0 h (by omega))
  rw [← hl] at CS
  have HT := Lib.hid ht; have HG := Lib.hid hG
  have HGB := Lib.hid (fun W (k : Below tb w W) => glob_below hG k hs1 hs2)
  clear hRR hl h ht hG hs1 hs2
  go_enter Tryz.func101, Tryz.ntmps101
  go_wp2_with fail
  refine CS.out.mono ?_
  rintro e w1 ⟨rfl, hw⟩
  have R1 := Lib.hid (show RS g S l tb t v w w1 from ⟨HT.out.one hw.2 htg, hw.1, bel_one (Below.refl tb w) hw.2 htg (Nat.le_of_lt HT.out.lt)⟩)
  have R2 := Lib.hid (R1.out.then_ (below_new (Below.refl _ _) (.cells #[.string ⟨#[99, 97, 108, 101, 110, 100, 97, 114]⟩, .string ⟨#[101, 112, 111, 99, 104]⟩, .string ⟨#[99, 121, 99, 108, 101]⟩, .string ⟨#[108, 101, 97, 112]⟩, .string ⟨#[109, 111, 110, 116, 104]⟩] 9)))
  have c5 : (w1.alloc (.cells #[.string ⟨#[99, 97, 108, 101, 110, 100, 97, 114]⟩, .string ⟨#[101, 112, 111, 99, 104]⟩, .string ⟨#[99, 121, 99, 108, 101]⟩, .string ⟨#[108, 101, 97, 112]⟩, .string ⟨#[109, 111, 110, 116, 104]⟩] 9)).cell? ⟨w1.heap.size, 4, none⟩ = some (.string ⟨#[109, 111, 110, 116, 104]⟩) := (At.new w1 _).cell 4
  have hmn : min ((i : Int) : Int) 4 = 4 := by omega
  clear hw CS R1 HT
  go_upto_region 4 with fail
  clear c5 hmn
  generalize World.alloc w1 _ = W2 at R2 ⊢
  by_cases hk : hd l = [109, 111, 110, 116, 104]
  rotate_left
  · have HR := Lib.hid (show RR = .bad 4 by rw [HRR.out, rowP]; show (if hd l = kOf i then _ else _ : Res (List Tok)).bind _ = _; rw [if_neg (show ¬ hd l = kOf i from by rw [kOf_4 hi4]; exact hk)]; rfl)
    have CT := Lib.hid (show Calls Tryz.prog 124 #[.pointer (some ⟨g, 0, none⟩), .string ⟨#[109, 111, 110, 116, 104]⟩] W2 (fun e w' => e = .returned (.bool false) ∧ Went g S l 0 W2 w') from by
      have := rd_take [109, 111, 110, 116, 104] R2.out.rd (by omega); rw [decide_eq_false hk, if_neg hk] at this; exact this)
    clear hk HRR
    go_wp2_with fail
    refine CT.out.mono ?_
    rintro e w3 ⟨rfl, hw⟩
    have R3 := Lib.hid (R2.out.went hw htg)
    clear hw R2 CT
    have CF := Lib.hid (rd_fail 4 R3.out.rd)
    go_wp2_with fail
    refine CF.out.mono ?_
    rintro e w4 ⟨rfl, hf⟩
    have F4 := Lib.hid (R3.out.failed hf htg)
    clear hf R3 CF
    go_wp2_with fail
    go_ret
    exact (by rw [HR.out]; exact ⟨rfl, by decide, F4.out⟩)
  have HRR2 := Lib.hid (show RR = (restP f i l.tail t).bind fun p => if hd p.2 = [] then .good p.1 else .bad 4 by rw [HRR.out, rowP]; show (if hd l = kOf i then _ else _ : Res (List Tok)).bind _ = _; rw [if_pos (show hd l = kOf i from by rw [kOf_4 hi4]; exact hk)]; rfl)
  have CT := Lib.hid (show Calls Tryz.prog 124 #[.pointer (some ⟨g, 0, none⟩), .string ⟨#[109, 111, 110, 116, 104]⟩] W2 (fun e w' => e = .returned (.bool true) ∧ Went g S l.tail 0 W2 w') from by
    have := rd_take [109, 111, 110, 116, 104] R2.out.rd (by omega); rw [decide_eq_true hk, if_pos hk] at this; exact this)
  clear hk HRR
  go_wp2_with fail
  refine CT.out.mono ?_
  rintro e w3 ⟨rfl, hw⟩
  have R3 := Lib.hid (R2.out.went hw htg)
  clear hw R2 CT
  have j0 : ((i : Int) == 0) = false := by simp; omega
  have j1 : ((i : Int) == 1) = false := by simp; omega
  have j2 : ((i : Int) == 2) = false := by simp; omega
  have j3 : ((i : Int) == 3) = false := by simp; omega
  have HRR3 := Lib.hid (show RR = ((monP l.tail).bind fun p => .good ({ t with ms := t.ms ++ [p.1] }, p.2) : Res (PRule × List Tok)).bind fun p => if hd p.2 = [] then .good p.1 else .bad 4 by rw [HRR2.out, restP_4 hi4])
  obtain ⟨b9, hb9⟩ : ∃ b9, b9 = w3.heap.size := ⟨_, rfl⟩
  have N4 := Lib.hid (At.newAt w3 (moO ⟨#[]⟩ 0 0) b9 hb9)
  have R4 := Lib.hid (R3.out.then_ (below_new (Below.refl _ _) (moO ⟨#[]⟩ 0 0)))
  have K4 := Lib.hid (OneKept.of_below (b := g) (below_new (Below.refl _ w3) (moO ⟨#[]⟩ 0 0)))
  have hg9 : g ≠ b9 := by have := R3.out.rd.lt; omega
  have H9 := Lib.hid (show w3.heap.size ≤ b9 by omega)
  clear HRR2
  go_upto_region 8 with fail
  rw [← hb9]
  clear hb9
  generalize World.alloc w3 _ = W4 at N4 R4 K4 ⊢
  have CM := Lib.hid (rd_month R4.out.rd (HGB.out W4 R4.out.bel) hS)
  go_wp2_with fail
  refine CM.out.mono ?_
  generalize monP l.tail = R0 at HRR3
  intro e w5 hp
  cases R0 with
  | stuck => exact hp.elim
  | bad c =>
    obtain ⟨⟨X, a2, b2, rfl⟩, hc, hf⟩ := hp
    have HR := Lib.hid (show RR = .bad c by rw [HRR3.out]; rfl)
    have n5 := N4.out.oneKept hf.kept hg9.symm
    have z0 := n5.frozen 0; have z1 := n5.frozen 1; have z2 := n5.frozen 2; have zl := n5.lt; have y0 := n5.cell 0; have y1 := n5.cell 1; have y2 := n5.cell 2; simp at y0 y1 y2
    have N6 := Lib.hid (mo_store n5 (.string X) (.int .i64 a2) (.int .i64 b2))
    have hk6 : OneKept g w3 (((w5.setCell ⟨b9, 0, none⟩ (.string X)).setCell ⟨b9, 1, none⟩ (.int .i64 a2)).setCell ⟨b9, 2, none⟩ (.int .i64 b2)) := one_store (K4.out.trans hf.kept) H9.out _ _ _
    have TR6 := Lib.hid (R3.out.tr.one hk6 htg)
    have RDB := Lib.hid (Nat.lt_of_lt_of_le R3.out.rd.lt hk6.size)
    have BD6 := Lib.hid (bad_off hf.bad hg9 (.string X) (.int .i64 a2) (.int .i64 b2))
    have BL6 := Lib.hid (bel_one R3.out.bel hk6 htg (Nat.le_of_lt R3.out.tr.lt))
    clear hf n5 hk6 CM HRR3 N4 R4 K4 R3
    go_upto_region 9 with fail
    generalize World.setCell (World.setCell (World.setCell w5 _ _) _ _) _ _ = W6 at N6 TR6 RDB BD6 BL6 ⊢
    clear z0 z1 z2 zl y0 y1 y2
    obtain ⟨DD, k, n, aa, mm, dd, base, h1, h2, h3, h4, h5, h6, h7, h8⟩ := TR6.out
    have H1 := Lib.hid h1; have H2 := Lib.hid h2; have H3 := Lib.hid h3; have H6' := Lib.hid h6; have H7 := Lib.hid h7; have H8 := Lib.hid h8
    have hbz : tb < W6.heap.size := h1.lt
    have c6 : W6.cell? ⟨tb, 6, none⟩ = some v := h1.cell 6
    have c6d : W6.drew.cell? ⟨tb, 6, none⟩ = some v := h1.drew.cell 6
    have c6a : (W6.alloc (.cells #[.string X, .int .i64 a2, .int .i64 b2] 128)).cell? ⟨tb, 6, none⟩ = some v := (h1.alloc (.cells #[.string X, .int .i64 a2, .int .i64 b2] 128)).cell 6
    have c6e : (W6.drew.alloc (.cells #[.string X, .int .i64 a2, .int .i64 b2] 128)).cell? ⟨tb, 6, none⟩ = some v := (h1.drew.alloc (.cells #[.string X, .int .i64 a2, .int .i64 b2] 128)).cell 6
    have m0 : W6.cell? ⟨b9, 0, none⟩ = some (.string X) := N6.out.cell 0
    have m1 : W6.cell? ⟨b9, 1, none⟩ = some (.int .i64 a2) := N6.out.cell 1
    have m2 : W6.cell? ⟨b9, 2, none⟩ = some (.int .i64 b2) := N6.out.cell 2
    have d0 : W6.drew.cell? ⟨b9, 0, none⟩ = some (.string X) := N6.out.drew.cell 0
    have d1 : W6.drew.cell? ⟨b9, 1, none⟩ = some (.int .i64 a2) := N6.out.drew.cell 1
    have d2 : W6.drew.cell? ⟨b9, 2, none⟩ = some (.int .i64 b2) := N6.out.drew.cell 2
    obtain ⟨i0, hi, hz0, hz1, hz2⟩ := info_parts infoMon
    have HML := Lib.hid (show (t.ms.flatMap monC).length = t.ms.length * 3 from h8.1)
    obtain ⟨ML, hML⟩ : ∃ ML, ML = t.ms.length := ⟨_, rfl⟩
    rw [← hML] at H8 hml
    have HMLL := Lib.hid hML
    clear h1 h2 h3 h6 h7 h8 hML
    go_region_law
      (first
        | (refine step_append_lies _ (by rfl) _ _ _ (by rfl) base 128 i0 _ 3 32 Tryz.underlying89 hi hz0 hz1 hz2 rfl (by omega) v ML (t.ms.flatMap monC) (by rfl) (H8.out.alloc _) ⟨W6.heap.size, 0, none⟩ 1 1 [.string X, .int .i64 a2, .int .i64 b2] (by rfl) (by rfl) (World.news_of_block (cs := #[.string X, .int .i64 a2, .int .i64 b2]) (t := 128) (fr := (0, 0)) (heap_alloc_new W6 _)) (by simp [Value.oneCell']) (by omega) (by unfold maxLen; omega) (by omega) (by simp; omega) _ rfl ?_; intro g4 cap4 w7 hown' hgrow hlies hglt; have a7 := (H1.out.alloc (.cells #[.string X, .int .i64 a2, .int .i64 b2] 128)).grow hgrow (fun e => by have := (own_lt H8.out e).1; omega); have y4 : w7.frozen? ⟨tb, 6, none⟩ = false := a7.frozen 6; have y5 : w7.cell? ⟨tb, 6, none⟩ = some v := a7.cell 6; have y6 : tb < w7.heap.size := a7.lt)
        | (refine step_append_lies _ (by rfl) _ _ _ (by rfl) base 128 i0 _ 3 32 Tryz.underlying89 hi hz0 hz1 hz2 rfl (by omega) v ML (t.ms.flatMap monC) (by rfl) ((show W6.drew.ownsRow base 128 3 v ML (t.ms.flatMap monC) from H8.out).alloc _) ⟨W6.heap.size, 0, none⟩ 1 1 [.string X, .int .i64 a2, .int .i64 b2] (by rfl) (by rfl) (World.news_of_block (cs := #[.string X, .int .i64 a2, .int .i64 b2]) (t := 128) (fr := (0, 0)) (heap_alloc_new W6.drew _)) (by simp [Value.oneCell']) (by omega) (by unfold maxLen; omega) (by omega) (by simp; omega) _ rfl ?_; intro g4 cap4 w7 hown' hgrow hlies hglt; have a7 := (H1.out.drew.alloc (.cells #[.string X, .int .i64 a2, .int .i64 b2] 128)).grow hgrow (fun e => by have := (own_lt H8.out e).1; omega); have y4 : w7.frozen? ⟨tb, 6, none⟩ = false := a7.frozen 6; have y5 : w7.cell? ⟨tb, 6, none⟩ = some v := a7.cell 6; have y6 : tb < w7.heap.size := a7.lt))
    all_goals
      have hgl : g < W6.heap.size := by have := RDB.out; omega
      have hML := HMLL.out
      subst hML
      have hW1 : Below W6.heap.size W6 (W6.drew.alloc (.cells #[.string X, .int .i64 a2, .int .i64 b2] 128)) := below_new (Below.refl _ _).drew _
      have hnb : ∀ b, v.ownBlock = some b → tb ≤ b := fun b e => by have := (own_lt H8.out e).1; omega
      have F9 := Lib.hid (show FS g c tb w (w7.setCell ⟨tb, 6, none⟩ (.slice (some ⟨g4, 0, none⟩) (t.ms.length + 1) cap4)) from ⟨grow_bad BD6.out hW1 hgrow H7.out htg 6 _, grow_bel BL6.out (Nat.le_of_lt hbz) hW1 hgrow hnb 6 _⟩)
      generalize World.setCell w7 _ _ = W9 at F9 ⊢
      clear y4 y5 y6 c6 c6d c6a c6e m0 m1 m2 d0 d1 d2
      go_wp2_with fail
      go_ret
      exact (by rw [HR.out]; exact ⟨rfl, hc, F9.out⟩)
  | good p =>
    obtain ⟨x, l2⟩ := p
    obtain ⟨rfl, hL⟩ := hp
    have HG2 := Lib.hid (show RR = if hd l2 = [] then .good { t with ms := t.ms ++ [x] } else .bad 4 by rw [HRR3.out]; rfl)
    obtain ⟨xn, a2, b2⟩ := x
    obtain ⟨X, hX⟩ : ∃ X, X = tkS xn := ⟨_, rfl⟩
    have HX := Lib.hid hX
    simp only at hL ⊢
    rw [← hX]
    clear hX
    have n5 := N4.out.oneKept hL.kept hg9.symm
    have z0 := n5.frozen 0; have z1 := n5.frozen 1; have z2 := n5.frozen 2; have zl := n5.lt; have y0 := n5.cell 0; have y1 := n5.cell 1; have y2 := n5.cell 2; simp at y0 y1 y2
    have N6 := Lib.hid (mo_store n5 (.string X) (.int .i64 a2) (.int .i64 b2))
    have hk6 : OneKept g w3 (((w5.setCell ⟨b9, 0, none⟩ (.string X)).setCell ⟨b9, 1, none⟩ (.int .i64 a2)).setCell ⟨b9, 2, none⟩ (.int .i64 b2)) := one_store (K4.out.trans hL.kept) H9.out _ _ _
    have TR6 := Lib.hid (R3.out.tr.one hk6 htg)
    have RDB := Lib.hid (Nat.lt_of_lt_of_le R3.out.rd.lt hk6.size)
    have RD6 := Lib.hid (rd_off hL.rd hg9 (.string X) (.int .i64 a2) (.int .i64 b2))
    have BL6 := Lib.hid (bel_one R3.out.bel hk6 htg (Nat.le_of_lt R3.out.tr.lt))
    clear hL n5 hk6 CM HRR3 N4 R4 K4 R3
    go_upto_region 9 with fail
    generalize World.setCell (World.setCell (World.setCell w5 _ _) _ _) _ _ = W6 at N6 TR6 RDB RD6 BL6 ⊢
    clear z0 z1 z2 zl y0 y1 y2
    obtain ⟨DD, k, n, aa, mm, dd, base, h1, h2, h3, h4, h5, h6, h7, h8⟩ := TR6.out
    have H1 := Lib.hid h1; have H2 := Lib.hid h2; have H3 := Lib.hid h3; have H6' := Lib.hid h6; have H7 := Lib.hid h7; have H8 := Lib.hid h8
    have hbz : tb < W6.heap.size := h1.lt
    have c6 : W6.cell? ⟨tb, 6, none⟩ = some v := h1.cell 6
    have c6d : W6.drew.cell? ⟨tb, 6, none⟩ = some v := h1.drew.cell 6
    have c6a : (W6.alloc (.cells #[.string X, .int .i64 a2, .int .i64 b2] 128)).cell? ⟨tb, 6, none⟩ = some v := (h1.alloc (.cells #[.string X, .int .i64 a2, .int .i64 b2] 128)).cell 6
    have c6e : (W6.drew.alloc (.cells #[.string X, .int .i64 a2, .int .i64 b2] 128)).cell? ⟨tb, 6, none⟩ = some v := (h1.drew.alloc (.cells #[.string X, .int .i64 a2, .int .i64 b2] 128)).cell 6
    have m0 : W6.cell? ⟨b9, 0, none⟩ = some (.string X) := N6.out.cell 0
    have m1 : W6.cell? ⟨b9, 1, none⟩ = some (.int .i64 a2) := N6.out.cell 1
    have m2 : W6.cell? ⟨b9, 2, none⟩ = some (.int .i64 b2) := N6.out.cell 2
    have d0 : W6.drew.cell? ⟨b9, 0, none⟩ = some (.string X) := N6.out.drew.cell 0
    have d1 : W6.drew.cell? ⟨b9, 1, none⟩ = some (.int .i64 a2) := N6.out.drew.cell 1
    have d2 : W6.drew.cell? ⟨b9, 2, none⟩ = some (.int .i64 b2) := N6.out.drew.cell 2
    obtain ⟨i0, hi, hz0, hz1, hz2⟩ := info_parts infoMon
    have HML := Lib.hid (show (t.ms.flatMap monC).length = t.ms.length * 3 from h8.1)
    obtain ⟨ML, hML⟩ : ∃ ML, ML = t.ms.length := ⟨_, rfl⟩
    rw [← hML] at H8 hml
    have HMLL := Lib.hid hML
    clear h1 h2 h3 h6 h7 h8 hML
    go_region_law
      (first
        | (refine step_append_lies _ (by rfl) _ _ _ (by rfl) base 128 i0 _ 3 32 Tryz.underlying89 hi hz0 hz1 hz2 rfl (by omega) v ML (t.ms.flatMap monC) (by rfl) (H8.out.alloc _) ⟨W6.heap.size, 0, none⟩ 1 1 [.string X, .int .i64 a2, .int .i64 b2] (by rfl) (by rfl) (World.news_of_block (cs := #[.string X, .int .i64 a2, .int .i64 b2]) (t := 128) (fr := (0, 0)) (heap_alloc_new W6 _)) (by simp [Value.oneCell']) (by omega) (by unfold maxLen; omega) (by omega) (by simp; omega) _ rfl ?_; intro g4 cap4 w7 hown' hgrow hlies hglt; have a7 := (H1.out.alloc (.cells #[.string X, .int .i64 a2, .int .i64 b2] 128)).grow hgrow (fun e => by have := (own_lt H8.out e).1; omega); have y4 : w7.frozen? ⟨tb, 6, none⟩ = false := a7.frozen 6; have y5 : w7.cell? ⟨tb, 6, none⟩ = some v := a7.cell 6; have y6 : tb < w7.heap.size := a7.lt)
        | (refine step_append_lies _ (by rfl) _ _ _ (by rfl) base 128 i0 _ 3 32 Tryz.underlying89 hi hz0 hz1 hz2 rfl (by omega) v ML (t.ms.flatMap monC) (by rfl) ((show W6.drew.ownsRow base 128 3 v ML (t.ms.flatMap monC) from H8.out).alloc _) ⟨W6.heap.size, 0, none⟩ 1 1 [.string X, .int .i64 a2, .int .i64 b2] (by rfl) (by rfl) (World.news_of_block (cs := #[.string X, .int .i64 a2, .int .i64 b2]) (t := 128) (fr := (0, 0)) (heap_alloc_new W6.drew _)) (by simp [Value.oneCell']) (by omega) (by unfold maxLen; omega) (by omega) (by simp; omega) _ rfl ?_; intro g4 cap4 w7 hown' hgrow hlies hglt; have a7 := (H1.out.drew.alloc (.cells #[.string X, .int .i64 a2, .int .i64 b2] 128)).grow hgrow (fun e => by have := (own_lt H8.out e).1; omega); have y4 : w7.frozen? ⟨tb, 6, none⟩ = false := a7.frozen 6; have y5 : w7.cell? ⟨tb, 6, none⟩ = some v := a7.cell 6; have y6 : tb < w7.heap.size := a7.lt))
    all_goals
      have hgl : g < W6.heap.size := by have := RDB.out; omega
      have hML := HMLL.out
      subst hML
      have hW1 : Below W6.heap.size W6 (W6.drew.alloc (.cells #[.string X, .int .i64 a2, .int .i64 b2] 128)) := below_new (Below.refl _ _).drew _
      have hnb : ∀ b, v.ownBlock = some b → tb ≤ b := fun b e => by have := (own_lt H8.out e).1; omega
      have R9 := Lib.hid (show RS g S l2 tb { t with ms := t.ms ++ [(xn, a2, b2)] } (.slice (some ⟨g4, 0, none⟩) (t.ms.length + 1) cap4) w (w7.setCell ⟨tb, 6, none⟩ (.slice (some ⟨g4, 0, none⟩) (t.ms.length + 1) cap4)) from ⟨Tr.app htg H1.out H2.out H3.out h4 h5 H6'.out H7.out H8.out hW1 (xn, a2, b2) (by have := hown'; rw [HX.out] at this; exact this) hgrow (by rcases hlies with h | h; exact .inl h; exact .inr (by rw [h]; exact hW1.size)) hgl, grow_rd RD6.out hW1 hgrow H7.out htg 6 _, grow_bel BL6.out (Nat.le_of_lt hbz) hW1 hgrow hnb 6 _⟩)
      generalize World.setCell w7 _ _ = W9 at R9 ⊢
      clear y4 y5 y6 c6 c6d c6a c6e m0 m1 m2 d0 d1 d2
      have CK := Lib.hid (rd_token R9.out.rd (by omega))
      obtain ⟨Y, hY⟩ : ∃ Y, Y = tkS (hd l2) := ⟨_, rfl⟩
      rw [← hY] at CK
      by_cases he : hd l2 = []
      · have HR := Lib.hid (show RR = .good { t with ms := t.ms ++ [(xn, a2, b2)] } by rw [HG2.out, if_pos he])
        obtain rfl : Y = ⟨#[]⟩ := by rw [hY, he]
        clear he hY HG2
        go_wp2_with fail
        refine CK.out.mono ?_
        rintro e w8 ⟨rfl, hb⟩
        have R8 := Lib.hid (R9.out.then_ hb)
        clear hb
        go_wp2_with fail
        go_ret
        exact (by rw [HR.out]; exact ⟨rfl, ⟨_, (fun h => by first | rfl | (simp at h)), R8.out.tr⟩, R8.out.bel⟩)
      · have HR := Lib.hid (show RR = .bad 4 by rw [HG2.out, if_neg he])
        have hne := str_ne Y (by rw [hY, tkS_len]; exact List.length_pos_iff.2 he)
        clear he hY HG2
        go_wp2_with fail
        refine CK.out.mono ?_
        rintro e w8 ⟨rfl, hb⟩
        have R8 := Lib.hid (R9.out.then_ hb)
        clear hb
        have CF := Lib.hid (rd_fail 4 R8.out.rd)
        go_wp2_with fail
        refine CF.out.mono ?_
        rintro e w9 ⟨rfl, hf⟩
        have F9 := Lib.hid (R8.out.failed hf htg)
        clear hf
        go_wp2_with fail
        go_ret
        exact (by rw [HR.out]; exact ⟨rfl, by decide, F9.out⟩)
end Go.Proofs.YtdmkghgachapaabGreatDoor

set_option linter.unusedSimpArgs false
namespace Go.Proofs.YtdmkghgachapaabGreatDoor
set_option linter.unusedVariables false
theorem linesOf_cut : ∀ l : List UInt8, l ≠ [] → linesOf l = cutL l 10 :: linesOf (cutR l 10)
  | [], h => absurd rfl h
  | c :: r, _ => by
    by_cases hc : c = 10
    · subst hc
      have h1 : cutL ((10 : UInt8) :: r) 10 = [] := by unfold cutL; rw [List.takeWhile_cons_of_neg (by simp)]
      have h2 : cutR ((10 : UInt8) :: r) 10 = r := by unfold cutR; rw [List.dropWhile_cons_of_neg (by simp)]; rfl
      rw [h1, h2, linesOf, if_pos rfl]
    · have hb : (c != 10) = true := by simpa using hc
      have h1 : cutL (c :: r) 10 = c :: cutL r 10 := by unfold cutL; rw [List.takeWhile_cons_of_pos (p := fun x => x != 10) hb]
      have h2 : cutR (c :: r) 10 = cutR r 10 := by unfold cutR; rw [List.dropWhile_cons_of_pos (p := fun x => x != 10) hb]
      rw [linesOf, if_neg hc, h1, h2]
      cases r with
      | nil => rfl
      | cons d r' => rw [linesOf_cut (d :: r') (by simp)]
theorem cutR_lt (l : List UInt8) (h : l ≠ []) : (cutR l 10).length < l.length := by
  unfold cutR
  have h1 : (l.dropWhile (· != 10)).length ≤ l.length := (List.dropWhile_suffix _).length_le
  rw [List.length_drop]
  cases l with
  | nil => exact absurd rfl h
  | cons a r => simp only [List.length_cons] at h1 ⊢; omega
theorem cutL_le (l : List UInt8) : (cutL l 10).length ≤ l.length := by
  unfold cutL; exact (List.takeWhile_prefix _).length_le
theorem toks_len : ∀ (n : Nat) (s : List UInt8), s.length ≤ n → ∀ t ∈ toks s, t.length ≤ s.length
  | _, [], _, t, h => by simp [toks] at h
  | 0, c :: r, hn, t, h => by simp at hn
  | n + 1, c :: r, hn, t, h => by
    have hr : r.length ≤ n := by simpa using hn
    by_cases hb : c = 32
    · rw [toks, if_pos hb] at h
      have := toks_len n r hr t h
      simp only [List.length_cons]; omega
    by_cases h0 : cls c = 0
    · rw [toks_one r h0 hb] at h
      rcases List.mem_cons.1 h with rfl | h
      · simp
      · have := toks_len n r hr t h
        simp only [List.length_cons]; omega
    · rw [toks_run (cls c) h0 r c rfl] at h
      rcases List.mem_cons.1 h with rfl | h
      · rw [List.length_take]; omega
      · have h2 : ((c :: r).drop (runLen (fun d => decide (cls d = cls c)) (c :: r))).length ≤ n := by
          rw [List.length_drop, runLen, if_pos (decide_eq_true rfl)]
          simp; omega
        have := toks_len n _ h2 t h
        rw [List.length_drop] at this
        omega
def OKt (t : PRule) : Prop := t.nm.length ≤ 4000 ∧ ∀ m ∈ t.ms, m.1.length ≤ 4000 ∧ (-9999999999 ≤ m.2.1 ∧ m.2.1 ≤ 9999999999) ∧ (-9999999999 ≤ m.2.2 ∧ m.2.2 ≤ 9999999999)
def okL (l : List Tok) : Prop := ∀ t ∈ l, okT t ∧ t.length ≤ 4000
theorem okL.tail {l : List Tok} (h : okL l) : okL l.tail := fun t ht => h t (List.mem_of_mem_tail ht)
theorem okL.hd {l : List Tok} (h : okL l) : (hd l).length ≤ 4000 := by
  cases l with
  | nil => simp [Go.Proofs.YtdmkghgachapaabGreatDoor.hd]
  | cons t r => exact (h t (by simp)).2
theorem okL_toks {s : List UInt8} (h : s.length ≤ 4000) : okL (toks s) := fun t ht => ⟨toks_ok _ s (Nat.le_refl _) t ht, Nat.le_trans (toks_len _ s (Nat.le_refl _) t ht) h⟩
theorem natP_rest {l : List Tok} {p : Int × List Tok} (h : natP l = .good p) : p.2 = l.tail := by
  rcases natP_cases l with ⟨c, e⟩ | ⟨n, e⟩
  · rw [e] at h; cases h
  · rw [e] at h; injection h with h; subst h; rfl
theorem signP_rest {l : List Tok} {p : Int × List Tok} (h : signP l = .good p) : p.2 = l.tail ∨ p.2 = l.tail.tail := by
  unfold signP at h
  split at h
  · rcases natP_cases l.tail with ⟨c, e⟩ | ⟨n, e⟩
    · rw [e] at h; cases h
    · rw [e] at h; injection h with h; subst h; exact .inr rfl
  · exact .inl (natP_rest h)
theorem signP_ok {l : List Tok} {p : Int × List Tok} (h : signP l = .good p) (ho : okL l) : (-9999999999 ≤ p.1 ∧ p.1 ≤ 9999999999) ∧ okL p.2 := by
  refine ⟨signP_in h fun t ht => (ho t ht).1, ?_⟩
  rcases signP_rest h with e | e
  · rw [e]; exact ho.tail
  · rw [e]; exact ho.tail.tail
theorem monP_ok {l : List Tok} {p : PMon × List Tok} (h : monP l = .good p) (ho : okL l) : p.1.1.length ≤ 4000 ∧ (-9999999999 ≤ p.1.2.1 ∧ p.1.2.1 ≤ 9999999999) ∧ (-9999999999 ≤ p.1.2.2 ∧ p.1.2.2 ≤ 9999999999) := by
  unfold monP at h
  rcases wordP_cases l with ew | ew
  · rw [ew] at h; cases h
  rw [ew] at h
  replace h : ((signP l.tail).bind fun q => if hd q.2 = [] then .good ((hd l, q.1, q.1), q.2) else (signP q.2).bind fun s => .good ((hd l, q.1, s.1), s.2) : Res (PMon × List Tok)) = .good p := h
  rcases signP_cases l.tail with ⟨c, es⟩ | ⟨q, es⟩
  · rw [es] at h; cases h
  have h1 := signP_ok es ho.tail
  rw [es] at h
  replace h : (if hd q.2 = [] then .good ((hd l, q.1, q.1), q.2) else (signP q.2).bind fun s => .good ((hd l, q.1, s.1), s.2) : Res (PMon × List Tok)) = .good p := h
  by_cases he : hd q.2 = []
  · rw [if_pos he] at h
    injection h with h; subst h
    exact ⟨ho.hd, h1.1, h1.1⟩
  · rw [if_neg he] at h
    rcases signP_cases q.2 with ⟨c, es2⟩ | ⟨s, es2⟩
    · rw [es2] at h; cases h
    have h2 := signP_ok es2 h1.2
    rw [es2] at h
    injection h with h; subst h
    exact ⟨ho.hd, h1.1, h2.1⟩
theorem restP_ok {f i : Nat} {l : List Tok} {t : PRule} {p : PRule × List Tok} (h : restP f i l t = .good p) (ho : okL l) (ht : OKt t) : OKt p.1 ∧ (i ≤ 3 → p.1.ms = t.ms) ∧ p.1.ms.length ≤ t.ms.length + 1 := by
  match i with
  | 0 =>
    rcases wordP_cases l with ew | ew
    · rw [restP, ew] at h; cases h
    · rw [restP, ew] at h; injection h with h; subst h
      exact ⟨⟨ho.hd, ht.2⟩, fun _ => rfl, by simp⟩
  | 1 =>
    rcases signP_cases l with ⟨c, ew⟩ | ⟨q, ew⟩
    · rw [restP, ew] at h; cases h
    · rw [restP, ew] at h; injection h with h; subst h
      exact ⟨⟨ht.1, ht.2⟩, fun _ => rfl, by simp⟩
  | 2 =>
    rcases signP_cases l with ⟨c, ew⟩ | ⟨q, ew⟩
    · rw [restP, ew] at h; cases h
    · rw [restP, ew] at h; injection h with h; subst h
      exact ⟨⟨ht.1, ht.2⟩, fun _ => rfl, by simp⟩
  | 3 =>
    rw [restP] at h
    cases he : expP f 0 l 0 with
    | stuck => rw [he] at h; cases h
    | bad c => rw [he] at h; cases h
    | good q => rw [he] at h; injection h with h; subst h; exact ⟨⟨ht.1, ht.2⟩, fun _ => rfl, by simp⟩
  | j + 4 =>
    rw [restP_4 (by omega)] at h
    cases he : monP l with
    | stuck => rw [he] at h; cases h
    | bad c => rw [he] at h; cases h
    | good q =>
      rw [he] at h; injection h with h; subst h
      refine ⟨⟨ht.1, fun m hm => ?_⟩, fun h => by omega, by simp⟩
      rcases List.mem_append.1 hm with hm | hm
      · exact ht.2 m hm
      · rw [List.mem_singleton] at hm; subst hm; exact monP_ok he ho
theorem rowP_ok {f i : Nat} {l : List Tok} {t t' : PRule} (h : rowP f i l t = .good t') (ho : okL l) (ht : OKt t) : OKt t' ∧ (i ≤ 3 → t'.ms = t.ms) ∧ t'.ms.length ≤ t.ms.length + 1 := by
  unfold rowP needP at h
  by_cases hk : hd l = kOf i
  · rw [if_pos hk] at h
    replace h : ((restP f i l.tail t).bind fun p => if hd p.2 = [] then .good p.1 else .bad 4 : Res PRule) = .good t' := h
    cases he : restP f i l.tail t with
    | stuck => rw [he] at h; cases h
    | bad c => rw [he] at h; cases h
    | good p =>
      rw [he] at h
      replace h : (if hd p.2 = [] then .good p.1 else .bad 4 : Res PRule) = .good t' := h
      by_cases h2 : hd p.2 = []
      · rw [if_pos h2] at h; injection h with h; subst h; exact restP_ok he ho.tail ht
      · rw [if_neg h2] at h; cases h
  · rw [if_neg hk] at h; cases h
theorem row3_stuck {f : Nat} {l : List Tok} {t : PRule} (h : rowP f 3 l t ≠ .stuck) : hd l = [108, 101, 97, 112] → expP f 0 l.tail 0 ≠ .stuck := by
  intro hk he
  refine h ?_
  unfold rowP needP
  rw [if_pos (show hd l = kOf 3 from hk)]
  show (restP f 3 l.tail t).bind _ = _
  rw [restP, he]; rfl
end Go.Proofs.YtdmkghgachapaabGreatDoor
