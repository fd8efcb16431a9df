/- One step of (*reader).leaf. -/
import Derived.Test.YtchahccnmjaejacDoorPar6
namespace Go.Proofs.YtchahccnmjaejacDoor
set_option linter.unusedVariables false
set_option maxRecDepth 100000
open Go.RowKit Go.Shelf

/-- The world in the course of a reading call that began at w. -/
structure LW (g : Nat) (S : ByteArray) (l : List Tok) (o : Nat) (w W : World) : Prop where
  kept : OneKept g w W
  rd : RdAt W g S l o
  gl : Glob g W
structure FW (g : Nat) (c : Int) (w W : World) : Prop where
  kept : OneKept g w W
  bad : BadAt W g c
theorem LW.went {g : Nat} {S : ByteArray} {l l' : List Tok} {o o' : Nat} {w W W' : World} (h : LW g S l o w W) (k : Went g S l' o' W W') : LW g S l' o' w W' := ⟨h.kept.trans k.2, k.1, h.gl.keep k.2⟩
theorem LW.failed {g : Nat} {S : ByteArray} {l : List Tok} {o : Nat} {c : Int} {w W W' : World} (h : LW g S l o w W) (k : Failed g c W W') : FW g c w W' := ⟨h.kept.trans k.2, k.1⟩
theorem LW.then_ {g : Nat} {S : ByteArray} {l : List Tok} {o : Nat} {w W W' : World} (h : LW g S l o w W) (k : Below W.heap.size W W') : LW g S l o w W' := ⟨h.kept.then_ k, h.rd.then_ k, h.gl.keep (.of_below k)⟩
theorem FW.then_ {g : Nat} {c : Int} {w W W' : World} (h : FW g c w W) (k : Below W.heap.size W W') : FW g c w W' := ⟨h.kept.then_ k, h.bad.then_ k⟩
theorem glob_store {g : Nat} {w : World} {b : Nat} (h : Glob g w) (hw : ∃ a : World, OneKept g a w ∧ Glob g a ∧ a.heap.size ≤ b) (k' n' s' : Value) : Glob g (((w.setCell ⟨b, 0, none⟩ k').setCell ⟨b, 1, none⟩ n').setCell ⟨b, 2, none⟩ s') := by
  obtain ⟨a, h1, h2, h3⟩ := hw
  exact h2.keep (one_store h1 h3 k' n' s')
theorem LW.store3 {g : Nat} {S : ByteArray} {l : List Tok} {o : Nat} {w W : World} (h : LW g S l o w W) (hw : Glob g w) {b : Nat} (hb : w.heap.size ≤ b) (hg : g ≠ b) (k' n' s' : Value) :
    LW g S l o w (((W.setCell ⟨b, 0, none⟩ k').setCell ⟨b, 1, none⟩ n').setCell ⟨b, 2, none⟩ s') := ⟨one_store h.kept hb k' n' s', rd_off h.rd hg k' n' s', hw.keep (one_store h.kept hb k' n' s')⟩
theorem FW.store3 {g : Nat} {c : Int} {w W : World} (h : FW g c w W) {b : Nat} (hb : w.heap.size ≤ b) (hg : g ≠ b) (k' n' s' : Value) :
    FW g c w (((W.setCell ⟨b, 0, none⟩ k').setCell ⟨b, 1, none⟩ n').setCell ⟨b, 2, none⟩ s') := ⟨one_store h.kept hb k' n' s', bad_off h.bad hg k' n' s'⟩
theorem LW.refl {g : Nat} {S : ByteArray} {l : List Tok} {o : Nat} {w : World} (h : RdAt w g S l o) (hG : Glob g w) : LW g S l o w w := ⟨OneKept.refl g w, h, hG⟩
theorem LW.open_ {g : Nat} {S : ByteArray} {l : List Tok} {o : Nat} {w W : World} (h : LW g S l o w W) (o' : Nat) : LW g S l o' w (W.setCell ⟨g, 3, none⟩ (.int .i64 o')) := by
  obtain ⟨a, n, hp, ha⟩ := h.rd
  exact ⟨h.kept.set 3 _, ⟨a, n, hp, rd_open ha o'⟩, h.gl.keep (oneKept_set W g 3 _)⟩
theorem LW.openc {g : Nat} {S : ByteArray} {l : List Tok} {o : Nat} {w W : World} (h : LW g S l o w W) : W.cell? ⟨g, 3, none⟩ = some (.int .i64 o) ∧ W.frozen? ⟨g, 3, none⟩ = false ∧ g < W.heap.size := by
  obtain ⟨a, n, hp, ha⟩ := h.rd
  exact ⟨ha.cell 3, ha.frozen 3, ha.lt⟩
theorem FW.openc {g : Nat} {c : Int} {w W : World} (h : FW g c w W) : ∃ o : Int, W.cell? ⟨g, 3, none⟩ = some (.int .i64 o) ∧ W.frozen? ⟨g, 3, none⟩ = false ∧ g < W.heap.size := by
  obtain ⟨S, a, n, o, ha⟩ := h.bad
  exact ⟨o, ha.cell 3, ha.frozen 3, ha.lt⟩
theorem FW.open_ {g : Nat} {c : Int} {w W : World} (h : FW g c w W) (o' : Int) : FW g c w (W.setCell ⟨g, 3, none⟩ (.int .i64 o')) := by
  obtain ⟨S, a, n, o, ha⟩ := h.bad
  exact ⟨h.kept.set 3 _, ⟨S, a, n, o', ha.store 3 _⟩⟩
theorem EPost.good_ {g : Nat} {S : ByteArray} {o : Nat} {w w' : World} {t : Tree} {l : List Tok} {v : Value} {D : Nat → Prop} (h : TG w.heap.size D w' t v) (k : Went g S l o w w') : EPost g S o w (.good (t, l)) (.returned (.tuple #[v, .bool true])) w' := ⟨⟨v, D, rfl, h⟩, k⟩
theorem EPost.bad_ {g : Nat} {S : ByteArray} {o : Nat} {w w' : World} {c : Int} {k n : Int} {a : Option Addr} {m d : Nat} (hc : c ≠ 0) (h : FW g c w w') : EPost g S o w (.bad c) (.returned (.tuple #[.agg #[.int .i64 k, .int .i64 n, .slice a m d], .bool false])) w' := ⟨⟨k, n, a, m, d, rfl⟩, hc, h.bad, h.kept⟩
set_option maxHeartbeats 8000000 in
theorem leaf_step {g : Nat} {S : ByteArray} {f : Nat} (hS : S.size ≤ 140737488355328) (IH : ExprOk g S f) : LeafOk g S (f + 1) := by
  intro l o w ho hns h hG
  have hgw := h.lt
  have HG := Lib.hid hG
  have H0 := Lib.hid ((LW.refl h hG).then_ (below_new (Below.refl _ _) zeroE))
  obtain ⟨B, hB⟩ : ∃ B, B = w.heap.size := ⟨_, rfl⟩
  have HA0 : At (w.alloc zeroE) B zeroE := At.newAt w zeroE B hB
  have HA0 := Lib.hid HA0
  have HBB := Lib.hid (show w.heap.size ≤ B by omega)
  have hgB : g ≠ B := by omega
  obtain ⟨RR, hRR⟩ : ∃ RR, RR = leafP (f + 1) l o := ⟨_, rfl⟩
  rw [← hRR]
  clear h hG hgw
  by_cases c1 : hd l = [121]
  · have HR := Lib.hid (show RR = .good (.node 2 0 [], l.tail) by rw [hRR, leafP, if_pos c1])
    have CT := Lib.hid (fun W (hW : LW g S l o w W) => show Calls Tryd.prog 22 #[.pointer (some ⟨g, 0, none⟩), .string ⟨#[121]⟩] W (fun e w' => e = .returned (.bool true) ∧ Went g S l.tail o W w') from by
      have := rd_take [121] hW.rd (by omega); rw [decide_eq_true c1, if_pos c1] at this; exact this)
    clear hRR hns c1
    go_enter Tryd.func47, Tryd.ntmps47
    go_upto_region 1 with fail
    rw [← hB]
    clear hB
    generalize World.alloc w _ = W0 at HA0 H0 ⊢
    go_wp2_with fail
    refine (CT.out _ H0.out).mono ?_
    rintro e w1 ⟨rfl, hw⟩
    have H1 := Lib.hid (H0.out.went hw)
    have a1 := HA0.out.oneKept hw.2 hgB.symm
    clear hw H0 HA0 CT
    have z0 := a1.frozen 0; have z1 := a1.frozen 1; have z2 := a1.frozen 2; have zl := a1.lt; have y0 := a1.cell 0; have y1 := a1.cell 1; have y2 := a1.cell 2; simp at y0 y1 y2
    have F1 := Lib.hid (ex_store a1 (.int .i64 2) (.int .i64 0) (.slice none 0 0))
    have F2 := Lib.hid ((H1.out).store3 HG.out (b := B) HBB.out hgB (.int .i64 2) (.int .i64 0) (.slice none 0 0))
    clear a1
    go_wp2_with fail
    generalize World.setCell (World.setCell (World.setCell w1 _ _) _ _) _ _ = W9 at F1 F2 ⊢
    have e0 := F1.out.cell 0; have e1 := F1.out.cell 1; have e2 := F1.out.cell 2
    simp at e0 e1 e2
    (try simp only [Exit.inBlock, Exit.then])
    refine bodyPost_ret (v := .tuple #[.agg #[.int .i64 2, .int .i64 0, .slice none 0 0], .bool true]) ?_ rfl ?_
    · simp [results, Tryd.results47, go_sem, e0, e1, e2]
    · exact (by rw [HR.out]; exact EPost.good_ (TG.leaf _ _ (by unfold I64; omega) I64_zero) ⟨F2.out.rd, F2.out.kept⟩)
  have c1' : ¬ hd l = [121] := c1
  have CT := Lib.hid (fun W (hW : LW g S l o w W) => show Calls Tryd.prog 22 #[.pointer (some ⟨g, 0, none⟩), .string ⟨#[121]⟩] W (fun e w' => e = .returned (.bool false) ∧ Went g S l o W w') from by
    have := rd_take [121] hW.rd (by omega); rw [decide_eq_false c1', if_neg c1'] at this; exact this)
  have CK := Lib.hid (fun W (hW : LW g S l o w W) => rd_token hW.rd (by omega))
  obtain ⟨X, hX⟩ : ∃ X, X = tkS (hd l) := ⟨_, rfl⟩
  rw [← hX] at CK
  by_cases c2 : hd l = [40]
  · have hXl : X = ⟨#[40]⟩ := by rw [hX, c2]
    subst hXl
    by_cases c3 : 12 < o + 1
    · have HR := Lib.hid (show RR = .bad 2 by rw [hRR, leafP, if_neg c1', if_pos c2, if_pos c3])
      have ho' : (12 : Int) < (o : Int) + 1 := by omega
      have ho9 : (o : Int) ≤ 12 := by omega
      clear hRR hns c1 c1' c2 hX c3
      go_enter Tryd.func47, Tryd.ntmps47
      go_upto_region 1 with fail
      rw [← hB]
      clear hB
      generalize World.alloc w _ = W0 at HA0 H0 ⊢
      go_wp2_with fail
      refine (CT.out _ H0.out).mono ?_
      rintro e w1 ⟨rfl, hw⟩
      have H1 := Lib.hid (H0.out.went hw)
      have a1 := HA0.out.oneKept hw.2 hgB.symm
      clear hw H0 HA0
      go_wp2_with fail
      refine (CK.out _ H1.out).mono ?_
      rintro e w2 ⟨rfl, hb⟩
      have H2 := Lib.hid (H1.out.then_ hb)
      replace a1 := a1.then_ hb
      clear hb H1
      obtain ⟨x3, x4, x5⟩ := H2.out.openc
      have H3 := Lib.hid (H2.out.open_ (o + 1))
      have a3 : At (w2.setCell ⟨g, 3, none⟩ (.int .i64 ((o + 1 : Nat) : Int))) B zeroE := a1.apart (p := ⟨g, 3, none⟩) hgB.symm _
      clear a1
      go_upto_region 7 with fail
      replace H3 := Lib.hid (show LW g S l (o + 1) w (w2.setCell ⟨g, 3, none⟩ (.int .i64 ((o : Int) + 1))) from H3.out)
      replace a3 : At (w2.setCell ⟨g, 3, none⟩ (.int .i64 ((o : Int) + 1))) B zeroE := a3
      generalize World.setCell w2 _ _ = W3 at H3 a3 ⊢
      clear x3 x4 x5
      obtain ⟨x3, x4, x5⟩ := H3.out.openc
      have CF := Lib.hid (rd_fail 2 H3.out.rd)
      replace x3 : W3.cell? ⟨g, 3, none⟩ = some (.int .i64 ((o : Int) + 1)) := x3
      go_wp2_with fail
      refine (CF.out).mono ?_
      rintro e w1 ⟨rfl, hf⟩
      have H4 := Lib.hid (H3.out.failed hf)
      have a1 := a3.oneKept hf.2 hgB.symm
      clear hf x3 x4 x5 a3 H3 CF
      have z0 := a1.frozen 0; have z1 := a1.frozen 1; have z2 := a1.frozen 2; have zl := a1.lt; have y0 := a1.cell 0; have y1 := a1.cell 1; have y2 := a1.cell 2; simp at y0 y1 y2
      have F1 := Lib.hid (ex_store a1 (.int .i64 0) (.int .i64 0) (.slice none 0 0))
      have F2 := Lib.hid ((H4.out).store3 (b := B) HBB.out hgB (.int .i64 0) (.int .i64 0) (.slice none 0 0))
      clear a1
      go_wp2_with fail
      generalize World.setCell (World.setCell (World.setCell w1 _ _) _ _) _ _ = W9 at F1 F2 ⊢
      have e0 := F1.out.cell 0; have e1 := F1.out.cell 1; have e2 := F1.out.cell 2
      simp at e0 e1 e2
      (try simp only [Exit.inBlock, Exit.then])
      refine bodyPost_ret (v := .tuple #[.agg #[.int .i64 0, .int .i64 0, .slice none 0 0], .bool false]) ?_ rfl ?_
      · simp [results, Tryd.results47, go_sem, e0, e1, e2]
      · exact (by rw [HR.out]; exact EPost.bad_ (by decide) F2.out)
    · have hns2 : expP f 0 l.tail (o + 1) ≠ .stuck := fun h => hns (by rw [leafP, if_neg c1', if_pos c2, if_neg c3, h]; rfl)
      have HR := Lib.hid (show RR = (expP f 0 l.tail (o + 1)).bind fun p => if hd p.2 = [41] then .good (p.1, p.2.tail) else .bad 4 by rw [hRR, leafP, if_neg c1', if_pos c2, if_neg c3])
      have ho' : ¬ (12 : Int) < (o : Int) + 1 := by omega
      have ho9 : (o : Int) ≤ 12 := by omega
      have CE := Lib.hid (fun W (hW : LW g S l.tail (o + 1) w W) => show Calls Tryd.prog 26 #[.pointer (some ⟨g, 0, none⟩), .int .i64 0] W (EPost g S (o + 1) W (expP f 0 l.tail (o + 1))) from IH 0 l.tail (o + 1) W (by omega) (by omega) hns2 hW.rd hW.gl)
      clear hRR hns c1 c1' c2 hX c3 hns2
      go_enter Tryd.func47, Tryd.ntmps47
      go_upto_region 1 with fail
      rw [← hB]
      clear hB
      generalize World.alloc w _ = W0 at HA0 H0 ⊢
      go_wp2_with fail
      refine (CT.out _ H0.out).mono ?_
      rintro e w1 ⟨rfl, hw⟩
      have H1 := Lib.hid (H0.out.went hw)
      have a1 := HA0.out.oneKept hw.2 hgB.symm
      clear hw H0 HA0
      go_wp2_with fail
      refine (CK.out _ H1.out).mono ?_
      rintro e w2 ⟨rfl, hb⟩
      have H2 := Lib.hid (H1.out.then_ hb)
      replace a1 := a1.then_ hb
      clear hb H1
      obtain ⟨x3, x4, x5⟩ := H2.out.openc
      have H3 := Lib.hid (H2.out.open_ (o + 1))
      have a3 : At (w2.setCell ⟨g, 3, none⟩ (.int .i64 ((o + 1 : Nat) : Int))) B zeroE := a1.apart (p := ⟨g, 3, none⟩) hgB.symm _
      clear a1
      go_upto_region 7 with fail
      replace H3 := Lib.hid (show LW g S l (o + 1) w (w2.setCell ⟨g, 3, none⟩ (.int .i64 ((o : Int) + 1))) from H3.out)
      replace a3 : At (w2.setCell ⟨g, 3, none⟩ (.int .i64 ((o : Int) + 1))) B zeroE := a3
      generalize World.setCell w2 _ _ = W3 at H3 a3 ⊢
      clear x3 x4 x5
      obtain ⟨x3, x4, x5⟩ := H3.out.openc
      replace x3 : W3.cell? ⟨g, 3, none⟩ = some (.int .i64 ((o : Int) + 1)) := x3
      have CS := Lib.hid (rd_scan H3.out.rd (by omega))
      go_wp2_with fail
      refine (CS.out).mono ?_
      rintro e w1 ⟨rfl, hw⟩
      obtain ⟨W4, hW4⟩ : ∃ W4, W4 = w1 := ⟨_, rfl⟩
      subst hW4
      have H4 := Lib.hid (H3.out.went hw)
      have A4 := Lib.hid (a3.oneKept hw.2 hgB.symm)
      clear hw x3 x4 x5 a3 H3 CS
      go_wp2_with fail
      refine (CE.out _ H4.out).mono ?_
      generalize hE : expP f 0 l.tail (o + 1) = R0 at CE HR ⊢
      clear hE CE
      cases R0 with
      | stuck => intro e w5 h; exact h.elim
      | bad c =>
        replace HR : Hid (RR = .bad c) := HR
        rintro e w5 ⟨⟨k, n, aa, mm, dd, rfl⟩, hc, hf⟩
        have H5 := H4.out.failed hf
        have A5 := A4.out.oneKept hf.2 hgB.symm
        have hb6 : g ≠ w5.heap.size := by have := H5.openc; obtain ⟨_, _, _, h⟩ := this; omega
        have hb7 : w.heap.size ≤ w5.heap.size := H5.kept.size
        have hb8 : B ≠ w5.heap.size := by have := A5.lt; omega
        have N6 := Lib.hid (At.new w5 (exO (.int .i64 k) (.int .i64 n) (.slice aa mm dd)))
        have H6 := Lib.hid (H5.then_ (below_new (Below.refl _ _) (exO (.int .i64 k) (.int .i64 n) (.slice aa mm dd))))
        have A6 := Lib.hid (A5.alloc (exO (.int .i64 k) (.int .i64 n) (.slice aa mm dd)))
        clear H5 A5 A4 H4 hf
        go_upto_region 11 with fail
        obtain ⟨b6, hb6'⟩ : ∃ b6, b6 = w5.heap.size := ⟨_, rfl⟩
        rw [← hb6'] at N6 hb6 hb7 hb8 ⊢
        generalize World.alloc w5 _ = W6 at N6 H6 A6 ⊢
        clear hb6'
        obtain ⟨o', x3, x4, x5⟩ := H6.out.openc
        go_upto_region 14 with fail
        have H7 := Lib.hid (H6.out.open_ (wrap64 (o' - 1)))
        have N7 := Lib.hid (N6.out.apart (p := ⟨g, 3, none⟩) hb6.symm (.int .i64 (wrap64 (o' - 1))))
        have a1 := A6.out.apart (p := ⟨g, 3, none⟩) hgB.symm (.int .i64 (wrap64 (o' - 1)))
        generalize World.setCell W6 _ _ = w1 at H7 N7 a1 ⊢
        have n0 := N7.out.cell 0; have n1 := N7.out.cell 1; have n2 := N7.out.cell 2
        simp at n0 n1 n2
        clear x3 x4 x5 N6 H6 A6
        have z0 := a1.frozen 0; have z1 := a1.frozen 1; have z2 := a1.frozen 2; have zl := a1.lt; have y0 := a1.cell 0; have y1 := a1.cell 1; have y2 := a1.cell 2; simp at y0 y1 y2
        have F1 := Lib.hid (ex_store a1 (.int .i64 k) (.int .i64 n) (.slice aa mm dd))
        have F2 := Lib.hid ((H7.out).store3 (b := B) HBB.out hgB (.int .i64 k) (.int .i64 n) (.slice aa mm dd))
        clear a1
        go_wp2_with fail
        generalize World.setCell (World.setCell (World.setCell w1 _ _) _ _) _ _ = W9 at F1 F2 ⊢
        have e0 := F1.out.cell 0; have e1 := F1.out.cell 1; have e2 := F1.out.cell 2
        simp at e0 e1 e2
        (try simp only [Exit.inBlock, Exit.then])
        refine bodyPost_ret (v := .tuple #[.agg #[.int .i64 k, .int .i64 n, .slice aa mm dd], .bool false]) ?_ rfl ?_
        · simp [results, Tryd.results47, go_sem, e0, e1, e2]
        · exact (by rw [HR.out]; exact EPost.bad_ hc F2.out)
      | good p =>
        obtain ⟨t, l'⟩ := p
        rintro e w5 ⟨⟨v, D, rfl, ht⟩, hw⟩
        obtain ⟨k, n, aa, mm, dd, rfl⟩ := ht.form
        have H5 := H4.out.went hw
        have A5 := A4.out.oneKept hw.2 hgB.symm
        have hb6 : g ≠ w5.heap.size := by have := H5.openc; obtain ⟨_, _, h⟩ := this; omega
        have hb7 : w.heap.size ≤ w5.heap.size := H5.kept.size
        have hb8 : B ≠ w5.heap.size := by have := A5.lt; omega
        have N6 := Lib.hid (At.new w5 (exO (.int .i64 k) (.int .i64 n) (.slice aa mm dd)))
        have H6 := Lib.hid (H5.then_ (below_new (Below.refl _ _) (exO (.int .i64 k) (.int .i64 n) (.slice aa mm dd))))
        have A6 := Lib.hid (A5.alloc (exO (.int .i64 k) (.int .i64 n) (.slice aa mm dd)))
        have hDB : ¬ D B := fun h => by have h1 := (ht.2 B h).1; have h2 := A4.out.lt; omega
        have hDg : g < W4.heap.size := by have := H4.out.openc; exact this.2.2
        have T6 := Lib.hid (ht.then_ (below_new (Below.refl _ _) (exO (.int .i64 k) (.int .i64 n) (.slice aa mm dd))))
        have HLO := Lib.hid H4.out.kept.size
        clear H5 A5 A4 H4 hw ht
        go_upto_region 11 with fail
        obtain ⟨b6, hb6'⟩ : ∃ b6, b6 = w5.heap.size := ⟨_, rfl⟩
        rw [← hb6'] at N6 hb6 hb7 hb8 ⊢
        generalize World.alloc w5 _ = W6 at N6 H6 A6 T6 ⊢
        clear hb6'
        by_cases c4 : hd l' = [41]
        · have CT4 := Lib.hid (show Calls Tryd.prog 22 #[.pointer (some ⟨g, 0, none⟩), .string ⟨#[41]⟩] W6 (fun e w' => e = .returned (.bool true) ∧ Went g S l'.tail (o + 1) W6 w') from by
            have := rd_take [41] H6.out.rd (by omega); rw [decide_eq_true c4, if_pos c4] at this; exact this)
          have HR2 := Lib.hid (show RR = .good (t, l'.tail) by rw [HR.out]; show (if hd l' = [41] then _ else _) = _; rw [if_pos c4])
          clear c4
          go_wp2_with fail
          refine CT4.out.mono ?_
          rintro e w7 ⟨rfl, hw⟩
          have H7 := Lib.hid (H6.out.went hw)
          have N7 := Lib.hid (N6.out.oneKept hw.2 hb6.symm)
          have A7 := Lib.hid (A6.out.oneKept hw.2 hgB.symm)
          have T7 := Lib.hid (T6.out.one hw.2 hDg)
          clear hw N6 H6 A6 T6
          obtain ⟨x3, x4, x5⟩ := H7.out.openc
          replace x3 : w7.cell? ⟨g, 3, none⟩ = some (.int .i64 ((o : Int) + 1)) := x3
          go_upto_region 14 with fail
          have H8 := Lib.hid (H7.out.open_ o)
          have N8 := Lib.hid (N7.out.apart (p := ⟨g, 3, none⟩) hb6.symm (.int .i64 (o : Int)))
          have a1 := A7.out.apart (p := ⟨g, 3, none⟩) hgB.symm (.int .i64 (o : Int))
          have T8 := Lib.hid (T7.out.one (oneKept_set w7 g 3 (.int .i64 (o : Int))) hDg)
          first
            | generalize World.setCell w7 _ _ = w1 at H8 N8 a1 T8 ⊢
          have n0 := N8.out.cell 0; have n1 := N8.out.cell 1; have n2 := N8.out.cell 2
          simp at n0 n1 n2
          clear x3 x4 x5 N7 H7 A7 T7
          have z0 := a1.frozen 0; have z1 := a1.frozen 1; have z2 := a1.frozen 2; have zl := a1.lt; have y0 := a1.cell 0; have y1 := a1.cell 1; have y2 := a1.cell 2; simp at y0 y1 y2
          have F1 := Lib.hid (ex_store a1 (.int .i64 k) (.int .i64 n) (.slice aa mm dd))
          have F2 := Lib.hid ((H8.out).store3 HG.out (b := B) HBB.out hgB (.int .i64 k) (.int .i64 n) (.slice aa mm dd))
          clear a1
          have T9 := Lib.hid (T8.out.set3 hDB (.int .i64 k) (.int .i64 n) (.slice aa mm dd) |>.weak HLO.out)
          go_wp2_with fail
          generalize World.setCell (World.setCell (World.setCell w1 _ _) _ _) _ _ = W9 at F1 F2 T9 ⊢
          have e0 := F1.out.cell 0; have e1 := F1.out.cell 1; have e2 := F1.out.cell 2
          simp at e0 e1 e2
          (try simp only [Exit.inBlock, Exit.then])
          refine bodyPost_ret (v := .tuple #[.agg #[.int .i64 k, .int .i64 n, .slice aa mm dd], .bool true]) ?_ rfl ?_
          · simp [results, Tryd.results47, go_sem, e0, e1, e2]
          · exact (by rw [HR2.out]; exact EPost.good_ T9.out ⟨F2.out.rd, F2.out.kept⟩)
        · have CT4 := Lib.hid (show Calls Tryd.prog 22 #[.pointer (some ⟨g, 0, none⟩), .string ⟨#[41]⟩] W6 (fun e w' => e = .returned (.bool false) ∧ Went g S l' (o + 1) W6 w') from by
            have := rd_take [41] H6.out.rd (by omega); rw [decide_eq_false c4, if_neg c4] at this; exact this)
          have HR2 := Lib.hid (show RR = .bad 4 by rw [HR.out]; show (if hd l' = [41] then _ else _) = _; rw [if_neg c4])
          clear c4
          go_wp2_with fail
          refine CT4.out.mono ?_
          rintro e w7 ⟨rfl, hw⟩
          have H7 := Lib.hid (H6.out.went hw)
          have N7 := Lib.hid (N6.out.oneKept hw.2 hb6.symm)
          have A7 := Lib.hid (A6.out.oneKept hw.2 hgB.symm)
          clear hw N6 H6 A6 T6 CT4
          have CF := Lib.hid (fun W (hW : LW g S l' (o + 1) w W) => rd_fail 4 hW.rd)
          have d0 : w7.drew.cell? ⟨b6, 0, none⟩ = some (.int .i64 k) := N7.out.cell 0
          have d1 : w7.drew.cell? ⟨b6, 1, none⟩ = some (.int .i64 n) := N7.out.cell 1
          have d2 : w7.drew.cell? ⟨b6, 2, none⟩ = some (.slice aa mm dd) := N7.out.cell 2
          go_upto_region 12 with fail
          go_region_with (go_at_call 23; refine (CF.out _ (H7.out.then_ (by (repeat' (first | exact Below.refl _ _ | assumption | refine Below.drew ?_ | refine below_drewN ?_ _ | refine below_new ?_ _ | refine below_set ?_ ?_ _ | refine below_then ?_ (by assumption) | refine below_drawn ?_ (by assumption) | exact Nat.le_refl _ | omega | (simp; done) | (simp; omega)))))).mono ?_; rintro e w8 ⟨rfl, hf⟩; have H8 := Lib.hid (LW.failed (H7.out.then_ ((Below.refl _ _).drew)) hf); have A8 := Lib.hid (A7.out.drew.oneKept hf.2 hgB.symm); have N8 := N7.out.drew.oneKept hf.2 hb6.symm; have n0 : w8.cell? ⟨b6, 0, none⟩ = some (.int .i64 k) := N8.cell 0; have n1 : w8.cell? ⟨b6, 1, none⟩ = some (.int .i64 n) := N8.cell 1; have n2 : w8.cell? ⟨b6, 2, none⟩ = some (.slice aa mm dd) := N8.cell 2; have z0 := A8.out.frozen 0; have z1 := A8.out.frozen 1; have z2 := A8.out.frozen 2; have zl := A8.out.lt; have y0 : w8.cell? ⟨B, 0, none⟩ = some (.int .i64 0) := A8.out.cell 0; have y1 : w8.cell? ⟨B, 1, none⟩ = some (.int .i64 0) := A8.out.cell 1; have y2 : w8.cell? ⟨B, 2, none⟩ = some (.slice none 0 0) := A8.out.cell 2)
          all_goals
            have F1 := Lib.hid (ex_store A8.out (.int .i64 k) (.int .i64 n) (.slice aa mm dd))
            have F2 := Lib.hid (H8.out.store3 (b := B) HBB.out hgB (.int .i64 k) (.int .i64 n) (.slice aa mm dd))
            go_wp2_with fail
            generalize World.setCell (World.setCell (World.setCell w8 _ _) _ _) _ _ = W9 at F1 F2 ⊢
            have e0 := F1.out.cell 0; have e1 := F1.out.cell 1; have e2 := F1.out.cell 2
            simp at e0 e1 e2
            (try simp only [Exit.inBlock, Exit.then])
            refine bodyPost_ret (v := .tuple #[.agg #[.int .i64 k, .int .i64 n, .slice aa mm dd], .bool false]) ?_ rfl ?_
            · simp [results, Tryd.results47, go_sem, e0, e1, e2]
            · exact (by rw [HR2.out]; exact EPost.bad_ (by decide) F2.out)
  · -- a number
    have hne : X.toList ≠ [40] := by rw [str_list, hX]; simpa using c2
    have e1 : (X.toList == [40]) = false := by simpa using hne
    have HB := Lib.hid (show RR = (natP l).bind fun p => .good (.node 1 p.1 [], p.2) by rw [hRR, leafP, if_neg c1', if_neg c2])
    have CN := Lib.hid (fun W (hW : LW g S l o w W) => rd_natural hW.rd hS)
    have hok : okT (hd l) := H0.out.rd.ok
    rcases natP_cases l with ⟨c, e⟩ | ⟨n, e⟩
    · have HR := Lib.hid (show RR = .bad c by rw [HB.out, e]; rfl)
      rw [e] at CN
      clear hRR hns c1 c1' c2 hX e hok HB
      go_enter Tryd.func47, Tryd.ntmps47
      go_upto_region 1 with fail
      rw [← hB]
      clear hB
      generalize World.alloc w _ = W0 at HA0 H0 ⊢
      go_wp2_with fail
      refine (CT.out _ H0.out).mono ?_
      rintro e w1 ⟨rfl, hw⟩
      have H1 := Lib.hid (H0.out.went hw)
      have A1 := Lib.hid (HA0.out.oneKept hw.2 hgB.symm)
      clear hw H0 HA0
      go_wp2_with fail
      refine (CK.out _ H1.out).mono ?_
      rintro e w2 ⟨rfl, hb⟩
      have H2 := Lib.hid (H1.out.then_ hb)
      have A2 := Lib.hid (A1.out.then_ hb)
      clear hb H1 A1
      go_wp2_with fail
      refine (CN.out _ H2.out).mono ?_
      rintro e w1 ⟨rfl, hc, hf⟩
      have H3 := Lib.hid (H2.out.failed hf)
      have a1 := A2.out.oneKept hf.2 hgB.symm
      clear hf H2 A2
      have z0 := a1.frozen 0; have z1 := a1.frozen 1; have z2 := a1.frozen 2; have zl := a1.lt; have y0 := a1.cell 0; have y1 := a1.cell 1; have y2 := a1.cell 2; simp at y0 y1 y2
      have F1 := Lib.hid (ex_store a1 (.int .i64 1) (.int .i64 0) (.slice none 0 0))
      have F2 := Lib.hid (H3.out.store3 (b := B) HBB.out hgB (.int .i64 1) (.int .i64 0) (.slice none 0 0))
      clear a1
      go_wp2_with fail
      generalize World.setCell (World.setCell (World.setCell w1 _ _) _ _) _ _ = W9 at F1 F2 ⊢
      have e0 := F1.out.cell 0; have e1 := F1.out.cell 1; have e2 := F1.out.cell 2
      simp at e0 e1 e2
      (try simp only [Exit.inBlock, Exit.then])
      refine bodyPost_ret (v := .tuple #[.agg #[.int .i64 1, .int .i64 0, .slice none 0 0], .bool false]) ?_ rfl ?_
      · simp [results, Tryd.results47, go_sem, e0, e1, e2]
      · exact (by rw [HR.out]; exact EPost.bad_ hc F2.out)
    · have HR := Lib.hid (show RR = .good (.node 1 n [], l.tail) by rw [HB.out, e]; rfl)
      have hn := natP_in e hok
      simp only at hn
      have HN := Lib.hid (show I64 n by unfold I64; omega)
      rw [e] at CN
      clear hRR hns c1 c1' c2 hX e hok HB hn
      go_enter Tryd.func47, Tryd.ntmps47
      go_upto_region 1 with fail
      rw [← hB]
      clear hB
      generalize World.alloc w _ = W0 at HA0 H0 ⊢
      go_wp2_with fail
      refine (CT.out _ H0.out).mono ?_
      rintro e w1 ⟨rfl, hw⟩
      have H1 := Lib.hid (H0.out.went hw)
      have A1 := Lib.hid (HA0.out.oneKept hw.2 hgB.symm)
      clear hw H0 HA0
      go_wp2_with fail
      refine (CK.out _ H1.out).mono ?_
      rintro e w2 ⟨rfl, hb⟩
      have H2 := Lib.hid (H1.out.then_ hb)
      have A2 := Lib.hid (A1.out.then_ hb)
      clear hb H1 A1
      go_wp2_with fail
      refine (CN.out _ H2.out).mono ?_
      rintro e w1 ⟨rfl, hf⟩
      have H3 := Lib.hid (H2.out.went hf)
      have a1 := A2.out.oneKept hf.2 hgB.symm
      clear hf H2 A2
      have z0 := a1.frozen 0; have z1 := a1.frozen 1; have z2 := a1.frozen 2; have zl := a1.lt; have y0 := a1.cell 0; have y1 := a1.cell 1; have y2 := a1.cell 2; simp at y0 y1 y2
      have F1 := Lib.hid (ex_store a1 (.int .i64 1) (.int .i64 n) (.slice none 0 0))
      have F2 := Lib.hid (H3.out.store3 HG.out (b := B) HBB.out hgB (.int .i64 1) (.int .i64 n) (.slice none 0 0))
      clear a1
      go_wp2_with fail
      generalize World.setCell (World.setCell (World.setCell w1 _ _) _ _) _ _ = W9 at F1 F2 ⊢
      have e0 := F1.out.cell 0; have e1 := F1.out.cell 1; have e2 := F1.out.cell 2
      simp at e0 e1 e2
      (try simp only [Exit.inBlock, Exit.then])
      refine bodyPost_ret (v := .tuple #[.agg #[.int .i64 1, .int .i64 n, .slice none 0 0], .bool true]) ?_ rfl ?_
      · simp [results, Tryd.results47, go_sem, e0, e1, e2]
      · exact (by rw [HR.out]; exact EPost.good_ (TG.leaf _ _ (by unfold I64; omega) HN.out) ⟨F2.out.rd, F2.out.kept⟩)
end Go.Proofs.YtchahccnmjaejacDoor
