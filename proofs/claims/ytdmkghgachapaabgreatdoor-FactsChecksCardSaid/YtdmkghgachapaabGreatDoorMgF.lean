/- Several texts in one: Par8, Par9. -/
import Derived.Test.YtdmkghgachapaabGreatDoorMgE
import Derived.Deep.LoopGhost
set_option linter.unusedSimpArgs false
namespace Go.Proofs.YtdmkghgachapaabGreatDoor
set_option linter.unusedVariables false
set_option maxRecDepth 100000
open Go.RowKit Go.Shelf
theorem opAt_I64 {lvl : Nat} {t : Tok} {k : Int} (h : opAt lvl t = some k) : I64 k := by
  unfold opAt at h
  cases hq : opOf t with
  | none => rw [hq] at h; cases h
  | some q =>
    obtain ⟨k', lv⟩ := q
    rw [hq] at h
    simp only at h
    split at h
    · injection h with h
      subst h
      unfold opOf at hq
      repeat' split at hq
      all_goals first | (cases hq; done) | (injection hq with hq; injection hq with h1 h2; subst h1; unfold I64; omega)
    · cases h
def LoopSt (g : Nat) (S : ByteArray) (o : Nat) (w : World) (B b10 lvl f : Nat) (RR : PRes) (gf : Nat) (isv : Value) (W : World) : Prop :=
  ∃ (k n : Int) (a : Option Addr) (m d : Nat), gf ≤ f ∧ At W b10 (exO (.int .i64 k) (.int .i64 n) (.slice a m d)) ∧ At W B zeroE ∧
    ((isv = .bool true ∧ ∃ X D l', TG w.heap.size D W X (.agg #[.int .i64 k, .int .i64 n, .slice a m d]) ∧ ¬ D B ∧ ¬ D b10 ∧ LW g S l' o w W ∧ RR = loopP gf lvl X l' o) ∨ (isv = .bool false ∧ ∃ c, c ≠ 0 ∧ RR = .bad c ∧ FW g c w W))
def LoopAf (g : Nat) (S : ByteArray) (o : Nat) (w : World) (B b10 lvl : Nat) (RR : PRes) (g' : Nat) (k2 : Int) (z : Nat) (ib : Bool) (W : World) : Prop :=
  (ib = true ∧ ∃ Z F l2, TG w.heap.size F W Z (.agg #[.int .i64 k2, .int .i64 0, .slice (some ⟨z, 0, none⟩) 2 2]) ∧ ¬ F B ∧ ¬ F b10 ∧ LW g S l2 o w W ∧ RR = if lvl = 3 then .good (Z, l2) else loopP g' lvl Z l2 o) ∨ (ib = false ∧ ∃ c, c ≠ 0 ∧ RR = .bad c ∧ FW g c w W)
set_option maxHeartbeats 16000000 in
theorem expr_step {g : Nat} {S : ByteArray} {f : Nat} (hS : S.size ≤ 140737488355328) (IH : ∀ f', f' ≤ f → ExprOk g S f') (IL : LeafOk g S f) : ExprOk g S (f + 1) := by
  intro lvl l o w hlv ho hns h hG
  have hgw := h.lt
  have HG := Lib.hid hG
  have H0 := Lib.hid ((LW.refl h hG).then_ (below_new (Below.refl _ _) zeroE))
  obtain ⟨B, hB⟩ : ∃ B, B = w.heap.size := ⟨_, rfl⟩
  have HA0 : At (w.alloc zeroE) B zeroE := At.newAt w zeroE B hB
  have HA0 := Lib.hid HA0
  have HBB := Lib.hid (show w.heap.size ≤ B by omega)
  have hgB : g ≠ B := by omega
  obtain ⟨RR, hRR⟩ : ∃ RR, RR = expP (f + 1) lvl l o := ⟨_, rfl⟩
  rw [← hRR]
  clear h hG
  by_cases c2 : lvl = 2
  · subst c2
    by_cases c1 : hd l = [110, 111, 116]
    · have hns2 : expP f 2 l.tail o ≠ .stuck := fun h => hns (by rw [expP, if_pos rfl, if_pos (show hd l = tNot from c1)]; rw [h]; rfl)
      have HR0 := Lib.hid (show RR = (expP f 2 l.tail o).bind fun p => .good (.node 11 0 [p.1], p.2) by rw [hRR]; rw [expP, if_pos rfl, if_pos (show hd l = tNot from c1)])
      have CT := Lib.hid (fun W (hW : LW g S l o w W) => show Calls Tryz.prog 124 #[.pointer (some ⟨g, 0, none⟩), .string ⟨#[110, 111, 116]⟩] W (fun e w' => e = .returned (.bool true) ∧ Went g S l.tail o W w') from by
        have := rd_take [110, 111, 116] hW.rd (by omega); rw [decide_eq_true c1, if_pos c1] at this; exact this)
      have CE := Lib.hid (fun W (hW : LW g S l.tail o w W) => show Calls Tryz.prog 128 #[.pointer (some ⟨g, 0, none⟩), .int .i64 2] W (EPost g S o W (expP f 2 l.tail o)) from IH f (Nat.le_refl _) 2 l.tail o W (by omega) ho hns2 hW.rd hW.gl)
      clear hRR hns c1 hns2
      show Calls Tryz.prog 128 #[.pointer (some ⟨g, 0, none⟩), .int .i64 2] w (EPost g S o w RR)
      go_enter Tryz.func128, Tryz.ntmps128
      go_upto_region 1 with fail
      rw [← hB]
      clear hB
      generalize World.alloc w _ = W0 at HA0 H0 ⊢
      go_wp2_with fail
      refine (CT.out _ H0.out).mono ?_
      rintro e w1 ⟨rfl, hw⟩
      have H1 := Lib.hid (H0.out.went hw)
      have A1 := Lib.hid (HA0.out.oneKept hw.2 hgB.symm)
      clear hw H0 HA0
      go_wp2_with fail
      refine (CE.out _ H1.out).mono ?_
      generalize hE : expP f 2 l.tail o = R0 at CE HR0 ⊢
      clear hE CE
      cases R0 with
      | stuck => intro e w5 h; exact h.elim
      | bad c =>
        have HR : Hid (RR = .bad c) := HR0
        rintro e w5 ⟨⟨k, n, aa, mm, dd, rfl⟩, hc, hf⟩
        have H5 := H1.out.failed hf
        have A5 := A1.out.oneKept hf.2 hgB.symm
        have N6 := Lib.hid (At.new w5 (exO (.int .i64 k) (.int .i64 n) (.slice aa mm dd)))
        have H6 := Lib.hid (H5.then_ (below_new (Below.refl _ _) (exO (.int .i64 k) (.int .i64 n) (.slice aa mm dd))))
        have A6 := Lib.hid (A5.alloc (exO (.int .i64 k) (.int .i64 n) (.slice aa mm dd)))
        clear H5 A5 hf
        go_upto_region 6 with fail
        generalize World.alloc w5 _ = W6 at N6 H6 A6 ⊢
        have n0 := N6.out.cell 0; have n1 := N6.out.cell 1; have n2 := N6.out.cell 2
        simp at n0 n1 n2
        have H7 := Lib.hid (H6.out.then_ (below_new (Below.refl _ _) (exO (.int .i64 k) (.int .i64 n) (.slice aa mm dd))))
        have a1 := A6.out.alloc (exO (.int .i64 k) (.int .i64 n) (.slice aa mm dd))
        have z0 := a1.frozen 0; have z1 := a1.frozen 1; have z2 := a1.frozen 2; have zl := a1.lt; have y0 := a1.cell 0; have y1 := a1.cell 1; have y2 := a1.cell 2; simp at y0 y1 y2
        have F1 := Lib.hid (ex_store a1 (.int .i64 11) (.int .i64 0) (.slice (some ⟨W6.heap.size, 0, none⟩) 1 1))
        have F2 := Lib.hid (H7.out.store3 (b := B) HBB.out hgB (.int .i64 11) (.int .i64 0) (.slice (some ⟨W6.heap.size, 0, none⟩) 1 1))
        clear a1
        go_wp2_with fail
        generalize World.setCell (World.setCell (World.setCell (World.alloc W6 _) _ _) _ _) _ _ = W9 at F1 F2 ⊢
        have e0 := F1.out.cell 0; have e1 := F1.out.cell 1; have e2 := F1.out.cell 2
        simp at e0 e1 e2
        (try simp only [Exit.inBlock, Exit.then])
        refine bodyPost_ret (v := .tuple #[.agg #[.int .i64 11, .int .i64 0, .slice (some ⟨W6.heap.size, 0, none⟩) 1 1], .bool false]) ?_ rfl ?_
        · simp [results, Tryz.results128, go_sem, e0, e1, e2]
        · exact (by rw [HR.out]; exact EPost.bad_ hc F2.out)
      | good p =>
        obtain ⟨t, l'⟩ := p
        have HR : Hid (RR = .good (.node 11 0 [t], l')) := HR0
        rintro e w5 ⟨⟨v, D, rfl, ht⟩, hw⟩
        obtain ⟨k, n, aa, mm, dd, rfl⟩ := ht.form
        have H5 := H1.out.went hw
        have A5 := A1.out.oneKept hw.2 hgB.symm
        have N6 := Lib.hid (At.new w5 (exO (.int .i64 k) (.int .i64 n) (.slice aa mm dd)))
        have H6 := Lib.hid (H5.then_ (below_new (Below.refl _ _) (exO (.int .i64 k) (.int .i64 n) (.slice aa mm dd))))
        have A6 := Lib.hid (A5.alloc (exO (.int .i64 k) (.int .i64 n) (.slice aa mm dd)))
        have hDB' : ¬ D B := fun h => by have h1 := (ht.2 B h).1; have h2 := A1.out.lt; omega
        have T6 := Lib.hid ((ht.weak H1.out.kept.size).then_ (below_new (Below.refl _ _) (exO (.int .i64 k) (.int .i64 n) (.slice aa mm dd))))
        clear H5 A5 hw ht
        go_upto_region 6 with fail
        generalize World.alloc w5 _ = W6 at N6 H6 A6 T6 ⊢
        have n0 := N6.out.cell 0; have n1 := N6.out.cell 1; have n2 := N6.out.cell 2
        simp at n0 n1 n2
        have H7 := Lib.hid (H6.out.then_ (below_new (Below.refl _ _) (exO (.int .i64 k) (.int .i64 n) (.slice aa mm dd))))
        have a1 := A6.out.alloc (exO (.int .i64 k) (.int .i64 n) (.slice aa mm dd))
        have T7 := Lib.hid (T6.out.node1 (k := 11) H6.out.kept.size (by unfold I64; omega))
        have hDB : ¬ (D B ∨ B = W6.heap.size) := fun h => by
          rcases h with h | h
          · exact hDB' h
          · have := A6.out.lt; omega
        have z0 := a1.frozen 0; have z1 := a1.frozen 1; have z2 := a1.frozen 2; have zl := a1.lt; have y0 := a1.cell 0; have y1 := a1.cell 1; have y2 := a1.cell 2; simp at y0 y1 y2
        have F1 := Lib.hid (ex_store a1 (.int .i64 11) (.int .i64 0) (.slice (some ⟨W6.heap.size, 0, none⟩) 1 1))
        have F2 := Lib.hid (H7.out.store3 HG.out (b := B) HBB.out hgB (.int .i64 11) (.int .i64 0) (.slice (some ⟨W6.heap.size, 0, none⟩) 1 1))
        clear a1
        have T9 := Lib.hid (T7.out.set3 hDB (.int .i64 11) (.int .i64 0) (.slice (some ⟨W6.heap.size, 0, none⟩) 1 1))
        go_wp2_with fail
        generalize World.setCell (World.setCell (World.setCell (World.alloc W6 _) _ _) _ _) _ _ = W9 at F1 F2 T9 ⊢
        have e0 := F1.out.cell 0; have e1 := F1.out.cell 1; have e2 := F1.out.cell 2
        simp at e0 e1 e2
        (try simp only [Exit.inBlock, Exit.then])
        refine bodyPost_ret (v := .tuple #[.agg #[.int .i64 11, .int .i64 0, .slice (some ⟨W6.heap.size, 0, none⟩) 1 1], .bool true]) ?_ rfl ?_
        · simp [results, Tryz.results128, go_sem, e0, e1, e2]
        · exact (by rw [HR.out]; exact EPost.good_ T9.out ⟨F2.out.rd, F2.out.kept⟩)
    · have hns2 : expP f 3 l o ≠ .stuck := fun h => hns (by rw [expP, if_pos rfl, if_neg (show ¬ hd l = tNot from c1)]; rw [h])
      have HR := Lib.hid (show RR = expP f 3 l o by rw [hRR]; rw [expP, if_pos rfl, if_neg (show ¬ hd l = tNot from c1)])
      have CT := Lib.hid (fun W (hW : LW g S l o w W) => show Calls Tryz.prog 124 #[.pointer (some ⟨g, 0, none⟩), .string ⟨#[110, 111, 116]⟩] W (fun e w' => e = .returned (.bool false) ∧ Went g S l o W w') from by
        have := rd_take [110, 111, 116] hW.rd (by omega); rw [decide_eq_false c1, if_neg c1] at this; exact this)
      have CE := Lib.hid (fun W (hW : LW g S l o w W) => show Calls Tryz.prog 128 #[.pointer (some ⟨g, 0, none⟩), .int .i64 3] W (EPost g S o W (expP f 3 l o)) from IH f (Nat.le_refl _) 3 l o W (by omega) ho hns2 hW.rd hW.gl)
      clear hRR hns c1 hns2
      show Calls Tryz.prog 128 #[.pointer (some ⟨g, 0, none⟩), .int .i64 2] w (EPost g S o w RR)
      go_enter Tryz.func128, Tryz.ntmps128
      go_upto_region 1 with fail
      rw [← hB]
      clear hB
      generalize World.alloc w _ = W0 at HA0 H0 ⊢
      go_wp2_with fail
      refine (CT.out _ H0.out).mono ?_
      rintro e w1 ⟨rfl, hw⟩
      have H1 := Lib.hid (H0.out.went hw)
      have A1 := Lib.hid (HA0.out.oneKept hw.2 hgB.symm)
      clear hw H0 HA0
      go_wp2_with fail
      refine (CE.out _ H1.out).mono ?_
      generalize hE : expP f 3 l o = R0 at CE HR ⊢
      clear hE CE
      cases R0 with
      | stuck => intro e w5 h; exact h.elim
      | bad c =>
        rintro e w5 ⟨⟨k, n, aa, mm, dd, rfl⟩, hc, hf⟩
        have H5 := Lib.hid (H1.out.failed hf)
        have a1 := A1.out.oneKept hf.2 hgB.symm
        clear hf
        have z0 := a1.frozen 0; have z1 := a1.frozen 1; have z2 := a1.frozen 2; have zl := a1.lt; have y0 := a1.cell 0; have y1 := a1.cell 1; have y2 := a1.cell 2; simp at y0 y1 y2
        have F1 := Lib.hid (ex_store a1 (.int .i64 k) (.int .i64 n) (.slice aa mm dd))
        have F2 := Lib.hid (H5.out.store3 (b := B) HBB.out hgB (.int .i64 k) (.int .i64 n) (.slice aa mm dd))
        clear a1
        go_wp2_with fail
        generalize World.setCell (World.setCell (World.setCell w5 _ _) _ _) _ _ = W9 at F1 F2 ⊢
        have e0 := F1.out.cell 0; have e1 := F1.out.cell 1; have e2 := F1.out.cell 2
        simp at e0 e1 e2
        (try simp only [Exit.inBlock, Exit.then])
        refine bodyPost_ret (v := .tuple #[.agg #[.int .i64 k, .int .i64 n, .slice aa mm dd], .bool false]) ?_ rfl ?_
        · simp [results, Tryz.results128, go_sem, e0, e1, e2]
        · exact (by rw [HR.out]; exact EPost.bad_ hc F2.out)
      | good p =>
        obtain ⟨t, l'⟩ := p
        rintro e w5 ⟨⟨v, D, rfl, ht⟩, hw⟩
        obtain ⟨k, n, aa, mm, dd, rfl⟩ := ht.form
        have H5 := Lib.hid (H1.out.went hw)
        have a1 := A1.out.oneKept hw.2 hgB.symm
        have hDB : ¬ D B := fun h => by have h1 := (ht.2 B h).1; have h2 := A1.out.lt; omega
        have T5 := Lib.hid (ht.weak H1.out.kept.size)
        clear hw ht
        have z0 := a1.frozen 0; have z1 := a1.frozen 1; have z2 := a1.frozen 2; have zl := a1.lt; have y0 := a1.cell 0; have y1 := a1.cell 1; have y2 := a1.cell 2; simp at y0 y1 y2
        have F1 := Lib.hid (ex_store a1 (.int .i64 k) (.int .i64 n) (.slice aa mm dd))
        have F2 := Lib.hid (H5.out.store3 HG.out (b := B) HBB.out hgB (.int .i64 k) (.int .i64 n) (.slice aa mm dd))
        clear a1
        have T9 := Lib.hid (T5.out.set3 hDB (.int .i64 k) (.int .i64 n) (.slice aa mm dd))
        go_wp2_with fail
        generalize World.setCell (World.setCell (World.setCell w5 _ _) _ _) _ _ = W9 at F1 F2 T9 ⊢
        have e0 := F1.out.cell 0; have e1 := F1.out.cell 1; have e2 := F1.out.cell 2
        simp at e0 e1 e2
        (try simp only [Exit.inBlock, Exit.then])
        refine bodyPost_ret (v := .tuple #[.agg #[.int .i64 k, .int .i64 n, .slice aa mm dd], .bool true]) ?_ rfl ?_
        · simp [results, Tryz.results128, go_sem, e0, e1, e2]
        · exact (by rw [HR.out]; exact EPost.good_ T9.out ⟨F2.out.rd, F2.out.kept⟩)
  by_cases c6 : lvl = 6
  · subst c6
    by_cases c1 : hd l = [45]
    · have hns2 : expP f 6 l.tail o ≠ .stuck := fun h => hns (by rw [expP, if_neg (by omega), if_pos rfl, if_pos c1]; rw [h]; rfl)
      have HR0 := Lib.hid (show RR = (expP f 6 l.tail o).bind fun p => .good (.node 3 0 [p.1], p.2) by rw [hRR]; rw [expP, if_neg (by omega), if_pos rfl, if_pos c1])
      have CT := Lib.hid (fun W (hW : LW g S l o w W) => show Calls Tryz.prog 124 #[.pointer (some ⟨g, 0, none⟩), .string ⟨#[45]⟩] W (fun e w' => e = .returned (.bool true) ∧ Went g S l.tail o W w') from by
        have := rd_take [45] hW.rd (by omega); rw [decide_eq_true c1, if_pos c1] at this; exact this)
      have CE := Lib.hid (fun W (hW : LW g S l.tail o w W) => show Calls Tryz.prog 128 #[.pointer (some ⟨g, 0, none⟩), .int .i64 6] W (EPost g S o W (expP f 6 l.tail o)) from IH f (Nat.le_refl _) 6 l.tail o W (by omega) ho hns2 hW.rd hW.gl)
      clear hRR hns c1 hns2
      show Calls Tryz.prog 128 #[.pointer (some ⟨g, 0, none⟩), .int .i64 6] w (EPost g S o w RR)
      go_enter Tryz.func128, Tryz.ntmps128
      go_upto_region 1 with fail
      rw [← hB]
      clear hB
      generalize World.alloc w _ = W0 at HA0 H0 ⊢
      go_wp2_with fail
      refine (CT.out _ H0.out).mono ?_
      rintro e w1 ⟨rfl, hw⟩
      have H1 := Lib.hid (H0.out.went hw)
      have A1 := Lib.hid (HA0.out.oneKept hw.2 hgB.symm)
      clear hw H0 HA0
      go_wp2_with fail
      refine (CE.out _ H1.out).mono ?_
      generalize hE : expP f 6 l.tail o = R0 at CE HR0 ⊢
      clear hE CE
      cases R0 with
      | stuck => intro e w5 h; exact h.elim
      | bad c =>
        have HR : Hid (RR = .bad c) := HR0
        rintro e w5 ⟨⟨k, n, aa, mm, dd, rfl⟩, hc, hf⟩
        have H5 := H1.out.failed hf
        have A5 := A1.out.oneKept hf.2 hgB.symm
        have N6 := Lib.hid (At.new w5 (exO (.int .i64 k) (.int .i64 n) (.slice aa mm dd)))
        have H6 := Lib.hid (H5.then_ (below_new (Below.refl _ _) (exO (.int .i64 k) (.int .i64 n) (.slice aa mm dd))))
        have A6 := Lib.hid (A5.alloc (exO (.int .i64 k) (.int .i64 n) (.slice aa mm dd)))
        clear H5 A5 hf
        go_upto_region 11 with fail
        generalize World.alloc w5 _ = W6 at N6 H6 A6 ⊢
        have n0 := N6.out.cell 0; have n1 := N6.out.cell 1; have n2 := N6.out.cell 2
        simp at n0 n1 n2
        have H7 := Lib.hid (H6.out.then_ (below_new (Below.refl _ _) (exO (.int .i64 k) (.int .i64 n) (.slice aa mm dd))))
        have a1 := A6.out.alloc (exO (.int .i64 k) (.int .i64 n) (.slice aa mm dd))
        have z0 := a1.frozen 0; have z1 := a1.frozen 1; have z2 := a1.frozen 2; have zl := a1.lt; have y0 := a1.cell 0; have y1 := a1.cell 1; have y2 := a1.cell 2; simp at y0 y1 y2
        have F1 := Lib.hid (ex_store a1 (.int .i64 3) (.int .i64 0) (.slice (some ⟨W6.heap.size, 0, none⟩) 1 1))
        have F2 := Lib.hid (H7.out.store3 (b := B) HBB.out hgB (.int .i64 3) (.int .i64 0) (.slice (some ⟨W6.heap.size, 0, none⟩) 1 1))
        clear a1
        go_wp2_with fail
        generalize World.setCell (World.setCell (World.setCell (World.alloc W6 _) _ _) _ _) _ _ = W9 at F1 F2 ⊢
        have e0 := F1.out.cell 0; have e1 := F1.out.cell 1; have e2 := F1.out.cell 2
        simp at e0 e1 e2
        (try simp only [Exit.inBlock, Exit.then])
        refine bodyPost_ret (v := .tuple #[.agg #[.int .i64 3, .int .i64 0, .slice (some ⟨W6.heap.size, 0, none⟩) 1 1], .bool false]) ?_ rfl ?_
        · simp [results, Tryz.results128, go_sem, e0, e1, e2]
        · exact (by rw [HR.out]; exact EPost.bad_ hc F2.out)
      | good p =>
        obtain ⟨t, l'⟩ := p
        have HR : Hid (RR = .good (.node 3 0 [t], l')) := HR0
        rintro e w5 ⟨⟨v, D, rfl, ht⟩, hw⟩
        obtain ⟨k, n, aa, mm, dd, rfl⟩ := ht.form
        have H5 := H1.out.went hw
        have A5 := A1.out.oneKept hw.2 hgB.symm
        have N6 := Lib.hid (At.new w5 (exO (.int .i64 k) (.int .i64 n) (.slice aa mm dd)))
        have H6 := Lib.hid (H5.then_ (below_new (Below.refl _ _) (exO (.int .i64 k) (.int .i64 n) (.slice aa mm dd))))
        have A6 := Lib.hid (A5.alloc (exO (.int .i64 k) (.int .i64 n) (.slice aa mm dd)))
        have hDB' : ¬ D B := fun h => by have h1 := (ht.2 B h).1; have h2 := A1.out.lt; omega
        have T6 := Lib.hid ((ht.weak H1.out.kept.size).then_ (below_new (Below.refl _ _) (exO (.int .i64 k) (.int .i64 n) (.slice aa mm dd))))
        clear H5 A5 hw ht
        go_upto_region 11 with fail
        generalize World.alloc w5 _ = W6 at N6 H6 A6 T6 ⊢
        have n0 := N6.out.cell 0; have n1 := N6.out.cell 1; have n2 := N6.out.cell 2
        simp at n0 n1 n2
        have H7 := Lib.hid (H6.out.then_ (below_new (Below.refl _ _) (exO (.int .i64 k) (.int .i64 n) (.slice aa mm dd))))
        have a1 := A6.out.alloc (exO (.int .i64 k) (.int .i64 n) (.slice aa mm dd))
        have T7 := Lib.hid (T6.out.node1 (k := 3) H6.out.kept.size (by unfold I64; omega))
        have hDB : ¬ (D B ∨ B = W6.heap.size) := fun h => by
          rcases h with h | h
          · exact hDB' h
          · have := A6.out.lt; omega
        have z0 := a1.frozen 0; have z1 := a1.frozen 1; have z2 := a1.frozen 2; have zl := a1.lt; have y0 := a1.cell 0; have y1 := a1.cell 1; have y2 := a1.cell 2; simp at y0 y1 y2
        have F1 := Lib.hid (ex_store a1 (.int .i64 3) (.int .i64 0) (.slice (some ⟨W6.heap.size, 0, none⟩) 1 1))
        have F2 := Lib.hid (H7.out.store3 HG.out (b := B) HBB.out hgB (.int .i64 3) (.int .i64 0) (.slice (some ⟨W6.heap.size, 0, none⟩) 1 1))
        clear a1
        have T9 := Lib.hid (T7.out.set3 hDB (.int .i64 3) (.int .i64 0) (.slice (some ⟨W6.heap.size, 0, none⟩) 1 1))
        go_wp2_with fail
        generalize World.setCell (World.setCell (World.setCell (World.alloc W6 _) _ _) _ _) _ _ = W9 at F1 F2 T9 ⊢
        have e0 := F1.out.cell 0; have e1 := F1.out.cell 1; have e2 := F1.out.cell 2
        simp at e0 e1 e2
        (try simp only [Exit.inBlock, Exit.then])
        refine bodyPost_ret (v := .tuple #[.agg #[.int .i64 3, .int .i64 0, .slice (some ⟨W6.heap.size, 0, none⟩) 1 1], .bool true]) ?_ rfl ?_
        · simp [results, Tryz.results128, go_sem, e0, e1, e2]
        · exact (by rw [HR.out]; exact EPost.good_ T9.out ⟨F2.out.rd, F2.out.kept⟩)
    · have hns2 : leafP f l o ≠ .stuck := fun h => hns (by rw [expP, if_neg (by omega), if_pos rfl, if_neg c1]; rw [h])
      have HR := Lib.hid (show RR = leafP f l o by rw [hRR]; rw [expP, if_neg (by omega), if_pos rfl, if_neg c1])
      have CT := Lib.hid (fun W (hW : LW g S l o w W) => show Calls Tryz.prog 124 #[.pointer (some ⟨g, 0, none⟩), .string ⟨#[45]⟩] W (fun e w' => e = .returned (.bool false) ∧ Went g S l o W w') from by
        have := rd_take [45] hW.rd (by omega); rw [decide_eq_false c1, if_neg c1] at this; exact this)
      have CE := Lib.hid (fun W (hW : LW g S l o w W) => IL l o W ho hns2 hW.rd hW.gl)
      clear hRR hns c1 hns2
      show Calls Tryz.prog 128 #[.pointer (some ⟨g, 0, none⟩), .int .i64 6] w (EPost g S o w RR)
      go_enter Tryz.func128, Tryz.ntmps128
      go_upto_region 1 with fail
      rw [← hB]
      clear hB
      generalize World.alloc w _ = W0 at HA0 H0 ⊢
      go_wp2_with fail
      refine (CT.out _ H0.out).mono ?_
      rintro e w1 ⟨rfl, hw⟩
      have H1 := Lib.hid (H0.out.went hw)
      have A1 := Lib.hid (HA0.out.oneKept hw.2 hgB.symm)
      clear hw H0 HA0
      go_wp2_with fail
      refine (CE.out _ H1.out).mono ?_
      generalize hE : leafP f l o = R0 at CE HR ⊢
      clear hE CE
      cases R0 with
      | stuck => intro e w5 h; exact h.elim
      | bad c =>
        rintro e w5 ⟨⟨k, n, aa, mm, dd, rfl⟩, hc, hf⟩
        have H5 := Lib.hid (H1.out.failed hf)
        have a1 := A1.out.oneKept hf.2 hgB.symm
        clear hf
        have z0 := a1.frozen 0; have z1 := a1.frozen 1; have z2 := a1.frozen 2; have zl := a1.lt; have y0 := a1.cell 0; have y1 := a1.cell 1; have y2 := a1.cell 2; simp at y0 y1 y2
        have F1 := Lib.hid (ex_store a1 (.int .i64 k) (.int .i64 n) (.slice aa mm dd))
        have F2 := Lib.hid (H5.out.store3 (b := B) HBB.out hgB (.int .i64 k) (.int .i64 n) (.slice aa mm dd))
        clear a1
        go_wp2_with fail
        generalize World.setCell (World.setCell (World.setCell w5 _ _) _ _) _ _ = W9 at F1 F2 ⊢
        have e0 := F1.out.cell 0; have e1 := F1.out.cell 1; have e2 := F1.out.cell 2
        simp at e0 e1 e2
        (try simp only [Exit.inBlock, Exit.then])
        refine bodyPost_ret (v := .tuple #[.agg #[.int .i64 k, .int .i64 n, .slice aa mm dd], .bool false]) ?_ rfl ?_
        · simp [results, Tryz.results128, go_sem, e0, e1, e2]
        · exact (by rw [HR.out]; exact EPost.bad_ hc F2.out)
      | good p =>
        obtain ⟨t, l'⟩ := p
        rintro e w5 ⟨⟨v, D, rfl, ht⟩, hw⟩
        obtain ⟨k, n, aa, mm, dd, rfl⟩ := ht.form
        have H5 := Lib.hid (H1.out.went hw)
        have a1 := A1.out.oneKept hw.2 hgB.symm
        have hDB : ¬ D B := fun h => by have h1 := (ht.2 B h).1; have h2 := A1.out.lt; omega
        have T5 := Lib.hid (ht.weak H1.out.kept.size)
        clear hw ht
        have z0 := a1.frozen 0; have z1 := a1.frozen 1; have z2 := a1.frozen 2; have zl := a1.lt; have y0 := a1.cell 0; have y1 := a1.cell 1; have y2 := a1.cell 2; simp at y0 y1 y2
        have F1 := Lib.hid (ex_store a1 (.int .i64 k) (.int .i64 n) (.slice aa mm dd))
        have F2 := Lib.hid (H5.out.store3 HG.out (b := B) HBB.out hgB (.int .i64 k) (.int .i64 n) (.slice aa mm dd))
        clear a1
        have T9 := Lib.hid (T5.out.set3 hDB (.int .i64 k) (.int .i64 n) (.slice aa mm dd))
        go_wp2_with fail
        generalize World.setCell (World.setCell (World.setCell w5 _ _) _ _) _ _ = W9 at F1 F2 T9 ⊢
        have e0 := F1.out.cell 0; have e1 := F1.out.cell 1; have e2 := F1.out.cell 2
        simp at e0 e1 e2
        (try simp only [Exit.inBlock, Exit.then])
        refine bodyPost_ret (v := .tuple #[.agg #[.int .i64 k, .int .i64 n, .slice aa mm dd], .bool true]) ?_ rfl ?_
        · simp [results, Tryz.results128, go_sem, e0, e1, e2]
        · exact (by rw [HR.out]; exact EPost.good_ T9.out ⟨F2.out.rd, F2.out.kept⟩)
  -- the levels with a loop
  have hl5 : lvl ≤ 5 := by omega
  have q2 : ((lvl : Int) == 2) = false := by simp; omega
  have q6 : ((lvl : Int) == 6) = false := by simp; omega
  have hns2 : expP f (lvl + 1) l o ≠ .stuck := fun h => hns (by rw [expP, if_neg c2, if_neg c6, h]; rfl)
  have HR0 := Lib.hid (show RR = (expP f (lvl + 1) l o).bind fun p => loopP f lvl p.1 p.2 o by rw [hRR, expP, if_neg c2, if_neg c6])
  have HNS := Lib.hid (show RR ≠ .stuck by rw [hRR]; exact hns)
  have CE := Lib.hid (fun W (hW : LW g S l o w W) => show Calls Tryz.prog 128 #[.pointer (some ⟨g, 0, none⟩), .int .i64 ((lvl : Int) + 1)] W (EPost g S o W (expP f (lvl + 1) l o)) from IH f (Nat.le_refl _) (lvl + 1) l o W (by omega) ho hns2 hW.rd hW.gl)
  clear hRR hns hns2 c2 c6
  go_enter Tryz.func128, Tryz.ntmps128
  go_upto_region 1 with fail
  rw [← hB]
  clear hB
  generalize World.alloc w _ = W0 at HA0 H0 ⊢
  go_wp2_with fail
  refine (CE.out _ H0.out).mono ?_
  intro e w5 hpost
  have hst : ∃ (k n : Int) (aa : Option Addr) (mm dd : Nat) (ib : Bool), e = .returned (.tuple #[.agg #[.int .i64 k, .int .i64 n, .slice aa mm dd], .bool ib]) ∧ OneKept g W0 w5 ∧
      ((ib = true ∧ ∃ X D l', TG W0.heap.size D w5 X (.agg #[.int .i64 k, .int .i64 n, .slice aa mm dd]) ∧ LW g S l' o w w5 ∧ RR = loopP f lvl X l' o) ∨ (ib = false ∧ ∃ c, c ≠ 0 ∧ RR = .bad c ∧ FW g c w w5)) := by
    have hr := HR0.out
    generalize expP f (lvl + 1) l o = R0 at hpost hr
    cases R0 with
    | stuck => exact hpost.elim
    | bad c =>
      obtain ⟨⟨k, n, aa, mm, dd, he⟩, hc, hf⟩ := hpost
      exact ⟨k, n, aa, mm, dd, false, he, hf.2, .inr ⟨rfl, c, hc, hr, H0.out.failed hf⟩⟩
    | good p =>
      obtain ⟨⟨v, D, he, ht⟩, hw⟩ := hpost
      obtain ⟨k, n, aa, mm, dd, rfl⟩ := ht.form
      exact ⟨k, n, aa, mm, dd, true, he, hw.2, .inl ⟨rfl, p.1, D, p.2, ht, H0.out.went hw, hr⟩⟩
  clear hpost CE HR0
  obtain ⟨k, n, aa, mm, dd, ib, rfl, hk5, hst⟩ := hst
  have A5 := HA0.out.oneKept hk5 hgB.symm
  obtain ⟨b10, hb10⟩ : ∃ b10, b10 = w5.heap.size := ⟨_, rfl⟩
  have hg10 : g ≠ b10 := by have h1 := hk5.size; have h2 := HA0.out.lt; have h3 := H0.out.rd.lt; omega
  have hB10 : B ≠ b10 := by have := A5.lt; omega
  have HW10 := Lib.hid (show w.heap.size ≤ b10 by have h1 := hk5.size; have h2 := HA0.out.lt; have h3 := HBB.out; omega)
  have LS := Lib.hid (show LoopSt g S o w B b10 lvl f RR f (.bool ib) (w5.alloc (exO (.int .i64 k) (.int .i64 n) (.slice aa mm dd))) from
    ⟨k, n, aa, mm, dd, Nat.le_refl _, At.newAt w5 _ b10 hb10, A5.alloc _, by
      rcases hst with ⟨rfl, X, D, l', h1, h2, h3⟩ | ⟨rfl, c, h1, h2, h3⟩
      · exact .inl ⟨rfl, X, D, l', (h1.weak H0.out.kept.size).then_ (below_new (Below.refl _ _) _), (fun h => by have h4 := (h1.2 B h).1; have h5 := HA0.out.lt; omega), (fun h => by have h4 := (h1.2 b10 h).2; omega), h2.then_ (below_new (Below.refl _ _) _), h3⟩
      · exact .inr ⟨rfl, c, h1, h2, h3.then_ (below_new (Below.refl _ _) _)⟩⟩)
  clear hst A5 hk5 H0 HA0
  go_wp2_with fail
  rw [← hb10]
  clear hb10
  generalize World.alloc w5 _ = W6 at LS ⊢
  go_loopg [11] f (fun gf isv wr => LoopSt g S o w B b10 lvl f RR gf isv wr)
  case atStart => exact LS.out
  case round =>
    clear LS
    obtain ⟨k, n, aa, mm, dd, hgf, N0, A0, hcase⟩ := hrel
    have N0h := Lib.hid N0; have A0h := Lib.hid A0
    rcases hcase with ⟨rfl, X, D, l', hT, hDB, hD10, hL, hr⟩ | ⟨rfl, c, hc, hr, hF⟩
    · cases gk with
      | zero => exact absurd (hr.trans (by rw [loopP])) HNS.out
      | succ g' =>
        have HT := Lib.hid hT; have HL := Lib.hid hL
        have CTK := Lib.hid (rd_token hL.rd (by omega))
        have hlen : (hd l').length ≤ 140737488355328 := Nat.le_trans hL.rd.hd_len hS
        cases hop : opAt lvl (hd l') with
        | none =>
          have HR := Lib.hid (show RR = .good (X, l') by rw [hr, loopP, hop])
          have CB := Lib.hid (fun W (hW : LW g S l' o w W) => show Calls Tryz.prog 152 #[.string (tkS (hd l')), .int .i64 (lvl : Int)] W (fun e w' => e = .returned (.tuple #[.int .i64 0, .bool false]) ∧ Below W.heap.size W w') from by
            have := rule_binary (hd l') lvl W hl5 hlen hW.gl.1 hW.gl.2.1; rw [hop] at this; exact this)
          generalize tkS (hd l') = TK at CTK CB
          clear hop hr hT hL hlen N0 A0
          go_wp2_with fail
          refine CTK.out.mono ?_
          rintro e w1 ⟨rfl, hb1⟩
          have H1 := Lib.hid (HL.out.then_ hb1)
          go_wp2_with fail
          refine (CB.out _ H1.out).mono ?_
          rintro e w2 ⟨rfl, hb2⟩
          have H2 := Lib.hid (H1.out.then_ hb2)
          have N2 := (N0h.out.then_ hb1).then_ hb2
          have n0 := N2.cell 0; have n1 := N2.cell 1; have n2 := N2.cell 2
          simp at n0 n1 n2
          have a1 := (A0h.out.then_ hb1).then_ hb2
          have T2 := Lib.hid ((HT.out.then_ hb1).then_ hb2)
          have z0 := a1.frozen 0; have z1 := a1.frozen 1; have z2 := a1.frozen 2; have zl := a1.lt; have y0 := a1.cell 0; have y1 := a1.cell 1; have y2 := a1.cell 2; simp at y0 y1 y2
          have F1 := Lib.hid (ex_store a1 (.int .i64 k) (.int .i64 n) (.slice aa mm dd))
          have F2 := Lib.hid (H2.out.store3 HG.out (b := B) HBB.out hgB (.int .i64 k) (.int .i64 n) (.slice aa mm dd))
          clear a1
          have T9 := Lib.hid (T2.out.set3 hDB (.int .i64 k) (.int .i64 n) (.slice aa mm dd))
          go_wp2_with fail
          generalize World.setCell (World.setCell (World.setCell w2 _ _) _ _) _ _ = W9 at F1 F2 T9 ⊢
          have e0 := F1.out.cell 0; have e1 := F1.out.cell 1; have e2 := F1.out.cell 2
          simp at e0 e1 e2
          (try simp only [Exit.inBlock, Exit.then])
          refine bodyPost_ret (v := .tuple #[.agg #[.int .i64 k, .int .i64 n, .slice aa mm dd], .bool true]) ?_ rfl ?_
          · simp [results, Tryz.results128, go_sem, e0, e1, e2]
          · exact (by rw [HR.out]; exact EPost.good_ T9.out ⟨F2.out.rd, F2.out.kept⟩)
        | some k2 =>
          have hk2 := opAt_I64 hop
          have hr2 : RR = (expP g' (lvl + 1) l'.tail o).bind fun p => if lvl = 3 then .good (.node k2 0 [X, p.1], p.2) else loopP g' lvl (.node k2 0 [X, p.1]) p.2 o := by rw [hr, loopP, hop]
          have hns3 : expP g' (lvl + 1) l'.tail o ≠ .stuck := fun h => HNS.out (by rw [hr2, h]; rfl)
          have HR0 := Lib.hid hr2
          have CB := Lib.hid (fun W (hW : LW g S l' o w W) => show Calls Tryz.prog 152 #[.string (tkS (hd l')), .int .i64 (lvl : Int)] W (fun e w' => e = .returned (.tuple #[.int .i64 k2, .bool true]) ∧ Below W.heap.size W w') from by
            have := rule_binary (hd l') lvl W hl5 hlen hW.gl.1 hW.gl.2.1; rw [hop] at this; exact this)
          have CE := Lib.hid (fun W (hW : LW g S l'.tail o w W) => show Calls Tryz.prog 128 #[.pointer (some ⟨g, 0, none⟩), .int .i64 ((lvl : Int) + 1)] W (EPost g S o W (expP g' (lvl + 1) l'.tail o)) from IH g' (by omega) (lvl + 1) l'.tail o W (by omega) ho hns3 hW.rd hW.gl)
          generalize tkS (hd l') = TK at CTK CB
          clear hop hr hr2 hns3 hT hL hlen N0 A0
          go_wp2_with fail
          refine CTK.out.mono ?_
          rintro e w1 ⟨rfl, hb1⟩
          have H1 := Lib.hid (HL.out.then_ hb1)
          go_wp2_with fail
          refine (CB.out _ H1.out).mono ?_
          rintro e w2 ⟨rfl, hb2⟩
          have H2 := Lib.hid (H1.out.then_ hb2)
          have CS := Lib.hid (rd_scan H2.out.rd (by omega))
          go_wp2_with fail
          refine CS.out.mono ?_
          rintro e w3 ⟨rfl, hw3⟩
          have hgw0 : g < w.heap.size := hgw
          have H3 := Lib.hid ((H2.out.went hw3).then_ (below_new (Below.refl _ _) zeroE))
          have N3 := Lib.hid ((((N0h.out.then_ hb1).then_ hb2).oneKept hw3.2 hg10.symm).alloc zeroE)
          have A3 := Lib.hid ((((A0h.out.then_ hb1).then_ hb2).oneKept hw3.2 hgB.symm).alloc zeroE)
          have T3 := Lib.hid ((((HT.out.then_ hb1).then_ hb2).one hw3.2 hgw0).then_ (below_new (Below.refl _ _) zeroE))
          have hD3 := (((HT.out.then_ hb1).then_ hb2).one hw3.2 hgw0).2
          obtain ⟨b14, hb14⟩ : ∃ b14, b14 = w3.heap.size := ⟨_, rfl⟩
          have M3 := Lib.hid (At.newAt w3 zeroE b14 hb14)
          have HW14 := Lib.hid (show w.heap.size ≤ b14 by rw [hb14]; exact (H2.out.went hw3).kept.size)
          have hg14 : g ≠ b14 := by have := hw3.1.lt; omega
          have hB14 : B ≠ b14 := by have := (((A0h.out.then_ hb1).then_ hb2).oneKept hw3.2 hgB.symm).lt; omega
          have h1014 : b10 ≠ b14 := by have := (((N0h.out.then_ hb1).then_ hb2).oneKept hw3.2 hg10.symm).lt; omega
          have hD14 : ¬ D b14 := fun h => by have := (hD3 b14 h).2; omega
          clear hb1 hb2 hw3 hD3 H1 H2 HT HL N0h A0h CTK CB CS
          go_upto_region 18 with fail
          rw [← hb14]
          clear hb14
          generalize World.alloc w3 _ = W4 at H3 N3 A3 T3 M3 ⊢
          go_wp2_with fail
          refine (CE.out _ H3.out).mono ?_
          intro e w5 hpost
          have hst : ∃ (k' n' : Int) (ab : Option Addr) (mb db : Nat) (ib : Bool), e = .returned (.tuple #[.agg #[.int .i64 k', .int .i64 n', .slice ab mb db], .bool ib]) ∧ OneKept g W4 w5 ∧
              ((ib = true ∧ ∃ Y E l2, TG W4.heap.size E w5 Y (.agg #[.int .i64 k', .int .i64 n', .slice ab mb db]) ∧ LW g S l2 o w w5 ∧ RR = if lvl = 3 then .good (.node k2 0 [X, Y], l2) else loopP g' lvl (.node k2 0 [X, Y]) l2 o) ∨ (ib = false ∧ ∃ c, c ≠ 0 ∧ RR = .bad c ∧ FW g c w w5)) := by
            have hr := HR0.out
            generalize expP g' (lvl + 1) l'.tail o = R0 at hpost hr
            cases R0 with
            | stuck => exact hpost.elim
            | bad c =>
              obtain ⟨⟨k, n, aa, mm, dd, he⟩, hc, hf⟩ := hpost
              exact ⟨k, n, aa, mm, dd, false, he, hf.2, .inr ⟨rfl, c, hc, hr, H3.out.failed hf⟩⟩
            | good p =>
              obtain ⟨⟨v, D, he, ht⟩, hw⟩ := hpost
              obtain ⟨k, n, aa, mm, dd, rfl⟩ := ht.form
              exact ⟨k, n, aa, mm, dd, true, he, hw.2, .inl ⟨rfl, p.1, D, p.2, ht, H3.out.went hw, hr⟩⟩
          clear hpost CE HR0
          obtain ⟨k', n', ab, mb, db, ib, rfl, hk5, hst⟩ := hst
          have n5 := M3.out.oneKept hk5 hg14.symm
          have z0 := n5.frozen 0; have z1 := n5.frozen 1; have z2 := n5.frozen 2; have zl := n5.lt; have y0 := n5.cell 0; have y1 := n5.cell 1; have y2 := n5.cell 2; simp at y0 y1 y2
          have M6 := Lib.hid (ex_store n5 (.int .i64 k') (.int .i64 n') (.slice ab mb db))
          have N6 := Lib.hid ((N3.out.oneKept hk5 hg10.symm).apart3 (p := b14) h1014 (.int .i64 k') (.int .i64 n') (.slice ab mb db))
          have A6 := Lib.hid ((A3.out.oneKept hk5 hgB.symm).apart3 (p := b14) hB14 (.int .i64 k') (.int .i64 n') (.slice ab mb db))
          have T6 := Lib.hid ((T3.out.one hk5 hgw).set3 hD14 (.int .i64 k') (.int .i64 n') (.slice ab mb db))
          have hst6 : (ib = true ∧ ∃ Y E l2, TG w.heap.size E (((w5.setCell ⟨b14, 0, none⟩ (.int .i64 k')).setCell ⟨b14, 1, none⟩ (.int .i64 n')).setCell ⟨b14, 2, none⟩ (.slice ab mb db)) Y (.agg #[.int .i64 k', .int .i64 n', .slice ab mb db]) ∧ ¬ E B ∧ ¬ E b10 ∧ LW g S l2 o w (((w5.setCell ⟨b14, 0, none⟩ (.int .i64 k')).setCell ⟨b14, 1, none⟩ (.int .i64 n')).setCell ⟨b14, 2, none⟩ (.slice ab mb db)) ∧ RR = if lvl = 3 then .good (.node k2 0 [X, Y], l2) else loopP g' lvl (.node k2 0 [X, Y]) l2 o) ∨ (ib = false ∧ ∃ c, c ≠ 0 ∧ RR = .bad c ∧ FW g c w (((w5.setCell ⟨b14, 0, none⟩ (.int .i64 k')).setCell ⟨b14, 1, none⟩ (.int .i64 n')).setCell ⟨b14, 2, none⟩ (.slice ab mb db))) := by
            have hw14 := HW14.out
            rcases hst with ⟨rfl, Y, E, l2, h1, h2, h3⟩ | ⟨rfl, c, h1, h2, h3⟩
            · have no : ∀ b, b < W4.heap.size → ¬ E b := fun b hb h => by have := (h1.2 b h).1; omega
              exact .inl ⟨rfl, Y, E, l2, (h1.weak H3.out.kept.size).set3 (no b14 M3.out.lt) (.int .i64 k') (.int .i64 n') (.slice ab mb db), no B A3.out.lt, no b10 N3.out.lt, h2.store3 HG.out hw14 hg14 (.int .i64 k') (.int .i64 n') (.slice ab mb db), h3⟩
            · exact .inr ⟨rfl, c, h1, h2, h3.store3 hw14 hg14 (.int .i64 k') (.int .i64 n') (.slice ab mb db)⟩
          have HST := Lib.hid hst6
          clear hst hst6 n5 H3 N3 A3 T3 M3 hk5
          go_upto_region 19 with fail
          generalize World.setCell (World.setCell (World.setCell w5 _ _) _ _) _ _ = W6 at M6 N6 A6 T6 HST ⊢
          clear z0 z1 z2 zl y0 y1 y2
          have m0 := M6.out.cell 0; have m1 := M6.out.cell 1; have m2 := M6.out.cell 2
          have n0 := N6.out.cell 0; have n1 := N6.out.cell 1; have n2 := N6.out.cell 2
          simp at m0 m1 m2 n0 n1 n2
          have N7 := N6.out.alloc (.cells #[.int .i64 k, .int .i64 n, .slice aa mm dd, .int .i64 k', .int .i64 n', .slice ab mb db] 111)
          have A7 := A6.out.alloc (.cells #[.int .i64 k, .int .i64 n, .slice aa mm dd, .int .i64 k', .int .i64 n', .slice ab mb db] 111)
          have z0 := N7.frozen 0; have z1 := N7.frozen 1; have z2 := N7.frozen 2; have zl := N7.lt; have y0 := N7.cell 0; have y1 := N7.cell 1; have y2 := N7.cell 2; simp at y0 y1 y2
          have N8 := Lib.hid (ex_store N7 (.int .i64 k2) (.int .i64 0) (.slice (some ⟨W6.heap.size, 0, none⟩) 2 2))
          have A8 := Lib.hid (A7.apart3 (p := b10) hB10 (.int .i64 k2) (.int .i64 0) (.slice (some ⟨W6.heap.size, 0, none⟩) 2 2))
          have hst8 : LoopAf g S o w B b10 lvl RR g' k2 W6.heap.size ib (((((W6.alloc (.cells #[.int .i64 k, .int .i64 n, .slice aa mm dd, .int .i64 k', .int .i64 n', .slice ab mb db] 111))).setCell ⟨b10, 0, none⟩ (.int .i64 k2)).setCell ⟨b10, 1, none⟩ (.int .i64 0)).setCell ⟨b10, 2, none⟩ (.slice (some ⟨W6.heap.size, 0, none⟩) 2 2)) := by
            rcases HST.out with ⟨rfl, Y, E, l2, h1, h2, h3, h4, h5⟩ | ⟨rfl, c, h1, h2, h3⟩
            · have t7 := TG.node2 T6.out h1 h4.kept.size hk2
              have nB : ¬ (D B ∨ E B ∨ B = W6.heap.size) := fun h => by rcases h with h | h | h; exact hDB h; exact h2 h; (have := A6.out.lt; omega)
              have n10 : ¬ (D b10 ∨ E b10 ∨ b10 = W6.heap.size) := fun h => by rcases h with h | h | h; exact hD10 h; exact h3 h; (have := N6.out.lt; omega)
              exact .inl ⟨rfl, .node k2 0 [X, Y], _, l2, t7.set3 n10 (.int .i64 k2) (.int .i64 0) (.slice (some ⟨W6.heap.size, 0, none⟩) 2 2), nB, n10, (h4.then_ (below_new (Below.refl _ _) _)).store3 HG.out HW10.out hg10 (.int .i64 k2) (.int .i64 0) (.slice (some ⟨W6.heap.size, 0, none⟩) 2 2), h5⟩
            · exact .inr ⟨rfl, c, h1, h2, (h3.then_ (below_new (Below.refl _ _) _)).store3 HW10.out hg10 (.int .i64 k2) (.int .i64 0) (.slice (some ⟨W6.heap.size, 0, none⟩) 2 2)⟩
          have HST8 := Lib.hid hst8
          clear hst8 HST N7 A7 T6 N6 A6 M6
          go_upto_region 20 with fail
          generalize World.setCell (World.setCell (World.setCell (World.alloc W6 _) _ _) _ _) _ _ = w7 at N8 A8 HST8 ⊢
          clear z0 z1 z2 zl y0 y1 y2 m0 m1 m2 n0 n1 n2
          obtain ⟨zz, hzz⟩ : ∃ zz, zz = W6.heap.size := ⟨_, rfl⟩
          rw [← hzz] at N8 HST8 ⊢
          clear hzz
          by_cases c3 : lvl = 3
          · have q3 : ((lvl : Int) == 3) = true := by simp [c3]
            have n0 := N8.out.cell 0; have n1 := N8.out.cell 1; have n2 := N8.out.cell 2
            simp at n0 n1 n2
            have a1 := A8.out
            rcases HST8.out with ⟨rfl, Z, F, l2, h1, h2, h3, h4, h5⟩ | ⟨rfl, c, hc, h2, h3⟩
            · have HR := Lib.hid (show RR = .good (Z, l2) by rw [h5, if_pos c3])
              have T9' := Lib.hid h1; have H9 := Lib.hid h4
              clear h1 h4 h5 c3 h3
              have z0 := a1.frozen 0; have z1 := a1.frozen 1; have z2 := a1.frozen 2; have zl := a1.lt; have y0 := a1.cell 0; have y1 := a1.cell 1; have y2 := a1.cell 2; simp at y0 y1 y2
              have F1 := Lib.hid (ex_store a1 (.int .i64 k2) (.int .i64 0) (.slice (some ⟨zz, 0, none⟩) 2 2))
              have F2 := Lib.hid (H9.out.store3 HG.out (b := B) HBB.out hgB (.int .i64 k2) (.int .i64 0) (.slice (some ⟨zz, 0, none⟩) 2 2))
              clear a1
              have T9 := Lib.hid (T9'.out.set3 h2 (.int .i64 k2) (.int .i64 0) (.slice (some ⟨zz, 0, none⟩) 2 2))
              go_wp2_with fail
              generalize World.setCell (World.setCell (World.setCell w7 _ _) _ _) _ _ = W9 at F1 F2 T9 ⊢
              have e0 := F1.out.cell 0; have e1 := F1.out.cell 1; have e2 := F1.out.cell 2
              simp at e0 e1 e2
              (try simp only [Exit.inBlock, Exit.then])
              refine bodyPost_ret (v := .tuple #[.agg #[.int .i64 k2, .int .i64 0, .slice (some ⟨zz, 0, none⟩) 2 2], .bool true]) ?_ rfl ?_
              · simp [results, Tryz.results128, go_sem, e0, e1, e2]
              · exact (by rw [HR.out]; exact EPost.good_ T9.out ⟨F2.out.rd, F2.out.kept⟩)
            · have HR := Lib.hid h2; have H9 := Lib.hid h3
              clear h2 h3 c3
              have z0 := a1.frozen 0; have z1 := a1.frozen 1; have z2 := a1.frozen 2; have zl := a1.lt; have y0 := a1.cell 0; have y1 := a1.cell 1; have y2 := a1.cell 2; simp at y0 y1 y2
              have F1 := Lib.hid (ex_store a1 (.int .i64 k2) (.int .i64 0) (.slice (some ⟨zz, 0, none⟩) 2 2))
              have F2 := Lib.hid (H9.out.store3 (b := B) HBB.out hgB (.int .i64 k2) (.int .i64 0) (.slice (some ⟨zz, 0, none⟩) 2 2))
              clear a1
              go_wp2_with fail
              generalize World.setCell (World.setCell (World.setCell w7 _ _) _ _) _ _ = W9 at F1 F2 ⊢
              have e0 := F1.out.cell 0; have e1 := F1.out.cell 1; have e2 := F1.out.cell 2
              simp at e0 e1 e2
              (try simp only [Exit.inBlock, Exit.then])
              refine bodyPost_ret (v := .tuple #[.agg #[.int .i64 k2, .int .i64 0, .slice (some ⟨zz, 0, none⟩) 2 2], .bool false]) ?_ rfl ?_
              · simp [results, Tryz.results128, go_sem, e0, e1, e2]
              · exact (by rw [HR.out]; exact EPost.bad_ hc F2.out)
          · have q3 : ((lvl : Int) == 3) = false := by simp; omega
            have HRD := Lib.hid (show LoopSt g S o w B b10 lvl f RR g' (.bool ib) w7 from ⟨_, _, _, _, _, by omega, N8.out, A8.out, by
              rcases HST8.out with ⟨rfl, Z, F, l2, h1, h2, h3, h4, h5⟩ | ⟨rfl, c, hc, h2, h3⟩
              · exact .inl ⟨rfl, Z, F, l2, h1, h2, h3, h4, by rw [h5, if_neg c3]⟩
              · exact .inr ⟨rfl, c, hc, h2, h3⟩⟩)
            clear c3
            go_wp2_with fail
            go_roundg g'
            case measure => omega
            case rel => exact HRD.out
    · have HR := Lib.hid hr; have H9 := Lib.hid hF
      have n0 := N0.cell 0; have n1 := N0.cell 1; have n2 := N0.cell 2
      simp at n0 n1 n2
      have a1 := A0h.out
      clear N0 A0 hr hF
      have z0 := a1.frozen 0; have z1 := a1.frozen 1; have z2 := a1.frozen 2; have zl := a1.lt; have y0 := a1.cell 0; have y1 := a1.cell 1; have y2 := a1.cell 2; simp at y0 y1 y2
      have F1 := Lib.hid (ex_store a1 (.int .i64 k) (.int .i64 n) (.slice aa mm dd))
      have F2 := Lib.hid (H9.out.store3 (b := B) HBB.out hgB (.int .i64 k) (.int .i64 n) (.slice aa mm dd))
      clear a1
      go_wp2_with fail
      generalize World.setCell (World.setCell (World.setCell wr _ _) _ _) _ _ = W9 at F1 F2 ⊢
      have e0 := F1.out.cell 0; have e1 := F1.out.cell 1; have e2 := F1.out.cell 2
      simp at e0 e1 e2
      (try simp only [Exit.inBlock, Exit.then])
      refine bodyPost_ret (v := .tuple #[.agg #[.int .i64 k, .int .i64 n, .slice aa mm dd], .bool false]) ?_ rfl ?_
      · simp [results, Tryz.results128, go_sem, e0, e1, e2]
      · exact (by rw [HR.out]; exact EPost.bad_ hc F2.out)
end Go.Proofs.YtdmkghgachapaabGreatDoor

set_option linter.unusedSimpArgs false
namespace Go.Proofs.YtdmkghgachapaabGreatDoor
set_option linter.unusedVariables false
set_option maxRecDepth 100000
open Go.RowKit Go.Shelf
theorem expr_all {g : Nat} {S : ByteArray} (hS : S.size ≤ 140737488355328) : ∀ f, (∀ f', f' ≤ f → ExprOk g S f') ∧ LeafOk g S f
  | 0 => ⟨fun f' h => by
      obtain rfl : f' = 0 := by omega
      intro lvl l o w _ _ hns; exact absurd (by rw [expP]) hns, by intro l o w _ hns; exact absurd (by rw [leafP]) hns⟩
  | f + 1 => by
    obtain ⟨h1, h2⟩ := expr_all hS f
    exact ⟨fun f' h => by
      by_cases e : f' ≤ f
      · exact h1 f' e
      · obtain rfl : f' = f + 1 := by omega
        exact expr_step hS h1 h2, leaf_step hS (h1 f (Nat.le_refl _))⟩
theorem wordP_cases (l : List Tok) : wordP l = .bad 4 ∨ wordP l = .good (hd l, l.tail) := by unfold wordP; split <;> simp
theorem signP_cases (l : List Tok) : (∃ c, signP l = .bad c) ∨ ∃ p, signP l = .good p := by
  unfold signP
  split
  · rcases natP_cases l.tail with ⟨c, e⟩ | ⟨n, e⟩
    · exact .inl ⟨c, by rw [e]; rfl⟩
    · exact .inr ⟨_, by rw [e]; rfl⟩
  · rcases natP_cases l with ⟨c, e⟩ | ⟨n, e⟩
    · exact .inl ⟨c, e⟩
    · exact .inr ⟨_, e⟩
abbrev moO (x : ByteArray) (a b : Int) : Obj := .cells #[.string x, .int .i64 a, .int .i64 b] 128
theorem mo_store {w : World} {b : Nat} {x : ByteArray} {m n : Int} (h : At w b (moO x m n)) (k' n' s' : Value) : At (((w.setCell ⟨b, 0, none⟩ k').setCell ⟨b, 1, none⟩ n').setCell ⟨b, 2, none⟩ s') b (.cells #[k', n', s'] 128) := h.store3 k' n' s'
def MPost (g : Nat) (S : ByteArray) (o : Nat) (w : World) : Res (PMon × List Tok) → Ending → World → Prop
  | .stuck, _, _ => False
  | .bad c, e, w' => (∃ (x : ByteArray) (a b : Int), e = .returned (.tuple #[.agg #[.string x, .int .i64 a, .int .i64 b], .bool false])) ∧ c ≠ 0 ∧ FW g c w w'
  | .good p, e, w' => e = .returned (.tuple #[.agg #[.string (tkS p.1.1), .int .i64 p.1.2.1, .int .i64 p.1.2.2], .bool true]) ∧ LW g S p.2 o w w'
theorem LW.set {g : Nat} {S : ByteArray} {l : List Tok} {o : Nat} {w W : World} (h : LW g S l o w W) (hw : Glob g w) {b : Nat} (hb : w.heap.size ≤ b) (hg : g ≠ b) (i : Nat) (u : Value) : LW g S l o w (W.setCell ⟨b, i, none⟩ u) := by
  obtain ⟨a, n, hp, ha⟩ := h.rd
  exact ⟨h.kept.setNew hb i u, ⟨a, n, hp, ha.apart (p := ⟨b, i, none⟩) hg u⟩, hw.keep (h.kept.setNew hb i u)⟩
theorem FW.set {g : Nat} {c : Int} {w W : World} (h : FW g c w W) {b : Nat} (hb : w.heap.size ≤ b) (hg : g ≠ b) (i : Nat) (u : Value) : FW g c w (W.setCell ⟨b, i, none⟩ u) := by
  obtain ⟨S, a, n, o, ha⟩ := h.bad
  exact ⟨h.kept.setNew hb i u, ⟨S, a, n, o, ha.apart (p := ⟨b, i, none⟩) hg u⟩⟩
theorem RdPost.lw {α : Type} {g : Nat} {S : ByteArray} {o : Nat} {d : Value} {val : α → Value} {l : List Tok} {w W W' : World} {p : α × List Tok} {e : Ending} (h : LW g S l o w W) (k : RdPost g S o d val W (.good p) e W') : e = .returned (.tuple #[val p.1, .bool true]) ∧ LW g S p.2 o w W' ∧ OneKept g W W' := ⟨k.1, h.went k.2, k.2.2⟩
theorem RdPost.fw {α : Type} {g : Nat} {S : ByteArray} {o : Nat} {d : Value} {val : α → Value} {l : List Tok} {w W W' : World} {c : Int} {e : Ending} (h : LW g S l o w W) (k : RdPost g S o d val W (.bad c) e W') : e = .returned (.tuple #[d, .bool false]) ∧ c ≠ 0 ∧ FW g c w W' ∧ OneKept g W W' := ⟨k.1, k.2.1, h.failed k.2.2, k.2.2.2⟩
set_option maxHeartbeats 8000000 in
theorem rd_month {S : ByteArray} {g o : Nat} {l : List Tok} {w : World} (h : RdAt w g S l o) (hG : Glob g w) (hS : S.size ≤ 140737488355328) :
    Calls Tryz.prog 129 #[.pointer (some ⟨g, 0, none⟩)] w (MPost g S o w (monP l)) := by
  have hgw := h.lt
  have HG := Lib.hid hG
  obtain ⟨RR, hRR⟩ : ∃ RR, RR = monP l := ⟨_, rfl⟩
  rw [← hRR]
  have HRR := Lib.hid hRR
  have HB0 : Below w.heap.size w ((w.alloc (moO ⟨#[]⟩ 0 0)).alloc (moO ⟨#[]⟩ 0 0)) := below_new (below_new (Below.refl _ _) _) _
  have H0 := Lib.hid ((LW.refl h hG).then_ HB0)
  obtain ⟨B, hB⟩ : ∃ B, B = w.heap.size := ⟨_, rfl⟩
  obtain ⟨b4, hb4⟩ : ∃ b4, b4 = w.heap.size + 1 := ⟨_, rfl⟩
  have HA0 := Lib.hid ((At.newAt w (moO ⟨#[]⟩ 0 0) B hB).alloc (moO ⟨#[]⟩ 0 0))
  have HM0 := Lib.hid (At.newAt (w.alloc (moO ⟨#[]⟩ 0 0)) (moO ⟨#[]⟩ 0 0) b4 (by rw [hb4, World.size_alloc]))
  have HBB := Lib.hid (show w.heap.size ≤ B by omega)
  have HB4 := Lib.hid (show w.heap.size ≤ b4 by omega)
  have hgB : g ≠ B := by omega
  have hg4 : g ≠ b4 := by omega
  have hB4 : B ≠ b4 := by omega
  clear h hG hRR HB0
  go_enter Tryz.func129, Tryz.ntmps129
  go_upto_region 3 with fail
  (try rw [World.size_alloc])
  rw [← hb4, ← hB]
  clear hb4 hB
  generalize World.alloc (World.alloc w _) _ = W0 at HA0 HM0 H0 ⊢
  have CW := Lib.hid (rd_word H0.out.rd (by omega))
  go_wp2_with fail
  refine CW.out.mono ?_
  rcases wordP_cases l with ew | ew
  · rw [ew]
    intro e w1 hp
    obtain ⟨rfl, hc, hF, hk⟩ := hp.fw H0.out
    have HR := Lib.hid (show RR = .bad 4 by rw [HRR.out, monP, ew]; rfl)
    have A := Lib.hid (HA0.out.oneKept hk hgB.symm); have M := Lib.hid (HM0.out.oneKept hk hg4.symm); have H := Lib.hid hF
    clear hp hF hk HA0 HM0 H0 CW ew HRR
    have z0 := M.out.frozen 0; have zl := M.out.lt; have y0 := M.out.cell 0; simp at y0
    have M9 := Lib.hid (show At (w1.setCell ⟨b4, 0, none⟩ (.string ⟨#[]⟩)) b4 (moO ⟨#[]⟩ 0 0) from M.out.store 0 _)
    have A9 := Lib.hid (A.out.apart (p := ⟨b4, 0, none⟩) hB4 (.string ⟨#[]⟩))
    have H9 := Lib.hid (H.out.set HB4.out hg4 0 (.string ⟨#[]⟩))
    clear M A H
    go_upto_region 4 with fail
    generalize World.setCell w1 _ _ = w2 at M9 A9 H9 ⊢
    clear z0 zl y0
    have n0 := M9.out.cell 0; have n1 := M9.out.cell 1; have n2 := M9.out.cell 2; simp at n0 n1 n2
    have a1 := A9.out
    have z0 := a1.frozen 0; have z1 := a1.frozen 1; have z2 := a1.frozen 2; have zl := a1.lt; have y0 := a1.cell 0; have y1 := a1.cell 1; have y2 := a1.cell 2; simp at y0 y1 y2
    have F1 := Lib.hid (mo_store a1 (.string ⟨#[]⟩) (.int .i64 0) (.int .i64 0))
    have F2 := Lib.hid (H9.out.store3 (b := B) HBB.out hgB (.string ⟨#[]⟩) (.int .i64 0) (.int .i64 0))
    clear a1
    go_wp2_with fail
    generalize World.setCell (World.setCell (World.setCell w2 _ _) _ _) _ _ = W9 at F1 F2 ⊢
    have e0 := F1.out.cell 0; have e1 := F1.out.cell 1; have e2 := F1.out.cell 2
    simp at e0 e1 e2
    (try simp only [Exit.inBlock, Exit.then])
    refine bodyPost_ret (v := .tuple #[.agg #[.string ⟨#[]⟩, .int .i64 0, .int .i64 0], .bool false]) ?_ rfl ?_
    · simp [results, Tryz.results129, go_sem, e0, e1, e2]
    · exact (by rw [HR.out]; exact ⟨⟨_, _, _, rfl⟩, by decide, F2.out⟩)
  · rw [ew]
    intro e w1 hp
    obtain ⟨rfl, hL, hk⟩ := hp.lw H0.out
    obtain ⟨X, hX⟩ : ∃ X, X = tkS (hd l) := ⟨_, rfl⟩
    have HX := Lib.hid hX
    rw [← hX]
    have A := Lib.hid (HA0.out.oneKept hk hgB.symm); have M := Lib.hid (HM0.out.oneKept hk hg4.symm); have H := Lib.hid hL
    simp only at H
    clear hp hL hk HA0 HM0 H0 CW hX
    have z0 := M.out.frozen 0; have zl := M.out.lt; have y0 := M.out.cell 0; simp at y0
    have M9 := Lib.hid (show At (w1.setCell ⟨b4, 0, none⟩ (.string X)) b4 (moO X 0 0) from M.out.store 0 _)
    have A9 := Lib.hid (A.out.apart (p := ⟨b4, 0, none⟩) hB4 (.string X))
    have H9 := Lib.hid (H.out.set HG.out HB4.out hg4 0 (.string X))
    clear M A H
    go_upto_region 4 with fail
    generalize World.setCell w1 _ _ = w2 at M9 A9 H9 ⊢
    clear z0 zl y0
    have CN := Lib.hid (rd_number H9.out.rd hS)
    go_wp2_with fail
    refine CN.out.mono ?_
    rcases signP_cases l.tail with ⟨c, es⟩ | ⟨p, es⟩
    · rw [es]
      intro e w3 hp
      obtain ⟨rfl, hc, hF, hk⟩ := hp.fw H9.out
      have HR := Lib.hid (show RR = .bad c by rw [HRR.out, monP, ew]; show (signP l.tail).bind _ = _; rw [es]; rfl)
      have A := Lib.hid (A9.out.oneKept hk hgB.symm); have M := Lib.hid (M9.out.oneKept hk hg4.symm); have H := Lib.hid hF
      clear hp hF hk A9 M9 H9 CN ew es HRR
      have z0 := M.out.frozen 1; have zl := M.out.lt; have y0 := M.out.cell 1; simp at y0
      have M9 := Lib.hid (show At (w3.setCell ⟨b4, 1, none⟩ (.int .i64 0)) b4 (moO X 0 0) from M.out.store 1 _)
      have A9 := Lib.hid (A.out.apart (p := ⟨b4, 1, none⟩) hB4 (.int .i64 0))
      have H9 := Lib.hid (H.out.set HB4.out hg4 1 (.int .i64 0))
      clear M A H
      go_upto_region 7 with fail
      generalize World.setCell w3 _ _ = W4 at M9 A9 H9 ⊢
      clear z0 zl y0
      have n0 := M9.out.cell 0; have n1 := M9.out.cell 1; have n2 := M9.out.cell 2; simp at n0 n1 n2
      have a1 := A9.out
      have z0 := a1.frozen 0; have z1 := a1.frozen 1; have z2 := a1.frozen 2; have zl := a1.lt; have y0 := a1.cell 0; have y1 := a1.cell 1; have y2 := a1.cell 2; simp at y0 y1 y2
      have F1 := Lib.hid (mo_store a1 (.string X) (.int .i64 0) (.int .i64 0))
      have F2 := Lib.hid (H9.out.store3 (b := B) HBB.out hgB (.string X) (.int .i64 0) (.int .i64 0))
      clear a1
      go_wp2_with fail
      generalize World.setCell (World.setCell (World.setCell W4 _ _) _ _) _ _ = W9 at F1 F2 ⊢
      have e0 := F1.out.cell 0; have e1 := F1.out.cell 1; have e2 := F1.out.cell 2
      simp at e0 e1 e2
      (try simp only [Exit.inBlock, Exit.then])
      refine bodyPost_ret (v := .tuple #[.agg #[.string X, .int .i64 0, .int .i64 0], .bool false]) ?_ rfl ?_
      · simp [results, Tryz.results129, go_sem, e0, e1, e2]
      · exact (by rw [HR.out]; exact ⟨⟨_, _, _, rfl⟩, hc, F2.out⟩)
    · rw [es]
      obtain ⟨n, l2⟩ := p
      have HRR2 := Lib.hid (show RR = if hd l2 = [] then .good ((hd l, n, n), l2) else (signP l2).bind fun s => .good ((hd l, n, s.1), s.2) by rw [HRR.out, monP, ew]; show (signP l.tail).bind _ = _; rw [es]; rfl)
      intro e w3 hp
      obtain ⟨rfl, hL, hk⟩ := hp.lw H9.out
      have A := Lib.hid (A9.out.oneKept hk hgB.symm); have M := Lib.hid (M9.out.oneKept hk hg4.symm); have H := Lib.hid hL
      simp only at H
      clear hp hL hk A9 M9 H9 CN ew es HRR
      have z0 := M.out.frozen 1; have zl := M.out.lt; have y0 := M.out.cell 1; simp at y0
      have M9 := Lib.hid (show At (w3.setCell ⟨b4, 1, none⟩ (.int .i64 n)) b4 (moO X n 0) from M.out.store 1 _)
      have A9 := Lib.hid (A.out.apart (p := ⟨b4, 1, none⟩) hB4 (.int .i64 n))
      have H9 := Lib.hid (H.out.set HG.out HB4.out hg4 1 (.int .i64 n))
      clear M A H
      go_upto_region 7 with fail
      generalize World.setCell w3 _ _ = W4 at M9 A9 H9 ⊢
      clear z0 zl y0
      have M := M9; have A := A9; have H := H9
      clear M9 A9 H9
      have n1 : W4.cell? ⟨b4, 1, none⟩ = some (.int .i64 n) := M.out.cell 1
      have z0 := M.out.frozen 2; have zl := M.out.lt; have y0 := M.out.cell 2; simp at y0
      have M9 := Lib.hid (show At (W4.setCell ⟨b4, 2, none⟩ (.int .i64 n)) b4 (moO X n n) from M.out.store 2 _)
      have A9 := Lib.hid (A.out.apart (p := ⟨b4, 2, none⟩) hB4 (.int .i64 n))
      have H9 := Lib.hid (H.out.set HG.out HB4.out hg4 2 (.int .i64 n))
      clear M A H
      go_upto_region 10 with fail
      generalize World.setCell W4 _ _ = W5 at M9 A9 H9 ⊢
      clear z0 zl y0
      clear n1
      have CK := Lib.hid (rd_token H9.out.rd (by omega))
      obtain ⟨Y, hY⟩ : ∃ Y, Y = tkS (hd l2) := ⟨_, rfl⟩
      rw [← hY] at CK
      by_cases he : hd l2 = []
      · have HR := Lib.hid (show RR = .good ((hd l, n, n), l2) by rw [HRR2.out, if_pos he])
        obtain rfl : Y = ⟨#[]⟩ := by rw [hY, he]
        clear he hY HRR2
        go_upto_region 10 with fail
        go_wp2_with fail
        refine CK.out.mono ?_
        rintro e w6 ⟨rfl, hb⟩
        have A := Lib.hid (A9.out.then_ hb); have M := Lib.hid (M9.out.then_ hb); have H := Lib.hid (H9.out.then_ hb)
        clear hb A9 M9 H9 CK
        have M9 := M; have A9 := A; have H9 := H
        clear M A H
        have n0 := M9.out.cell 0; have n1 := M9.out.cell 1; have n2 := M9.out.cell 2; simp at n0 n1 n2
        have a1 := A9.out
        have z0 := a1.frozen 0; have z1 := a1.frozen 1; have z2 := a1.frozen 2; have zl := a1.lt; have y0 := a1.cell 0; have y1 := a1.cell 1; have y2 := a1.cell 2; simp at y0 y1 y2
        have F1 := Lib.hid (mo_store a1 (.string X) (.int .i64 n) (.int .i64 n))
        have F2 := Lib.hid (H9.out.store3 HG.out (b := B) HBB.out hgB (.string X) (.int .i64 n) (.int .i64 n))
        clear a1
        go_wp2_with fail
        generalize World.setCell (World.setCell (World.setCell w6 _ _) _ _) _ _ = W9 at F1 F2 ⊢
        have e0 := F1.out.cell 0; have e1 := F1.out.cell 1; have e2 := F1.out.cell 2
        simp at e0 e1 e2
        (try simp only [Exit.inBlock, Exit.then])
        refine bodyPost_ret (v := .tuple #[.agg #[.string X, .int .i64 n, .int .i64 n], .bool true]) ?_ rfl ?_
        · simp [results, Tryz.results129, go_sem, e0, e1, e2]
        · exact (by rw [HR.out]; exact ⟨by rw [HX.out], F2.out⟩)
      · have hne := str_ne Y (by rw [hY, tkS_len]; exact List.length_pos_iff.2 he)
        have HRR3 := Lib.hid (show RR = (signP l2).bind fun s => .good ((hd l, n, s.1), s.2) by rw [HRR2.out, if_neg he])
        clear he hY HRR2
        go_wp2_with fail
        refine CK.out.mono ?_
        rintro e w6 ⟨rfl, hb⟩
        have A := Lib.hid (A9.out.then_ hb); have M := Lib.hid (M9.out.then_ hb); have H := Lib.hid (H9.out.then_ hb)
        clear hb A9 M9 H9 CK
        have CN := Lib.hid (rd_number H.out.rd hS)
        go_wp2_with fail
        refine CN.out.mono ?_
        rcases signP_cases l2 with ⟨c, es⟩ | ⟨p, es⟩
        · rw [es]
          intro e w7 hp
          obtain ⟨rfl, hc, hF, hk⟩ := hp.fw H.out
          have HR := Lib.hid (show RR = .bad c by rw [HRR3.out, es]; rfl)
          have A' := Lib.hid (A.out.oneKept hk hgB.symm); have M' := Lib.hid (M.out.oneKept hk hg4.symm); have H' := Lib.hid hF
          clear hp hF hk A M H CN es HRR3
          have M := M'; have A := A'; have H := H'
          clear M' A' H'
          have z0 := M.out.frozen 2; have zl := M.out.lt; have y0 := M.out.cell 2; simp at y0
          have M9 := Lib.hid (show At (w7.setCell ⟨b4, 2, none⟩ (.int .i64 0)) b4 (moO X n 0) from M.out.store 2 _)
          have A9 := Lib.hid (A.out.apart (p := ⟨b4, 2, none⟩) hB4 (.int .i64 0))
          have H9 := Lib.hid (H.out.set HB4.out hg4 2 (.int .i64 0))
          clear M A H
          go_upto_region 12 with fail
          generalize World.setCell w7 _ _ = W8 at M9 A9 H9 ⊢
          clear z0 zl y0
          have n0 := M9.out.cell 0; have n1 := M9.out.cell 1; have n2 := M9.out.cell 2; simp at n0 n1 n2
          have a1 := A9.out
          have z0 := a1.frozen 0; have z1 := a1.frozen 1; have z2 := a1.frozen 2; have zl := a1.lt; have y0 := a1.cell 0; have y1 := a1.cell 1; have y2 := a1.cell 2; simp at y0 y1 y2
          have F1 := Lib.hid (mo_store a1 (.string X) (.int .i64 n) (.int .i64 0))
          have F2 := Lib.hid (H9.out.store3 (b := B) HBB.out hgB (.string X) (.int .i64 n) (.int .i64 0))
          clear a1
          go_wp2_with fail
          generalize World.setCell (World.setCell (World.setCell W8 _ _) _ _) _ _ = W9 at F1 F2 ⊢
          have e0 := F1.out.cell 0; have e1 := F1.out.cell 1; have e2 := F1.out.cell 2
          simp at e0 e1 e2
          (try simp only [Exit.inBlock, Exit.then])
          refine bodyPost_ret (v := .tuple #[.agg #[.string X, .int .i64 n, .int .i64 0], .bool false]) ?_ rfl ?_
          · simp [results, Tryz.results129, go_sem, e0, e1, e2]
          · exact (by rw [HR.out]; exact ⟨⟨_, _, _, rfl⟩, hc, F2.out⟩)
        · rw [es]
          obtain ⟨m, l3⟩ := p
          have HR := Lib.hid (show RR = .good ((hd l, n, m), l3) by rw [HRR3.out, es]; rfl)
          intro e w7 hp
          obtain ⟨rfl, hL, hk⟩ := hp.lw H.out
          have A' := Lib.hid (A.out.oneKept hk hgB.symm); have M' := Lib.hid (M.out.oneKept hk hg4.symm); have H' := Lib.hid hL
          simp only at H'
          clear hp hL hk A M H CN es HRR3
          have M := M'; have A := A'; have H := H'
          clear M' A' H'
          have z0 := M.out.frozen 2; have zl := M.out.lt; have y0 := M.out.cell 2; simp at y0
          have M9 := Lib.hid (show At (w7.setCell ⟨b4, 2, none⟩ (.int .i64 m)) b4 (moO X n m) from M.out.store 2 _)
          have A9 := Lib.hid (A.out.apart (p := ⟨b4, 2, none⟩) hB4 (.int .i64 m))
          have H9 := Lib.hid (H.out.set HG.out HB4.out hg4 2 (.int .i64 m))
          clear M A H
          go_upto_region 12 with fail
          generalize World.setCell w7 _ _ = W8 at M9 A9 H9 ⊢
          clear z0 zl y0
          have n0 := M9.out.cell 0; have n1 := M9.out.cell 1; have n2 := M9.out.cell 2; simp at n0 n1 n2
          have a1 := A9.out
          have z0 := a1.frozen 0; have z1 := a1.frozen 1; have z2 := a1.frozen 2; have zl := a1.lt; have y0 := a1.cell 0; have y1 := a1.cell 1; have y2 := a1.cell 2; simp at y0 y1 y2
          have F1 := Lib.hid (mo_store a1 (.string X) (.int .i64 n) (.int .i64 m))
          have F2 := Lib.hid (H9.out.store3 HG.out (b := B) HBB.out hgB (.string X) (.int .i64 n) (.int .i64 m))
          clear a1
          go_wp2_with fail
          generalize World.setCell (World.setCell (World.setCell W8 _ _) _ _) _ _ = W9 at F1 F2 ⊢
          have e0 := F1.out.cell 0; have e1 := F1.out.cell 1; have e2 := F1.out.cell 2
          simp at e0 e1 e2
          (try simp only [Exit.inBlock, Exit.then])
          refine bodyPost_ret (v := .tuple #[.agg #[.string X, .int .i64 n, .int .i64 m], .bool true]) ?_ rfl ?_
          · simp [results, Tryz.results129, go_sem, e0, e1, e2]
          · exact (by rw [HR.out]; exact ⟨by rw [HX.out], F2.out⟩)
end Go.Proofs.YtdmkghgachapaabGreatDoor
