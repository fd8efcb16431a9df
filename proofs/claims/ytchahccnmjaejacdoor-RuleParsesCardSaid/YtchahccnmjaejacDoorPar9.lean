/- The contracts of expr and leaf; contract of (*reader).month. -/
import Derived.Test.YtchahccnmjaejacDoorPar8
namespace Go.Proofs.YtchahccnmjaejacDoor
set_option linter.unusedVariables false
set_option maxRecDepth 100000
open Go.RowKit Go.Shelf

theorem expr_all {g : Nat} {S : ByteArray} (hS : S.size ≤ 140737488355328) : ∀ f, (∀ f', f' ≤ f → ExprOk g S f') ∧ LeafOk g S f
  | 0 => ⟨fun f' h => by
      obtain rfl : f' = 0 := by omega
      intro lvl l o w _ _ hns; exact absurd (by rw [expP]) hns, by intro l o w _ hns; exact absurd (by rw [leafP]) hns⟩
  | f + 1 => by
    obtain ⟨h1, h2⟩ := expr_all hS f
    exact ⟨fun f' h => by
      by_cases e : f' ≤ f
      · exact h1 f' e
      · obtain rfl : f' = f + 1 := by omega
        exact expr_step hS h1 h2, leaf_step hS (h1 f (Nat.le_refl _))⟩
theorem wordP_cases (l : List Tok) : wordP l = .bad 4 ∨ wordP l = .good (hd l, l.tail) := by unfold wordP; split <;> simp
theorem signP_cases (l : List Tok) : (∃ c, signP l = .bad c) ∨ ∃ p, signP l = .good p := by
  unfold signP
  split
  · rcases natP_cases l.tail with ⟨c, e⟩ | ⟨n, e⟩
    · exact .inl ⟨c, by rw [e]; rfl⟩
    · exact .inr ⟨_, by rw [e]; rfl⟩
  · rcases natP_cases l with ⟨c, e⟩ | ⟨n, e⟩
    · exact .inl ⟨c, e⟩
    · exact .inr ⟨_, e⟩
abbrev moO (x : ByteArray) (a b : Int) : Obj := .cells #[.string x, .int .i64 a, .int .i64 b] 43
theorem mo_store {w : World} {b : Nat} {x : ByteArray} {m n : Int} (h : At w b (moO x m n)) (k' n' s' : Value) : At (((w.setCell ⟨b, 0, none⟩ k').setCell ⟨b, 1, none⟩ n').setCell ⟨b, 2, none⟩ s') b (.cells #[k', n', s'] 43) := h.store3 k' n' s'
def MPost (g : Nat) (S : ByteArray) (o : Nat) (w : World) : Res (PMon × List Tok) → Ending → World → Prop
  | .stuck, _, _ => False
  | .bad c, e, w' => (∃ (x : ByteArray) (a b : Int), e = .returned (.tuple #[.agg #[.string x, .int .i64 a, .int .i64 b], .bool false])) ∧ c ≠ 0 ∧ FW g c w w'
  | .good p, e, w' => e = .returned (.tuple #[.agg #[.string (tkS p.1.1), .int .i64 p.1.2.1, .int .i64 p.1.2.2], .bool true]) ∧ LW g S p.2 o w w'
theorem LW.set {g : Nat} {S : ByteArray} {l : List Tok} {o : Nat} {w W : World} (h : LW g S l o w W) (hw : Glob g w) {b : Nat} (hb : w.heap.size ≤ b) (hg : g ≠ b) (i : Nat) (u : Value) : LW g S l o w (W.setCell ⟨b, i, none⟩ u) := by
  obtain ⟨a, n, hp, ha⟩ := h.rd
  exact ⟨h.kept.setNew hb i u, ⟨a, n, hp, ha.apart (p := ⟨b, i, none⟩) hg u⟩, hw.keep (h.kept.setNew hb i u)⟩
theorem FW.set {g : Nat} {c : Int} {w W : World} (h : FW g c w W) {b : Nat} (hb : w.heap.size ≤ b) (hg : g ≠ b) (i : Nat) (u : Value) : FW g c w (W.setCell ⟨b, i, none⟩ u) := by
  obtain ⟨S, a, n, o, ha⟩ := h.bad
  exact ⟨h.kept.setNew hb i u, ⟨S, a, n, o, ha.apart (p := ⟨b, i, none⟩) hg u⟩⟩
theorem RdPost.lw {α : Type} {g : Nat} {S : ByteArray} {o : Nat} {d : Value} {val : α → Value} {l : List Tok} {w W W' : World} {p : α × List Tok} {e : Ending} (h : LW g S l o w W) (k : RdPost g S o d val W (.good p) e W') : e = .returned (.tuple #[val p.1, .bool true]) ∧ LW g S p.2 o w W' ∧ OneKept g W W' := ⟨k.1, h.went k.2, k.2.2⟩
theorem RdPost.fw {α : Type} {g : Nat} {S : ByteArray} {o : Nat} {d : Value} {val : α → Value} {l : List Tok} {w W W' : World} {c : Int} {e : Ending} (h : LW g S l o w W) (k : RdPost g S o d val W (.bad c) e W') : e = .returned (.tuple #[d, .bool false]) ∧ c ≠ 0 ∧ FW g c w W' ∧ OneKept g W W' := ⟨k.1, k.2.1, h.failed k.2.2, k.2.2.2⟩
set_option maxHeartbeats 8000000 in
theorem rd_month {S : ByteArray} {g o : Nat} {l : List Tok} {w : World} (h : RdAt w g S l o) (hG : Glob g w) (hS : S.size ≤ 140737488355328) :
    Calls Tryd.prog 27 #[.pointer (some ⟨g, 0, none⟩)] w (MPost g S o w (monP l)) := by
  have hgw := h.lt
  have HG := Lib.hid hG
  obtain ⟨RR, hRR⟩ : ∃ RR, RR = monP l := ⟨_, rfl⟩
  rw [← hRR]
  have HRR := Lib.hid hRR
  have HB0 : Below w.heap.size w ((w.alloc (moO ⟨#[]⟩ 0 0)).alloc (moO ⟨#[]⟩ 0 0)) := below_new (below_new (Below.refl _ _) _) _
  have H0 := Lib.hid ((LW.refl h hG).then_ HB0)
  obtain ⟨B, hB⟩ : ∃ B, B = w.heap.size := ⟨_, rfl⟩
  obtain ⟨b4, hb4⟩ : ∃ b4, b4 = w.heap.size + 1 := ⟨_, rfl⟩
  have HA0 := Lib.hid ((At.newAt w (moO ⟨#[]⟩ 0 0) B hB).alloc (moO ⟨#[]⟩ 0 0))
  have HM0 := Lib.hid (At.newAt (w.alloc (moO ⟨#[]⟩ 0 0)) (moO ⟨#[]⟩ 0 0) b4 (by rw [hb4, World.size_alloc]))
  have HBB := Lib.hid (show w.heap.size ≤ B by omega)
  have HB4 := Lib.hid (show w.heap.size ≤ b4 by omega)
  have hgB : g ≠ B := by omega
  have hg4 : g ≠ b4 := by omega
  have hB4 : B ≠ b4 := by omega
  clear h hG hRR HB0
  go_enter Tryd.func27, Tryd.ntmps27
  go_upto_region 3 with fail
  (try rw [World.size_alloc])
  rw [← hb4, ← hB]
  clear hb4 hB
  generalize World.alloc (World.alloc w _) _ = W0 at HA0 HM0 H0 ⊢
  have CW := Lib.hid (rd_word H0.out.rd (by omega))
  go_wp2_with fail
  refine CW.out.mono ?_
  rcases wordP_cases l with ew | ew
  · rw [ew]
    intro e w1 hp
    obtain ⟨rfl, hc, hF, hk⟩ := hp.fw H0.out
    have HR := Lib.hid (show RR = .bad 4 by rw [HRR.out, monP, ew]; rfl)
    have A := Lib.hid (HA0.out.oneKept hk hgB.symm); have M := Lib.hid (HM0.out.oneKept hk hg4.symm); have H := Lib.hid hF
    clear hp hF hk HA0 HM0 H0 CW ew HRR
    have z0 := M.out.frozen 0; have zl := M.out.lt; have y0 := M.out.cell 0; simp at y0
    have M9 := Lib.hid (show At (w1.setCell ⟨b4, 0, none⟩ (.string ⟨#[]⟩)) b4 (moO ⟨#[]⟩ 0 0) from M.out.store 0 _)
    have A9 := Lib.hid (A.out.apart (p := ⟨b4, 0, none⟩) hB4 (.string ⟨#[]⟩))
    have H9 := Lib.hid (H.out.set HB4.out hg4 0 (.string ⟨#[]⟩))
    clear M A H
    go_upto_region 4 with fail
    generalize World.setCell w1 _ _ = w2 at M9 A9 H9 ⊢
    clear z0 zl y0
    have n0 := M9.out.cell 0; have n1 := M9.out.cell 1; have n2 := M9.out.cell 2; simp at n0 n1 n2
    have a1 := A9.out
    have z0 := a1.frozen 0; have z1 := a1.frozen 1; have z2 := a1.frozen 2; have zl := a1.lt; have y0 := a1.cell 0; have y1 := a1.cell 1; have y2 := a1.cell 2; simp at y0 y1 y2
    have F1 := Lib.hid (mo_store a1 (.string ⟨#[]⟩) (.int .i64 0) (.int .i64 0))
    have F2 := Lib.hid (H9.out.store3 (b := B) HBB.out hgB (.string ⟨#[]⟩) (.int .i64 0) (.int .i64 0))
    clear a1
    go_wp2_with fail
    generalize World.setCell (World.setCell (World.setCell w2 _ _) _ _) _ _ = W9 at F1 F2 ⊢
    have e0 := F1.out.cell 0; have e1 := F1.out.cell 1; have e2 := F1.out.cell 2
    simp at e0 e1 e2
    (try simp only [Exit.inBlock, Exit.then])
    refine bodyPost_ret (v := .tuple #[.agg #[.string ⟨#[]⟩, .int .i64 0, .int .i64 0], .bool false]) ?_ rfl ?_
    · simp [results, Tryd.results27, go_sem, e0, e1, e2]
    · exact (by rw [HR.out]; exact ⟨⟨_, _, _, rfl⟩, by decide, F2.out⟩)
  · rw [ew]
    intro e w1 hp
    obtain ⟨rfl, hL, hk⟩ := hp.lw H0.out
    obtain ⟨X, hX⟩ : ∃ X, X = tkS (hd l) := ⟨_, rfl⟩
    have HX := Lib.hid hX
    rw [← hX]
    have A := Lib.hid (HA0.out.oneKept hk hgB.symm); have M := Lib.hid (HM0.out.oneKept hk hg4.symm); have H := Lib.hid hL
    simp only at H
    clear hp hL hk HA0 HM0 H0 CW hX
    have z0 := M.out.frozen 0; have zl := M.out.lt; have y0 := M.out.cell 0; simp at y0
    have M9 := Lib.hid (show At (w1.setCell ⟨b4, 0, none⟩ (.string X)) b4 (moO X 0 0) from M.out.store 0 _)
    have A9 := Lib.hid (A.out.apart (p := ⟨b4, 0, none⟩) hB4 (.string X))
    have H9 := Lib.hid (H.out.set HG.out HB4.out hg4 0 (.string X))
    clear M A H
    go_upto_region 4 with fail
    generalize World.setCell w1 _ _ = w2 at M9 A9 H9 ⊢
    clear z0 zl y0
    have CN := Lib.hid (rd_number H9.out.rd hS)
    go_wp2_with fail
    refine CN.out.mono ?_
    rcases signP_cases l.tail with ⟨c, es⟩ | ⟨p, es⟩
    · rw [es]
      intro e w3 hp
      obtain ⟨rfl, hc, hF, hk⟩ := hp.fw H9.out
      have HR := Lib.hid (show RR = .bad c by rw [HRR.out, monP, ew]; show (signP l.tail).bind _ = _; rw [es]; rfl)
      have A := Lib.hid (A9.out.oneKept hk hgB.symm); have M := Lib.hid (M9.out.oneKept hk hg4.symm); have H := Lib.hid hF
      clear hp hF hk A9 M9 H9 CN ew es HRR
      have z0 := M.out.frozen 1; have zl := M.out.lt; have y0 := M.out.cell 1; simp at y0
      have M9 := Lib.hid (show At (w3.setCell ⟨b4, 1, none⟩ (.int .i64 0)) b4 (moO X 0 0) from M.out.store 1 _)
      have A9 := Lib.hid (A.out.apart (p := ⟨b4, 1, none⟩) hB4 (.int .i64 0))
      have H9 := Lib.hid (H.out.set HB4.out hg4 1 (.int .i64 0))
      clear M A H
      go_upto_region 7 with fail
      generalize World.setCell w3 _ _ = W4 at M9 A9 H9 ⊢
      clear z0 zl y0
      have n0 := M9.out.cell 0; have n1 := M9.out.cell 1; have n2 := M9.out.cell 2; simp at n0 n1 n2
      have a1 := A9.out
      have z0 := a1.frozen 0; have z1 := a1.frozen 1; have z2 := a1.frozen 2; have zl := a1.lt; have y0 := a1.cell 0; have y1 := a1.cell 1; have y2 := a1.cell 2; simp at y0 y1 y2
      have F1 := Lib.hid (mo_store a1 (.string X) (.int .i64 0) (.int .i64 0))
      have F2 := Lib.hid (H9.out.store3 (b := B) HBB.out hgB (.string X) (.int .i64 0) (.int .i64 0))
      clear a1
      go_wp2_with fail
      generalize World.setCell (World.setCell (World.setCell W4 _ _) _ _) _ _ = W9 at F1 F2 ⊢
      have e0 := F1.out.cell 0; have e1 := F1.out.cell 1; have e2 := F1.out.cell 2
      simp at e0 e1 e2
      (try simp only [Exit.inBlock, Exit.then])
      refine bodyPost_ret (v := .tuple #[.agg #[.string X, .int .i64 0, .int .i64 0], .bool false]) ?_ rfl ?_
      · simp [results, Tryd.results27, go_sem, e0, e1, e2]
      · exact (by rw [HR.out]; exact ⟨⟨_, _, _, rfl⟩, hc, F2.out⟩)
    · rw [es]
      obtain ⟨n, l2⟩ := p
      have HRR2 := Lib.hid (show RR = if hd l2 = [] then .good ((hd l, n, n), l2) else (signP l2).bind fun s => .good ((hd l, n, s.1), s.2) by rw [HRR.out, monP, ew]; show (signP l.tail).bind _ = _; rw [es]; rfl)
      intro e w3 hp
      obtain ⟨rfl, hL, hk⟩ := hp.lw H9.out
      have A := Lib.hid (A9.out.oneKept hk hgB.symm); have M := Lib.hid (M9.out.oneKept hk hg4.symm); have H := Lib.hid hL
      simp only at H
      clear hp hL hk A9 M9 H9 CN ew es HRR
      have z0 := M.out.frozen 1; have zl := M.out.lt; have y0 := M.out.cell 1; simp at y0
      have M9 := Lib.hid (show At (w3.setCell ⟨b4, 1, none⟩ (.int .i64 n)) b4 (moO X n 0) from M.out.store 1 _)
      have A9 := Lib.hid (A.out.apart (p := ⟨b4, 1, none⟩) hB4 (.int .i64 n))
      have H9 := Lib.hid (H.out.set HG.out HB4.out hg4 1 (.int .i64 n))
      clear M A H
      go_upto_region 7 with fail
      generalize World.setCell w3 _ _ = W4 at M9 A9 H9 ⊢
      clear z0 zl y0
      have M := M9; have A := A9; have H := H9
      clear M9 A9 H9
      have n1 : W4.cell? ⟨b4, 1, none⟩ = some (.int .i64 n) := M.out.cell 1
      have z0 := M.out.frozen 2; have zl := M.out.lt; have y0 := M.out.cell 2; simp at y0
      have M9 := Lib.hid (show At (W4.setCell ⟨b4, 2, none⟩ (.int .i64 n)) b4 (moO X n n) from M.out.store 2 _)
      have A9 := Lib.hid (A.out.apart (p := ⟨b4, 2, none⟩) hB4 (.int .i64 n))
      have H9 := Lib.hid (H.out.set HG.out HB4.out hg4 2 (.int .i64 n))
      clear M A H
      go_upto_region 10 with fail
      generalize World.setCell W4 _ _ = W5 at M9 A9 H9 ⊢
      clear z0 zl y0
      clear n1
      have CK := Lib.hid (rd_token H9.out.rd (by omega))
      obtain ⟨Y, hY⟩ : ∃ Y, Y = tkS (hd l2) := ⟨_, rfl⟩
      rw [← hY] at CK
      by_cases he : hd l2 = []
      · have HR := Lib.hid (show RR = .good ((hd l, n, n), l2) by rw [HRR2.out, if_pos he])
        obtain rfl : Y = ⟨#[]⟩ := by rw [hY, he]
        clear he hY HRR2
        go_upto_region 10 with fail
        go_wp2_with fail
        refine CK.out.mono ?_
        rintro e w6 ⟨rfl, hb⟩
        have A := Lib.hid (A9.out.then_ hb); have M := Lib.hid (M9.out.then_ hb); have H := Lib.hid (H9.out.then_ hb)
        clear hb A9 M9 H9 CK
        have M9 := M; have A9 := A; have H9 := H
        clear M A H
        have n0 := M9.out.cell 0; have n1 := M9.out.cell 1; have n2 := M9.out.cell 2; simp at n0 n1 n2
        have a1 := A9.out
        have z0 := a1.frozen 0; have z1 := a1.frozen 1; have z2 := a1.frozen 2; have zl := a1.lt; have y0 := a1.cell 0; have y1 := a1.cell 1; have y2 := a1.cell 2; simp at y0 y1 y2
        have F1 := Lib.hid (mo_store a1 (.string X) (.int .i64 n) (.int .i64 n))
        have F2 := Lib.hid (H9.out.store3 HG.out (b := B) HBB.out hgB (.string X) (.int .i64 n) (.int .i64 n))
        clear a1
        go_wp2_with fail
        generalize World.setCell (World.setCell (World.setCell w6 _ _) _ _) _ _ = W9 at F1 F2 ⊢
        have e0 := F1.out.cell 0; have e1 := F1.out.cell 1; have e2 := F1.out.cell 2
        simp at e0 e1 e2
        (try simp only [Exit.inBlock, Exit.then])
        refine bodyPost_ret (v := .tuple #[.agg #[.string X, .int .i64 n, .int .i64 n], .bool true]) ?_ rfl ?_
        · simp [results, Tryd.results27, go_sem, e0, e1, e2]
        · exact (by rw [HR.out]; exact ⟨by rw [HX.out], F2.out⟩)
      · have hne := str_ne Y (by rw [hY, tkS_len]; exact List.length_pos_iff.2 he)
        have HRR3 := Lib.hid (show RR = (signP l2).bind fun s => .good ((hd l, n, s.1), s.2) by rw [HRR2.out, if_neg he])
        clear he hY HRR2
        go_wp2_with fail
        refine CK.out.mono ?_
        rintro e w6 ⟨rfl, hb⟩
        have A := Lib.hid (A9.out.then_ hb); have M := Lib.hid (M9.out.then_ hb); have H := Lib.hid (H9.out.then_ hb)
        clear hb A9 M9 H9 CK
        have CN := Lib.hid (rd_number H.out.rd hS)
        go_wp2_with fail
        refine CN.out.mono ?_
        rcases signP_cases l2 with ⟨c, es⟩ | ⟨p, es⟩
        · rw [es]
          intro e w7 hp
          obtain ⟨rfl, hc, hF, hk⟩ := hp.fw H.out
          have HR := Lib.hid (show RR = .bad c by rw [HRR3.out, es]; rfl)
          have A' := Lib.hid (A.out.oneKept hk hgB.symm); have M' := Lib.hid (M.out.oneKept hk hg4.symm); have H' := Lib.hid hF
          clear hp hF hk A M H CN es HRR3
          have M := M'; have A := A'; have H := H'
          clear M' A' H'
          have z0 := M.out.frozen 2; have zl := M.out.lt; have y0 := M.out.cell 2; simp at y0
          have M9 := Lib.hid (show At (w7.setCell ⟨b4, 2, none⟩ (.int .i64 0)) b4 (moO X n 0) from M.out.store 2 _)
          have A9 := Lib.hid (A.out.apart (p := ⟨b4, 2, none⟩) hB4 (.int .i64 0))
          have H9 := Lib.hid (H.out.set HB4.out hg4 2 (.int .i64 0))
          clear M A H
          go_upto_region 12 with fail
          generalize World.setCell w7 _ _ = W8 at M9 A9 H9 ⊢
          clear z0 zl y0
          have n0 := M9.out.cell 0; have n1 := M9.out.cell 1; have n2 := M9.out.cell 2; simp at n0 n1 n2
          have a1 := A9.out
          have z0 := a1.frozen 0; have z1 := a1.frozen 1; have z2 := a1.frozen 2; have zl := a1.lt; have y0 := a1.cell 0; have y1 := a1.cell 1; have y2 := a1.cell 2; simp at y0 y1 y2
          have F1 := Lib.hid (mo_store a1 (.string X) (.int .i64 n) (.int .i64 0))
          have F2 := Lib.hid (H9.out.store3 (b := B) HBB.out hgB (.string X) (.int .i64 n) (.int .i64 0))
          clear a1
          go_wp2_with fail
          generalize World.setCell (World.setCell (World.setCell W8 _ _) _ _) _ _ = W9 at F1 F2 ⊢
          have e0 := F1.out.cell 0; have e1 := F1.out.cell 1; have e2 := F1.out.cell 2
          simp at e0 e1 e2
          (try simp only [Exit.inBlock, Exit.then])
          refine bodyPost_ret (v := .tuple #[.agg #[.string X, .int .i64 n, .int .i64 0], .bool false]) ?_ rfl ?_
          · simp [results, Tryd.results27, go_sem, e0, e1, e2]
          · exact (by rw [HR.out]; exact ⟨⟨_, _, _, rfl⟩, hc, F2.out⟩)
        · rw [es]
          obtain ⟨m, l3⟩ := p
          have HR := Lib.hid (show RR = .good ((hd l, n, m), l3) by rw [HRR3.out, es]; rfl)
          intro e w7 hp
          obtain ⟨rfl, hL, hk⟩ := hp.lw H.out
          have A' := Lib.hid (A.out.oneKept hk hgB.symm); have M' := Lib.hid (M.out.oneKept hk hg4.symm); have H' := Lib.hid hL
          simp only at H'
          clear hp hL hk A M H CN es HRR3
          have M := M'; have A := A'; have H := H'
          clear M' A' H'
          have z0 := M.out.frozen 2; have zl := M.out.lt; have y0 := M.out.cell 2; simp at y0
          have M9 := Lib.hid (show At (w7.setCell ⟨b4, 2, none⟩ (.int .i64 m)) b4 (moO X n m) from M.out.store 2 _)
          have A9 := Lib.hid (A.out.apart (p := ⟨b4, 2, none⟩) hB4 (.int .i64 m))
          have H9 := Lib.hid (H.out.set HG.out HB4.out hg4 2 (.int .i64 m))
          clear M A H
          go_upto_region 12 with fail
          generalize World.setCell w7 _ _ = W8 at M9 A9 H9 ⊢
          clear z0 zl y0
          have n0 := M9.out.cell 0; have n1 := M9.out.cell 1; have n2 := M9.out.cell 2; simp at n0 n1 n2
          have a1 := A9.out
          have z0 := a1.frozen 0; have z1 := a1.frozen 1; have z2 := a1.frozen 2; have zl := a1.lt; have y0 := a1.cell 0; have y1 := a1.cell 1; have y2 := a1.cell 2; simp at y0 y1 y2
          have F1 := Lib.hid (mo_store a1 (.string X) (.int .i64 n) (.int .i64 m))
          have F2 := Lib.hid (H9.out.store3 HG.out (b := B) HBB.out hgB (.string X) (.int .i64 n) (.int .i64 m))
          clear a1
          go_wp2_with fail
          generalize World.setCell (World.setCell (World.setCell W8 _ _) _ _) _ _ = W9 at F1 F2 ⊢
          have e0 := F1.out.cell 0; have e1 := F1.out.cell 1; have e2 := F1.out.cell 2
          simp at e0 e1 e2
          (try simp only [Exit.inBlock, Exit.then])
          refine bodyPost_ret (v := .tuple #[.agg #[.string X, .int .i64 n, .int .i64 m], .bool true]) ?_ rfl ?_
          · simp [results, Tryd.results27, go_sem, e0, e1, e2]
          · exact (by rw [HR.out]; exact ⟨by rw [HX.out], F2.out⟩)
end Go.Proofs.YtchahccnmjaejacDoor
