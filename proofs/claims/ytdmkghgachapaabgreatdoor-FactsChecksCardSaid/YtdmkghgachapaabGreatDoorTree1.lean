import Derived.Test.YtdmkghgachapaabGreatDoorMgT
import Derived.Test.YtdmkghgachapaabGreatDoorMgA
import Derived.Test.YtdmkghgachapaabGreatDoorMgM
import Derived.Test.YtdmkghgachapaabGreatDoorMg5
import Derived.Deep.CutRange
set_option linter.unusedSimpArgs false
namespace Go.Proofs.YtdmkghgachapaabGreatDoor
set_option linter.unusedVariables false
set_option maxRecDepth 100000
open Go.RowKit
theorem opsOf_0 {k : Int} (h : k = 1 ∨ k = 2) : opsOf k = 0 := by unfold opsOf; rw [if_pos h]
theorem opsOf_1 {k : Int} (h : k = 3 ∨ k = 11) : opsOf k = 1 := by unfold opsOf; rw [if_neg (by omega), if_pos h]
theorem opsOf_2 {k : Int} (h : ¬ (k = 1 ∨ k = 2)) (h' : ¬ (k = 3 ∨ k = 11)) : opsOf k = 2 := by unfold opsOf; rw [if_neg h, if_neg h']
theorem rule_operands (k : Int) (w : World) : Calls Tryz.prog 156 #[.int .i64 k] w fun e w' => e = .returned (.int .i64 (opsOf k : Int)) ∧ w = w' := by
  by_cases h1 : k = 1
  · have ho := Lib.hid (opsOf_0 (.inl h1))
    have h1' : (k == 1) = true := by simpa using h1
    clear h1
    go_enter Tryz.func156, Tryz.ntmps156
    go_wp2_with fail
    go_ret
    exact ⟨ret_int (by rw [ho.out]; rfl), rfl⟩
  have h1' : (k == 1) = false := by simpa using h1
  by_cases h2 : k = 2
  · have ho := Lib.hid (opsOf_0 (.inr h2))
    have h2' : (k == 2) = true := by simpa using h2
    clear h1 h2
    go_enter Tryz.func156, Tryz.ntmps156
    go_wp2_with fail
    go_ret
    exact ⟨ret_int (by rw [ho.out]; rfl), rfl⟩
  have h2' : (k == 2) = false := by simpa using h2
  by_cases h3 : k = 3
  · have ho := Lib.hid (opsOf_1 (.inl h3))
    have h3' : (k == 3) = true := by simpa using h3
    clear h1 h2 h3
    go_enter Tryz.func156, Tryz.ntmps156
    go_wp2_with fail
    go_ret
    exact ⟨ret_int (by rw [ho.out]; rfl), rfl⟩
  have h3' : (k == 3) = false := by simpa using h3
  by_cases h4 : k = 11
  · have ho := Lib.hid (opsOf_1 (.inr h4))
    have h4' : (k == 11) = true := by simpa using h4
    clear h1 h2 h3 h4
    go_enter Tryz.func156, Tryz.ntmps156
    go_wp2_with fail
    go_ret
    exact ⟨ret_int (by rw [ho.out]; rfl), rfl⟩
  have h4' : (k == 11) = false := by simpa using h4
  have ho := Lib.hid (opsOf_2 (k := k) (by omega) (by omega))
  clear h1 h2 h3 h4
  go_enter Tryz.func156, Tryz.ntmps156
  go_wp2_with fail
  go_ret
  exact ⟨ret_int (by rw [ho.out]; rfl), rfl⟩
theorem nodeB_cases (k n : Int) (len : Nat) : (nodeB k n len = true ∧ 1 ≤ k ∧ k ≤ 13 ∧ len = opsOf k ∧ 0 ≤ n ∧ n ≤ (if k = 1 then 2147483647 else 0)) ∨
    (nodeB k n len = false ∧ (k < 1 ∨ (1 ≤ k ∧ 13 < k) ∨ (1 ≤ k ∧ k ≤ 13 ∧ len ≠ opsOf k) ∨ (1 ≤ k ∧ k ≤ 13 ∧ len = opsOf k ∧ n < 0) ∨ (1 ≤ k ∧ k ≤ 13 ∧ len = opsOf k ∧ 0 ≤ n ∧ (if k = 1 then 2147483647 else 0) < n))) := by
  unfold nodeB inB
  by_cases h1 : k = 1
  · subst h1
    by_cases h2 : len = opsOf 1
    · by_cases h3 : 0 ≤ n ∧ n ≤ 2147483647
      · left; simp [h2, h3]
      · right; simp [h2, h3]; omega
    · right; simp [h2]
  · by_cases h0 : 1 ≤ k ∧ k ≤ 13
    · by_cases h2 : len = opsOf k
      · by_cases h3 : n = 0
        · left; simp [h0, h1, h2, h3]
        · right; simp [h0, h1, h2, h3]; omega
      · right; simp [h0, h1, h2]
    · right; simp [h0]; omega
def ExprPost (t : Tree) (d c : Int) (g : Nat) (w : World) (e : Ending) (w' : World) : Prop :=
  e = .returned (.int .i64 (exprGo t d c).1) ∧ At w' g (.cells #[.int .i64 (exprGo t d c).2] 3) ∧ OneKept g w w'
theorem exprPost_of {t : Tree} {d c r r2 : Int} {g : Nat} {w w' : World} (h : exprGo t d c = (r, r2)) (a : At w' g (.cells #[.int .i64 r2] 3)) (o : OneKept g w w') : ExprPost t d c g w (.returned (.int .i64 r)) w' := by
  unfold ExprPost; rw [h]; exact ⟨rfl, a, o⟩
theorem SubAt.oneKept {w w' : World} {B g : Nat} {t : Tree} {a : Option Addr} {n : Nat} (h : SubAt w B t a n) (k : OneKept g w w') (hB : B ≤ g) (hB2 : B ≤ w.heap.size) : SubAt w' B t a n :=
  h.below (k.below (Below.refl B w) hB hB2) (Nat.le_refl _)
theorem ne_of_int {x y : Nat} (h : x ≠ y) : ((x : Int) != (y : Int)) = true := by simp; omega
theorem eq_of_int {x y : Nat} (h : x = y) : ((x : Int) != (y : Int)) = false := by subst h; simp
set_option maxHeartbeats 8000000 in
theorem rule_expression : ∀ (t : Tree) (w : World) (a : Option Addr) (len cap : Nat) (d c : Int) (g B : Nat), SubAt w B t a len → B ≤ g → len ≤ cap → cap ≤ 9223372036854775807 → 0 ≤ d → d ≤ 13 → 0 ≤ c → c ≤ 60 → At w g (.cells #[.int .i64 c] 3) →
    Calls Tryz.prog 135 #[.agg #[.int .i64 t.kind, .int .i64 t.num, .slice a len cap], .int .i64 d, .pointer (some ⟨g, 0, none⟩)] w (ExprPost t d c g w) := by
  intro t
  refine Tree.all (P := fun t => ∀ (w : World) (a : Option Addr) (len cap : Nat) (d c : Int) (g B : Nat), SubAt w B t a len → B ≤ g → len ≤ cap → cap ≤ 9223372036854775807 → 0 ≤ d → d ≤ 13 → 0 ≤ c → c ≤ 60 → At w g (.cells #[.int .i64 c] 3) →
    Calls Tryz.prog 135 #[.agg #[.int .i64 t.kind, .int .i64 t.num, .slice a len cap], .int .i64 d, .pointer (some ⟨g, 0, none⟩)] w (ExprPost t d c g w)) ?_ t
  intro k m ks ih w a len cap d c g B hsub hBg hlc hcap hd0 hd1 hc0 hc1 hg
  have IH := Lib.hid ih; clear ih
  have SL := hsub.len
  simp only [Tree.kids, Tree.kind, Tree.num] at SL ⊢
  obtain ⟨hlen, hlm, _, _⟩ := SL
  have HS := Lib.hid hsub; clear hsub
  have hgl := hg.lt
  have hgne : g ≠ w.heap.size := by omega
  have GA := Lib.hid hg
  have LN := Lib.hid hlen
  have hgc : w.cell? ⟨g, 0, none⟩ = some (.int .i64 c) := hg.cell 0
  have hgf : w.frozen? ⟨g, 0, none⟩ = false := hg.frozen 0
  clear hg hlen
  obtain ⟨W0, hW0⟩ : ∃ W0, W0 = (w.setCell ⟨g, 0, none⟩ (.int .i64 (c + 1))).alloc (.cells #[.int .i64 k, .int .i64 m, .slice a len cap] 111) := ⟨_, rfl⟩
  have AX : At W0 g (.cells #[.int .i64 (c + 1)] 3) := by rw [hW0]; exact (GA.out.store 0 _).alloc _
  have OK : OneKept g w W0 := by rw [hW0]; exact (oneKept_set w g 0 _).alloc _
  have AN : At W0 w.heap.size (.cells #[.int .i64 k, .int .i64 m, .slice a len cap] 111) := by rw [hW0]; exact At.newAt _ _ _ (by simp [World.setCell])
  have HW := Lib.hid hW0; clear hW0
  have AX' := Lib.hid AX; have OK' := Lib.hid OK; have AN' := Lib.hid AN; clear AX OK AN
  by_cases h60 : 60 < c + 1
  · have HF := Lib.hid (show exprGo (.node k m ks) d c = (2, c + 1) by rw [exprGo_node, if_pos (.inl h60)])
    go_enter Tryz.func135, Tryz.ntmps135
    go_wp2_with fail
    go_ret
    rw [← HW.out]
    exact exprPost_of HF.out AX'.out OK'.out
  by_cases h12 : 12 < d
  · have HF := Lib.hid (show exprGo (.node k m ks) d c = (2, c + 1) by rw [exprGo_node, if_pos (.inr h12)])
    go_enter Tryz.func135, Tryz.ntmps135
    go_wp2_with fail
    go_ret
    rw [← HW.out]
    exact exprPost_of HF.out AX'.out OK'.out
  have hle60 : c + 1 ≤ 60 := by omega
  have hle12 : d ≤ 12 := by omega
  have HG := Lib.hid (show exprGo (.node k m ks) d c = if nodeB k m ks.length = false then (8, c + 1) else exprRow ks (d + 1) (c + 1) by rw [exprGo_node, if_neg (by omega)])
  obtain ⟨lk, hlk⟩ : ∃ lk : Nat, lk = opsOf k := ⟨_, rfl⟩
  have hops := rule_operands k
  have NB := nodeB_cases k m len
  have HLK := Lib.hid LN.out
  clear LN h60 h12
  have hwl : IntKind.i64.wrap (len : Int) = (len : Int) := IntWalk.i64_in _ (by omega)
  rw [← hlk] at hops NB
  generalize hM : (if k = 1 then (2147483647 : Int) else 0) = M at NB
  have NBH := Lib.hid NB
  have HOPS := Lib.hid hops; clear hops NB
  have HM := Lib.hid hM; clear hM
  clear hlk
  go_enter Tryz.func135, Tryz.ntmps135
  go_upto_if 26 with fail
  rw [← HW.out]
  obtain ⟨x0, x1, x2⟩ : W0.cell? ⟨w.heap.size, 0, none⟩ = some (.int .i64 k) ∧ W0.cell? ⟨w.heap.size, 1, none⟩ = some (.int .i64 m) ∧ W0.cell? ⟨w.heap.size, 2, none⟩ = some (.slice a len cap) := ⟨AN'.out.cell 0, AN'.out.cell 1, AN'.out.cell 2⟩
  go_cut [7] from 24 (fun y wx => y = .int .i64 M ∧ wx = W0)
  case first =>
    by_cases hk1 : k = 1
    · have hk' : (k == 1) = true := by simpa using hk1
      have hM := Lib.hid (show M = 2147483647 by rw [← HM.out, if_pos hk1])
      clear hk1
      go_wp2_with fail
      go_meet
      case rel => exact ⟨by rw [hM.out], rfl⟩
    · have hk' : (k == 1) = false := by simpa using hk1
      have hM := Lib.hid (show M = 0 by rw [← HM.out, if_neg hk1])
      clear hk1
      go_wp2_with fail
      go_meet
      case rel => exact ⟨by rw [hM.out], rfl⟩
  case rest =>
  obtain ⟨rfl, rfl⟩ := hcut
  go_upto_region 7 with fail
  go_cut [54] from 27 to 55 (fun cnd wx => cnd = .bool (!(nodeB k m len)) ∧ Drawn wc wx)
  case first =>
    rcases NBH.out with ⟨hb, k1, k2, hl, m1, m2⟩ | ⟨hb, q | ⟨q, q2⟩ | ⟨q, q2, q3⟩ | ⟨q, q2, q3, q4⟩ | ⟨q, q2, q3, q4, q5⟩⟩
    · have hl' := eq_of_int hl
      have HB := Lib.hid hb; clear hb hl
      have D1 : decide (k < 1) = false := by simpa using k1
      have D2 : decide (13 < k) = false := by simpa using k2
      have D3 : decide (m < 0) = false := by simpa using m1
      have D4 : decide (M < m) = false := by simpa using m2
      clear k1 k2 m1 m2
      go_quiet ((go_at_call 156; exact quiet_left (HOPS.out _)))
      go_wp2_with fail
      go_meet
      case rel => exact ⟨by rw [HB.out]; first | rfl | (simp; done) | (simp; omega), ⟨_, rfl⟩⟩
    · have D1 : decide (k < 1) = true := by simpa using q
      have HB := Lib.hid hb; clear hb q
      go_quiet ((go_at_call 156; exact quiet_left (HOPS.out _)))
      go_wp2_with fail
      go_meet
      case rel => exact ⟨by rw [HB.out]; first | rfl | (simp; done) | (simp; omega), ⟨_, rfl⟩⟩
    · have D1 : decide (k < 1) = false := by simpa using q
      have D2 : decide (13 < k) = true := by simpa using q2
      have HB := Lib.hid hb; clear hb q q2
      go_quiet ((go_at_call 156; exact quiet_left (HOPS.out _)))
      go_wp2_with fail
      go_meet
      case rel => exact ⟨by rw [HB.out]; first | rfl | (simp; done) | (simp; omega), ⟨_, rfl⟩⟩
    · have q3' := ne_of_int q3
      have D1 : decide (k < 1) = false := by simpa using q
      have D2 : decide (13 < k) = false := by simpa using q2
      have HB := Lib.hid hb; clear hb q3 q q2
      go_quiet ((go_at_call 156; exact quiet_left (HOPS.out _)))
      go_wp2_with fail
      go_meet
      case rel => exact ⟨by rw [HB.out]; first | rfl | (simp; done) | (simp; omega), ⟨_, rfl⟩⟩
    · have q3' := eq_of_int q3
      have D1 : decide (k < 1) = false := by simpa using q
      have D2 : decide (13 < k) = false := by simpa using q2
      have D3 : decide (m < 0) = true := by simpa using q4
      have HB := Lib.hid hb; clear hb q3 q q2 q4
      go_quiet ((go_at_call 156; exact quiet_left (HOPS.out _)))
      go_wp2_with fail
      go_meet
      case rel => exact ⟨by rw [HB.out]; first | rfl | (simp; done) | (simp; omega), ⟨_, rfl⟩⟩
    · have q3' := eq_of_int q3
      have D1 : decide (k < 1) = false := by simpa using q
      have D2 : decide (13 < k) = false := by simpa using q2
      have D3 : decide (m < 0) = false := by simpa using q4
      have D4 : decide (M < m) = true := by simpa using q5
      have HB := Lib.hid hb; clear hb q3 q q2 q4 q5
      go_quiet ((go_at_call 156; exact quiet_left (HOPS.out _)))
      go_wp2_with fail
      go_meet
      case rel => exact ⟨by rw [HB.out]; first | rfl | (simp; done) | (simp; omega), ⟨_, rfl⟩⟩
  case rest =>
  obtain ⟨rfl, ⟨nd, rfl⟩⟩ := hcut
  clear x0 x1 x2
  obtain ⟨bb, hbb⟩ : ∃ bb, nodeB k m len = bb := ⟨_, rfl⟩
  rw [hbb]
  have HBB := Lib.hid hbb; clear hbb
  cases bb with
  | false =>
    have HF := Lib.hid (show exprGo (.node k m ks) d c = (8, c + 1) by rw [HG.out, if_pos (by rw [HLK.out]; exact HBB.out)])
    go_wp2_with fail
    go_ret
    exact exprPost_of HF.out (AX'.out.drewN _) (OK'.out.drewN _)
  | true =>
  simp only [Bool.not_true]
  have HF := Lib.hid (show exprGo (.node k m ks) d c = exprRow ks (d + 1) (c + 1) by rw [HG.out, if_neg (by rw [HLK.out, HBB.out]; simp)])
  have hlen2 : len ≤ 2 := (nodeB_len HBB.out).1
  clear HG NBH
  have x2 : (wc.drewN nd).cell? ⟨w.heap.size, 2, none⟩ = some (.slice a len cap) := AN'.out.cell 2
  have a0 : At (wc.drewN nd) g (.cells #[.int .i64 (c + 1)] 3) := AX'.out.drewN _
  have o0 : OneKept g w (wc.drewN nd) := OK'.out.drewN _
  have hB2 : B ≤ w.heap.size := by omega
  clear AX' OK' AN' GA hgc hgf HW HOPS HM
  go_upto_region 9 with fail
  generalize wc.drewN nd = W1 at x2 a0 o0 ⊢
  go_wp2_with fail
  clear x2
  have A0 := Lib.hid a0; have O0 := Lib.hid o0; clear a0 o0
  go_loopw [9, 10, 58] (fun _ _ i wr => ∃ (j : Nat) (c' : Int), j ≤ len ∧ i = .int .i64 j ∧ exprRow ks (d + 1) (c + 1) = exprRow (ks.drop j) (d + 1) c' ∧ 0 ≤ c' ∧ c' ≤ 60 ∧ At wr g (.cells #[.int .i64 c'] 3) ∧ OneKept g w wr) (fun _ _ i _ => len - (intOf i).toNat)
  case atStart => exact ⟨0, c + 1, by omega, rfl, rfl, by omega, hle60, A0.out, O0.out⟩
  case round =>
    clear A0 O0
    obtain ⟨j, c', hj, rfl, hrow, c0, c1, ag, ok⟩ := hrel
    have HR := Lib.hid hrow; clear hrow
    by_cases hlt : j < len
    · obtain ⟨b, off, rfl, hbB, hcs⟩ := (HS.out.oneKept ok hBg hB2).kid (by omega)
      obtain ⟨k', m', ks', a', n', cc, hc0, hc1, hc2, hx, q1, q2, hk⟩ := hcs j hlt
      have hz := ok.size
      have hbz : b < wr.heap.size := by omega
      have hstep := Lib.hid (HR.out.trans (exprRow_drop (d + 1) c' hx))
      have hcall := IH.out (.node k' m' ks') (List.mem_of_getElem? hx) (wr.alloc (.cells #[.int .i64 k', .int .i64 m', .slice a' n' cc] 111)) a' n' cc (d + 1) c' g B (hk.below (below_new (Below.refl _ wr) _) (by omega)) hBg q1 q2 (by omega) (by omega) c0 c1 (ag.alloc _)
      have hcnt := exprGo_count (.node k' m' ks') (d + 1) c' c0 c1
      simp only [Tree.kind, Tree.num] at hcall
      unfold ExprPost at hcall
      have OKN := Lib.hid (ok.alloc (.cells #[.int .i64 k', .int .i64 m', .slice a' n' cc] 111))
      have HCL := Lib.hid hcall; have HCN := Lib.hid hcnt
      clear hcall hcnt hcs hx hk ag ok
      obtain ⟨r, hr⟩ : ∃ r, r = exprGo (.node k' m' ks') (d + 1) c' := ⟨_, rfl⟩
      have hcl := HCL.out
      have hst := hstep.out
      have hcn := HCN.out
      rw [← hr] at hcl hst hcn
      obtain ⟨r1, rc⟩ := r
      simp only at hcl hst hcn
      have HST := Lib.hid hst; have HCL2 := Lib.hid hcl; have HCN2 := Lib.hid hcn
      clear hr hcl hst hcn HCL hstep HCN
      by_cases hz0 : r1 = 0
      · subst hz0
        have HN := Lib.hid (show exprRow ks (d + 1) (c + 1) = exprRow (ks.drop (j + 1)) (d + 1) rc by rw [HST.out, if_neg (by omega)])
        have hr60 : rc ≤ 60 := HCN2.out.2.2 rfl
        have hr0 : 0 ≤ rc := by have := HCN2.out.1; omega
        go_wp2_with (go_at_call 135; refine HCL2.out.mono ?_; rintro e w2 ⟨rfl, ag2, ok2⟩)
        go_roundw
        case rel =>
          exact ⟨j + 1, rc, by omega, by go_num, HN.out, hr0, hr60, ag2, OKN.out.trans ok2⟩
        case measure => simp [intOf]; omega
      · have hz0' : (r1 != 0) = true := by simpa using hz0
        have HN := Lib.hid (show exprGo (.node k m ks) d c = (r1, rc) by rw [HF.out, HST.out, if_pos hz0])
        clear hz0
        go_wp2_with (go_at_call 135; refine HCL2.out.mono ?_; rintro e w2 ⟨rfl, ag2, ok2⟩)
        go_ret
        exact exprPost_of HN.out ag2 (OKN.out.trans ok2)
    · have HN := Lib.hid (show exprGo (.node k m ks) d c = (0, c') by rw [HF.out, HR.out, List.drop_eq_nil_of_le (by have := HLK.out; omega), exprRow])
      go_wp2_with fail
      go_ret
      exact exprPost_of HN.out ag ok
theorem rule_checkExpr (w : World) (k m : Int) (ks : List Tree) (a : Option Addr) (n c : Nat) (h : SubAt w w.heap.size (.node k m ks) a n) (hc : n ≤ c) (hm : c ≤ 9223372036854775807) :
    Calls Tryz.prog 106 #[.agg #[.int .i64 k, .int .i64 m, .slice a n c]] w fun e w' => e = .returned (.int .i64 (exprErr (.node k m ks))) ∧ Below w.heap.size w w' := by
  have hsub := h.below (below_new (below_new (Below.refl _ w) (.cells #[.int .i64 k, .int .i64 m, .slice a n c] 111)) (.cells #[.int .i64 0] 3)) (Nat.le_refl _)
  have hcall := rule_expression (.node k m ks) _ a n c 1 0 (w.heap.size + 1) w.heap.size hsub (by omega) hc hm (by omega) (by omega) (by omega) (by omega) (At.newAt _ _ _ (by simp))
  simp only [Tree.kind, Tree.num] at hcall
  unfold ExprPost at hcall
  have HC := Lib.hid hcall; clear hcall h hsub
  go_enter Tryz.func106, Tryz.ntmps106
  go_wp2_with (go_at_call 135; refine HC.out.mono ?_; rintro e w2 ⟨rfl, ag2, ok2⟩)
  go_ret
  exact ⟨rfl, ok2.below (below_new (below_new (Below.refl _ w) _) _) (by omega) (by simp; omega)⟩
def ruleErr (s : ByteArray) (f c : Int) (t : Tree) (ms : List Mon) : Int := if headErr s f c ≠ 0 then headErr s f c else if exprErr t ≠ 0 then exprErr t else monthsErr ms
theorem rule_Check (w : World) (s : ByteArray) (f c k m : Int) (ks : List Tree) (a1 a2 : Option Addr) (n1 c1 n2 c2 : Nat) (ms : List Mon) (hs : s.size ≤ 9223372036854775807) (k1 : n1 ≤ c1) (m1 : c1 ≤ 9223372036854775807) (k2 : n2 ≤ c2)
    (h1 : SubAt w w.heap.size (.node k m ks) a1 n1) (h2 : Months w w.heap.size a2 n2 ms) :
    Calls Tryz.prog 84 #[.agg #[.string s, .int .i64 f, .int .i64 c, .int .i64 k, .int .i64 m, .slice a1 n1 c1, .slice a2 n2 c2]] w fun e w' => e = .returned (.int .i64 (ruleErr s f c (.node k m ks) ms)) ∧ Below w.heap.size w w' := by
  have H1 := Lib.hid h1; have H2 := Lib.hid h2; clear h1 h2
  have HO := Lib.hid (show ruleErr s f c (.node k m ks) ms = if headErr s f c ≠ 0 then headErr s f c else if exprErr (.node k m ks) ≠ 0 then exprErr (.node k m ks) else monthsErr ms from rfl)
  go_enter Tryz.func84, Tryz.ntmps84
  go_wp2_with fail
  have a0 := At.new w (.cells #[.string s, .int .i64 f, .int .i64 c, .int .i64 k, .int .i64 m, .slice a1 n1 c1, .slice a2 n2 c2] 113)
  have b0 : Below w.heap.size w (w.alloc (.cells #[.string s, .int .i64 f, .int .i64 c, .int .i64 k, .int .i64 m, .slice a1 n1 c1, .slice a2 n2 c2] 113)) := by (repeat' (first | exact bxR _ _ | assumption | refine bxD ?_ | refine bxN ?_ _ | refine bxA ?_ _ | refine bxS ?_ ?_ _ | refine bxT ?_ (by assumption) | refine bxW ?_ (by assumption) | exact Nat.le_refl _ | omega | (simp; done) | (simp; omega)))
  generalize World.alloc w _ = W0 at a0 b0 ⊢
  have d0 := a0.cell 0; have d1 := a0.cell 1; have d2 := a0.cell 2; have d3 := a0.cell 3; have d4 := a0.cell 4; have d5 := a0.cell 5; have d6 := a0.cell 6; simp at d0 d1 d2 d3 d4 d5 d6
  refine (rule_Head _ _ _ _ hs).mono ?_
  by_cases q1 : headErr s f c = 0
  case neg =>
    have hfin := Lib.hid (show ruleErr s f c (.node k m ks) ms = headErr s f c by rw [HO.out, if_pos q1])
    have q1' : (headErr s f c != 0) = true := by simpa using q1
    generalize headErr s f c = E at hfin q1' ⊢
    rintro e w1 ⟨rfl, rfl⟩
    clear q1
    go_wp2_with fail
    go_ret
    exact ⟨ret_int (by rw [hfin.out]), b0⟩
  have hf1 := Lib.hid (show ruleErr s f c (.node k m ks) ms = if exprErr (.node k m ks) ≠ 0 then exprErr (.node k m ks) else monthsErr ms by rw [HO.out, if_neg (by omega)])
  rw [q1]
  clear q1 HO
  rintro e w1 ⟨rfl, rfl⟩
  go_wp2_with fail
  refine (rule_checkExpr _ k m ks a1 n1 c1 (H1.out.then_ b0) k1 m1).mono ?_
  by_cases q2 : exprErr (.node k m ks) = 0
  case neg =>
    have hfin := Lib.hid (show ruleErr s f c (.node k m ks) ms = exprErr (.node k m ks) by rw [hf1.out, if_pos q2])
    have q2' : (exprErr (.node k m ks) != 0) = true := by simpa using q2
    generalize exprErr (.node k m ks) = E at hfin q2' ⊢
    rintro e w2 ⟨rfl, hb⟩
    clear q2
    go_wp2_with fail
    go_ret
    exact ⟨ret_int (by rw [hfin.out]), below_then b0 hb⟩
  have hf2 := Lib.hid (show ruleErr s f c (.node k m ks) ms = monthsErr ms by rw [hf1.out, if_neg (by omega)])
  rw [q2]
  clear q2 hf1
  rintro e w2 ⟨rfl, hb⟩
  replace a0 := a0.then_ hb
  replace b0 := below_then b0 hb
  clear hb d0 d1 d2 d3 d4 d5 d6
  have d0 := a0.cell 0; have d1 := a0.cell 1; have d2 := a0.cell 2; have d3 := a0.cell 3; have d4 := a0.cell 4; have d5 := a0.cell 5; have d6 := a0.cell 6; simp at d0 d1 d2 d3 d4 d5 d6
  go_wp2_with fail
  refine (rule_Months _ _ _ _ ms k2 ((H2.out.below b0 (Nat.le_refl _)).more b0.size)).mono ?_
  rintro e w3 ⟨rfl, hb⟩
  go_wp2_with fail
  go_ret
  exact ⟨ret_int (by rw [hf2.out]), below_then b0 hb⟩
end Go.Proofs.YtdmkghgachapaabGreatDoor
