import Derived.Test.YtdmkghgachapaabGreatDoorMgS
set_option linter.unusedSimpArgs false
namespace Go.Proofs.YtdmkghgachapaabGreatDoor
set_option linter.unusedVariables false
set_option maxRecDepth 100000
open Go.RowKit
def evalOut (t : Tree) (y : Int) : Int × Int := if exprErr t ≠ 0 then (0, exprErr t) else if inB (-10000) 10000 y = false then (0, 3) else evalGo t y
theorem rule_Eval (w : World) (k m : Int) (ks : List Tree) (a : Option Addr) (n c : Nat) (y : Int) (h : SubAt w w.heap.size (.node k m ks) a n) (hc : n ≤ c) (hm : c ≤ 9223372036854775807) :
    Calls Tryz.prog 86 #[.agg #[.int .i64 k, .int .i64 m, .slice a n c], .int .i64 y] w (EvalPost (evalOut (.node k m ks) y) w) := by
  have H := Lib.hid h; clear h
  have HO := Lib.hid (show evalOut (.node k m ks) y = if exprErr (.node k m ks) ≠ 0 then (0, exprErr (.node k m ks)) else if inB (-10000) 10000 y = false then (0, 3) else evalGo (.node k m ks) y from rfl)
  go_enter Tryz.func86, Tryz.ntmps86
  go_wp2_with fail
  have a0 := At.new w (.cells #[.int .i64 k, .int .i64 m, .slice a n c] 111)
  have b0 : Below w.heap.size w (w.alloc (.cells #[.int .i64 k, .int .i64 m, .slice a n c] 111)) := by (repeat' (first | exact bxR _ _ | assumption | refine bxD ?_ | refine bxN ?_ _ | refine bxA ?_ _ | refine bxS ?_ ?_ _ | refine bxT ?_ (by assumption) | refine bxW ?_ (by assumption) | exact Nat.le_refl _ | omega | (simp; done) | (simp; omega)))
  generalize World.alloc w _ = W0 at a0 b0 ⊢
  refine (rule_checkExpr _ k m ks a n c (H.out.then_ b0) hc hm).mono ?_
  by_cases q : exprErr (.node k m ks) = 0
  case neg =>
    have hf := Lib.hid (HO.out.trans (if_pos q))
    have q' : (exprErr (.node k m ks) != 0) = true := by simpa using q
    generalize exprErr (.node k m ks) = E at hf q' ⊢
    rintro e w1 ⟨rfl, hb⟩
    clear q HO
    go_wp2_with fail
    go_ret2
    exact evalPost_of hf.out (below_then b0 hb)
  have hf := Lib.hid (HO.out.trans (if_neg (by omega)))
  have OK := Lib.hid (exprErr_ok q)
  rw [q]
  clear q HO
  rintro e w1 ⟨rfl, hb⟩
  replace a0 := a0.then_ hb
  replace b0 := below_then b0 hb
  have d0 := a0.cell 0; have d1 := a0.cell 1; have d2 := a0.cell 2; simp at d0 d1 d2
  clear hb
  rcases inB_cases (-10000) 10000 y with ⟨hi, i1, i2⟩ | ⟨hi, hi'⟩
  case inr =>
    have hf2 := Lib.hid (hf.out.trans (if_pos hi))
    have hq : y < -10000 ∨ (-10000 ≤ y ∧ 10000 < y) := by omega
    clear hi hi'
    rcases hq with hq | ⟨hq, hq'⟩
    all_goals
      go_wp2_with fail
      go_ret2
      exact evalPost_of hf2.out b0
  have hf2 := Lib.hid (hf.out.trans (if_neg (by rw [hi]; simp)))
  have hev := rule_eval y i1 i2 (.node k m ks) w1 a n c (H.out.then_ b0) OK.out hc hm
  simp only [Tree.kind, Tree.num] at hev
  unfold EvalPost at hev
  have HEV := Lib.hid hev; clear hi hev
  go_wp2_with (go_at_call 108; refine HEV.out.mono ?_; rintro e w2 ⟨rfl, hb⟩)
  go_ret2
  exact evalPost_of hf2.out (below_then b0 hb)
theorem mulOut_in {a b : Int} (h : -4611686018427387904 ≤ a * b ∧ a * b ≤ 4611686018427387904) : mulOut a b = .tuple #[.int .i64 (a * b), .int .i64 0] := by rw [mulOut, if_pos (by omega)]
theorem opsOf_zero {k : Int} (h : 0 = opsOf k) : k = 1 ∨ k = 2 := by
  unfold opsOf at h
  split at h
  · assumption
  · split at h <;> cases h
theorem opsOf_one {k : Int} (h : 1 = opsOf k) : k = 3 ∨ k = 11 := by
  unfold opsOf at h
  split at h
  · cases h
  · split at h
    · assumption
    · cases h
theorem opsOf_two {k : Int} (h : 2 = opsOf k) (h1 : 1 ≤ k) (h2 : k ≤ 13) : k = 4 ∨ k = 5 ∨ k = 6 ∨ k = 7 ∨ k = 8 ∨ k = 9 ∨ k = 10 ∨ k = 12 ∨ k = 13 := by
  unfold opsOf at h
  split at h
  · cases h
  · split at h
    · cases h
    · omega
set_option maxHeartbeats 16000000 in
theorem ref_Eval (y : Int) (y1 : -10000 ≤ y) (y2 : y ≤ 10000) : ∀ (t : Tree) (w : World) (a : Option Addr) (len cap : Nat), SubAt w w.heap.size t a len → t.ok → len ≤ cap → cap ≤ 9223372036854775807 →
    Calls Tryz.prog 96 #[.agg #[.int .i64 t.kind, .int .i64 t.num, .slice a len cap], .int .i64 y] w (EvalPost (evalGo t y) w) := by
  intro t
  refine Tree.all (P := fun t => ∀ (w : World) (a : Option Addr) (len cap : Nat), SubAt w w.heap.size t a len → t.ok → len ≤ cap → cap ≤ 9223372036854775807 →
    Calls Tryz.prog 96 #[.agg #[.int .i64 t.kind, .int .i64 t.num, .slice a len cap], .int .i64 y] w (EvalPost (evalGo t y) w)) ?_ t
  intro k m ks ih w a len cap hsub hok hlc hcap
  have IH := Lib.hid ih; clear ih
  have SL := hsub.len
  simp only [Tree.kids, Tree.kind, Tree.num] at SL ⊢
  obtain ⟨hlen, hlm, _, _⟩ := SL
  have hok' := Tree.ok_node.1 hok
  rw [hlen] at hok'
  obtain ⟨hnb, hkids⟩ := hok'
  obtain ⟨k1, k2⟩ := nodeB_kind hnb
  obtain ⟨hlen2, hops⟩ := nodeB_len hnb
  have HS := Lib.hid hsub; have HK := Lib.hid hkids
  clear hsub hkids hok hnb
  have bt : bitOf true = 1 := rfl
  have bf : bitOf false = 0 := rfl
  rcases (show len = 0 ∨ len = 1 ∨ len = 2 by omega) with rfl | rfl | rfl
  · obtain rfl : ks = [] := List.length_eq_zero_iff.1 hlen
    have HN := Lib.hid (evalGo_0 k m y)
    have hk := opsOf_zero hops
    clear hops
    rcases hk with rfl | rfl
    · go_enter Tryz.func96, Tryz.ntmps96
      have HR := Lib.hid (show rawVal 1 m y 0 0 = (m, 0) by simp [rawVal])
      rcases inB_cases (-2147483647) 2147483647 (m) with ⟨hi, i1, i2⟩ | ⟨hi, hi'⟩
      · have HF := Lib.hid (HN.out.trans ((congrArg finVal HR.out).trans (finVal_in rfl hi)))
        clear i1 i2
        go_wp2_with fail
        refine (ref_Num _ _).mono ?_; rw [hi]; rintro e w9 ⟨rfl, rfl⟩
        go_wp2_with fail
        go_ret2
        exact evalPost_of HF.out (by (repeat' (first | exact bxR _ _ | assumption | refine bxD ?_ | refine bxN ?_ _ | refine bxA ?_ _ | refine bxS ?_ ?_ _ | refine bxT ?_ (by assumption) | refine bxW ?_ (by assumption) | exact Nat.le_refl _ | omega | (simp; done) | (simp; omega))))
      · have HF := Lib.hid (HN.out.trans ((congrArg finVal HR.out).trans (finVal_over rfl hi)))
        clear hi'
        go_wp2_with fail
        refine (ref_Num _ _).mono ?_; rw [hi]; rintro e w9 ⟨rfl, rfl⟩
        go_wp2_with fail
        go_ret2
        exact evalPost_of HF.out (by (repeat' (first | exact bxR _ _ | assumption | refine bxD ?_ | refine bxN ?_ _ | refine bxA ?_ _ | refine bxS ?_ ?_ _ | refine bxT ?_ (by assumption) | refine bxW ?_ (by assumption) | exact Nat.le_refl _ | omega | (simp; done) | (simp; omega))))
    · go_enter Tryz.func96, Tryz.ntmps96
      have HR := Lib.hid (show rawVal 2 m y 0 0 = (y, 0) by simp [rawVal])
      rcases inB_cases (-2147483647) 2147483647 (y) with ⟨hi, i1, i2⟩ | ⟨hi, hi'⟩
      · have HF := Lib.hid (HN.out.trans ((congrArg finVal HR.out).trans (finVal_in rfl hi)))
        clear i1 i2
        go_wp2_with fail
        refine (ref_Num _ _).mono ?_; rw [hi]; rintro e w9 ⟨rfl, rfl⟩
        go_wp2_with fail
        go_ret2
        exact evalPost_of HF.out (by (repeat' (first | exact bxR _ _ | assumption | refine bxD ?_ | refine bxN ?_ _ | refine bxA ?_ _ | refine bxS ?_ ?_ _ | refine bxT ?_ (by assumption) | refine bxW ?_ (by assumption) | exact Nat.le_refl _ | omega | (simp; done) | (simp; omega))))
      · have HF := Lib.hid (HN.out.trans ((congrArg finVal HR.out).trans (finVal_over rfl hi)))
        clear hi'
        go_wp2_with fail
        refine (ref_Num _ _).mono ?_; rw [hi]; rintro e w9 ⟨rfl, rfl⟩
        go_wp2_with fail
        go_ret2
        exact evalPost_of HF.out (by (repeat' (first | exact bxR _ _ | assumption | refine bxD ?_ | refine bxN ?_ _ | refine bxA ?_ _ | refine bxS ?_ ?_ _ | refine bxT ?_ (by assumption) | refine bxW ?_ (by assumption) | exact Nat.le_refl _ | omega | (simp; done) | (simp; omega))))
  · match ks, hlen with
    | [t0], _ =>
    have hn := evalGo_1 k m y t0
    obtain ⟨b, off, rfl, hbB, hcs⟩ := HS.out.kid (by omega)
    obtain ⟨k0', m0', ks0', s0, n0, c0, p0, q0, r0, hx0, le0, ce0, hk0⟩ := hcs 0 (by omega)
    simp only [Nat.zero_mul, Nat.add_zero] at p0 q0 r0
    simp at hx0
    subst hx0
    have a0 := At.new w (.cells #[.int .i64 k, .int .i64 m, .slice (some ⟨b, off, none⟩) 1 cap] 111)
    have b0 : Below w.heap.size w (w.alloc (.cells #[.int .i64 k, .int .i64 m, .slice (some ⟨b, off, none⟩) 1 cap] 111)) := by (repeat' (first | exact bxR _ _ | assumption | refine bxD ?_ | refine bxN ?_ _ | refine bxA ?_ _ | refine bxS ?_ ?_ _ | refine bxT ?_ (by assumption) | refine bxW ?_ (by assumption) | exact Nat.le_refl _ | omega | (simp; done) | (simp; omega)))
    have hcall := IH.out _ List.mem_cons_self _ s0 n0 c0 (hk0.then_ b0) (HK.out _ List.mem_cons_self) le0 ce0
    simp only [Tree.kind, Tree.num] at hcall
    unfold EvalPost at hcall
    have hbd := evalGo_bound (.node k0' m0' ks0') y
    generalize evalGo (.node k0' m0' ks0') y = r at *
    obtain ⟨x, ex⟩ := r
    simp only at hcall hbd hn
    obtain ⟨gx1, gx2⟩ := hbd
    have HC := Lib.hid hcall; have A0 := Lib.hid a0; have B0 := Lib.hid b0; have HN0 := Lib.hid hn; clear hcall a0 b0 hn hk0 hcs
    have HOPS := Lib.hid hops; clear hops
    by_cases hex : ex = 0
    case neg =>
      have HF := Lib.hid (HN0.out.trans (if_pos hex))
      have hex' : (ex != 0) = true := by simpa using hex
      clear hex
      go_enter Tryz.func96, Tryz.ntmps96
      go_wp2_with (go_at_call 96; refine HC.out.mono ?_; rintro e w2 ⟨rfl, hb⟩)
      go_ret2
      exact evalPost_of HF.out (below_then B0.out hb)
    subst hex
    have HN := Lib.hid (HN0.out.trans (if_neg (by simp)))
    clear HN0
    have hk := opsOf_one HOPS.out
    rcases hk with rfl | rfl
    · skip
      have HR := Lib.hid (show rawVal 3 m y x 0 = (-x, 0) by simp [rawVal])
      rcases inB_cases (-2147483647) 2147483647 (-x) with ⟨hi, i1, i2⟩ | ⟨hi, hi'⟩
      · have HF := Lib.hid (HN.out.trans ((congrArg finVal HR.out).trans (finVal_in rfl hi)))
        clear i1 i2
        go_enter Tryz.func96, Tryz.ntmps96
        go_wp2_with fail
        refine HC.out.mono ?_; rintro e w2 ⟨rfl, hb⟩
        have b2 := below_then B0.out hb
        have a2 := A0.out.then_ hb
        have d0 : w2.cell? ⟨w.heap.size, 0, none⟩ = some (.int .i64 3) := a2.cell 0
        have d1 : w2.cell? ⟨w.heap.size, 1, none⟩ = some (.int .i64 m) := a2.cell 1
        have d2 : w2.cell? ⟨w.heap.size, 2, none⟩ = some (.slice (some ⟨b, off, none⟩) 1 cap) := a2.cell 2
        clear hb a2
        go_wp2_with fail
        refine (ref_Num _ _).mono ?_; rw [hi]; rintro e w9 ⟨rfl, rfl⟩
        go_wp2_with fail
        go_ret2
        exact evalPost_of HF.out (by (repeat' (first | exact bxR _ _ | assumption | refine bxD ?_ | refine bxN ?_ _ | refine bxA ?_ _ | refine bxS ?_ ?_ _ | refine bxT ?_ (by assumption) | refine bxW ?_ (by assumption) | exact Nat.le_refl _ | omega | (simp; done) | (simp; omega))))
      · have HF := Lib.hid (HN.out.trans ((congrArg finVal HR.out).trans (finVal_over rfl hi)))
        clear hi'
        go_enter Tryz.func96, Tryz.ntmps96
        go_wp2_with fail
        refine HC.out.mono ?_; rintro e w2 ⟨rfl, hb⟩
        have b2 := below_then B0.out hb
        have a2 := A0.out.then_ hb
        have d0 : w2.cell? ⟨w.heap.size, 0, none⟩ = some (.int .i64 3) := a2.cell 0
        have d1 : w2.cell? ⟨w.heap.size, 1, none⟩ = some (.int .i64 m) := a2.cell 1
        have d2 : w2.cell? ⟨w.heap.size, 2, none⟩ = some (.slice (some ⟨b, off, none⟩) 1 cap) := a2.cell 2
        clear hb a2
        go_wp2_with fail
        refine (ref_Num _ _).mono ?_; rw [hi]; rintro e w9 ⟨rfl, rfl⟩
        go_wp2_with fail
        go_ret2
        exact evalPost_of HF.out (by (repeat' (first | exact bxR _ _ | assumption | refine bxD ?_ | refine bxN ?_ _ | refine bxA ?_ _ | refine bxS ?_ ?_ _ | refine bxT ?_ (by assumption) | refine bxW ?_ (by assumption) | exact Nat.le_refl _ | omega | (simp; done) | (simp; omega))))
    · rcases Bool.eq_false_or_eq_true (x != 0) with hx | hx
      all_goals
        have hx2 : (x == 0) = !(x != 0) := by simp [bne]
        rw [hx] at hx2
      · skip
        have HR := Lib.hid (show rawVal 11 m y x 0 = (0, 0) by simp [rawVal, hx2, bitOf])
        rcases inB_cases (-2147483647) 2147483647 ((0 : Int)) with ⟨hi, i1, i2⟩ | ⟨hi, hi'⟩
        · have HF := Lib.hid (HN.out.trans ((congrArg finVal HR.out).trans (finVal_in rfl hi)))
          clear i1 i2
          go_enter Tryz.func96, Tryz.ntmps96
          go_wp2_with fail
          refine HC.out.mono ?_; rintro e w2 ⟨rfl, hb⟩
          have b2 := below_then B0.out hb
          have a2 := A0.out.then_ hb
          have d0 : w2.cell? ⟨w.heap.size, 0, none⟩ = some (.int .i64 11) := a2.cell 0
          have d1 : w2.cell? ⟨w.heap.size, 1, none⟩ = some (.int .i64 m) := a2.cell 1
          have d2 : w2.cell? ⟨w.heap.size, 2, none⟩ = some (.slice (some ⟨b, off, none⟩) 1 cap) := a2.cell 2
          clear hb a2
          go_wp2_with fail
          refine (ref_yesB _ _).mono ?_; rintro e w8 ⟨rfl, rfl⟩
          go_wp2_with fail
          refine (ref_Num _ _).mono ?_; rw [hi]; rintro e w9 ⟨rfl, rfl⟩
          go_wp2_with fail
          go_ret2
          exact evalPost_of HF.out (by (repeat' (first | exact bxR _ _ | assumption | refine bxD ?_ | refine bxN ?_ _ | refine bxA ?_ _ | refine bxS ?_ ?_ _ | refine bxT ?_ (by assumption) | refine bxW ?_ (by assumption) | exact Nat.le_refl _ | omega | (simp; done) | (simp; omega))))
        · have HF := Lib.hid (HN.out.trans ((congrArg finVal HR.out).trans (finVal_over rfl hi)))
          clear hi'
          go_enter Tryz.func96, Tryz.ntmps96
          go_wp2_with fail
          refine HC.out.mono ?_; rintro e w2 ⟨rfl, hb⟩
          have b2 := below_then B0.out hb
          have a2 := A0.out.then_ hb
          have d0 : w2.cell? ⟨w.heap.size, 0, none⟩ = some (.int .i64 11) := a2.cell 0
          have d1 : w2.cell? ⟨w.heap.size, 1, none⟩ = some (.int .i64 m) := a2.cell 1
          have d2 : w2.cell? ⟨w.heap.size, 2, none⟩ = some (.slice (some ⟨b, off, none⟩) 1 cap) := a2.cell 2
          clear hb a2
          go_wp2_with fail
          refine (ref_yesB _ _).mono ?_; rintro e w8 ⟨rfl, rfl⟩
          go_wp2_with fail
          refine (ref_Num _ _).mono ?_; rw [hi]; rintro e w9 ⟨rfl, rfl⟩
          go_wp2_with fail
          go_ret2
          exact evalPost_of HF.out (by (repeat' (first | exact bxR _ _ | assumption | refine bxD ?_ | refine bxN ?_ _ | refine bxA ?_ _ | refine bxS ?_ ?_ _ | refine bxT ?_ (by assumption) | refine bxW ?_ (by assumption) | exact Nat.le_refl _ | omega | (simp; done) | (simp; omega))))
      · skip
        have HR := Lib.hid (show rawVal 11 m y x 0 = (1, 0) by simp [rawVal, hx2, bitOf])
        rcases inB_cases (-2147483647) 2147483647 ((1 : Int)) with ⟨hi, i1, i2⟩ | ⟨hi, hi'⟩
        · have HF := Lib.hid (HN.out.trans ((congrArg finVal HR.out).trans (finVal_in rfl hi)))
          clear i1 i2
          go_enter Tryz.func96, Tryz.ntmps96
          go_wp2_with fail
          refine HC.out.mono ?_; rintro e w2 ⟨rfl, hb⟩
          have b2 := below_then B0.out hb
          have a2 := A0.out.then_ hb
          have d0 : w2.cell? ⟨w.heap.size, 0, none⟩ = some (.int .i64 11) := a2.cell 0
          have d1 : w2.cell? ⟨w.heap.size, 1, none⟩ = some (.int .i64 m) := a2.cell 1
          have d2 : w2.cell? ⟨w.heap.size, 2, none⟩ = some (.slice (some ⟨b, off, none⟩) 1 cap) := a2.cell 2
          clear hb a2
          go_wp2_with fail
          refine (ref_yesB _ _).mono ?_; rintro e w8 ⟨rfl, rfl⟩
          go_wp2_with fail
          refine (ref_Num _ _).mono ?_; rw [hi]; rintro e w9 ⟨rfl, rfl⟩
          go_wp2_with fail
          go_ret2
          exact evalPost_of HF.out (by (repeat' (first | exact bxR _ _ | assumption | refine bxD ?_ | refine bxN ?_ _ | refine bxA ?_ _ | refine bxS ?_ ?_ _ | refine bxT ?_ (by assumption) | refine bxW ?_ (by assumption) | exact Nat.le_refl _ | omega | (simp; done) | (simp; omega))))
        · have HF := Lib.hid (HN.out.trans ((congrArg finVal HR.out).trans (finVal_over rfl hi)))
          clear hi'
          go_enter Tryz.func96, Tryz.ntmps96
          go_wp2_with fail
          refine HC.out.mono ?_; rintro e w2 ⟨rfl, hb⟩
          have b2 := below_then B0.out hb
          have a2 := A0.out.then_ hb
          have d0 : w2.cell? ⟨w.heap.size, 0, none⟩ = some (.int .i64 11) := a2.cell 0
          have d1 : w2.cell? ⟨w.heap.size, 1, none⟩ = some (.int .i64 m) := a2.cell 1
          have d2 : w2.cell? ⟨w.heap.size, 2, none⟩ = some (.slice (some ⟨b, off, none⟩) 1 cap) := a2.cell 2
          clear hb a2
          go_wp2_with fail
          refine (ref_yesB _ _).mono ?_; rintro e w8 ⟨rfl, rfl⟩
          go_wp2_with fail
          refine (ref_Num _ _).mono ?_; rw [hi]; rintro e w9 ⟨rfl, rfl⟩
          go_wp2_with fail
          go_ret2
          exact evalPost_of HF.out (by (repeat' (first | exact bxR _ _ | assumption | refine bxD ?_ | refine bxN ?_ _ | refine bxA ?_ _ | refine bxS ?_ ?_ _ | refine bxT ?_ (by assumption) | refine bxW ?_ (by assumption) | exact Nat.le_refl _ | omega | (simp; done) | (simp; omega))))
  · match ks, hlen with
    | [t0, t1], _ =>
    have hn := evalGo_2 k m y t0 t1 []
    obtain ⟨b, off, rfl, hbB, hcs⟩ := HS.out.kid (by omega)
    obtain ⟨k0', m0', ks0', s0, n0, c0, p0, q0, r0, hx0, le0, ce0, hk0⟩ := hcs 0 (by omega)
    simp only [Nat.zero_mul, Nat.add_zero] at p0 q0 r0
    obtain ⟨k1', m1', ks1', s1, n1, c1, p1, q1, r1, hx1, le1, ce1, hk1⟩ := hcs 1 (by omega)
    simp only [Nat.one_mul] at p1 q1 r1
    simp at hx0 hx1
    subst hx0 hx1
    have a0 := At.new w (.cells #[.int .i64 k, .int .i64 m, .slice (some ⟨b, off, none⟩) 2 cap] 111)
    have b0 : Below w.heap.size w (w.alloc (.cells #[.int .i64 k, .int .i64 m, .slice (some ⟨b, off, none⟩) 2 cap] 111)) := by (repeat' (first | exact bxR _ _ | assumption | refine bxD ?_ | refine bxN ?_ _ | refine bxA ?_ _ | refine bxS ?_ ?_ _ | refine bxT ?_ (by assumption) | refine bxW ?_ (by assumption) | exact Nat.le_refl _ | omega | (simp; done) | (simp; omega)))
    have hcall := IH.out _ List.mem_cons_self _ s0 n0 c0 (hk0.then_ b0) (HK.out _ List.mem_cons_self) le0 ce0
    have hcall2 := fun W (hW : Below w.heap.size w W) => IH.out _ (List.mem_cons_of_mem _ List.mem_cons_self) W s1 n1 c1 (hk1.then_ hW) (HK.out _ (List.mem_cons_of_mem _ List.mem_cons_self)) le1 ce1
    simp only [Tree.kind, Tree.num] at hcall hcall2
    unfold EvalPost at hcall hcall2
    have hbd := evalGo_bound (.node k0' m0' ks0') y
    have hbd2 := evalGo_bound (.node k1' m1' ks1') y
    generalize evalGo (.node k0' m0' ks0') y = r at *
    generalize evalGo (.node k1' m1' ks1') y = s at *
    obtain ⟨x, ex⟩ := r
    obtain ⟨z, ez⟩ := s
    simp only at hcall hcall2 hbd hbd2 hn
    obtain ⟨gx1, gx2⟩ := hbd
    obtain ⟨gz1, gz2⟩ := hbd2
    have HC := Lib.hid hcall; have HC2 := Lib.hid hcall2; have A0 := Lib.hid a0; have B0 := Lib.hid b0; have HN0 := Lib.hid hn
    have P1 := Lib.hid p1; have Q1 := Lib.hid q1; have R1 := Lib.hid r1
    have PQR := Lib.hid (fun (W : World) (b2 : Below w.heap.size w W) => show W.cell? ⟨b, off + 3, none⟩ = some (.int .i64 k1') ∧ W.cell? ⟨b, off + 3 + 1, none⟩ = some (.int .i64 m1') ∧ W.cell? ⟨b, off + 3 + 2, none⟩ = some (.slice s1 n1 c1) from ⟨(b2.cell (p := ⟨b, _, none⟩) hbB).trans P1.out, (b2.cell (p := ⟨b, _, none⟩) hbB).trans Q1.out, (b2.cell (p := ⟨b, _, none⟩) hbB).trans R1.out⟩)
    clear hcall hcall2 a0 b0 hn hk0 hk1 hcs p1 q1 r1
    have HOPS := Lib.hid hops; clear hops
    by_cases hex : ex = 0
    case neg =>
      have HF := Lib.hid (HN0.out.trans (if_pos hex))
      have hex' : (ex != 0) = true := by simpa using hex
      clear hex
      go_enter Tryz.func96, Tryz.ntmps96
      go_wp2_with (go_at_call 96; refine HC.out.mono ?_; rintro e w2 ⟨rfl, hb⟩)
      go_ret2
      exact evalPost_of HF.out (below_then B0.out hb)
    subst hex
    have HN1 := Lib.hid (HN0.out.trans (if_neg (by simp)))
    clear HN0
    by_cases hez : ez = 0
    case neg =>
      have HF := Lib.hid (HN1.out.trans (if_pos hez))
      have hez' : (ez != 0) = true := by simpa using hez
      clear hez
      go_enter Tryz.func96, Tryz.ntmps96
      go_wp2_with fail
      refine HC.out.mono ?_; rintro e w2 ⟨rfl, hb⟩
      have b2 := below_then B0.out hb
      have a2 := A0.out.then_ hb
      have d0 : w2.cell? ⟨w.heap.size, 0, none⟩ = some (.int .i64 k) := a2.cell 0
      have d1 : w2.cell? ⟨w.heap.size, 1, none⟩ = some (.int .i64 m) := a2.cell 1
      have d2 : w2.cell? ⟨w.heap.size, 2, none⟩ = some (.slice (some ⟨b, off, none⟩) 2 cap) := a2.cell 2
      obtain ⟨p1, q1, r1⟩ := PQR.out _ b2
      have A2 := Lib.hid a2
      clear hb a2
      go_wp2_with fail
      refine (HC2.out _ b2).mono ?_; rintro e w3 ⟨rfl, hb⟩
      have b3 := below_then b2 hb
      have a3 := A2.out.then_ hb
      clear d0 d1 d2 p1 q1 r1 b2
      have d0 : w3.cell? ⟨w.heap.size, 0, none⟩ = some (.int .i64 k) := a3.cell 0
      have d1 : w3.cell? ⟨w.heap.size, 1, none⟩ = some (.int .i64 m) := a3.cell 1
      clear hb a3
      go_wp2_with fail
      go_ret2
      exact evalPost_of HF.out b3
    subst hez
    have HN := Lib.hid (HN1.out.trans (if_neg (by simp)))
    clear HN1
    have hk := opsOf_two HOPS.out k1 k2
    rcases hk with rfl | rfl | rfl | rfl | rfl | rfl | rfl | rfl | rfl
    · skip
      have HR := Lib.hid (show rawVal 4 m y x z = (x + z, 0) by simp [rawVal])
      rcases inB_cases (-2147483647) 2147483647 (x + z) with ⟨hi, i1, i2⟩ | ⟨hi, hi'⟩
      · have HF := Lib.hid (HN.out.trans ((congrArg finVal HR.out).trans (finVal_in rfl hi)))
        clear i1 i2
        go_enter Tryz.func96, Tryz.ntmps96
        go_wp2_with fail
        refine HC.out.mono ?_; rintro e w2 ⟨rfl, hb⟩
        have b2 := below_then B0.out hb
        have a2 := A0.out.then_ hb
        have d0 : w2.cell? ⟨w.heap.size, 0, none⟩ = some (.int .i64 4) := a2.cell 0
        have d1 : w2.cell? ⟨w.heap.size, 1, none⟩ = some (.int .i64 m) := a2.cell 1
        have d2 : w2.cell? ⟨w.heap.size, 2, none⟩ = some (.slice (some ⟨b, off, none⟩) 2 cap) := a2.cell 2
        obtain ⟨p1, q1, r1⟩ := PQR.out _ b2
        have A2 := Lib.hid a2
        clear hb a2
        go_wp2_with fail
        refine (HC2.out _ b2).mono ?_; rintro e w3 ⟨rfl, hb⟩
        have b3 := below_then b2 hb
        have a3 := A2.out.then_ hb
        clear d0 d1 d2 p1 q1 r1 b2
        have d0 : w3.cell? ⟨w.heap.size, 0, none⟩ = some (.int .i64 4) := a3.cell 0
        have d1 : w3.cell? ⟨w.heap.size, 1, none⟩ = some (.int .i64 m) := a3.cell 1
        clear hb a3
        go_wp2_with fail
        refine (ref_Num _ _).mono ?_; rw [hi]; rintro e w9 ⟨rfl, rfl⟩
        go_wp2_with fail
        go_ret2
        exact evalPost_of HF.out (by (repeat' (first | exact bxR _ _ | assumption | refine bxD ?_ | refine bxN ?_ _ | refine bxA ?_ _ | refine bxS ?_ ?_ _ | refine bxT ?_ (by assumption) | refine bxW ?_ (by assumption) | exact Nat.le_refl _ | omega | (simp; done) | (simp; omega))))
      · have HF := Lib.hid (HN.out.trans ((congrArg finVal HR.out).trans (finVal_over rfl hi)))
        clear hi'
        go_enter Tryz.func96, Tryz.ntmps96
        go_wp2_with fail
        refine HC.out.mono ?_; rintro e w2 ⟨rfl, hb⟩
        have b2 := below_then B0.out hb
        have a2 := A0.out.then_ hb
        have d0 : w2.cell? ⟨w.heap.size, 0, none⟩ = some (.int .i64 4) := a2.cell 0
        have d1 : w2.cell? ⟨w.heap.size, 1, none⟩ = some (.int .i64 m) := a2.cell 1
        have d2 : w2.cell? ⟨w.heap.size, 2, none⟩ = some (.slice (some ⟨b, off, none⟩) 2 cap) := a2.cell 2
        obtain ⟨p1, q1, r1⟩ := PQR.out _ b2
        have A2 := Lib.hid a2
        clear hb a2
        go_wp2_with fail
        refine (HC2.out _ b2).mono ?_; rintro e w3 ⟨rfl, hb⟩
        have b3 := below_then b2 hb
        have a3 := A2.out.then_ hb
        clear d0 d1 d2 p1 q1 r1 b2
        have d0 : w3.cell? ⟨w.heap.size, 0, none⟩ = some (.int .i64 4) := a3.cell 0
        have d1 : w3.cell? ⟨w.heap.size, 1, none⟩ = some (.int .i64 m) := a3.cell 1
        clear hb a3
        go_wp2_with fail
        refine (ref_Num _ _).mono ?_; rw [hi]; rintro e w9 ⟨rfl, rfl⟩
        go_wp2_with fail
        go_ret2
        exact evalPost_of HF.out (by (repeat' (first | exact bxR _ _ | assumption | refine bxD ?_ | refine bxN ?_ _ | refine bxA ?_ _ | refine bxS ?_ ?_ _ | refine bxT ?_ (by assumption) | refine bxW ?_ (by assumption) | exact Nat.le_refl _ | omega | (simp; done) | (simp; omega))))
    · skip
      have HR := Lib.hid (show rawVal 5 m y x z = (x - z, 0) by simp [rawVal])
      rcases inB_cases (-2147483647) 2147483647 (x - z) with ⟨hi, i1, i2⟩ | ⟨hi, hi'⟩
      · have HF := Lib.hid (HN.out.trans ((congrArg finVal HR.out).trans (finVal_in rfl hi)))
        clear i1 i2
        go_enter Tryz.func96, Tryz.ntmps96
        go_wp2_with fail
        refine HC.out.mono ?_; rintro e w2 ⟨rfl, hb⟩
        have b2 := below_then B0.out hb
        have a2 := A0.out.then_ hb
        have d0 : w2.cell? ⟨w.heap.size, 0, none⟩ = some (.int .i64 5) := a2.cell 0
        have d1 : w2.cell? ⟨w.heap.size, 1, none⟩ = some (.int .i64 m) := a2.cell 1
        have d2 : w2.cell? ⟨w.heap.size, 2, none⟩ = some (.slice (some ⟨b, off, none⟩) 2 cap) := a2.cell 2
        obtain ⟨p1, q1, r1⟩ := PQR.out _ b2
        have A2 := Lib.hid a2
        clear hb a2
        go_wp2_with fail
        refine (HC2.out _ b2).mono ?_; rintro e w3 ⟨rfl, hb⟩
        have b3 := below_then b2 hb
        have a3 := A2.out.then_ hb
        clear d0 d1 d2 p1 q1 r1 b2
        have d0 : w3.cell? ⟨w.heap.size, 0, none⟩ = some (.int .i64 5) := a3.cell 0
        have d1 : w3.cell? ⟨w.heap.size, 1, none⟩ = some (.int .i64 m) := a3.cell 1
        clear hb a3
        go_wp2_with fail
        refine (ref_Num _ _).mono ?_; rw [hi]; rintro e w9 ⟨rfl, rfl⟩
        go_wp2_with fail
        go_ret2
        exact evalPost_of HF.out (by (repeat' (first | exact bxR _ _ | assumption | refine bxD ?_ | refine bxN ?_ _ | refine bxA ?_ _ | refine bxS ?_ ?_ _ | refine bxT ?_ (by assumption) | refine bxW ?_ (by assumption) | exact Nat.le_refl _ | omega | (simp; done) | (simp; omega))))
      · have HF := Lib.hid (HN.out.trans ((congrArg finVal HR.out).trans (finVal_over rfl hi)))
        clear hi'
        go_enter Tryz.func96, Tryz.ntmps96
        go_wp2_with fail
        refine HC.out.mono ?_; rintro e w2 ⟨rfl, hb⟩
        have b2 := below_then B0.out hb
        have a2 := A0.out.then_ hb
        have d0 : w2.cell? ⟨w.heap.size, 0, none⟩ = some (.int .i64 5) := a2.cell 0
        have d1 : w2.cell? ⟨w.heap.size, 1, none⟩ = some (.int .i64 m) := a2.cell 1
        have d2 : w2.cell? ⟨w.heap.size, 2, none⟩ = some (.slice (some ⟨b, off, none⟩) 2 cap) := a2.cell 2
        obtain ⟨p1, q1, r1⟩ := PQR.out _ b2
        have A2 := Lib.hid a2
        clear hb a2
        go_wp2_with fail
        refine (HC2.out _ b2).mono ?_; rintro e w3 ⟨rfl, hb⟩
        have b3 := below_then b2 hb
        have a3 := A2.out.then_ hb
        clear d0 d1 d2 p1 q1 r1 b2
        have d0 : w3.cell? ⟨w.heap.size, 0, none⟩ = some (.int .i64 5) := a3.cell 0
        have d1 : w3.cell? ⟨w.heap.size, 1, none⟩ = some (.int .i64 m) := a3.cell 1
        clear hb a3
        go_wp2_with fail
        refine (ref_Num _ _).mono ?_; rw [hi]; rintro e w9 ⟨rfl, rfl⟩
        go_wp2_with fail
        go_ret2
        exact evalPost_of HF.out (by (repeat' (first | exact bxR _ _ | assumption | refine bxD ?_ | refine bxN ?_ _ | refine bxA ?_ _ | refine bxS ?_ ?_ _ | refine bxT ?_ (by assumption) | refine bxW ?_ (by assumption) | exact Nat.le_refl _ | omega | (simp; done) | (simp; omega))))
    · skip
      have MO := Lib.hid (mulOut_in (mul31b gx1 gx2 gz1 gz2))
      have HR := Lib.hid (show rawVal 6 m y x z = (x * z, 0) by simp [rawVal])
      rcases inB_cases (-2147483647) 2147483647 (x * z) with ⟨hi, i1, i2⟩ | ⟨hi, hi'⟩
      · have HF := Lib.hid (HN.out.trans ((congrArg finVal HR.out).trans (finVal_in rfl hi)))
        clear i1 i2
        go_enter Tryz.func96, Tryz.ntmps96
        go_wp2_with fail
        refine HC.out.mono ?_; rintro e w2 ⟨rfl, hb⟩
        have b2 := below_then B0.out hb
        have a2 := A0.out.then_ hb
        have d0 : w2.cell? ⟨w.heap.size, 0, none⟩ = some (.int .i64 6) := a2.cell 0
        have d1 : w2.cell? ⟨w.heap.size, 1, none⟩ = some (.int .i64 m) := a2.cell 1
        have d2 : w2.cell? ⟨w.heap.size, 2, none⟩ = some (.slice (some ⟨b, off, none⟩) 2 cap) := a2.cell 2
        obtain ⟨p1, q1, r1⟩ := PQR.out _ b2
        have A2 := Lib.hid a2
        clear hb a2
        go_wp2_with fail
        refine (HC2.out _ b2).mono ?_; rintro e w3 ⟨rfl, hb⟩
        have b3 := below_then b2 hb
        have a3 := A2.out.then_ hb
        clear d0 d1 d2 p1 q1 r1 b2
        have d0 : w3.cell? ⟨w.heap.size, 0, none⟩ = some (.int .i64 6) := a3.cell 0
        have d1 : w3.cell? ⟨w.heap.size, 1, none⟩ = some (.int .i64 m) := a3.cell 1
        clear hb a3
        go_wp2_with fail
        refine (ref_Mul _ _ _ (by omega) (by omega) (by omega) (by omega)).mono ?_; rw [MO.out]; rintro e w8 ⟨rfl, rfl⟩
        go_wp2_with fail
        refine (ref_Num _ _).mono ?_; rw [hi]; rintro e w9 ⟨rfl, rfl⟩
        go_wp2_with fail
        go_ret2
        exact evalPost_of HF.out (by (repeat' (first | exact bxR _ _ | assumption | refine bxD ?_ | refine bxN ?_ _ | refine bxA ?_ _ | refine bxS ?_ ?_ _ | refine bxT ?_ (by assumption) | refine bxW ?_ (by assumption) | exact Nat.le_refl _ | omega | (simp; done) | (simp; omega))))
      · have HF := Lib.hid (HN.out.trans ((congrArg finVal HR.out).trans (finVal_over rfl hi)))
        clear hi'
        go_enter Tryz.func96, Tryz.ntmps96
        go_wp2_with fail
        refine HC.out.mono ?_; rintro e w2 ⟨rfl, hb⟩
        have b2 := below_then B0.out hb
        have a2 := A0.out.then_ hb
        have d0 : w2.cell? ⟨w.heap.size, 0, none⟩ = some (.int .i64 6) := a2.cell 0
        have d1 : w2.cell? ⟨w.heap.size, 1, none⟩ = some (.int .i64 m) := a2.cell 1
        have d2 : w2.cell? ⟨w.heap.size, 2, none⟩ = some (.slice (some ⟨b, off, none⟩) 2 cap) := a2.cell 2
        obtain ⟨p1, q1, r1⟩ := PQR.out _ b2
        have A2 := Lib.hid a2
        clear hb a2
        go_wp2_with fail
        refine (HC2.out _ b2).mono ?_; rintro e w3 ⟨rfl, hb⟩
        have b3 := below_then b2 hb
        have a3 := A2.out.then_ hb
        clear d0 d1 d2 p1 q1 r1 b2
        have d0 : w3.cell? ⟨w.heap.size, 0, none⟩ = some (.int .i64 6) := a3.cell 0
        have d1 : w3.cell? ⟨w.heap.size, 1, none⟩ = some (.int .i64 m) := a3.cell 1
        clear hb a3
        go_wp2_with fail
        refine (ref_Mul _ _ _ (by omega) (by omega) (by omega) (by omega)).mono ?_; rw [MO.out]; rintro e w8 ⟨rfl, rfl⟩
        go_wp2_with fail
        refine (ref_Num _ _).mono ?_; rw [hi]; rintro e w9 ⟨rfl, rfl⟩
        go_wp2_with fail
        go_ret2
        exact evalPost_of HF.out (by (repeat' (first | exact bxR _ _ | assumption | refine bxD ?_ | refine bxN ?_ _ | refine bxA ?_ _ | refine bxS ?_ ?_ _ | refine bxT ?_ (by assumption) | refine bxW ?_ (by assumption) | exact Nat.le_refl _ | omega | (simp; done) | (simp; omega))))
    · by_cases hz : z = 0
      · subst hz
        have HF := Lib.hid (HN.out.trans ((congrArg finVal (show rawVal 7 m y x 0 = (0, 1) by simp [rawVal])).trans (finVal_err (by simp))))
        go_enter Tryz.func96, Tryz.ntmps96
        go_wp2_with fail
        refine HC.out.mono ?_; rintro e w2 ⟨rfl, hb⟩
        have b2 := below_then B0.out hb
        have a2 := A0.out.then_ hb
        have d0 : w2.cell? ⟨w.heap.size, 0, none⟩ = some (.int .i64 7) := a2.cell 0
        have d1 : w2.cell? ⟨w.heap.size, 1, none⟩ = some (.int .i64 m) := a2.cell 1
        have d2 : w2.cell? ⟨w.heap.size, 2, none⟩ = some (.slice (some ⟨b, off, none⟩) 2 cap) := a2.cell 2
        obtain ⟨p1, q1, r1⟩ := PQR.out _ b2
        have A2 := Lib.hid a2
        clear hb a2
        go_wp2_with fail
        refine (HC2.out _ b2).mono ?_; rintro e w3 ⟨rfl, hb⟩
        have b3 := below_then b2 hb
        have a3 := A2.out.then_ hb
        clear d0 d1 d2 p1 q1 r1 b2
        have d0 : w3.cell? ⟨w.heap.size, 0, none⟩ = some (.int .i64 7) := a3.cell 0
        have d1 : w3.cell? ⟨w.heap.size, 1, none⟩ = some (.int .i64 m) := a3.cell 1
        clear hb a3
        go_wp2_with fail
        refine (ref_Div _ _ _ (by omega) (by omega) (by omega) (by omega)).mono ?_; rw [divOut_0]; rintro e w8 ⟨rfl, rfl⟩
        go_wp2_with fail
        go_ret2
        exact evalPost_of HF.out b3
      · have DO := Lib.hid (divOut_in x z hz (by omega))
        have HZ := Lib.hid hz; clear hz
        have HR := Lib.hid (show rawVal 7 m y x z = (dq x z, 0) by simp [rawVal, HZ.out])
        rcases inB_cases (-2147483647) 2147483647 (dq x z) with ⟨hi, i1, i2⟩ | ⟨hi, hi'⟩
        · have HF := Lib.hid (HN.out.trans ((congrArg finVal HR.out).trans (finVal_in rfl hi)))
          clear i1 i2
          go_enter Tryz.func96, Tryz.ntmps96
          go_wp2_with fail
          refine HC.out.mono ?_; rintro e w2 ⟨rfl, hb⟩
          have b2 := below_then B0.out hb
          have a2 := A0.out.then_ hb
          have d0 : w2.cell? ⟨w.heap.size, 0, none⟩ = some (.int .i64 7) := a2.cell 0
          have d1 : w2.cell? ⟨w.heap.size, 1, none⟩ = some (.int .i64 m) := a2.cell 1
          have d2 : w2.cell? ⟨w.heap.size, 2, none⟩ = some (.slice (some ⟨b, off, none⟩) 2 cap) := a2.cell 2
          obtain ⟨p1, q1, r1⟩ := PQR.out _ b2
          have A2 := Lib.hid a2
          clear hb a2
          go_wp2_with fail
          refine (HC2.out _ b2).mono ?_; rintro e w3 ⟨rfl, hb⟩
          have b3 := below_then b2 hb
          have a3 := A2.out.then_ hb
          clear d0 d1 d2 p1 q1 r1 b2
          have d0 : w3.cell? ⟨w.heap.size, 0, none⟩ = some (.int .i64 7) := a3.cell 0
          have d1 : w3.cell? ⟨w.heap.size, 1, none⟩ = some (.int .i64 m) := a3.cell 1
          clear hb a3
          go_wp2_with fail
          refine (ref_Div _ _ _ (by omega) (by omega) (by omega) (by omega)).mono ?_; rw [DO.out]; rintro e w8 ⟨rfl, rfl⟩
          go_wp2_with fail
          refine (ref_Num _ _).mono ?_; rw [hi]; rintro e w9 ⟨rfl, rfl⟩
          go_wp2_with fail
          go_ret2
          exact evalPost_of HF.out (by (repeat' (first | exact bxR _ _ | assumption | refine bxD ?_ | refine bxN ?_ _ | refine bxA ?_ _ | refine bxS ?_ ?_ _ | refine bxT ?_ (by assumption) | refine bxW ?_ (by assumption) | exact Nat.le_refl _ | omega | (simp; done) | (simp; omega))))
        · have HF := Lib.hid (HN.out.trans ((congrArg finVal HR.out).trans (finVal_over rfl hi)))
          clear hi'
          go_enter Tryz.func96, Tryz.ntmps96
          go_wp2_with fail
          refine HC.out.mono ?_; rintro e w2 ⟨rfl, hb⟩
          have b2 := below_then B0.out hb
          have a2 := A0.out.then_ hb
          have d0 : w2.cell? ⟨w.heap.size, 0, none⟩ = some (.int .i64 7) := a2.cell 0
          have d1 : w2.cell? ⟨w.heap.size, 1, none⟩ = some (.int .i64 m) := a2.cell 1
          have d2 : w2.cell? ⟨w.heap.size, 2, none⟩ = some (.slice (some ⟨b, off, none⟩) 2 cap) := a2.cell 2
          obtain ⟨p1, q1, r1⟩ := PQR.out _ b2
          have A2 := Lib.hid a2
          clear hb a2
          go_wp2_with fail
          refine (HC2.out _ b2).mono ?_; rintro e w3 ⟨rfl, hb⟩
          have b3 := below_then b2 hb
          have a3 := A2.out.then_ hb
          clear d0 d1 d2 p1 q1 r1 b2
          have d0 : w3.cell? ⟨w.heap.size, 0, none⟩ = some (.int .i64 7) := a3.cell 0
          have d1 : w3.cell? ⟨w.heap.size, 1, none⟩ = some (.int .i64 m) := a3.cell 1
          clear hb a3
          go_wp2_with fail
          refine (ref_Div _ _ _ (by omega) (by omega) (by omega) (by omega)).mono ?_; rw [DO.out]; rintro e w8 ⟨rfl, rfl⟩
          go_wp2_with fail
          refine (ref_Num _ _).mono ?_; rw [hi]; rintro e w9 ⟨rfl, rfl⟩
          go_wp2_with fail
          go_ret2
          exact evalPost_of HF.out (by (repeat' (first | exact bxR _ _ | assumption | refine bxD ?_ | refine bxN ?_ _ | refine bxA ?_ _ | refine bxS ?_ ?_ _ | refine bxT ?_ (by assumption) | refine bxW ?_ (by assumption) | exact Nat.le_refl _ | omega | (simp; done) | (simp; omega))))
    · by_cases hz : z = 0
      · subst hz
        have HF := Lib.hid (HN.out.trans ((congrArg finVal (show rawVal 8 m y x 0 = (0, 1) by simp [rawVal])).trans (finVal_err (by simp))))
        go_enter Tryz.func96, Tryz.ntmps96
        go_wp2_with fail
        refine HC.out.mono ?_; rintro e w2 ⟨rfl, hb⟩
        have b2 := below_then B0.out hb
        have a2 := A0.out.then_ hb
        have d0 : w2.cell? ⟨w.heap.size, 0, none⟩ = some (.int .i64 8) := a2.cell 0
        have d1 : w2.cell? ⟨w.heap.size, 1, none⟩ = some (.int .i64 m) := a2.cell 1
        have d2 : w2.cell? ⟨w.heap.size, 2, none⟩ = some (.slice (some ⟨b, off, none⟩) 2 cap) := a2.cell 2
        obtain ⟨p1, q1, r1⟩ := PQR.out _ b2
        have A2 := Lib.hid a2
        clear hb a2
        go_wp2_with fail
        refine (HC2.out _ b2).mono ?_; rintro e w3 ⟨rfl, hb⟩
        have b3 := below_then b2 hb
        have a3 := A2.out.then_ hb
        clear d0 d1 d2 p1 q1 r1 b2
        have d0 : w3.cell? ⟨w.heap.size, 0, none⟩ = some (.int .i64 8) := a3.cell 0
        have d1 : w3.cell? ⟨w.heap.size, 1, none⟩ = some (.int .i64 m) := a3.cell 1
        clear hb a3
        go_wp2_with fail
        refine (ref_Div _ _ _ (by omega) (by omega) (by omega) (by omega)).mono ?_; rw [divOut_0]; rintro e w8 ⟨rfl, rfl⟩
        go_wp2_with fail
        go_ret2
        exact evalPost_of HF.out b3
      · have DO := Lib.hid (divOut_in x z hz (by omega))
        have HZ := Lib.hid hz; clear hz
        have HR := Lib.hid (show rawVal 8 m y x z = (dr x z, 0) by simp [rawVal, HZ.out])
        rcases inB_cases (-2147483647) 2147483647 (dr x z) with ⟨hi, i1, i2⟩ | ⟨hi, hi'⟩
        · have HF := Lib.hid (HN.out.trans ((congrArg finVal HR.out).trans (finVal_in rfl hi)))
          clear i1 i2
          go_enter Tryz.func96, Tryz.ntmps96
          go_wp2_with fail
          refine HC.out.mono ?_; rintro e w2 ⟨rfl, hb⟩
          have b2 := below_then B0.out hb
          have a2 := A0.out.then_ hb
          have d0 : w2.cell? ⟨w.heap.size, 0, none⟩ = some (.int .i64 8) := a2.cell 0
          have d1 : w2.cell? ⟨w.heap.size, 1, none⟩ = some (.int .i64 m) := a2.cell 1
          have d2 : w2.cell? ⟨w.heap.size, 2, none⟩ = some (.slice (some ⟨b, off, none⟩) 2 cap) := a2.cell 2
          obtain ⟨p1, q1, r1⟩ := PQR.out _ b2
          have A2 := Lib.hid a2
          clear hb a2
          go_wp2_with fail
          refine (HC2.out _ b2).mono ?_; rintro e w3 ⟨rfl, hb⟩
          have b3 := below_then b2 hb
          have a3 := A2.out.then_ hb
          clear d0 d1 d2 p1 q1 r1 b2
          have d0 : w3.cell? ⟨w.heap.size, 0, none⟩ = some (.int .i64 8) := a3.cell 0
          have d1 : w3.cell? ⟨w.heap.size, 1, none⟩ = some (.int .i64 m) := a3.cell 1
          clear hb a3
          go_wp2_with fail
          refine (ref_Div _ _ _ (by omega) (by omega) (by omega) (by omega)).mono ?_; rw [DO.out]; rintro e w8 ⟨rfl, rfl⟩
          go_wp2_with fail
          refine (ref_Num _ _).mono ?_; rw [hi]; rintro e w9 ⟨rfl, rfl⟩
          go_wp2_with fail
          go_ret2
          exact evalPost_of HF.out (by (repeat' (first | exact bxR _ _ | assumption | refine bxD ?_ | refine bxN ?_ _ | refine bxA ?_ _ | refine bxS ?_ ?_ _ | refine bxT ?_ (by assumption) | refine bxW ?_ (by assumption) | exact Nat.le_refl _ | omega | (simp; done) | (simp; omega))))
        · have HF := Lib.hid (HN.out.trans ((congrArg finVal HR.out).trans (finVal_over rfl hi)))
          clear hi'
          go_enter Tryz.func96, Tryz.ntmps96
          go_wp2_with fail
          refine HC.out.mono ?_; rintro e w2 ⟨rfl, hb⟩
          have b2 := below_then B0.out hb
          have a2 := A0.out.then_ hb
          have d0 : w2.cell? ⟨w.heap.size, 0, none⟩ = some (.int .i64 8) := a2.cell 0
          have d1 : w2.cell? ⟨w.heap.size, 1, none⟩ = some (.int .i64 m) := a2.cell 1
          have d2 : w2.cell? ⟨w.heap.size, 2, none⟩ = some (.slice (some ⟨b, off, none⟩) 2 cap) := a2.cell 2
          obtain ⟨p1, q1, r1⟩ := PQR.out _ b2
          have A2 := Lib.hid a2
          clear hb a2
          go_wp2_with fail
          refine (HC2.out _ b2).mono ?_; rintro e w3 ⟨rfl, hb⟩
          have b3 := below_then b2 hb
          have a3 := A2.out.then_ hb
          clear d0 d1 d2 p1 q1 r1 b2
          have d0 : w3.cell? ⟨w.heap.size, 0, none⟩ = some (.int .i64 8) := a3.cell 0
          have d1 : w3.cell? ⟨w.heap.size, 1, none⟩ = some (.int .i64 m) := a3.cell 1
          clear hb a3
          go_wp2_with fail
          refine (ref_Div _ _ _ (by omega) (by omega) (by omega) (by omega)).mono ?_; rw [DO.out]; rintro e w8 ⟨rfl, rfl⟩
          go_wp2_with fail
          refine (ref_Num _ _).mono ?_; rw [hi]; rintro e w9 ⟨rfl, rfl⟩
          go_wp2_with fail
          go_ret2
          exact evalPost_of HF.out (by (repeat' (first | exact bxR _ _ | assumption | refine bxD ?_ | refine bxN ?_ _ | refine bxA ?_ _ | refine bxS ?_ ?_ _ | refine bxT ?_ (by assumption) | refine bxW ?_ (by assumption) | exact Nat.le_refl _ | omega | (simp; done) | (simp; omega))))
    · by_cases hlt : x < z
      · have DL : decide (x - z < 0) = true := by simp; omega
        have HR := Lib.hid (show rawVal 9 m y x z = (1, 0) by simp [rawVal, hlt, bitOf])
        rcases inB_cases (-2147483647) 2147483647 ((1 : Int)) with ⟨hi, i1, i2⟩ | ⟨hi, hi'⟩
        · have HF := Lib.hid (HN.out.trans ((congrArg finVal HR.out).trans (finVal_in rfl hi)))
          clear i1 i2
          go_enter Tryz.func96, Tryz.ntmps96
          go_wp2_with fail
          refine HC.out.mono ?_; rintro e w2 ⟨rfl, hb⟩
          have b2 := below_then B0.out hb
          have a2 := A0.out.then_ hb
          have d0 : w2.cell? ⟨w.heap.size, 0, none⟩ = some (.int .i64 9) := a2.cell 0
          have d1 : w2.cell? ⟨w.heap.size, 1, none⟩ = some (.int .i64 m) := a2.cell 1
          have d2 : w2.cell? ⟨w.heap.size, 2, none⟩ = some (.slice (some ⟨b, off, none⟩) 2 cap) := a2.cell 2
          obtain ⟨p1, q1, r1⟩ := PQR.out _ b2
          have A2 := Lib.hid a2
          clear hb a2
          go_wp2_with fail
          refine (HC2.out _ b2).mono ?_; rintro e w3 ⟨rfl, hb⟩
          have b3 := below_then b2 hb
          have a3 := A2.out.then_ hb
          clear d0 d1 d2 p1 q1 r1 b2
          have d0 : w3.cell? ⟨w.heap.size, 0, none⟩ = some (.int .i64 9) := a3.cell 0
          have d1 : w3.cell? ⟨w.heap.size, 1, none⟩ = some (.int .i64 m) := a3.cell 1
          clear hb a3
          go_wp2_with fail
          refine (ref_yesB _ _).mono ?_; rintro e w8 ⟨rfl, rfl⟩
          go_wp2_with fail
          refine (ref_Num _ _).mono ?_; rw [hi]; rintro e w9 ⟨rfl, rfl⟩
          go_wp2_with fail
          go_ret2
          exact evalPost_of HF.out (by (repeat' (first | exact bxR _ _ | assumption | refine bxD ?_ | refine bxN ?_ _ | refine bxA ?_ _ | refine bxS ?_ ?_ _ | refine bxT ?_ (by assumption) | refine bxW ?_ (by assumption) | exact Nat.le_refl _ | omega | (simp; done) | (simp; omega))))
        · have HF := Lib.hid (HN.out.trans ((congrArg finVal HR.out).trans (finVal_over rfl hi)))
          clear hi'
          go_enter Tryz.func96, Tryz.ntmps96
          go_wp2_with fail
          refine HC.out.mono ?_; rintro e w2 ⟨rfl, hb⟩
          have b2 := below_then B0.out hb
          have a2 := A0.out.then_ hb
          have d0 : w2.cell? ⟨w.heap.size, 0, none⟩ = some (.int .i64 9) := a2.cell 0
          have d1 : w2.cell? ⟨w.heap.size, 1, none⟩ = some (.int .i64 m) := a2.cell 1
          have d2 : w2.cell? ⟨w.heap.size, 2, none⟩ = some (.slice (some ⟨b, off, none⟩) 2 cap) := a2.cell 2
          obtain ⟨p1, q1, r1⟩ := PQR.out _ b2
          have A2 := Lib.hid a2
          clear hb a2
          go_wp2_with fail
          refine (HC2.out _ b2).mono ?_; rintro e w3 ⟨rfl, hb⟩
          have b3 := below_then b2 hb
          have a3 := A2.out.then_ hb
          clear d0 d1 d2 p1 q1 r1 b2
          have d0 : w3.cell? ⟨w.heap.size, 0, none⟩ = some (.int .i64 9) := a3.cell 0
          have d1 : w3.cell? ⟨w.heap.size, 1, none⟩ = some (.int .i64 m) := a3.cell 1
          clear hb a3
          go_wp2_with fail
          refine (ref_yesB _ _).mono ?_; rintro e w8 ⟨rfl, rfl⟩
          go_wp2_with fail
          refine (ref_Num _ _).mono ?_; rw [hi]; rintro e w9 ⟨rfl, rfl⟩
          go_wp2_with fail
          go_ret2
          exact evalPost_of HF.out (by (repeat' (first | exact bxR _ _ | assumption | refine bxD ?_ | refine bxN ?_ _ | refine bxA ?_ _ | refine bxS ?_ ?_ _ | refine bxT ?_ (by assumption) | refine bxW ?_ (by assumption) | exact Nat.le_refl _ | omega | (simp; done) | (simp; omega))))
      · have DL : decide (x - z < 0) = false := by simp; omega
        have HR := Lib.hid (show rawVal 9 m y x z = (0, 0) by simp [rawVal, hlt, bitOf])
        rcases inB_cases (-2147483647) 2147483647 ((0 : Int)) with ⟨hi, i1, i2⟩ | ⟨hi, hi'⟩
        · have HF := Lib.hid (HN.out.trans ((congrArg finVal HR.out).trans (finVal_in rfl hi)))
          clear i1 i2
          go_enter Tryz.func96, Tryz.ntmps96
          go_wp2_with fail
          refine HC.out.mono ?_; rintro e w2 ⟨rfl, hb⟩
          have b2 := below_then B0.out hb
          have a2 := A0.out.then_ hb
          have d0 : w2.cell? ⟨w.heap.size, 0, none⟩ = some (.int .i64 9) := a2.cell 0
          have d1 : w2.cell? ⟨w.heap.size, 1, none⟩ = some (.int .i64 m) := a2.cell 1
          have d2 : w2.cell? ⟨w.heap.size, 2, none⟩ = some (.slice (some ⟨b, off, none⟩) 2 cap) := a2.cell 2
          obtain ⟨p1, q1, r1⟩ := PQR.out _ b2
          have A2 := Lib.hid a2
          clear hb a2
          go_wp2_with fail
          refine (HC2.out _ b2).mono ?_; rintro e w3 ⟨rfl, hb⟩
          have b3 := below_then b2 hb
          have a3 := A2.out.then_ hb
          clear d0 d1 d2 p1 q1 r1 b2
          have d0 : w3.cell? ⟨w.heap.size, 0, none⟩ = some (.int .i64 9) := a3.cell 0
          have d1 : w3.cell? ⟨w.heap.size, 1, none⟩ = some (.int .i64 m) := a3.cell 1
          clear hb a3
          go_wp2_with fail
          refine (ref_yesB _ _).mono ?_; rintro e w8 ⟨rfl, rfl⟩
          go_wp2_with fail
          refine (ref_Num _ _).mono ?_; rw [hi]; rintro e w9 ⟨rfl, rfl⟩
          go_wp2_with fail
          go_ret2
          exact evalPost_of HF.out (by (repeat' (first | exact bxR _ _ | assumption | refine bxD ?_ | refine bxN ?_ _ | refine bxA ?_ _ | refine bxS ?_ ?_ _ | refine bxT ?_ (by assumption) | refine bxW ?_ (by assumption) | exact Nat.le_refl _ | omega | (simp; done) | (simp; omega))))
        · have HF := Lib.hid (HN.out.trans ((congrArg finVal HR.out).trans (finVal_over rfl hi)))
          clear hi'
          go_enter Tryz.func96, Tryz.ntmps96
          go_wp2_with fail
          refine HC.out.mono ?_; rintro e w2 ⟨rfl, hb⟩
          have b2 := below_then B0.out hb
          have a2 := A0.out.then_ hb
          have d0 : w2.cell? ⟨w.heap.size, 0, none⟩ = some (.int .i64 9) := a2.cell 0
          have d1 : w2.cell? ⟨w.heap.size, 1, none⟩ = some (.int .i64 m) := a2.cell 1
          have d2 : w2.cell? ⟨w.heap.size, 2, none⟩ = some (.slice (some ⟨b, off, none⟩) 2 cap) := a2.cell 2
          obtain ⟨p1, q1, r1⟩ := PQR.out _ b2
          have A2 := Lib.hid a2
          clear hb a2
          go_wp2_with fail
          refine (HC2.out _ b2).mono ?_; rintro e w3 ⟨rfl, hb⟩
          have b3 := below_then b2 hb
          have a3 := A2.out.then_ hb
          clear d0 d1 d2 p1 q1 r1 b2
          have d0 : w3.cell? ⟨w.heap.size, 0, none⟩ = some (.int .i64 9) := a3.cell 0
          have d1 : w3.cell? ⟨w.heap.size, 1, none⟩ = some (.int .i64 m) := a3.cell 1
          clear hb a3
          go_wp2_with fail
          refine (ref_yesB _ _).mono ?_; rintro e w8 ⟨rfl, rfl⟩
          go_wp2_with fail
          refine (ref_Num _ _).mono ?_; rw [hi]; rintro e w9 ⟨rfl, rfl⟩
          go_wp2_with fail
          go_ret2
          exact evalPost_of HF.out (by (repeat' (first | exact bxR _ _ | assumption | refine bxD ?_ | refine bxN ?_ _ | refine bxA ?_ _ | refine bxS ?_ ?_ _ | refine bxT ?_ (by assumption) | refine bxW ?_ (by assumption) | exact Nat.le_refl _ | omega | (simp; done) | (simp; omega))))
    · by_cases heq : x = z
      · subst heq
        have HR := Lib.hid (show rawVal 10 m y x x = (1, 0) by simp [rawVal, bitOf])
        rcases inB_cases (-2147483647) 2147483647 ((1 : Int)) with ⟨hi, i1, i2⟩ | ⟨hi, hi'⟩
        · have HF := Lib.hid (HN.out.trans ((congrArg finVal HR.out).trans (finVal_in rfl hi)))
          clear i1 i2
          go_enter Tryz.func96, Tryz.ntmps96
          go_wp2_with fail
          refine HC.out.mono ?_; rintro e w2 ⟨rfl, hb⟩
          have b2 := below_then B0.out hb
          have a2 := A0.out.then_ hb
          have d0 : w2.cell? ⟨w.heap.size, 0, none⟩ = some (.int .i64 10) := a2.cell 0
          have d1 : w2.cell? ⟨w.heap.size, 1, none⟩ = some (.int .i64 m) := a2.cell 1
          have d2 : w2.cell? ⟨w.heap.size, 2, none⟩ = some (.slice (some ⟨b, off, none⟩) 2 cap) := a2.cell 2
          obtain ⟨p1, q1, r1⟩ := PQR.out _ b2
          have A2 := Lib.hid a2
          clear hb a2
          go_wp2_with fail
          refine (HC2.out _ b2).mono ?_; rintro e w3 ⟨rfl, hb⟩
          have b3 := below_then b2 hb
          have a3 := A2.out.then_ hb
          clear d0 d1 d2 p1 q1 r1 b2
          have d0 : w3.cell? ⟨w.heap.size, 0, none⟩ = some (.int .i64 10) := a3.cell 0
          have d1 : w3.cell? ⟨w.heap.size, 1, none⟩ = some (.int .i64 m) := a3.cell 1
          clear hb a3
          go_wp2_with fail
          refine (ref_yesB _ _).mono ?_; rintro e w8 ⟨rfl, rfl⟩
          go_wp2_with fail
          refine (ref_Num _ _).mono ?_; rw [hi]; rintro e w9 ⟨rfl, rfl⟩
          go_wp2_with fail
          go_ret2
          exact evalPost_of HF.out (by (repeat' (first | exact bxR _ _ | assumption | refine bxD ?_ | refine bxN ?_ _ | refine bxA ?_ _ | refine bxS ?_ ?_ _ | refine bxT ?_ (by assumption) | refine bxW ?_ (by assumption) | exact Nat.le_refl _ | omega | (simp; done) | (simp; omega))))
        · have HF := Lib.hid (HN.out.trans ((congrArg finVal HR.out).trans (finVal_over rfl hi)))
          clear hi'
          go_enter Tryz.func96, Tryz.ntmps96
          go_wp2_with fail
          refine HC.out.mono ?_; rintro e w2 ⟨rfl, hb⟩
          have b2 := below_then B0.out hb
          have a2 := A0.out.then_ hb
          have d0 : w2.cell? ⟨w.heap.size, 0, none⟩ = some (.int .i64 10) := a2.cell 0
          have d1 : w2.cell? ⟨w.heap.size, 1, none⟩ = some (.int .i64 m) := a2.cell 1
          have d2 : w2.cell? ⟨w.heap.size, 2, none⟩ = some (.slice (some ⟨b, off, none⟩) 2 cap) := a2.cell 2
          obtain ⟨p1, q1, r1⟩ := PQR.out _ b2
          have A2 := Lib.hid a2
          clear hb a2
          go_wp2_with fail
          refine (HC2.out _ b2).mono ?_; rintro e w3 ⟨rfl, hb⟩
          have b3 := below_then b2 hb
          have a3 := A2.out.then_ hb
          clear d0 d1 d2 p1 q1 r1 b2
          have d0 : w3.cell? ⟨w.heap.size, 0, none⟩ = some (.int .i64 10) := a3.cell 0
          have d1 : w3.cell? ⟨w.heap.size, 1, none⟩ = some (.int .i64 m) := a3.cell 1
          clear hb a3
          go_wp2_with fail
          refine (ref_yesB _ _).mono ?_; rintro e w8 ⟨rfl, rfl⟩
          go_wp2_with fail
          refine (ref_Num _ _).mono ?_; rw [hi]; rintro e w9 ⟨rfl, rfl⟩
          go_wp2_with fail
          go_ret2
          exact evalPost_of HF.out (by (repeat' (first | exact bxR _ _ | assumption | refine bxD ?_ | refine bxN ?_ _ | refine bxA ?_ _ | refine bxS ?_ ?_ _ | refine bxT ?_ (by assumption) | refine bxW ?_ (by assumption) | exact Nat.le_refl _ | omega | (simp; done) | (simp; omega))))
      · have DL : (x - z == 0) = false := by simp; omega
        have HR := Lib.hid (show rawVal 10 m y x z = (0, 0) by simp [rawVal, heq, bitOf])
        rcases inB_cases (-2147483647) 2147483647 ((0 : Int)) with ⟨hi, i1, i2⟩ | ⟨hi, hi'⟩
        · have HF := Lib.hid (HN.out.trans ((congrArg finVal HR.out).trans (finVal_in rfl hi)))
          clear i1 i2
          go_enter Tryz.func96, Tryz.ntmps96
          go_wp2_with fail
          refine HC.out.mono ?_; rintro e w2 ⟨rfl, hb⟩
          have b2 := below_then B0.out hb
          have a2 := A0.out.then_ hb
          have d0 : w2.cell? ⟨w.heap.size, 0, none⟩ = some (.int .i64 10) := a2.cell 0
          have d1 : w2.cell? ⟨w.heap.size, 1, none⟩ = some (.int .i64 m) := a2.cell 1
          have d2 : w2.cell? ⟨w.heap.size, 2, none⟩ = some (.slice (some ⟨b, off, none⟩) 2 cap) := a2.cell 2
          obtain ⟨p1, q1, r1⟩ := PQR.out _ b2
          have A2 := Lib.hid a2
          clear hb a2
          go_wp2_with fail
          refine (HC2.out _ b2).mono ?_; rintro e w3 ⟨rfl, hb⟩
          have b3 := below_then b2 hb
          have a3 := A2.out.then_ hb
          clear d0 d1 d2 p1 q1 r1 b2
          have d0 : w3.cell? ⟨w.heap.size, 0, none⟩ = some (.int .i64 10) := a3.cell 0
          have d1 : w3.cell? ⟨w.heap.size, 1, none⟩ = some (.int .i64 m) := a3.cell 1
          clear hb a3
          go_wp2_with fail
          refine (ref_yesB _ _).mono ?_; rintro e w8 ⟨rfl, rfl⟩
          go_wp2_with fail
          refine (ref_Num _ _).mono ?_; rw [hi]; rintro e w9 ⟨rfl, rfl⟩
          go_wp2_with fail
          go_ret2
          exact evalPost_of HF.out (by (repeat' (first | exact bxR _ _ | assumption | refine bxD ?_ | refine bxN ?_ _ | refine bxA ?_ _ | refine bxS ?_ ?_ _ | refine bxT ?_ (by assumption) | refine bxW ?_ (by assumption) | exact Nat.le_refl _ | omega | (simp; done) | (simp; omega))))
        · have HF := Lib.hid (HN.out.trans ((congrArg finVal HR.out).trans (finVal_over rfl hi)))
          clear hi'
          go_enter Tryz.func96, Tryz.ntmps96
          go_wp2_with fail
          refine HC.out.mono ?_; rintro e w2 ⟨rfl, hb⟩
          have b2 := below_then B0.out hb
          have a2 := A0.out.then_ hb
          have d0 : w2.cell? ⟨w.heap.size, 0, none⟩ = some (.int .i64 10) := a2.cell 0
          have d1 : w2.cell? ⟨w.heap.size, 1, none⟩ = some (.int .i64 m) := a2.cell 1
          have d2 : w2.cell? ⟨w.heap.size, 2, none⟩ = some (.slice (some ⟨b, off, none⟩) 2 cap) := a2.cell 2
          obtain ⟨p1, q1, r1⟩ := PQR.out _ b2
          have A2 := Lib.hid a2
          clear hb a2
          go_wp2_with fail
          refine (HC2.out _ b2).mono ?_; rintro e w3 ⟨rfl, hb⟩
          have b3 := below_then b2 hb
          have a3 := A2.out.then_ hb
          clear d0 d1 d2 p1 q1 r1 b2
          have d0 : w3.cell? ⟨w.heap.size, 0, none⟩ = some (.int .i64 10) := a3.cell 0
          have d1 : w3.cell? ⟨w.heap.size, 1, none⟩ = some (.int .i64 m) := a3.cell 1
          clear hb a3
          go_wp2_with fail
          refine (ref_yesB _ _).mono ?_; rintro e w8 ⟨rfl, rfl⟩
          go_wp2_with fail
          refine (ref_Num _ _).mono ?_; rw [hi]; rintro e w9 ⟨rfl, rfl⟩
          go_wp2_with fail
          go_ret2
          exact evalPost_of HF.out (by (repeat' (first | exact bxR _ _ | assumption | refine bxD ?_ | refine bxN ?_ _ | refine bxA ?_ _ | refine bxS ?_ ?_ _ | refine bxT ?_ (by assumption) | refine bxW ?_ (by assumption) | exact Nat.le_refl _ | omega | (simp; done) | (simp; omega))))
    · rcases Bool.eq_false_or_eq_true (x != 0) with ha | ha <;> rcases Bool.eq_false_or_eq_true (z != 0) with hb0 | hb0
      all_goals
        have ha2 : (x == 0) = !(x != 0) := by simp [bne]
        have hb2 : (z == 0) = !(z != 0) := by simp [bne]
        rw [ha] at ha2; rw [hb0] at hb2
      · skip
        have HR := Lib.hid (show rawVal 12 m y x z = (1, 0) by simp [rawVal, ha2, hb2, bitOf])
        rcases inB_cases (-2147483647) 2147483647 ((1 : Int)) with ⟨hi, i1, i2⟩ | ⟨hi, hi'⟩
        · have HF := Lib.hid (HN.out.trans ((congrArg finVal HR.out).trans (finVal_in rfl hi)))
          clear i1 i2
          go_enter Tryz.func96, Tryz.ntmps96
          go_wp2_with fail
          refine HC.out.mono ?_; rintro e w2 ⟨rfl, hb⟩
          have b2 := below_then B0.out hb
          have a2 := A0.out.then_ hb
          have d0 : w2.cell? ⟨w.heap.size, 0, none⟩ = some (.int .i64 12) := a2.cell 0
          have d1 : w2.cell? ⟨w.heap.size, 1, none⟩ = some (.int .i64 m) := a2.cell 1
          have d2 : w2.cell? ⟨w.heap.size, 2, none⟩ = some (.slice (some ⟨b, off, none⟩) 2 cap) := a2.cell 2
          obtain ⟨p1, q1, r1⟩ := PQR.out _ b2
          have A2 := Lib.hid a2
          clear hb a2
          go_wp2_with fail
          refine (HC2.out _ b2).mono ?_; rintro e w3 ⟨rfl, hb⟩
          have b3 := below_then b2 hb
          have a3 := A2.out.then_ hb
          clear d0 d1 d2 p1 q1 r1 b2
          have d0 : w3.cell? ⟨w.heap.size, 0, none⟩ = some (.int .i64 12) := a3.cell 0
          have d1 : w3.cell? ⟨w.heap.size, 1, none⟩ = some (.int .i64 m) := a3.cell 1
          clear hb a3
          go_wp2_with fail
          refine (ref_yesB _ _).mono ?_; rintro e w8 ⟨rfl, rfl⟩
          go_wp2_with fail
          refine (ref_yesB _ _).mono ?_; rintro e w8 ⟨rfl, rfl⟩
          go_wp2_with fail
          refine (ref_Num _ _).mono ?_; rw [hi]; rintro e w9 ⟨rfl, rfl⟩
          go_wp2_with fail
          go_ret2
          exact evalPost_of HF.out (by (repeat' (first | exact bxR _ _ | assumption | refine bxD ?_ | refine bxN ?_ _ | refine bxA ?_ _ | refine bxS ?_ ?_ _ | refine bxT ?_ (by assumption) | refine bxW ?_ (by assumption) | exact Nat.le_refl _ | omega | (simp; done) | (simp; omega))))
        · have HF := Lib.hid (HN.out.trans ((congrArg finVal HR.out).trans (finVal_over rfl hi)))
          clear hi'
          go_enter Tryz.func96, Tryz.ntmps96
          go_wp2_with fail
          refine HC.out.mono ?_; rintro e w2 ⟨rfl, hb⟩
          have b2 := below_then B0.out hb
          have a2 := A0.out.then_ hb
          have d0 : w2.cell? ⟨w.heap.size, 0, none⟩ = some (.int .i64 12) := a2.cell 0
          have d1 : w2.cell? ⟨w.heap.size, 1, none⟩ = some (.int .i64 m) := a2.cell 1
          have d2 : w2.cell? ⟨w.heap.size, 2, none⟩ = some (.slice (some ⟨b, off, none⟩) 2 cap) := a2.cell 2
          obtain ⟨p1, q1, r1⟩ := PQR.out _ b2
          have A2 := Lib.hid a2
          clear hb a2
          go_wp2_with fail
          refine (HC2.out _ b2).mono ?_; rintro e w3 ⟨rfl, hb⟩
          have b3 := below_then b2 hb
          have a3 := A2.out.then_ hb
          clear d0 d1 d2 p1 q1 r1 b2
          have d0 : w3.cell? ⟨w.heap.size, 0, none⟩ = some (.int .i64 12) := a3.cell 0
          have d1 : w3.cell? ⟨w.heap.size, 1, none⟩ = some (.int .i64 m) := a3.cell 1
          clear hb a3
          go_wp2_with fail
          refine (ref_yesB _ _).mono ?_; rintro e w8 ⟨rfl, rfl⟩
          go_wp2_with fail
          refine (ref_yesB _ _).mono ?_; rintro e w8 ⟨rfl, rfl⟩
          go_wp2_with fail
          refine (ref_Num _ _).mono ?_; rw [hi]; rintro e w9 ⟨rfl, rfl⟩
          go_wp2_with fail
          go_ret2
          exact evalPost_of HF.out (by (repeat' (first | exact bxR _ _ | assumption | refine bxD ?_ | refine bxN ?_ _ | refine bxA ?_ _ | refine bxS ?_ ?_ _ | refine bxT ?_ (by assumption) | refine bxW ?_ (by assumption) | exact Nat.le_refl _ | omega | (simp; done) | (simp; omega))))
      · skip
        have HR := Lib.hid (show rawVal 12 m y x z = (0, 0) by simp [rawVal, ha2, hb2, bitOf])
        rcases inB_cases (-2147483647) 2147483647 ((0 : Int)) with ⟨hi, i1, i2⟩ | ⟨hi, hi'⟩
        · have HF := Lib.hid (HN.out.trans ((congrArg finVal HR.out).trans (finVal_in rfl hi)))
          clear i1 i2
          go_enter Tryz.func96, Tryz.ntmps96
          go_wp2_with fail
          refine HC.out.mono ?_; rintro e w2 ⟨rfl, hb⟩
          have b2 := below_then B0.out hb
          have a2 := A0.out.then_ hb
          have d0 : w2.cell? ⟨w.heap.size, 0, none⟩ = some (.int .i64 12) := a2.cell 0
          have d1 : w2.cell? ⟨w.heap.size, 1, none⟩ = some (.int .i64 m) := a2.cell 1
          have d2 : w2.cell? ⟨w.heap.size, 2, none⟩ = some (.slice (some ⟨b, off, none⟩) 2 cap) := a2.cell 2
          obtain ⟨p1, q1, r1⟩ := PQR.out _ b2
          have A2 := Lib.hid a2
          clear hb a2
          go_wp2_with fail
          refine (HC2.out _ b2).mono ?_; rintro e w3 ⟨rfl, hb⟩
          have b3 := below_then b2 hb
          have a3 := A2.out.then_ hb
          clear d0 d1 d2 p1 q1 r1 b2
          have d0 : w3.cell? ⟨w.heap.size, 0, none⟩ = some (.int .i64 12) := a3.cell 0
          have d1 : w3.cell? ⟨w.heap.size, 1, none⟩ = some (.int .i64 m) := a3.cell 1
          clear hb a3
          go_wp2_with fail
          refine (ref_yesB _ _).mono ?_; rintro e w8 ⟨rfl, rfl⟩
          go_wp2_with fail
          refine (ref_yesB _ _).mono ?_; rintro e w8 ⟨rfl, rfl⟩
          go_wp2_with fail
          refine (ref_Num _ _).mono ?_; rw [hi]; rintro e w9 ⟨rfl, rfl⟩
          go_wp2_with fail
          go_ret2
          exact evalPost_of HF.out (by (repeat' (first | exact bxR _ _ | assumption | refine bxD ?_ | refine bxN ?_ _ | refine bxA ?_ _ | refine bxS ?_ ?_ _ | refine bxT ?_ (by assumption) | refine bxW ?_ (by assumption) | exact Nat.le_refl _ | omega | (simp; done) | (simp; omega))))
        · have HF := Lib.hid (HN.out.trans ((congrArg finVal HR.out).trans (finVal_over rfl hi)))
          clear hi'
          go_enter Tryz.func96, Tryz.ntmps96
          go_wp2_with fail
          refine HC.out.mono ?_; rintro e w2 ⟨rfl, hb⟩
          have b2 := below_then B0.out hb
          have a2 := A0.out.then_ hb
          have d0 : w2.cell? ⟨w.heap.size, 0, none⟩ = some (.int .i64 12) := a2.cell 0
          have d1 : w2.cell? ⟨w.heap.size, 1, none⟩ = some (.int .i64 m) := a2.cell 1
          have d2 : w2.cell? ⟨w.heap.size, 2, none⟩ = some (.slice (some ⟨b, off, none⟩) 2 cap) := a2.cell 2
          obtain ⟨p1, q1, r1⟩ := PQR.out _ b2
          have A2 := Lib.hid a2
          clear hb a2
          go_wp2_with fail
          refine (HC2.out _ b2).mono ?_; rintro e w3 ⟨rfl, hb⟩
          have b3 := below_then b2 hb
          have a3 := A2.out.then_ hb
          clear d0 d1 d2 p1 q1 r1 b2
          have d0 : w3.cell? ⟨w.heap.size, 0, none⟩ = some (.int .i64 12) := a3.cell 0
          have d1 : w3.cell? ⟨w.heap.size, 1, none⟩ = some (.int .i64 m) := a3.cell 1
          clear hb a3
          go_wp2_with fail
          refine (ref_yesB _ _).mono ?_; rintro e w8 ⟨rfl, rfl⟩
          go_wp2_with fail
          refine (ref_yesB _ _).mono ?_; rintro e w8 ⟨rfl, rfl⟩
          go_wp2_with fail
          refine (ref_Num _ _).mono ?_; rw [hi]; rintro e w9 ⟨rfl, rfl⟩
          go_wp2_with fail
          go_ret2
          exact evalPost_of HF.out (by (repeat' (first | exact bxR _ _ | assumption | refine bxD ?_ | refine bxN ?_ _ | refine bxA ?_ _ | refine bxS ?_ ?_ _ | refine bxT ?_ (by assumption) | refine bxW ?_ (by assumption) | exact Nat.le_refl _ | omega | (simp; done) | (simp; omega))))
      · skip
        have HR := Lib.hid (show rawVal 12 m y x z = (0, 0) by simp [rawVal, ha2, hb2, bitOf])
        rcases inB_cases (-2147483647) 2147483647 ((0 : Int)) with ⟨hi, i1, i2⟩ | ⟨hi, hi'⟩
        · have HF := Lib.hid (HN.out.trans ((congrArg finVal HR.out).trans (finVal_in rfl hi)))
          clear i1 i2
          go_enter Tryz.func96, Tryz.ntmps96
          go_wp2_with fail
          refine HC.out.mono ?_; rintro e w2 ⟨rfl, hb⟩
          have b2 := below_then B0.out hb
          have a2 := A0.out.then_ hb
          have d0 : w2.cell? ⟨w.heap.size, 0, none⟩ = some (.int .i64 12) := a2.cell 0
          have d1 : w2.cell? ⟨w.heap.size, 1, none⟩ = some (.int .i64 m) := a2.cell 1
          have d2 : w2.cell? ⟨w.heap.size, 2, none⟩ = some (.slice (some ⟨b, off, none⟩) 2 cap) := a2.cell 2
          obtain ⟨p1, q1, r1⟩ := PQR.out _ b2
          have A2 := Lib.hid a2
          clear hb a2
          go_wp2_with fail
          refine (HC2.out _ b2).mono ?_; rintro e w3 ⟨rfl, hb⟩
          have b3 := below_then b2 hb
          have a3 := A2.out.then_ hb
          clear d0 d1 d2 p1 q1 r1 b2
          have d0 : w3.cell? ⟨w.heap.size, 0, none⟩ = some (.int .i64 12) := a3.cell 0
          have d1 : w3.cell? ⟨w.heap.size, 1, none⟩ = some (.int .i64 m) := a3.cell 1
          clear hb a3
          go_wp2_with fail
          refine (ref_yesB _ _).mono ?_; rintro e w8 ⟨rfl, rfl⟩
          go_wp2_with fail
          refine (ref_yesB _ _).mono ?_; rintro e w8 ⟨rfl, rfl⟩
          go_wp2_with fail
          refine (ref_Num _ _).mono ?_; rw [hi]; rintro e w9 ⟨rfl, rfl⟩
          go_wp2_with fail
          go_ret2
          exact evalPost_of HF.out (by (repeat' (first | exact bxR _ _ | assumption | refine bxD ?_ | refine bxN ?_ _ | refine bxA ?_ _ | refine bxS ?_ ?_ _ | refine bxT ?_ (by assumption) | refine bxW ?_ (by assumption) | exact Nat.le_refl _ | omega | (simp; done) | (simp; omega))))
        · have HF := Lib.hid (HN.out.trans ((congrArg finVal HR.out).trans (finVal_over rfl hi)))
          clear hi'
          go_enter Tryz.func96, Tryz.ntmps96
          go_wp2_with fail
          refine HC.out.mono ?_; rintro e w2 ⟨rfl, hb⟩
          have b2 := below_then B0.out hb
          have a2 := A0.out.then_ hb
          have d0 : w2.cell? ⟨w.heap.size, 0, none⟩ = some (.int .i64 12) := a2.cell 0
          have d1 : w2.cell? ⟨w.heap.size, 1, none⟩ = some (.int .i64 m) := a2.cell 1
          have d2 : w2.cell? ⟨w.heap.size, 2, none⟩ = some (.slice (some ⟨b, off, none⟩) 2 cap) := a2.cell 2
          obtain ⟨p1, q1, r1⟩ := PQR.out _ b2
          have A2 := Lib.hid a2
          clear hb a2
          go_wp2_with fail
          refine (HC2.out _ b2).mono ?_; rintro e w3 ⟨rfl, hb⟩
          have b3 := below_then b2 hb
          have a3 := A2.out.then_ hb
          clear d0 d1 d2 p1 q1 r1 b2
          have d0 : w3.cell? ⟨w.heap.size, 0, none⟩ = some (.int .i64 12) := a3.cell 0
          have d1 : w3.cell? ⟨w.heap.size, 1, none⟩ = some (.int .i64 m) := a3.cell 1
          clear hb a3
          go_wp2_with fail
          refine (ref_yesB _ _).mono ?_; rintro e w8 ⟨rfl, rfl⟩
          go_wp2_with fail
          refine (ref_yesB _ _).mono ?_; rintro e w8 ⟨rfl, rfl⟩
          go_wp2_with fail
          refine (ref_Num _ _).mono ?_; rw [hi]; rintro e w9 ⟨rfl, rfl⟩
          go_wp2_with fail
          go_ret2
          exact evalPost_of HF.out (by (repeat' (first | exact bxR _ _ | assumption | refine bxD ?_ | refine bxN ?_ _ | refine bxA ?_ _ | refine bxS ?_ ?_ _ | refine bxT ?_ (by assumption) | refine bxW ?_ (by assumption) | exact Nat.le_refl _ | omega | (simp; done) | (simp; omega))))
      · skip
        have HR := Lib.hid (show rawVal 12 m y x z = (0, 0) by simp [rawVal, ha2, hb2, bitOf])
        rcases inB_cases (-2147483647) 2147483647 ((0 : Int)) with ⟨hi, i1, i2⟩ | ⟨hi, hi'⟩
        · have HF := Lib.hid (HN.out.trans ((congrArg finVal HR.out).trans (finVal_in rfl hi)))
          clear i1 i2
          go_enter Tryz.func96, Tryz.ntmps96
          go_wp2_with fail
          refine HC.out.mono ?_; rintro e w2 ⟨rfl, hb⟩
          have b2 := below_then B0.out hb
          have a2 := A0.out.then_ hb
          have d0 : w2.cell? ⟨w.heap.size, 0, none⟩ = some (.int .i64 12) := a2.cell 0
          have d1 : w2.cell? ⟨w.heap.size, 1, none⟩ = some (.int .i64 m) := a2.cell 1
          have d2 : w2.cell? ⟨w.heap.size, 2, none⟩ = some (.slice (some ⟨b, off, none⟩) 2 cap) := a2.cell 2
          obtain ⟨p1, q1, r1⟩ := PQR.out _ b2
          have A2 := Lib.hid a2
          clear hb a2
          go_wp2_with fail
          refine (HC2.out _ b2).mono ?_; rintro e w3 ⟨rfl, hb⟩
          have b3 := below_then b2 hb
          have a3 := A2.out.then_ hb
          clear d0 d1 d2 p1 q1 r1 b2
          have d0 : w3.cell? ⟨w.heap.size, 0, none⟩ = some (.int .i64 12) := a3.cell 0
          have d1 : w3.cell? ⟨w.heap.size, 1, none⟩ = some (.int .i64 m) := a3.cell 1
          clear hb a3
          go_wp2_with fail
          refine (ref_yesB _ _).mono ?_; rintro e w8 ⟨rfl, rfl⟩
          go_wp2_with fail
          refine (ref_yesB _ _).mono ?_; rintro e w8 ⟨rfl, rfl⟩
          go_wp2_with fail
          refine (ref_Num _ _).mono ?_; rw [hi]; rintro e w9 ⟨rfl, rfl⟩
          go_wp2_with fail
          go_ret2
          exact evalPost_of HF.out (by (repeat' (first | exact bxR _ _ | assumption | refine bxD ?_ | refine bxN ?_ _ | refine bxA ?_ _ | refine bxS ?_ ?_ _ | refine bxT ?_ (by assumption) | refine bxW ?_ (by assumption) | exact Nat.le_refl _ | omega | (simp; done) | (simp; omega))))
        · have HF := Lib.hid (HN.out.trans ((congrArg finVal HR.out).trans (finVal_over rfl hi)))
          clear hi'
          go_enter Tryz.func96, Tryz.ntmps96
          go_wp2_with fail
          refine HC.out.mono ?_; rintro e w2 ⟨rfl, hb⟩
          have b2 := below_then B0.out hb
          have a2 := A0.out.then_ hb
          have d0 : w2.cell? ⟨w.heap.size, 0, none⟩ = some (.int .i64 12) := a2.cell 0
          have d1 : w2.cell? ⟨w.heap.size, 1, none⟩ = some (.int .i64 m) := a2.cell 1
          have d2 : w2.cell? ⟨w.heap.size, 2, none⟩ = some (.slice (some ⟨b, off, none⟩) 2 cap) := a2.cell 2
          obtain ⟨p1, q1, r1⟩ := PQR.out _ b2
          have A2 := Lib.hid a2
          clear hb a2
          go_wp2_with fail
          refine (HC2.out _ b2).mono ?_; rintro e w3 ⟨rfl, hb⟩
          have b3 := below_then b2 hb
          have a3 := A2.out.then_ hb
          clear d0 d1 d2 p1 q1 r1 b2
          have d0 : w3.cell? ⟨w.heap.size, 0, none⟩ = some (.int .i64 12) := a3.cell 0
          have d1 : w3.cell? ⟨w.heap.size, 1, none⟩ = some (.int .i64 m) := a3.cell 1
          clear hb a3
          go_wp2_with fail
          refine (ref_yesB _ _).mono ?_; rintro e w8 ⟨rfl, rfl⟩
          go_wp2_with fail
          refine (ref_yesB _ _).mono ?_; rintro e w8 ⟨rfl, rfl⟩
          go_wp2_with fail
          refine (ref_Num _ _).mono ?_; rw [hi]; rintro e w9 ⟨rfl, rfl⟩
          go_wp2_with fail
          go_ret2
          exact evalPost_of HF.out (by (repeat' (first | exact bxR _ _ | assumption | refine bxD ?_ | refine bxN ?_ _ | refine bxA ?_ _ | refine bxS ?_ ?_ _ | refine bxT ?_ (by assumption) | refine bxW ?_ (by assumption) | exact Nat.le_refl _ | omega | (simp; done) | (simp; omega))))
    · rcases Bool.eq_false_or_eq_true (x != 0) with ha | ha <;> rcases Bool.eq_false_or_eq_true (z != 0) with hb0 | hb0
      all_goals
        have ha2 : (x == 0) = !(x != 0) := by simp [bne]
        have hb2 : (z == 0) = !(z != 0) := by simp [bne]
        rw [ha] at ha2; rw [hb0] at hb2
      · skip
        have HR := Lib.hid (show rawVal 13 m y x z = (1, 0) by simp [rawVal, ha2, hb2, bitOf])
        rcases inB_cases (-2147483647) 2147483647 ((1 : Int)) with ⟨hi, i1, i2⟩ | ⟨hi, hi'⟩
        · have HF := Lib.hid (HN.out.trans ((congrArg finVal HR.out).trans (finVal_in rfl hi)))
          clear i1 i2
          go_enter Tryz.func96, Tryz.ntmps96
          go_wp2_with fail
          refine HC.out.mono ?_; rintro e w2 ⟨rfl, hb⟩
          have b2 := below_then B0.out hb
          have a2 := A0.out.then_ hb
          have d0 : w2.cell? ⟨w.heap.size, 0, none⟩ = some (.int .i64 13) := a2.cell 0
          have d1 : w2.cell? ⟨w.heap.size, 1, none⟩ = some (.int .i64 m) := a2.cell 1
          have d2 : w2.cell? ⟨w.heap.size, 2, none⟩ = some (.slice (some ⟨b, off, none⟩) 2 cap) := a2.cell 2
          obtain ⟨p1, q1, r1⟩ := PQR.out _ b2
          have A2 := Lib.hid a2
          clear hb a2
          go_wp2_with fail
          refine (HC2.out _ b2).mono ?_; rintro e w3 ⟨rfl, hb⟩
          have b3 := below_then b2 hb
          have a3 := A2.out.then_ hb
          clear d0 d1 d2 p1 q1 r1 b2
          have d0 : w3.cell? ⟨w.heap.size, 0, none⟩ = some (.int .i64 13) := a3.cell 0
          have d1 : w3.cell? ⟨w.heap.size, 1, none⟩ = some (.int .i64 m) := a3.cell 1
          clear hb a3
          go_wp2_with fail
          refine (ref_yesB _ _).mono ?_; rintro e w8 ⟨rfl, rfl⟩
          go_wp2_with fail
          refine (ref_yesB _ _).mono ?_; rintro e w8 ⟨rfl, rfl⟩
          go_wp2_with fail
          refine (ref_Num _ _).mono ?_; rw [hi]; rintro e w9 ⟨rfl, rfl⟩
          go_wp2_with fail
          go_ret2
          exact evalPost_of HF.out (by (repeat' (first | exact bxR _ _ | assumption | refine bxD ?_ | refine bxN ?_ _ | refine bxA ?_ _ | refine bxS ?_ ?_ _ | refine bxT ?_ (by assumption) | refine bxW ?_ (by assumption) | exact Nat.le_refl _ | omega | (simp; done) | (simp; omega))))
        · have HF := Lib.hid (HN.out.trans ((congrArg finVal HR.out).trans (finVal_over rfl hi)))
          clear hi'
          go_enter Tryz.func96, Tryz.ntmps96
          go_wp2_with fail
          refine HC.out.mono ?_; rintro e w2 ⟨rfl, hb⟩
          have b2 := below_then B0.out hb
          have a2 := A0.out.then_ hb
          have d0 : w2.cell? ⟨w.heap.size, 0, none⟩ = some (.int .i64 13) := a2.cell 0
          have d1 : w2.cell? ⟨w.heap.size, 1, none⟩ = some (.int .i64 m) := a2.cell 1
          have d2 : w2.cell? ⟨w.heap.size, 2, none⟩ = some (.slice (some ⟨b, off, none⟩) 2 cap) := a2.cell 2
          obtain ⟨p1, q1, r1⟩ := PQR.out _ b2
          have A2 := Lib.hid a2
          clear hb a2
          go_wp2_with fail
          refine (HC2.out _ b2).mono ?_; rintro e w3 ⟨rfl, hb⟩
          have b3 := below_then b2 hb
          have a3 := A2.out.then_ hb
          clear d0 d1 d2 p1 q1 r1 b2
          have d0 : w3.cell? ⟨w.heap.size, 0, none⟩ = some (.int .i64 13) := a3.cell 0
          have d1 : w3.cell? ⟨w.heap.size, 1, none⟩ = some (.int .i64 m) := a3.cell 1
          clear hb a3
          go_wp2_with fail
          refine (ref_yesB _ _).mono ?_; rintro e w8 ⟨rfl, rfl⟩
          go_wp2_with fail
          refine (ref_yesB _ _).mono ?_; rintro e w8 ⟨rfl, rfl⟩
          go_wp2_with fail
          refine (ref_Num _ _).mono ?_; rw [hi]; rintro e w9 ⟨rfl, rfl⟩
          go_wp2_with fail
          go_ret2
          exact evalPost_of HF.out (by (repeat' (first | exact bxR _ _ | assumption | refine bxD ?_ | refine bxN ?_ _ | refine bxA ?_ _ | refine bxS ?_ ?_ _ | refine bxT ?_ (by assumption) | refine bxW ?_ (by assumption) | exact Nat.le_refl _ | omega | (simp; done) | (simp; omega))))
      · skip
        have HR := Lib.hid (show rawVal 13 m y x z = (1, 0) by simp [rawVal, ha2, hb2, bitOf])
        rcases inB_cases (-2147483647) 2147483647 ((1 : Int)) with ⟨hi, i1, i2⟩ | ⟨hi, hi'⟩
        · have HF := Lib.hid (HN.out.trans ((congrArg finVal HR.out).trans (finVal_in rfl hi)))
          clear i1 i2
          go_enter Tryz.func96, Tryz.ntmps96
          go_wp2_with fail
          refine HC.out.mono ?_; rintro e w2 ⟨rfl, hb⟩
          have b2 := below_then B0.out hb
          have a2 := A0.out.then_ hb
          have d0 : w2.cell? ⟨w.heap.size, 0, none⟩ = some (.int .i64 13) := a2.cell 0
          have d1 : w2.cell? ⟨w.heap.size, 1, none⟩ = some (.int .i64 m) := a2.cell 1
          have d2 : w2.cell? ⟨w.heap.size, 2, none⟩ = some (.slice (some ⟨b, off, none⟩) 2 cap) := a2.cell 2
          obtain ⟨p1, q1, r1⟩ := PQR.out _ b2
          have A2 := Lib.hid a2
          clear hb a2
          go_wp2_with fail
          refine (HC2.out _ b2).mono ?_; rintro e w3 ⟨rfl, hb⟩
          have b3 := below_then b2 hb
          have a3 := A2.out.then_ hb
          clear d0 d1 d2 p1 q1 r1 b2
          have d0 : w3.cell? ⟨w.heap.size, 0, none⟩ = some (.int .i64 13) := a3.cell 0
          have d1 : w3.cell? ⟨w.heap.size, 1, none⟩ = some (.int .i64 m) := a3.cell 1
          clear hb a3
          go_wp2_with fail
          refine (ref_yesB _ _).mono ?_; rintro e w8 ⟨rfl, rfl⟩
          go_wp2_with fail
          refine (ref_yesB _ _).mono ?_; rintro e w8 ⟨rfl, rfl⟩
          go_wp2_with fail
          refine (ref_Num _ _).mono ?_; rw [hi]; rintro e w9 ⟨rfl, rfl⟩
          go_wp2_with fail
          go_ret2
          exact evalPost_of HF.out (by (repeat' (first | exact bxR _ _ | assumption | refine bxD ?_ | refine bxN ?_ _ | refine bxA ?_ _ | refine bxS ?_ ?_ _ | refine bxT ?_ (by assumption) | refine bxW ?_ (by assumption) | exact Nat.le_refl _ | omega | (simp; done) | (simp; omega))))
        · have HF := Lib.hid (HN.out.trans ((congrArg finVal HR.out).trans (finVal_over rfl hi)))
          clear hi'
          go_enter Tryz.func96, Tryz.ntmps96
          go_wp2_with fail
          refine HC.out.mono ?_; rintro e w2 ⟨rfl, hb⟩
          have b2 := below_then B0.out hb
          have a2 := A0.out.then_ hb
          have d0 : w2.cell? ⟨w.heap.size, 0, none⟩ = some (.int .i64 13) := a2.cell 0
          have d1 : w2.cell? ⟨w.heap.size, 1, none⟩ = some (.int .i64 m) := a2.cell 1
          have d2 : w2.cell? ⟨w.heap.size, 2, none⟩ = some (.slice (some ⟨b, off, none⟩) 2 cap) := a2.cell 2
          obtain ⟨p1, q1, r1⟩ := PQR.out _ b2
          have A2 := Lib.hid a2
          clear hb a2
          go_wp2_with fail
          refine (HC2.out _ b2).mono ?_; rintro e w3 ⟨rfl, hb⟩
          have b3 := below_then b2 hb
          have a3 := A2.out.then_ hb
          clear d0 d1 d2 p1 q1 r1 b2
          have d0 : w3.cell? ⟨w.heap.size, 0, none⟩ = some (.int .i64 13) := a3.cell 0
          have d1 : w3.cell? ⟨w.heap.size, 1, none⟩ = some (.int .i64 m) := a3.cell 1
          clear hb a3
          go_wp2_with fail
          refine (ref_yesB _ _).mono ?_; rintro e w8 ⟨rfl, rfl⟩
          go_wp2_with fail
          refine (ref_yesB _ _).mono ?_; rintro e w8 ⟨rfl, rfl⟩
          go_wp2_with fail
          refine (ref_Num _ _).mono ?_; rw [hi]; rintro e w9 ⟨rfl, rfl⟩
          go_wp2_with fail
          go_ret2
          exact evalPost_of HF.out (by (repeat' (first | exact bxR _ _ | assumption | refine bxD ?_ | refine bxN ?_ _ | refine bxA ?_ _ | refine bxS ?_ ?_ _ | refine bxT ?_ (by assumption) | refine bxW ?_ (by assumption) | exact Nat.le_refl _ | omega | (simp; done) | (simp; omega))))
      · skip
        have HR := Lib.hid (show rawVal 13 m y x z = (1, 0) by simp [rawVal, ha2, hb2, bitOf])
        rcases inB_cases (-2147483647) 2147483647 ((1 : Int)) with ⟨hi, i1, i2⟩ | ⟨hi, hi'⟩
        · have HF := Lib.hid (HN.out.trans ((congrArg finVal HR.out).trans (finVal_in rfl hi)))
          clear i1 i2
          go_enter Tryz.func96, Tryz.ntmps96
          go_wp2_with fail
          refine HC.out.mono ?_; rintro e w2 ⟨rfl, hb⟩
          have b2 := below_then B0.out hb
          have a2 := A0.out.then_ hb
          have d0 : w2.cell? ⟨w.heap.size, 0, none⟩ = some (.int .i64 13) := a2.cell 0
          have d1 : w2.cell? ⟨w.heap.size, 1, none⟩ = some (.int .i64 m) := a2.cell 1
          have d2 : w2.cell? ⟨w.heap.size, 2, none⟩ = some (.slice (some ⟨b, off, none⟩) 2 cap) := a2.cell 2
          obtain ⟨p1, q1, r1⟩ := PQR.out _ b2
          have A2 := Lib.hid a2
          clear hb a2
          go_wp2_with fail
          refine (HC2.out _ b2).mono ?_; rintro e w3 ⟨rfl, hb⟩
          have b3 := below_then b2 hb
          have a3 := A2.out.then_ hb
          clear d0 d1 d2 p1 q1 r1 b2
          have d0 : w3.cell? ⟨w.heap.size, 0, none⟩ = some (.int .i64 13) := a3.cell 0
          have d1 : w3.cell? ⟨w.heap.size, 1, none⟩ = some (.int .i64 m) := a3.cell 1
          clear hb a3
          go_wp2_with fail
          refine (ref_yesB _ _).mono ?_; rintro e w8 ⟨rfl, rfl⟩
          go_wp2_with fail
          refine (ref_yesB _ _).mono ?_; rintro e w8 ⟨rfl, rfl⟩
          go_wp2_with fail
          refine (ref_Num _ _).mono ?_; rw [hi]; rintro e w9 ⟨rfl, rfl⟩
          go_wp2_with fail
          go_ret2
          exact evalPost_of HF.out (by (repeat' (first | exact bxR _ _ | assumption | refine bxD ?_ | refine bxN ?_ _ | refine bxA ?_ _ | refine bxS ?_ ?_ _ | refine bxT ?_ (by assumption) | refine bxW ?_ (by assumption) | exact Nat.le_refl _ | omega | (simp; done) | (simp; omega))))
        · have HF := Lib.hid (HN.out.trans ((congrArg finVal HR.out).trans (finVal_over rfl hi)))
          clear hi'
          go_enter Tryz.func96, Tryz.ntmps96
          go_wp2_with fail
          refine HC.out.mono ?_; rintro e w2 ⟨rfl, hb⟩
          have b2 := below_then B0.out hb
          have a2 := A0.out.then_ hb
          have d0 : w2.cell? ⟨w.heap.size, 0, none⟩ = some (.int .i64 13) := a2.cell 0
          have d1 : w2.cell? ⟨w.heap.size, 1, none⟩ = some (.int .i64 m) := a2.cell 1
          have d2 : w2.cell? ⟨w.heap.size, 2, none⟩ = some (.slice (some ⟨b, off, none⟩) 2 cap) := a2.cell 2
          obtain ⟨p1, q1, r1⟩ := PQR.out _ b2
          have A2 := Lib.hid a2
          clear hb a2
          go_wp2_with fail
          refine (HC2.out _ b2).mono ?_; rintro e w3 ⟨rfl, hb⟩
          have b3 := below_then b2 hb
          have a3 := A2.out.then_ hb
          clear d0 d1 d2 p1 q1 r1 b2
          have d0 : w3.cell? ⟨w.heap.size, 0, none⟩ = some (.int .i64 13) := a3.cell 0
          have d1 : w3.cell? ⟨w.heap.size, 1, none⟩ = some (.int .i64 m) := a3.cell 1
          clear hb a3
          go_wp2_with fail
          refine (ref_yesB _ _).mono ?_; rintro e w8 ⟨rfl, rfl⟩
          go_wp2_with fail
          refine (ref_yesB _ _).mono ?_; rintro e w8 ⟨rfl, rfl⟩
          go_wp2_with fail
          refine (ref_Num _ _).mono ?_; rw [hi]; rintro e w9 ⟨rfl, rfl⟩
          go_wp2_with fail
          go_ret2
          exact evalPost_of HF.out (by (repeat' (first | exact bxR _ _ | assumption | refine bxD ?_ | refine bxN ?_ _ | refine bxA ?_ _ | refine bxS ?_ ?_ _ | refine bxT ?_ (by assumption) | refine bxW ?_ (by assumption) | exact Nat.le_refl _ | omega | (simp; done) | (simp; omega))))
      · skip
        have HR := Lib.hid (show rawVal 13 m y x z = (0, 0) by simp [rawVal, ha2, hb2, bitOf])
        rcases inB_cases (-2147483647) 2147483647 ((0 : Int)) with ⟨hi, i1, i2⟩ | ⟨hi, hi'⟩
        · have HF := Lib.hid (HN.out.trans ((congrArg finVal HR.out).trans (finVal_in rfl hi)))
          clear i1 i2
          go_enter Tryz.func96, Tryz.ntmps96
          go_wp2_with fail
          refine HC.out.mono ?_; rintro e w2 ⟨rfl, hb⟩
          have b2 := below_then B0.out hb
          have a2 := A0.out.then_ hb
          have d0 : w2.cell? ⟨w.heap.size, 0, none⟩ = some (.int .i64 13) := a2.cell 0
          have d1 : w2.cell? ⟨w.heap.size, 1, none⟩ = some (.int .i64 m) := a2.cell 1
          have d2 : w2.cell? ⟨w.heap.size, 2, none⟩ = some (.slice (some ⟨b, off, none⟩) 2 cap) := a2.cell 2
          obtain ⟨p1, q1, r1⟩ := PQR.out _ b2
          have A2 := Lib.hid a2
          clear hb a2
          go_wp2_with fail
          refine (HC2.out _ b2).mono ?_; rintro e w3 ⟨rfl, hb⟩
          have b3 := below_then b2 hb
          have a3 := A2.out.then_ hb
          clear d0 d1 d2 p1 q1 r1 b2
          have d0 : w3.cell? ⟨w.heap.size, 0, none⟩ = some (.int .i64 13) := a3.cell 0
          have d1 : w3.cell? ⟨w.heap.size, 1, none⟩ = some (.int .i64 m) := a3.cell 1
          clear hb a3
          go_wp2_with fail
          refine (ref_yesB _ _).mono ?_; rintro e w8 ⟨rfl, rfl⟩
          go_wp2_with fail
          refine (ref_yesB _ _).mono ?_; rintro e w8 ⟨rfl, rfl⟩
          go_wp2_with fail
          refine (ref_Num _ _).mono ?_; rw [hi]; rintro e w9 ⟨rfl, rfl⟩
          go_wp2_with fail
          go_ret2
          exact evalPost_of HF.out (by (repeat' (first | exact bxR _ _ | assumption | refine bxD ?_ | refine bxN ?_ _ | refine bxA ?_ _ | refine bxS ?_ ?_ _ | refine bxT ?_ (by assumption) | refine bxW ?_ (by assumption) | exact Nat.le_refl _ | omega | (simp; done) | (simp; omega))))
        · have HF := Lib.hid (HN.out.trans ((congrArg finVal HR.out).trans (finVal_over rfl hi)))
          clear hi'
          go_enter Tryz.func96, Tryz.ntmps96
          go_wp2_with fail
          refine HC.out.mono ?_; rintro e w2 ⟨rfl, hb⟩
          have b2 := below_then B0.out hb
          have a2 := A0.out.then_ hb
          have d0 : w2.cell? ⟨w.heap.size, 0, none⟩ = some (.int .i64 13) := a2.cell 0
          have d1 : w2.cell? ⟨w.heap.size, 1, none⟩ = some (.int .i64 m) := a2.cell 1
          have d2 : w2.cell? ⟨w.heap.size, 2, none⟩ = some (.slice (some ⟨b, off, none⟩) 2 cap) := a2.cell 2
          obtain ⟨p1, q1, r1⟩ := PQR.out _ b2
          have A2 := Lib.hid a2
          clear hb a2
          go_wp2_with fail
          refine (HC2.out _ b2).mono ?_; rintro e w3 ⟨rfl, hb⟩
          have b3 := below_then b2 hb
          have a3 := A2.out.then_ hb
          clear d0 d1 d2 p1 q1 r1 b2
          have d0 : w3.cell? ⟨w.heap.size, 0, none⟩ = some (.int .i64 13) := a3.cell 0
          have d1 : w3.cell? ⟨w.heap.size, 1, none⟩ = some (.int .i64 m) := a3.cell 1
          clear hb a3
          go_wp2_with fail
          refine (ref_yesB _ _).mono ?_; rintro e w8 ⟨rfl, rfl⟩
          go_wp2_with fail
          refine (ref_yesB _ _).mono ?_; rintro e w8 ⟨rfl, rfl⟩
          go_wp2_with fail
          refine (ref_Num _ _).mono ?_; rw [hi]; rintro e w9 ⟨rfl, rfl⟩
          go_wp2_with fail
          go_ret2
          exact evalPost_of HF.out (by (repeat' (first | exact bxR _ _ | assumption | refine bxD ?_ | refine bxN ?_ _ | refine bxA ?_ _ | refine bxS ?_ ?_ _ | refine bxT ?_ (by assumption) | refine bxW ?_ (by assumption) | exact Nat.le_refl _ | omega | (simp; done) | (simp; omega))))
end Go.Proofs.YtdmkghgachapaabGreatDoor
