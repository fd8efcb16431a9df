import Derived.Test.YtdmkghgachapaabGreatDoorTree2
import Derived.Deep.CutRange
import Derived.Deep.RegionHeld3
import Derived.Deep.RegionHeldLaw
import Derived.Deep.AppendLies
set_option linter.unusedSimpArgs false
namespace Go.Proofs.YtdmkghgachapaabGreatDoor
set_option linter.unusedVariables false
set_option maxRecDepth 100000
open Go.RowKit
theorem Tryz.infoItem : (Tryz.prog.info? 185).map (fun i => (i.zero, i.size, i.bytes)) = some (some (.agg #[.int .i64 0, .int .i64 0, .slice none 0 0, .int .i64 0]), 4, 48) := by kernel_rfl
theorem nodeB_ref (k n : Int) (len : Nat) : (nodeB k n len = true ∧ ((len : Int) != refOps k) = false ∧ (k = 1 ∧ inB 0 2147483647 n = true ∨ k ≠ 1 ∧ n = 0)) ∨
    (nodeB k n len = false ∧ (((len : Int) != refOps k) = true ∨ (((len : Int) != refOps k) = false ∧ k = 1 ∧ inB 0 2147483647 n = false) ∨ (((len : Int) != refOps k) = false ∧ k ≠ 1 ∧ n ≠ 0))) := by
  unfold nodeB refOps
  by_cases h0 : inB 1 13 k = true
  · rw [if_pos h0, h0, Bool.true_and]
    by_cases h2 : len = opsOf k
    · rw [decide_eq_true h2, Bool.true_and, eq_of_int h2]
      by_cases h1 : k = 1
      · rw [if_pos h1]
        cases h3 : inB 0 2147483647 n
        · exact .inr ⟨rfl, .inr (.inl ⟨rfl, h1, rfl⟩)⟩
        · exact .inl ⟨rfl, rfl, .inl ⟨h1, rfl⟩⟩
      · rw [if_neg h1]
        by_cases h3 : n = 0
        · rw [decide_eq_true h3]; exact .inl ⟨rfl, rfl, .inr ⟨h1, h3⟩⟩
        · rw [decide_eq_false h3]; exact .inr ⟨rfl, .inr (.inr ⟨rfl, h1, h3⟩)⟩
    · rw [decide_eq_false h2, Bool.false_and, ne_of_int h2]
      exact .inr ⟨rfl, .inl rfl⟩
  · have h0' : inB 1 13 k = false := by simpa using h0
    rw [if_neg h0, h0', Bool.false_and]
    refine .inr ⟨rfl, .inl ?_⟩
    simp
set_option maxHeartbeats 8000000 in
theorem ref_ExprError (w : World) (k m : Int) (ks : List Tree) (a : Option Addr) (len cap : Nat) (h : SubAt w w.heap.size (.node k m ks) a len) (hc : len ≤ cap) (hm : cap ≤ 9223372036854775807) :
    Calls Tryz.prog 116 #[.agg #[.int .i64 k, .int .i64 m, .slice a len cap]] w fun e w' => e = .returned (.int .i64 (exprErr (.node k m ks))) ∧ Below w.heap.size w w' := by
  obtain ⟨i0, hi, hz0, hz1, hz2⟩ := info_parts Tryz.infoItem
  have H := Lib.hid h; clear h
  have HO := Lib.hid (exprErr_stack (.node k m ks))
  go_enter Tryz.func116, Tryz.ntmps116
  go_wp2_with fail
  go_loopw [2, 3, 4, 5, 6] (fun _ v n _ _ wr => ∃ (l : List Item) (c : Int), n = .int .i64 (c + 1) ∧ 0 ≤ c ∧ c ≤ 60 ∧ (l.length : Int) ≤ c + 1 ∧ wr.ownsRow (w.heap.size + 1) 185 4 v l.length (l.flatMap encItem) ∧ (∀ x ∈ l, itemOk w x) ∧ exprErr (.node k m ks) = exprStack (itemsOf l) c ∧ Below w.heap.size w wr) (fun _ _ n _ _ _ => 61 - (intOf n).toNat)
  case atStart =>
    refine ⟨[(.node k m ks, a, len, cap, 1)], 0, rfl, by omega, by omega, by simp, ?_, ?_, HO.out, by (repeat' (first | exact bxR _ _ | assumption | refine bxD ?_ | refine bxN ?_ _ | refine bxA ?_ _ | refine bxS ?_ ?_ _ | refine bxT ?_ (by assumption) | refine bxW ?_ (by assumption) | exact Nat.le_refl _ | omega | (simp; done) | (simp; omega)))⟩
    · have : ((w.alloc (.cells #[.int .i64 k, .int .i64 m, .slice a len cap] 111)).alloc (.cells #[.int .i64 k, .int .i64 m, .slice a len cap, .int .i64 1] 185)).ownsRow (w.heap.size + 1) 185 4 (.slice (some ⟨w.heap.size + 1, 0, none⟩) 1 1) 1 [.int .i64 k, .int .i64 m, .slice a len cap, .int .i64 1] :=
        ⟨rfl, .inr ⟨w.heap.size + 1, 1, _, rfl, Nat.le_refl _, by have := At.new1 w (.cells #[.int .i64 k, .int .i64 m, .slice a len cap] 111) (.cells #[.int .i64 k, .int .i64 m, .slice a len cap, .int .i64 1] 185); exact this, by omega, by unfold maxLen; omega, rfl, rfl⟩⟩
      exact this
    · intro x hx
      rw [List.mem_singleton] at hx
      subst hx
      exact ⟨H.out, hc, hm, by simp, by simp⟩
  case round =>
    obtain ⟨l, c, rfl, c0, c1, hll, hown, hok, hst, hb⟩ := hrel
    have HST := Lib.hid hst; have HB := Lib.hid hb; clear hst hb
    rcases List.eq_nil_or_concat l with rfl | ⟨l', x, rfl⟩
    · have HF := Lib.hid (show exprErr (.node k m ks) = 0 by rw [HST.out]; rfl)
      rcases hown.2 with ⟨rfl, _⟩ | ⟨g, cap', cur, rfl, _⟩
      all_goals
        clear hown
        go_wp2_with fail
        go_ret
        exact ⟨ret_int (by rw [HF.out]), HB.out⟩
    · obtain ⟨⟨k', m', ks'⟩, a', n', cc, d⟩ := x
      rw [List.concat_eq_append] at *
      obtain ⟨g, cap', rfl, hg1, hg2, hcap1, hcap2⟩ := own_size hown (by simp) (by omega)
      have hlen : (l' ++ [((Tree.node k' m' ks', a', n', cc, d) : Item)]).length = l'.length + 1 := by simp
      rw [hlen] at hown hcap1 hll ⊢
      have x0 : wr.cell? ⟨g, l'.length * 4, none⟩ = some (.int .i64 k') := own_cell hown _ (items_at l' _ 0 _ rfl)
      have x1 : wr.cell? ⟨g, l'.length * 4 + 1, none⟩ = some (.int .i64 m') := own_cell hown _ (items_at l' _ 1 _ rfl)
      have x2 : wr.cell? ⟨g, l'.length * 4 + 2, none⟩ = some (.slice a' n' cc) := own_cell hown _ (items_at l' _ 2 _ rfl)
      have x3 : wr.cell? ⟨g, l'.length * 4 + 3, none⟩ = some (.int .i64 d) := own_cell hown _ (items_at l' _ 3 _ rfl)
      rw [items_flat] at hown
      have hcut := own_cut hown (m := l'.length) (by omega) (items_len l')
      have hx := hok _ (List.mem_append_right _ (List.mem_singleton_self _))
      have hst := HST.out
      rw [items_snoc] at hst
      have HST2 := Lib.hid hst; have HCUT := Lib.hid hcut; have HOK := Lib.hid hok; have HX := Lib.hid hx
      obtain ⟨_, xc1, xc2, xd1, xd2⟩ := hx
      simp only at xc1 xc2 xd1 xd2
      generalize hln : l'.length = ln at *
      have HLN := Lib.hid hln; have HLL := Lib.hid hll
      clear hst hcut hok hown HST hln
      have hw1 : IntKind.i64.wrap ((ln : Int) + 1) = (ln : Int) + 1 := IntWalk.i64_in _ (by omega)
      by_cases h60 : 60 < c + 1
      · have HF := Lib.hid (show exprErr (.node k m ks) = 2 by rw [HST2.out]; exact exprStack_large (.inl h60))
        go_wp2_with fail
        go_ret
        exact ⟨ret_int (by rw [HF.out]), below_new HB.out _⟩
      by_cases h12 : 12 < d
      · have HF := Lib.hid (show exprErr (.node k m ks) = 2 by rw [HST2.out]; exact exprStack_large (.inr h12))
        have h60' : decide (60 < c + 1) = false := by simpa using h60
        clear h60
        go_wp2_with fail
        go_ret
        exact ⟨ret_int (by rw [HF.out]), below_new HB.out _⟩
      have hnot : ¬ (60 < c + 1 ∨ 12 < d) := by omega
      have h60' : decide (60 < c + 1) = false := by simpa using h60
      have h12' : decide (12 < d) = false := by simpa using h12
      have hd12 : d ≤ 12 := by omega
      have hc59 : c + 1 ≤ 60 := by omega
      have OPS := fun W => ref_operands k' W
      have hkl := HX.out.1.len
      simp only [Tree.kids, Tree.kind, Tree.num] at hkl
      obtain ⟨hkl, hkm, _, _⟩ := hkl
      have HKL := Lib.hid hkl; clear hkl h60 h12
      have hwl : IntKind.i64.wrap (n' : Int) = (n' : Int) := IntWalk.i64_in _ (by omega)
      rcases nodeB_ref k' m' n' with ⟨hnb, hne, hor⟩ | ⟨hnb, hor⟩
      case inr =>
        have HF := Lib.hid (show exprErr (.node k m ks) = 8 by rw [HST2.out]; exact exprStack_form hnot (by rw [HKL.out]; exact hnb))
        clear hnb hnot
        rcases hor with hne | ⟨hne, hk1, hin⟩ | ⟨hne, hk1, hm0⟩
        · go_wp2_with fail
          go_quiet ((go_at_call 141; exact quiet_left (OPS _)))
          go_wp2_with fail
          go_ret
          exact ⟨ret_int (by rw [HF.out]), below_drewN (below_new HB.out _) _⟩
        · have hk' : (k' == 1) = true := by simpa using hk1
          clear hk1
          go_wp2_with fail
          go_quiet ((go_at_call 141; exact quiet_left (OPS _)))
          go_wp2_with fail
          refine (ref_In _ _ _ _).mono ?_; rw [hin]; rintro e w1 ⟨rfl, rfl⟩
          go_wp2_with fail
          go_ret
          exact ⟨ret_int (by rw [HF.out]), below_drewN (below_new HB.out _) _⟩
        · have hk' : (k' == 1) = false := by simpa using hk1
          have hm' : (m' != 0) = true := by simpa using hm0
          clear hk1 hm0
          go_wp2_with fail
          go_quiet ((go_at_call 141; exact quiet_left (OPS _)))
          go_wp2_with fail
          go_ret
          exact ⟨ret_int (by rw [HF.out]), below_drewN (below_new HB.out _) _⟩
      have hn2 : n' ≤ 2 := (nodeB_len hnb).1
      have HN := Lib.hid (show exprErr (.node k m ks) = exprStack (ks'.map (fun t => (t, d + 1)) ++ itemsOf l') (c + 1) by rw [HST2.out]; exact exprStack_next hnot (by rw [HKL.out]; exact hnb))
      clear hnb hnot HST2
      have ab := At.new wr (.cells #[.int .i64 k', .int .i64 m', .slice a' n' cc, .int .i64 d] 185)
      have hb1 := below_new HB.out (.cells #[.int .i64 k', .int .i64 m', .slice a' n' cc, .int .i64 d] 185)
      have own1 := HCUT.out.alloc (.cells #[.int .i64 k', .int .i64 m', .slice a' n' cc, .int .i64 d] 185)
      have AB := Lib.hid ab; have HB1 := Lib.hid hb1; have OWN1 := Lib.hid own1; clear ab hb1 own1
      have XK := HX.out.1
      have XKH := Lib.hid XK; clear XK HX
      rcases hor with ⟨hk1, hin⟩ | ⟨hk1, hm0⟩
      · have hk' : (k' == 1) = true := by simpa using hk1
        clear hk1
        go_wp2_with fail
        go_quiet ((go_at_call 141; exact quiet_left (OPS _)))
        clear x0 x1 x2 x3
        go_wp2_with fail
        refine (ref_In _ _ _ _).mono ?_; rw [hin]; rintro e w1 ⟨rfl, rfl⟩
        clear hin
        go_upto_region 16 with fail
        have ab := AB.out.drewN nq; have hb1 := below_drewN HB1.out nq; have own1 : (World.drewN (wr.alloc (.cells #[.int .i64 k', .int .i64 m', .slice a' n' cc, .int .i64 d] 185)) nq).ownsRow (w.heap.size + 1) 185 4 (.slice (some ⟨g, 0, none⟩) ln cap') ln (l'.flatMap encItem) := OWN1.out
        generalize World.drewN _ nq = W1 at ab hb1 own1 ⊢
        generalize hB5 : wr.heap.size = B5 at *
        clear hB5
        have y0 : W1.cell? ⟨B5, 0, none⟩ = some (.int .i64 k') := ab.cell 0
        have y2 : W1.cell? ⟨B5, 2, none⟩ = some (.slice a' n' cc) := ab.cell 2
        have OWN1 := Lib.hid own1; have AB := Lib.hid ab; have HB1 := Lib.hid hb1; clear ab hb1 own1 OPS
        go_wp2_with fail
        clear y0 y2
        go_loopw [3, 6] (fun v i wi => ∃ (j : Nat) (q : List Item), j ≤ n' ∧ i = .int .i64 ((j : Int) - 1) ∧ wi.ownsRow (w.heap.size + 1) 185 4 v (ln + q.length) ((l' ++ q).flatMap encItem) ∧ v.ownBlock ≠ some B5 ∧ q.reverse.map (fun x => (x.1, x.2.2.2.2)) = (ks'.drop j).map (fun t => (t, d + 1)) ∧ (∀ x ∈ q, itemOk w x) ∧ At wi B5 (.cells #[.int .i64 k', .int .i64 m', .slice a' n' cc, .int .i64 d] 185) ∧ Below w.heap.size w wi) (fun _ i _ => (intOf i + 1).toNat)
        case atStart =>
          refine ⟨n', [], by omega, rfl, ?_, ?_, ?_, by simp, AB.out, HB1.out⟩
          · simpa using OWN1.out
          · simp [Value.ownBlock]; omega
          · rw [List.drop_eq_nil_of_le (by have := HKL.out; omega)]; rfl
        case round =>
          clear OWN1 AB HB1
          obtain ⟨j, q, hj, rfl, hown, hne2, hq, hqk, ab, hb⟩ := hrel
          have HQ := Lib.hid hq; have HQK := Lib.hid hqk; clear hq hqk
          have hql : q.length = n' - j := by
            have := congrArg List.length HQ.out
            simp at this
            have := HKL.out
            omega
          have hbs := hb.size
          by_cases hj0 : j = 0
          · subst hj0
            have OWN := Lib.hid hown; clear hown
            go_wp2_with fail
            go_roundw
            case rel =>
              refine ⟨l' ++ q, c + 1, rfl, by omega, hc59, by have := HLL.out; have := HLN.out; simp; omega, ?_, ?_, ?_, hb⟩
              · have e : (l' ++ q).length = ln + q.length := by rw [List.length_append, HLN.out]
                rw [e]; exact OWN.out
              · intro x hx
                rcases List.mem_append.1 hx with hx | hx
                · exact HOK.out x (List.mem_append_left _ hx)
                · exact HQK.out x hx
              · rw [HN.out]
                congr 1
                unfold itemsOf
                rw [List.reverse_append, List.map_append, HQ.out]; rfl
            case measure => first | (simp [intOf]; done) | (simp [intOf]; omega)
          · obtain ⟨i, rfl⟩ : ∃ i, j = i + 1 := ⟨j - 1, by omega⟩
            obtain ⟨b, off, rfl, hbB, hcs⟩ := XKH.out.kid (by omega)
            obtain ⟨k2, m2, ks2, a2, n2, c2, z0, z1, z2, hxx, q1, q2, hk2⟩ := hcs i (by omega)
            replace z0 := (hb.cell (p := ⟨b, _, none⟩) hbB).trans z0
            replace z1 := (hb.cell (p := ⟨b, _, none⟩) hbB).trans z1
            replace z2 := (hb.cell (p := ⟨b, _, none⟩) hbB).trans z2
            have HXX := Lib.hid hxx; clear hcs hxx
            have y2 : wr.cell? ⟨B5, 2, none⟩ = some (.slice (some ⟨b, off, none⟩) n' cc) := ab.cell 2
            have y3 : wr.cell? ⟨B5, 3, none⟩ = some (.int .i64 d) := ab.cell 3
            have OWN := Lib.hid hown; clear hown
            have hin' : i < n' := by omega
            have e1 : ((i + 1 : Nat) : Int) - 1 = (i : Int) := by omega
            rw [e1]
            go_wp2_with fail
            have habl := ab.lt
            have hws : w.heap.size + 1 ≤ wr.heap.size := by omega
            have td : IntKind.i64.wrap (d + 1) = d + 1 := IntWalk.i64_in _ (by omega)
            have hlb := HLL.out; have hln := HLN.out
            have agx : some B5 ≠ u3.ownBlock := fun e => hne2 e.symm
            have abx := own_apart OWN.out (show b < w.heap.size + 1 by omega)
            have hin2 : (i : Int) < (n' : Int) := by omega
            have ti : (i : Int).toNat = i := by omega
            go_region_held3 (fun w' => w'.cell? ⟨B5, 2, none⟩ = some (.slice (some ⟨b, off, none⟩) n' cc) ∧ w'.cell? ⟨B5, 3, none⟩ = some (.int .i64 d) ∧ w'.cell? ⟨b, off + i * 3, none⟩ = some (.int .i64 k2) ∧ w'.cell? ⟨b, off + i * 3 + 1, none⟩ = some (.int .i64 m2) ∧ w'.cell? ⟨b, off + i * 3 + 2, none⟩ = some (.slice a2 n2 c2))
              (first
                | go_keep
                | (go_split_ands
                   refine ⟨?_, ?_, ?_, ?_, ?_⟩
                   · (rw [hgrow.cell_far _ (by simp; omega) agx]; assumption)
                   · (rw [hgrow.cell_far _ (by simp; omega) agx]; assumption)
                   · (rw [hgrow.cell_far _ (by simp; omega) abx]; assumption)
                   · (rw [hgrow.cell_far _ (by simp; omega) abx]; assumption)
                   · (rw [hgrow.cell_far _ (by simp; omega) abx]; assumption)))
              ((refine step_append_lies _ (by rfl) _ _ _ (by rfl) (w.heap.size + 1) 185 i0 _ 4 48 Tryz.underlying186 hi hz0 hz1 hz2 rfl (by omega) u3 (ln + q.length) ((l' ++ q).flatMap encItem) (by rfl) ((OWN.out.alloc _).drew) ⟨wr.heap.size, 0, none⟩ 1 1 [.int .i64 k2, .int .i64 m2, .slice a2 n2 c2, .int .i64 (d + 1)] (by rfl) (by rfl) (World.news_of_block (cs := #[.int .i64 k2, .int .i64 m2, .slice a2 n2 c2, .int .i64 (d + 1)]) (t := 185) (fr := (0, 0)) (heap_alloc_new wr _)) (by simp [Value.oneCell']) (by omega) (by unfold maxLen; omega) (by omega) (by simp; omega) (wr.heap.size + 1) (by simp) ?_; intro gg cap2 w4 hown' hgrow hat hltg))
            have a1' := (ab.alloc (.cells #[.int .i64 k2, .int .i64 m2, .slice a2 n2 c2, .int .i64 (d + 1)] 185)).drew.ungrown hgrow agx
            have b1' : Below w.heap.size w w4 := (below_new hb (.cells #[.int .i64 k2, .int .i64 m2, .slice a2 n2 c2, .int .i64 (d + 1)] 185)).drew.grown hgrow (by simp; omega) (fun b hb => by
              rcases Nat.lt_or_ge b (w.heap.size + 1) with h | h
              · exact absurd hb.symm (own_apart OWN.out h)
              · omega)
            have OWN' := Lib.hid hown'
            have hgb : gg ≠ B5 := by
              rcases hat with h | h
              · intro e; subst e; exact hne2 h
              · omega
            have hk2' := hk2.len
            simp only [Tree.kids, Tree.kind, Tree.num] at hk2'
            clear hown' hgrow hat ab hb OWN z0 z1 z2 y2 y3
            go_wp2_with fail
            go_roundw
            case rel =>
              refine ⟨i, q ++ [(Tree.node k2 m2 ks2, a2, n2, c2, d + 1)], by omega, by go_num, ?_, ?_, ?_, ?_, a1', b1'⟩
              · rw [← List.append_assoc, items_flat]
                have e : ln + (q ++ [((Tree.node k2 m2 ks2, a2, n2, c2, d + 1) : Item)]).length = ln + q.length + 1 := by first | (simp; done) | (simp; omega)
                rw [e, ← hql]; exact OWN'.out
              · first | (simp [Value.ownBlock]; done) | (simp [Value.ownBlock]; exact hgb)
              · obtain ⟨hil, hie⟩ := List.getElem?_eq_some_iff.1 HXX.out
                rw [List.reverse_append, List.drop_eq_getElem_cons hil, hie, List.map_cons, ← HQ.out]; rfl
              · intro x hx
                rcases List.mem_append.1 hx with hx | hx
                · exact HQK.out x hx
                · rw [List.mem_singleton] at hx
                  subst hx
                  exact ⟨hk2, q1, q2, by first | (simp only; done) | (simp only; omega), by first | (simp only; done) | (simp only; omega)⟩
            case measure => first | (simp [intOf]; done) | (simp [intOf]; omega)
      · have hk' : (k' == 1) = false := by simpa using hk1
        have hm' : (m' != 0) = false := by simpa using hm0
        clear hk1 hm0
        go_wp2_with fail
        go_quiet ((go_at_call 141; exact quiet_left (OPS _)))
        clear x0 x1 x2 x3
        go_upto_region 16 with fail
        have ab := AB.out.drewN nq; have hb1 := below_drewN HB1.out nq; have own1 : (World.drewN (wr.alloc (.cells #[.int .i64 k', .int .i64 m', .slice a' n' cc, .int .i64 d] 185)) nq).ownsRow (w.heap.size + 1) 185 4 (.slice (some ⟨g, 0, none⟩) ln cap') ln (l'.flatMap encItem) := OWN1.out
        generalize World.drewN _ nq = W1 at ab hb1 own1 ⊢
        generalize hB5 : wr.heap.size = B5 at *
        clear hB5
        have y0 : W1.cell? ⟨B5, 0, none⟩ = some (.int .i64 k') := ab.cell 0
        have y2 : W1.cell? ⟨B5, 2, none⟩ = some (.slice a' n' cc) := ab.cell 2
        have OWN1 := Lib.hid own1; have AB := Lib.hid ab; have HB1 := Lib.hid hb1; clear ab hb1 own1 OPS
        go_wp2_with fail
        clear y0 y2
        go_loopw [3, 6] (fun v i wi => ∃ (j : Nat) (q : List Item), j ≤ n' ∧ i = .int .i64 ((j : Int) - 1) ∧ wi.ownsRow (w.heap.size + 1) 185 4 v (ln + q.length) ((l' ++ q).flatMap encItem) ∧ v.ownBlock ≠ some B5 ∧ q.reverse.map (fun x => (x.1, x.2.2.2.2)) = (ks'.drop j).map (fun t => (t, d + 1)) ∧ (∀ x ∈ q, itemOk w x) ∧ At wi B5 (.cells #[.int .i64 k', .int .i64 m', .slice a' n' cc, .int .i64 d] 185) ∧ Below w.heap.size w wi) (fun _ i _ => (intOf i + 1).toNat)
        case atStart =>
          refine ⟨n', [], by omega, rfl, ?_, ?_, ?_, by simp, AB.out, HB1.out⟩
          · simpa using OWN1.out
          · simp [Value.ownBlock]; omega
          · rw [List.drop_eq_nil_of_le (by have := HKL.out; omega)]; rfl
        case round =>
          clear OWN1 AB HB1
          obtain ⟨j, q, hj, rfl, hown, hne2, hq, hqk, ab, hb⟩ := hrel
          have HQ := Lib.hid hq; have HQK := Lib.hid hqk; clear hq hqk
          have hql : q.length = n' - j := by
            have := congrArg List.length HQ.out
            simp at this
            have := HKL.out
            omega
          have hbs := hb.size
          by_cases hj0 : j = 0
          · subst hj0
            have OWN := Lib.hid hown; clear hown
            go_wp2_with fail
            go_roundw
            case rel =>
              refine ⟨l' ++ q, c + 1, rfl, by omega, hc59, by have := HLL.out; have := HLN.out; simp; omega, ?_, ?_, ?_, hb⟩
              · have e : (l' ++ q).length = ln + q.length := by rw [List.length_append, HLN.out]
                rw [e]; exact OWN.out
              · intro x hx
                rcases List.mem_append.1 hx with hx | hx
                · exact HOK.out x (List.mem_append_left _ hx)
                · exact HQK.out x hx
              · rw [HN.out]
                congr 1
                unfold itemsOf
                rw [List.reverse_append, List.map_append, HQ.out]; rfl
            case measure => first | (simp [intOf]; done) | (simp [intOf]; omega)
          · obtain ⟨i, rfl⟩ : ∃ i, j = i + 1 := ⟨j - 1, by omega⟩
            obtain ⟨b, off, rfl, hbB, hcs⟩ := XKH.out.kid (by omega)
            obtain ⟨k2, m2, ks2, a2, n2, c2, z0, z1, z2, hxx, q1, q2, hk2⟩ := hcs i (by omega)
            replace z0 := (hb.cell (p := ⟨b, _, none⟩) hbB).trans z0
            replace z1 := (hb.cell (p := ⟨b, _, none⟩) hbB).trans z1
            replace z2 := (hb.cell (p := ⟨b, _, none⟩) hbB).trans z2
            have HXX := Lib.hid hxx; clear hcs hxx
            have y2 : wr.cell? ⟨B5, 2, none⟩ = some (.slice (some ⟨b, off, none⟩) n' cc) := ab.cell 2
            have y3 : wr.cell? ⟨B5, 3, none⟩ = some (.int .i64 d) := ab.cell 3
            have OWN := Lib.hid hown; clear hown
            have hin' : i < n' := by omega
            have e1 : ((i + 1 : Nat) : Int) - 1 = (i : Int) := by omega
            rw [e1]
            go_wp2_with fail
            have habl := ab.lt
            have hws : w.heap.size + 1 ≤ wr.heap.size := by omega
            have td : IntKind.i64.wrap (d + 1) = d + 1 := IntWalk.i64_in _ (by omega)
            have hlb := HLL.out; have hln := HLN.out
            have agx : some B5 ≠ u3.ownBlock := fun e => hne2 e.symm
            have abx := own_apart OWN.out (show b < w.heap.size + 1 by omega)
            have hin2 : (i : Int) < (n' : Int) := by omega
            have ti : (i : Int).toNat = i := by omega
            go_region_held3 (fun w' => w'.cell? ⟨B5, 2, none⟩ = some (.slice (some ⟨b, off, none⟩) n' cc) ∧ w'.cell? ⟨B5, 3, none⟩ = some (.int .i64 d) ∧ w'.cell? ⟨b, off + i * 3, none⟩ = some (.int .i64 k2) ∧ w'.cell? ⟨b, off + i * 3 + 1, none⟩ = some (.int .i64 m2) ∧ w'.cell? ⟨b, off + i * 3 + 2, none⟩ = some (.slice a2 n2 c2))
              (first
                | go_keep
                | (go_split_ands
                   refine ⟨?_, ?_, ?_, ?_, ?_⟩
                   · (rw [hgrow.cell_far _ (by simp; omega) agx]; assumption)
                   · (rw [hgrow.cell_far _ (by simp; omega) agx]; assumption)
                   · (rw [hgrow.cell_far _ (by simp; omega) abx]; assumption)
                   · (rw [hgrow.cell_far _ (by simp; omega) abx]; assumption)
                   · (rw [hgrow.cell_far _ (by simp; omega) abx]; assumption)))
              ((refine step_append_lies _ (by rfl) _ _ _ (by rfl) (w.heap.size + 1) 185 i0 _ 4 48 Tryz.underlying186 hi hz0 hz1 hz2 rfl (by omega) u3 (ln + q.length) ((l' ++ q).flatMap encItem) (by rfl) ((OWN.out.alloc _).drew) ⟨wr.heap.size, 0, none⟩ 1 1 [.int .i64 k2, .int .i64 m2, .slice a2 n2 c2, .int .i64 (d + 1)] (by rfl) (by rfl) (World.news_of_block (cs := #[.int .i64 k2, .int .i64 m2, .slice a2 n2 c2, .int .i64 (d + 1)]) (t := 185) (fr := (0, 0)) (heap_alloc_new wr _)) (by simp [Value.oneCell']) (by omega) (by unfold maxLen; omega) (by omega) (by simp; omega) (wr.heap.size + 1) (by simp) ?_; intro gg cap2 w4 hown' hgrow hat hltg))
            have a1' := (ab.alloc (.cells #[.int .i64 k2, .int .i64 m2, .slice a2 n2 c2, .int .i64 (d + 1)] 185)).drew.ungrown hgrow agx
            have b1' : Below w.heap.size w w4 := (below_new hb (.cells #[.int .i64 k2, .int .i64 m2, .slice a2 n2 c2, .int .i64 (d + 1)] 185)).drew.grown hgrow (by simp; omega) (fun b hb => by
              rcases Nat.lt_or_ge b (w.heap.size + 1) with h | h
              · exact absurd hb.symm (own_apart OWN.out h)
              · omega)
            have OWN' := Lib.hid hown'
            have hgb : gg ≠ B5 := by
              rcases hat with h | h
              · intro e; subst e; exact hne2 h
              · omega
            have hk2' := hk2.len
            simp only [Tree.kids, Tree.kind, Tree.num] at hk2'
            clear hown' hgrow hat ab hb OWN z0 z1 z2 y2 y3
            go_wp2_with fail
            go_roundw
            case rel =>
              refine ⟨i, q ++ [(Tree.node k2 m2 ks2, a2, n2, c2, d + 1)], by omega, by go_num, ?_, ?_, ?_, ?_, a1', b1'⟩
              · rw [← List.append_assoc, items_flat]
                have e : ln + (q ++ [((Tree.node k2 m2 ks2, a2, n2, c2, d + 1) : Item)]).length = ln + q.length + 1 := by first | (simp; done) | (simp; omega)
                rw [e, ← hql]; exact OWN'.out
              · first | (simp [Value.ownBlock]; done) | (simp [Value.ownBlock]; exact hgb)
              · obtain ⟨hil, hie⟩ := List.getElem?_eq_some_iff.1 HXX.out
                rw [List.reverse_append, List.drop_eq_getElem_cons hil, hie, List.map_cons, ← HQ.out]; rfl
              · intro x hx
                rcases List.mem_append.1 hx with hx | hx
                · exact HQK.out x hx
                · rw [List.mem_singleton] at hx
                  subst hx
                  exact ⟨hk2, q1, q2, by first | (simp only; done) | (simp only; omega), by first | (simp only; done) | (simp only; omega)⟩
            case measure => first | (simp [intOf]; done) | (simp [intOf]; omega)
theorem ref_RuleError (w : World) (s : ByteArray) (f c k m : Int) (ks : List Tree) (a1 a2 : Option Addr) (n1 c1 n2 c2 : Nat) (ms : List Mon) (hs : s.size ≤ 9223372036854775807) (k1 : n1 ≤ c1) (m1 : c1 ≤ 9223372036854775807) (k2 : n2 ≤ c2)
    (h1 : SubAt w w.heap.size (.node k m ks) a1 n1) (h2 : Months w w.heap.size a2 n2 ms) :
    Calls Tryz.prog 95 #[.agg #[.string s, .int .i64 f, .int .i64 c, .int .i64 k, .int .i64 m, .slice a1 n1 c1, .slice a2 n2 c2]] w fun e w' => e = .returned (.int .i64 (ruleErr s f c (.node k m ks) ms)) ∧ Below w.heap.size w w' := by
  have H1 := Lib.hid h1; have H2 := Lib.hid h2; clear h1 h2
  have HO := Lib.hid (show ruleErr s f c (.node k m ks) ms = if headErr s f c ≠ 0 then headErr s f c else if exprErr (.node k m ks) ≠ 0 then exprErr (.node k m ks) else monthsErr ms from rfl)
  rcases Bool.eq_false_or_eq_true (isName s) with hn | hn
  case inr =>
    have hf := Lib.hid (show ruleErr s f c (.node k m ks) ms = 5 by rw [HO.out, headErr, if_pos hn]; rfl)
    go_enter Tryz.func95, Tryz.ntmps95
    go_wp2_with fail
    refine (ref_Name _ _ hs).mono ?_; rw [hn]; rintro e w1 ⟨rfl, rfl⟩
    go_wp2_with fail
    go_ret
    exact ⟨ret_int (by rw [hf.out]), by (repeat' (first | exact bxR _ _ | assumption | refine bxD ?_ | refine bxN ?_ _ | refine bxA ?_ _ | refine bxS ?_ ?_ _ | refine bxT ?_ (by assumption) | refine bxW ?_ (by assumption) | exact Nat.le_refl _ | omega | (simp; done) | (simp; omega)))⟩
  have hn' : ¬ isName s = false := by rw [hn]; simp
  rcases Bool.eq_false_or_eq_true (inB (-4000000) 4000000 f) with hd | hd
  case inr =>
    have hf := Lib.hid (show ruleErr s f c (.node k m ks) ms = 3 by rw [HO.out, headErr, if_neg hn', hd]; rfl)
    clear hn'
    go_enter Tryz.func95, Tryz.ntmps95
    go_wp2_with fail
    refine (ref_Name _ _ hs).mono ?_; rw [hn]; rintro e w1 ⟨rfl, rfl⟩
    go_wp2_with fail
    refine (ref_Day _ _).mono ?_; rw [hd]; rintro e w1 ⟨rfl, rfl⟩
    go_wp2_with fail
    go_ret
    exact ⟨ret_int (by rw [hf.out]), by (repeat' (first | exact bxR _ _ | assumption | refine bxD ?_ | refine bxN ?_ _ | refine bxA ?_ _ | refine bxS ?_ ?_ _ | refine bxT ?_ (by assumption) | refine bxW ?_ (by assumption) | exact Nat.le_refl _ | omega | (simp; done) | (simp; omega)))⟩
  rcases Bool.eq_false_or_eq_true (inB 1 3000 c) with hc | hc
  case inr =>
    have hf := Lib.hid (show ruleErr s f c (.node k m ks) ms = 3 by rw [HO.out, headErr, if_neg hn', hd, hc]; rfl)
    clear hn'
    go_enter Tryz.func95, Tryz.ntmps95
    go_wp2_with fail
    refine (ref_Name _ _ hs).mono ?_; rw [hn]; rintro e w1 ⟨rfl, rfl⟩
    go_wp2_with fail
    refine (ref_Day _ _).mono ?_; rw [hd]; rintro e w1 ⟨rfl, rfl⟩
    go_wp2_with fail
    refine (ref_In _ _ _ _).mono ?_; rw [hc]; rintro e w1 ⟨rfl, rfl⟩
    go_wp2_with fail
    go_ret
    exact ⟨ret_int (by rw [hf.out]), by (repeat' (first | exact bxR _ _ | assumption | refine bxD ?_ | refine bxN ?_ _ | refine bxA ?_ _ | refine bxS ?_ ?_ _ | refine bxT ?_ (by assumption) | refine bxW ?_ (by assumption) | exact Nat.le_refl _ | omega | (simp; done) | (simp; omega)))⟩
  have hf1 := Lib.hid (show ruleErr s f c (.node k m ks) ms = if exprErr (.node k m ks) ≠ 0 then exprErr (.node k m ks) else monthsErr ms by
    rw [HO.out, if_neg]; rw [headErr, if_neg hn', hd, hc]; simp)
  clear hn' HO
  go_enter Tryz.func95, Tryz.ntmps95
  go_wp2_with fail
  have a0 := At.new w (.cells #[.string s, .int .i64 f, .int .i64 c, .int .i64 k, .int .i64 m, .slice a1 n1 c1, .slice a2 n2 c2] 113)
  have b0 : Below w.heap.size w (w.alloc (.cells #[.string s, .int .i64 f, .int .i64 c, .int .i64 k, .int .i64 m, .slice a1 n1 c1, .slice a2 n2 c2] 113)) := by (repeat' (first | exact bxR _ _ | assumption | refine bxD ?_ | refine bxN ?_ _ | refine bxA ?_ _ | refine bxS ?_ ?_ _ | refine bxT ?_ (by assumption) | refine bxW ?_ (by assumption) | exact Nat.le_refl _ | omega | (simp; done) | (simp; omega)))
  generalize World.alloc w _ = W0 at a0 b0 ⊢
  have d0 := a0.cell 0; have d1 := a0.cell 1; have d2 := a0.cell 2; have d3 := a0.cell 3; have d4 := a0.cell 4; have d5 := a0.cell 5; have d6 := a0.cell 6; simp at d0 d1 d2 d3 d4 d5 d6
  refine (ref_Name _ _ hs).mono ?_; rw [hn]; rintro e w1 ⟨rfl, rfl⟩
  go_wp2_with fail
  refine (ref_Day _ _).mono ?_; rw [hd]; rintro e w1 ⟨rfl, rfl⟩
  go_wp2_with fail
  refine (ref_In _ _ _ _).mono ?_; rw [hc]; rintro e w1 ⟨rfl, rfl⟩
  go_wp2_with fail
  refine (ref_ExprError _ k m ks a1 n1 c1 (H1.out.then_ b0) k1 m1).mono ?_
  by_cases q2 : exprErr (.node k m ks) = 0
  case neg =>
    have hfin := Lib.hid (show ruleErr s f c (.node k m ks) ms = exprErr (.node k m ks) by rw [hf1.out, if_pos q2])
    have q2' : (exprErr (.node k m ks) != 0) = true := by simpa using q2
    generalize exprErr (.node k m ks) = E at hfin q2' ⊢
    rintro e w2 ⟨rfl, hb⟩
    clear q2
    go_wp2_with fail
    go_ret
    exact ⟨ret_int (by rw [hfin.out]), below_then b0 hb⟩
  have hf2 := Lib.hid (show ruleErr s f c (.node k m ks) ms = monthsErr ms by rw [hf1.out, if_neg (by omega)])
  rw [q2]
  clear q2 hf1
  rintro e w2 ⟨rfl, hb⟩
  replace a0 := a0.then_ hb
  replace b0 := below_then b0 hb
  clear hb d0 d1 d2 d3 d4 d5 d6
  have d0 := a0.cell 0; have d1 := a0.cell 1; have d2 := a0.cell 2; have d3 := a0.cell 3; have d4 := a0.cell 4; have d5 := a0.cell 5; have d6 := a0.cell 6; simp at d0 d1 d2 d3 d4 d5 d6
  go_wp2_with fail
  refine (ref_MonthsError _ _ _ _ ms ((H2.out.below b0 (Nat.le_refl _)).more b0.size)).mono ?_
  rintro e w3 ⟨rfl, hb⟩
  go_wp2_with fail
  go_ret
  exact ⟨ret_int (by rw [hf2.out]), below_drawn b0 hb⟩
end Go.Proofs.YtdmkghgachapaabGreatDoor
