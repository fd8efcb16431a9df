/- Contracts of endless.all and endless.Take. -/
import Derived.Test.YtdmkghgachapaaaEnd2
namespace Go.Proofs.Ytdmkghgachapaaa
set_option linter.unusedVariables false
set_option linter.unusedSimpArgs false
set_option maxRecDepth 100000
open Go.RowKit Go.Shelf
attribute [local go_sem] Oper.semAt_some

theorem end_all (gf : Nat) (lb : Array Value) (w : World) : Calls Try.prog 10 #[.func (.func gf) #[] lb] w fun e w' => e = .returned (.func (.func gf) #[] lb) ∧ w' = w := by
  have hq : ∀ w : World, (binOp .eql 25 (.func (.func gf) #[] lb) .nilFunc).run Try.prog w = .ok (.bool false) w := fun w => by kernel_rfl
  go_enter Try.func10, Try.ntmps10
  go_wp2
  go_ret
  exact ⟨rfl, rfl⟩
theorem SeqSt.later {α : Type} {n : Nat} {P : Program} {g : Nat} {lb : Array Value} {encs : α → Array Value} {b : Nat} {K : Nat → Prop} {St : List α → World → Prop} {xs : List α} {w w' : World} (h : SeqSt n P g lb encs b K St xs w) (hs : w.heap.size ≤ w'.heap.size) (hk : HoldsK K w w') : SeqSt n P g lb encs b K St xs w' :=
  fun l F J Jx W hsz hK => h l F J Jx W (by omega) (hk.trans hK)
abbrev encI (x : Int) : Array Value := #[Value.int .i64 x]
def TakePost (b : Nat) (St : List Int → World → Prop) (xs : List Int) (n : Int) (w : World) (e : Ending) (w' : World) : Prop :=
  if n < 1 then e = .returned (.slice none 0 0) ∧ Less b w.heap.size w w' ∧ St [] w'
  else ∃ v, e = .returned v ∧ w'.ownsRow w.heap.size 3 1 v (xs.take n.toNat).length ((xs.take n.toNat).map (Value.int .i64)) ∧ Less b w.heap.size w w' ∧ St (xs.take n.toNat) w'
/-- Between two rounds of Take: n elements at most. -/
def TakeI (b : Nat) (w : World) (n : Int) (pre : List Int) (r : Option Nat) (W : World) : Prop :=
  RowO (w.heap.size + 1) (w.heap.size + 2) pre r W ∧ Boxed W w.heap.size 3 (.int .i64 n) ∧ (pre.length : Int) < n ∧ Less b w.heap.size w W
def TakeX (b : Nat) (w : World) (n : Int) (c : Code) (pre : List Int) (r : Option Nat) (W : World) : Prop :=
  c = .exit 0 ∧ RowO (w.heap.size + 1) (w.heap.size + 2) pre r W ∧ (pre.length : Int) = n ∧ Less b w.heap.size w W
theorem TakeI.rests {b : Nat} {w : World} {n : Int} (hb : b < w.heap.size) : RestsOn (w.heap.size + 2) b (TakeI b w n) := by
  rintro s r A C ⟨h1, h2, h3, h4⟩ so hs hk
  refine ⟨RowO.rests (by omega) (by omega) (by omega) s r A C h1 so hs hk, (hk _ h2.lt (by omega) (.inl (by omega))).trans h2, h3, h4.go so hs fun k hk1 hk2 => hk k (by have := h4.size; omega) hk2 (.inl (by omega))⟩
theorem TakeX.rests {b : Nat} {w : World} {n : Int} (hb : b < w.heap.size) (c : Code) : RestsOn (w.heap.size + 2) b (TakeX b w n c) := by
  rintro s r A C ⟨h0, h1, h3, h4⟩ so hs hk
  exact ⟨h0, RowO.rests (by omega) (by omega) (by omega) s r A C h1 so hs hk, h3, h4.go so hs fun k hk1 hk2 => hk k (by have := h4.size; omega) hk2 (.inl (by omega))⟩
set_option maxHeartbeats 4000000 in
theorem end_Take {gf : Nat} {lb : Array Value} {b : Nat} {K : Nat → Prop} {St : List Int → World → Prop} {xs : List Int} (w : World) (n : Int) (hn : n ≤ 100) (hn0 : -9223372036854775808 ≤ n) (eg : ∀ args w, (callFunc gf args).run Try.prog w = .ok (.enter gf args) w)
    (hbw : b < w.heap.size) (hK : ∀ k, K k → k < w.heap.size) (hKb : K b) (hseq : SeqSt 2 Try.prog gf lb encI b K St xs w) (hSt : ∀ s (A C : World), St s A → C.heap[b]? = A.heap[b]? → St s C) (hSt0 : St [] w) :
    Calls Try.prog 4 #[.func (.func gf) #[] lb, .int .i64 n] w (TakePost b St xs n w) := by
  obtain ⟨i0, hi, hz0, hz1, hz2⟩ := info_parts intInfoE
  have HSEQ := Lib.hid hseq; have HST := Lib.hid hSt; have HST0 := Lib.hid hSt0; have HKK := Lib.hid hK
  clear hseq hSt hSt0 hK
  refine (callsIn_wide (n := 3)).1 ?_
  refine callsIn_of_wp_marks Try.func4 rfl trivial ?_ rfl
  simp only [Try.ntmps4, List.size_toArray, List.length_cons, List.length_nil, Nat.reduceAdd, Nat.reduceSub, Array.replicate_succ, Array.replicate_zero, List.push_toArray, List.append_toArray, List.nil_append, List.cons_append]
  have t0 := (At.new w (.cells #[.int .i64 n] 3)).alloc (.cells #[.slice none 0 0] 22)
  have t1 := At.new (w.alloc (.cells #[.int .i64 n] 3)) (.cells #[.slice none 0 0] 22)
  have b1 := below_new (below_new (Below.refl w.heap.size w) (.cells #[.int .i64 n] 3)) (.cells #[.slice none 0 0] 22)
  have s1 : ((w.alloc (.cells #[.int .i64 n] 3)).alloc (.cells #[.slice none 0 0] 22)).heap.size = w.heap.size + 2 := by simp only [World.size_alloc]
  simp only [World.size_alloc] at t1
  by_cases hn1 : n < 1
  · gi_wp2_with fail
    generalize World.alloc (World.alloc w _) _ = W1 at b1 ⊢
    exact ⟨_, results_tmp rfl _ _ _, by unfold TakePost; rw [if_pos hn1]; exact ⟨rfl, Less.of_below b1, HST.out _ _ _ HST0.out (b1.block b hbw)⟩⟩
  gi_wp2_with fail
  refine ⟨trivial, ?_⟩
  gi_at_call 10
  refine (callsIn_wide.2 (end_all _ _ _)).mono ?_
  rintro e W2 ⟨rfl, hw2⟩
  rw [← hw2] at t0 t1 b1 s1
  clear hw2
  have T0 := Lib.hid t0; have T1 := Lib.hid t1; have B1 := Lib.hid b1
  have HN1 := Lib.hid hn1
  clear t0 t1 b1
  gi_wp2_with fail
  refine range_st (n := 3) (gf := gf) (lb := lb) rfl eg (b := b) (K := K) (St := St) (xs := xs) (by omega) (fun k hk => by have := HKK.out k hk; omega) (HSEQ.out.later (by omega) (fun k hk => B1.out.block k (HKK.out k hk))) (fun _ => rfl)
    HST.out (HST.out _ _ _ HST0.out (B1.out.block b hbw)) (fun k => k = w.heap.size + 1) (fun k hk => ⟨by omega, fun h => by have := HKK.out k h; omega⟩) (by omega)
    (TakeI b w n) (TakeX b w n) (by rw [s1]; exact TakeI.rests hbw) (fun c => by rw [s1]; exact TakeX.rests hbw c)
    ⟨⟨_, T1.out, World.ownsRow_nil _ _ _ _, rfl⟩, T0.out, by have := HN1.out; simp; omega, Less.of_below B1.out⟩ _ (by intro l x W G hG; gi_wp2; exact hG) ?body ?done ?stop
  case body =>
    rintro l pre x r W ⟨⟨v, hv, hrow, hr⟩, hnb, hlt, hle⟩ _ _ hsW hrq
    have c0 := hnb.cell
    have c1 := hv.cell
    have hvl := hv.lt; have hnl := hnb.lt
    by_cases hq : (pre.length : Int) + 1 = n
    · gi_wp2_with (gi_at_builtin; refine wpListIn_append_lies _ rfl _ _ 22 rfl (w.heap.size + 2) 3 i0 (.int .i64 0) 1 8 Try.underlying22 hi hz0 hz1 hz2 rfl (by decide) v pre.length (pre.map (Value.int .i64)) rfl (hrow.alloc _) ⟨W.heap.size, 0, none⟩ 1 1 [.int .i64 x] rfl rfl (cell_one_new _ _ _) (by simp [Value.oneCell']) (by decide) (by unfold maxLen; omega) (by omega) (by simp; omega) ?_; intro g cap w1 hown' hgrow hlies; obtain ⟨hv1, hrg, hnr, hof, hso⟩ := RowO.grow hv hrow hr (by omega) (by omega) hown' hgrow hlies; have hc1 := hv1.cell; have hf1 := hv1.frozen; have hl1 := hv1.lt; have hwn := (setU w1 (w.heap.size + 1) (.slice (some ⟨g, 0, none⟩) (pre.length + 1) cap) w.heap.size (by omega)).symm.trans (hof.2 w.heap.size hnl (by show ¬ _ = _; omega) (fun e => by have := hrq _ e; omega)); have hcn := (cell_sameE (p := ⟨w.heap.size, 0, none⟩) hwn).trans c0)
      exact ⟨some g, hnr, hof, rfl, hrg, by simp; omega, hle.go hso hof.1 fun k hk1 hk2 => hof.2 k (by have := hle.size; omega) (by show ¬ k = _; omega) (fun e => by have := hrq _ e; omega)⟩
    · have hq2 : ¬ (pre.length : Int) + 1 = n := hq
      gi_wp2_with (gi_at_builtin; refine wpListIn_append_lies _ rfl _ _ 22 rfl (w.heap.size + 2) 3 i0 (.int .i64 0) 1 8 Try.underlying22 hi hz0 hz1 hz2 rfl (by decide) v pre.length (pre.map (Value.int .i64)) rfl (hrow.alloc _) ⟨W.heap.size, 0, none⟩ 1 1 [.int .i64 x] rfl rfl (cell_one_new _ _ _) (by simp [Value.oneCell']) (by decide) (by unfold maxLen; omega) (by omega) (by simp; omega) ?_; intro g cap w1 hown' hgrow hlies; obtain ⟨hv1, hrg, hnr, hof, hso⟩ := RowO.grow hv hrow hr (by omega) (by omega) hown' hgrow hlies; have hc1 := hv1.cell; have hf1 := hv1.frozen; have hl1 := hv1.lt; have hwn := (setU w1 (w.heap.size + 1) (.slice (some ⟨g, 0, none⟩) (pre.length + 1) cap) w.heap.size (by omega)).symm.trans (hof.2 w.heap.size hnl (by show ¬ _ = _; omega) (fun e => by have := hrq _ e; omega)); have hcn := (cell_sameE (p := ⟨w.heap.size, 0, none⟩) hwn).trans c0)
      exact ⟨some g, hnr, hof, hrg, (hof.2 w.heap.size hnl (by show ¬ _ = _; omega) (fun e => by have := hrq _ e; omega)).trans hnb, by simp; omega, hle.go hso hof.1 fun k hk1 hk2 => hof.2 k (by have := hle.size; omega) (by show ¬ k = _; omega) (fun e => by have := hrq _ e; omega)⟩
  case done =>
    rintro D r W hD hrD ⟨⟨v, hv, hrow, hr⟩, hnb, hlt, hle⟩ hst hK
    have c1 := hv.cell
    gi_wp2
    refine ⟨by simp, .inl ⟨_, _, rfl, run_takeDeferred hK, ?_⟩⟩
    have hne : ∀ k : Nat, k ≠ D → (W.putObj D (.deferred none)).heap[k]? = W.heap[k]? := fun k hk => World.putObj_heap_other hk
    have hDl := (Array.getElem?_eq_some_iff.1 hK).1
    refine ⟨_, results_tmp rfl _ _ _, ?_⟩
    unfold TakePost
    have htk : xs.take n.toNat = xs := List.take_of_length_le (by omega)
    rw [if_neg (by have := HN1.out; omega), htk]
    exact ⟨v, rfl, own_lowE (own_same hrow fun g hg => hne g (fun e => by have := hrD g (hr.symm.trans hg); omega)) (by omega), hle.go ⟨rfl, rfl, rfl⟩ (by simp [World.putObj]) (fun k hk _ => hne k (by omega)), HST.out _ _ _ hst (hne b (by omega))⟩
  case stop =>
    rintro D c pre r W hD hrD ⟨t, hx⟩ ⟨rfl, ⟨v, hv, hrow, hr⟩, hlt, hle⟩ hst hK
    have c1 := hv.cell
    gi_wp2
    refine ⟨by simp, .inl ⟨_, _, rfl, run_takeDeferred hK, ?_⟩⟩
    have hne : ∀ k : Nat, k ≠ D → (W.putObj D (.deferred none)).heap[k]? = W.heap[k]? := fun k hk => World.putObj_heap_other hk
    refine ⟨_, results_tmp rfl _ _ _, ?_⟩
    unfold TakePost
    have htk : xs.take n.toNat = pre := by rw [hx, List.take_append_of_le_length (by omega), List.take_of_length_le (by omega)]
    rw [if_neg (by have := HN1.out; omega), htk]
    exact ⟨v, rfl, own_lowE (own_same hrow fun g hg => hne g (fun e => by have := hrD g (hr.symm.trans hg); omega)) (by omega), hle.go ⟨rfl, rfl, rfl⟩ (by simp [World.putObj]) (fun k hk _ => hne k (by omega)), HST.out _ _ _ hst (hne b (by omega))⟩
end Go.Proofs.Ytdmkghgachapaaa
