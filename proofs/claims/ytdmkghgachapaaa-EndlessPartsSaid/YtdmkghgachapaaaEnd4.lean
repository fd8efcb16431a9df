/- Contract of endless.Until. -/
import Derived.Test.YtdmkghgachapaaaEnd3
namespace Go.Proofs.Ytdmkghgachapaaa
set_option linter.unusedVariables false
set_option linter.unusedSimpArgs false
set_option maxRecDepth 100000
open Go.RowKit Go.Shelf
attribute [local go_sem] Oper.semAt_some

/-- The elements ahead of the first one that is greater. -/
def tw (day : Int) (xs : List Int) : List Int := xs.takeWhile fun y => decide (y ≤ day)
theorem tw_all {day : Int} {xs : List Int} (h : ∀ y ∈ xs, y ≤ day) : tw day xs = xs := by
  unfold tw
  induction xs with
  | nil => rfl
  | cons a r ih => rw [List.takeWhile_cons_of_pos (by simpa using h a (by simp)), ih fun y hy => h y (by simp [hy])]
theorem tw_cut {day x : Int} {pre t : List Int} (h : ∀ y ∈ pre, y ≤ day) (hx : day < x) : tw day (pre ++ [x] ++ t) = pre := by
  unfold tw
  induction pre with
  | nil => exact List.takeWhile_cons_of_neg (by simpa using hx)
  | cons a r ih => rw [List.cons_append, List.cons_append, List.takeWhile_cons_of_pos (by simpa using h a (by simp)), ih fun y hy => h y (by simp [hy])]
def UntilPost (b : Nat) (St : List Int → World → Prop) (xs : List Int) (day : Int) (w : World) (e : Ending) (w' : World) : Prop :=
  ∃ v, e = .returned v ∧ w'.ownsRow w.heap.size 3 1 v (tw day xs).length ((tw day xs).map (Value.int .i64)) ∧ Less b w.heap.size w w' ∧ ∃ pre, St pre w' ∧ pre.length ≤ (tw day xs).length + 1
def UntilI (b : Nat) (w : World) (day : Int) (pre : List Int) (r : Option Nat) (W : World) : Prop :=
  RowO (w.heap.size + 1) (w.heap.size + 2) pre r W ∧ Boxed W w.heap.size 3 (.int .i64 day) ∧ (∀ y ∈ pre, y ≤ day) ∧ Less b w.heap.size w W
def UntilX (b : Nat) (w : World) (day : Int) (c : Code) (ys : List Int) (r : Option Nat) (W : World) : Prop :=
  c = .exit 0 ∧ ∃ pre x, ys = pre ++ [x] ∧ RowO (w.heap.size + 1) (w.heap.size + 2) pre r W ∧ (∀ y ∈ pre, y ≤ day) ∧ day < x ∧ Less b w.heap.size w W
theorem UntilI.rests {b : Nat} {w : World} {day : Int} (hb : b < w.heap.size) : RestsOn (w.heap.size + 2) b (UntilI b w day) := by
  rintro s r A C ⟨h1, h2, h3, h4⟩ so hs hk
  refine ⟨RowO.rests (by omega) (by omega) (by omega) s r A C h1 so hs hk, (hk _ h2.lt (by omega) (.inl (by omega))).trans h2, h3, h4.go so hs fun k hk1 hk2 => hk k (by have := h4.size; omega) hk2 (.inl (by omega))⟩
theorem UntilX.rests {b : Nat} {w : World} {day : Int} (hb : b < w.heap.size) (c : Code) : RestsOn (w.heap.size + 2) b (UntilX b w day c) := by
  rintro s r A C ⟨h0, pre, x, hy, h1, h2, h3, h4⟩ so hs hk
  exact ⟨h0, pre, x, hy, RowO.rests (by omega) (by omega) (by omega) _ r A C h1 so hs hk, h2, h3, h4.go so hs fun k hk1 hk2 => hk k (by have := h4.size; omega) hk2 (.inl (by omega))⟩
set_option maxHeartbeats 4000000 in
theorem end_Until {gf : Nat} {lb : Array Value} {b : Nat} {K : Nat → Prop} {St : List Int → World → Prop} {xs : List Int} (w : World) (day : Int) (hln : xs.length ≤ 100) (eg : ∀ args w, (callFunc gf args).run Try.prog w = .ok (.enter gf args) w)
    (hbw : b < w.heap.size) (hK : ∀ k, K k → k < w.heap.size) (hKb : K b) (hseq : SeqSt 2 Try.prog gf lb encI b K St xs w) (hSt : ∀ s (A C : World), St s A → C.heap[b]? = A.heap[b]? → St s C) (hSt0 : St [] w) :
    Calls Try.prog 8 #[.func (.func gf) #[] lb, .int .i64 day] w (UntilPost b St xs day w) := by
  obtain ⟨i0, hi, hz0, hz1, hz2⟩ := info_parts intInfoE
  have HSEQ := Lib.hid hseq; have HST := Lib.hid hSt; have HST0 := Lib.hid hSt0; have HKK := Lib.hid hK
  clear hseq hSt hSt0 hK
  refine (callsIn_wide (n := 3)).1 ?_
  refine callsIn_of_wp_marks Try.func8 rfl trivial ?_ rfl
  simp only [Try.ntmps8, List.size_toArray, List.length_cons, List.length_nil, Nat.reduceAdd, Nat.reduceSub, Array.replicate_succ, Array.replicate_zero, List.push_toArray, List.append_toArray, List.nil_append, List.cons_append]
  have t0 := (At.new w (.cells #[.int .i64 day] 3)).alloc (.cells #[.slice none 0 0] 22)
  have t1 := At.new (w.alloc (.cells #[.int .i64 day] 3)) (.cells #[.slice none 0 0] 22)
  have b1 := below_new (below_new (Below.refl w.heap.size w) (.cells #[.int .i64 day] 3)) (.cells #[.slice none 0 0] 22)
  have s1 : ((w.alloc (.cells #[.int .i64 day] 3)).alloc (.cells #[.slice none 0 0] 22)).heap.size = w.heap.size + 2 := by simp only [World.size_alloc]
  simp only [World.size_alloc] at t1
  gi_wp2_with fail
  refine ⟨trivial, ?_⟩
  gi_at_call 10
  refine (callsIn_wide.2 (end_all _ _ _)).mono ?_
  rintro e W2 ⟨rfl, hw2⟩
  rw [← hw2] at t0 t1 b1 s1
  clear hw2
  have T0 := Lib.hid t0; have T1 := Lib.hid t1; have B1 := Lib.hid b1
  clear t0 t1 b1
  gi_wp2_with fail
  refine range_st (n := 3) (gf := gf) (lb := lb) rfl eg (b := b) (K := K) (St := St) (xs := xs) (by omega) (fun k hk => by have := HKK.out k hk; omega) (HSEQ.out.later (by omega) (fun k hk => B1.out.block k (HKK.out k hk))) (fun _ => rfl)
    HST.out (HST.out _ _ _ HST0.out (B1.out.block b hbw)) (fun k => k = w.heap.size + 1) (fun k hk => ⟨by omega, fun h => by have := HKK.out k h; omega⟩) (by omega)
    (UntilI b w day) (UntilX b w day) (by rw [s1]; exact UntilI.rests hbw) (fun c => by rw [s1]; exact UntilX.rests hbw c)
    ⟨⟨_, T1.out, World.ownsRow_nil _ _ _ _, rfl⟩, T0.out, by simp, Less.of_below B1.out⟩ _ (by intro l x W G hG; gi_wp2; exact hG) ?body ?done ?stop
  case body =>
    rintro l pre x r W ⟨⟨v, hv, hrow, hr⟩, hnb, hall, hle⟩ _ ⟨tl, hxs⟩ hsW hrq
    have hpl : pre.length < 100 := by have := congrArg List.length hxs; simp at this; omega
    have c0 := hnb.cell
    have c1 := hv.cell
    have hvl := hv.lt; have hnl := hnb.lt
    clear hxs
    by_cases hq : day < x
    · gi_wp2_with fail
      exact ⟨r, .inl rfl, OnlyF.refl _ _ _, rfl, pre, x, rfl, ⟨v, hv, hrow, hr⟩, hall, hq, hle⟩
    · gi_wp2_with (gi_at_builtin; refine wpListIn_append_lies _ rfl _ _ 22 rfl (w.heap.size + 2) 3 i0 (.int .i64 0) 1 8 Try.underlying22 hi hz0 hz1 hz2 rfl (by decide) v pre.length (pre.map (Value.int .i64)) rfl (hrow.alloc _) ⟨W.heap.size, 0, none⟩ 1 1 [.int .i64 x] rfl rfl (cell_one_new _ _ _) (by simp [Value.oneCell']) (by decide) (by unfold maxLen; omega) (by omega) (by simp; omega) ?_; intro g cap w1 hown' hgrow hlies; obtain ⟨hv1, hrg, hnr, hof, hso⟩ := RowO.grow hv hrow hr (by omega) (by omega) hown' hgrow hlies; have hc1 := hv1.cell; have hf1 := hv1.frozen; have hl1 := hv1.lt; have hwn := (setU w1 (w.heap.size + 1) (.slice (some ⟨g, 0, none⟩) (pre.length + 1) cap) w.heap.size (by omega)).symm.trans (hof.2 w.heap.size hnl (by show ¬ _ = _; omega) (fun e => by have := hrq _ e; omega)); have hcn := (cell_sameE (p := ⟨w.heap.size, 0, none⟩) hwn).trans c0)
      exact ⟨some g, hnr, hof, hrg, (hof.2 w.heap.size hnl (by show ¬ _ = _; omega) (fun e => by have := hrq _ e; omega)).trans hnb, fun y hy => by
        rcases List.mem_append.1 hy with hy | hy
        · exact hall y hy
        · simp at hy; subst hy; omega, hle.go hso hof.1 fun k hk1 hk2 => hof.2 k (by have := hle.size; omega) (by show ¬ k = _; omega) (fun e => by have := hrq _ e; omega)⟩
  case done =>
    rintro D r W hD hrD ⟨⟨v, hv, hrow, hr⟩, hnb, hall, hle⟩ hst hK
    have c1 := hv.cell
    gi_wp2
    refine ⟨by simp, .inl ⟨_, _, rfl, run_takeDeferred hK, ?_⟩⟩
    have hne : ∀ k : Nat, k ≠ D → (W.putObj D (.deferred none)).heap[k]? = W.heap[k]? := fun k hk => World.putObj_heap_other hk
    refine ⟨_, results_tmp rfl _ _ _, v, rfl, ?_⟩
    rw [tw_all hall]
    exact ⟨own_lowE (own_same hrow fun g hg => hne g (fun e => by have := hrD g (hr.symm.trans hg); omega)) (by omega), hle.go ⟨rfl, rfl, rfl⟩ (by simp [World.putObj]) (fun k hk _ => hne k (by omega)), xs, HST.out _ _ _ hst (hne b (by omega)), by omega⟩
  case stop =>
    rintro D c ys r W hD hrD ⟨t, hx⟩ ⟨rfl, pre, x, rfl, ⟨v, hv, hrow, hr⟩, hall, hdx, hle⟩ hst hK
    have c1 := hv.cell
    gi_wp2
    refine ⟨by simp, .inl ⟨_, _, rfl, run_takeDeferred hK, ?_⟩⟩
    have hne : ∀ k : Nat, k ≠ D → (W.putObj D (.deferred none)).heap[k]? = W.heap[k]? := fun k hk => World.putObj_heap_other hk
    refine ⟨_, results_tmp rfl _ _ _, v, rfl, ?_⟩
    rw [hx, tw_cut hall hdx]
    exact ⟨own_lowE (own_same hrow fun g hg => hne g (fun e => by have := hrD g (hr.symm.trans hg); omega)) (by omega), hle.go ⟨rfl, rfl, rfl⟩ (by simp [World.putObj]) (fun k hk _ => hne k (by omega)), pre ++ [x], HST.out _ _ _ hst (hne b (by omega)), by simp⟩
end Go.Proofs.Ytdmkghgachapaaa
