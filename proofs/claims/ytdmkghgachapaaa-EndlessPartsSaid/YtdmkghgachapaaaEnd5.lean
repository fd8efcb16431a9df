/- endless.Every: its iterator over an iterator that tells how far it has gone. -/
import Derived.Test.YtdmkghgachapaaaEnd4
namespace Go.Proofs.Ytdmkghgachapaaa
set_option linter.unusedVariables false
set_option linter.unusedSimpArgs false
set_option maxRecDepth 100000
open Go.RowKit Go.Shelf
attribute [local go_sem] Oper.semAt_some

/-- The first element and each n-th one, w elements having passed since the last one. -/
def evW (n : Nat) : Nat → List Int → List Int
  | _, [] => []
  | w, x :: r => (if w = 0 then [x] else []) ++ evW n (if w + 1 = n then 0 else w + 1) r
def wtN (n : Nat) : Nat → List Int → Nat
  | w, [] => w
  | w, _ :: r => wtN n (if w + 1 = n then 0 else w + 1) r
theorem evW_app (n : Nat) : ∀ (w : Nat) (a b : List Int), evW n w (a ++ b) = evW n w a ++ evW n (wtN n w a) b
  | w, [], b => by simp [evW, wtN]
  | w, x :: r, b => by rw [List.cons_append, evW, evW_app, evW, wtN, List.append_assoc]
theorem wtN_app (n : Nat) : ∀ (w : Nat) (a b : List Int), wtN n w (a ++ b) = wtN n (wtN n w a) b
  | w, [], b => by simp [wtN]
  | w, x :: r, b => by rw [List.cons_append, wtN, wtN_app, wtN]
theorem wtN_lt (n : Nat) (hn : 0 < n) : ∀ (w : Nat) (a : List Int), w < n → wtN n w a < n
  | w, [], h => by simpa [wtN] using h
  | w, x :: r, h => by
    rw [wtN]
    refine wtN_lt n hn _ r ?_
    split <;> omega
def evL (n : Int) (xs : List Int) : List Int := if n < 1 then [] else evW n.toNat 0 xs
theorem RoundIn.anyW {n m : Nat} {P : Program} {l l' : Nat} {f : FuncId} {tmps : Array Value} {assign body : Code} {w : World} {R : Ending → World → Prop} (h : RoundIn Fence.wide n P l f tmps assign body w R) : RoundIn (Fence.wide.inRound l') m P l f tmps assign body w R :=
  ⟨trivial, fun c cs _ => h.2 c cs (room_wide _)⟩
def everyF (B : Nat) : Value := .func (.func 14) #[] #[.pointer (some ⟨B + 1, 0, none⟩), .pointer (some ⟨B, 0, none⟩)]
theorem end_Every (gf : Nat) (lb : Array Value) (n : Int) (w : World) : Calls Try.prog 9 #[.func (.func gf) #[] lb, .int .i64 n] w fun e w' => e = .returned (everyF w.heap.size) ∧ w' = (w.alloc (.cells #[.func (.func gf) #[] lb] 25)).alloc (.cells #[.int .i64 n] 3) := by
  go_enter Try.func9, Try.ntmps9
  go_wp2
  go_ret
  exact ⟨rfl, rfl⟩
/-- Between two rounds of Every's range: Y the box of the consumer, Y + 1 the count of elements since the last one. -/
def EvI (b Y l M : Nat) (n : Int) (J : List Int → Option Nat → World → Prop) (pre : List Int) (r : Option Nat) (W : World) : Prop :=
  J (evW n.toNat 0 pre) r W ∧ Boxed W Y 33 (.func (.yield l) #[] #[]) ∧ Boxed W (Y + 1) 3 (.int .i64 (wtN n.toNat 0 pre)) ∧ Boxed W M 3 (.int .i64 n)
def EvX (n : Int) (Jx : List Int → Option Nat → World → Prop) (c : Code) (pre : List Int) (r : Option Nat) (W : World) : Prop := c = .ret ∧ Jx (evW n.toNat 0 pre) r W
theorem EvI.rests {b Y l B M : Nat} {n : Int} {J : List Int → Option Nat → World → Prop} (hJ : RestsOn B b J) (hB : B ≤ Y) (hb : b < B) (hM : M < B) (hMb : M ≠ b) : RestsOn (Y + 2) b (EvI b Y l M n J) := by
  rintro s r A C ⟨h1, h2, h3, h4⟩ so hs hk
  exact ⟨hJ _ r A C h1 so hs fun k hk1 hk2 hor => hk k hk1 hk2 (hor.imp (by omega) id), (hk _ h2.lt (by omega) (.inl (by omega))).trans h2, (hk _ h3.lt (by omega) (.inl (by omega))).trans h3, (hk _ h4.lt hMb (.inl (by omega))).trans h4⟩
theorem EvX.rests {b Y B : Nat} {n : Int} {Jx : List Int → Option Nat → World → Prop} (hJ : RestsOn B b Jx) (hB : B ≤ Y) (c : Code) : RestsOn (Y + 2) b (EvX n Jx c) := by
  rintro s r A C ⟨h0, h1⟩ so hs hk
  exact ⟨h0, hJ _ r A C h1 so hs fun k hk1 hk2 hor => hk k hk1 hk2 (hor.imp (by omega) id)⟩
def KEv (K : Nat → Prop) (B : Nat) (k : Nat) : Prop := K k ∨ k = B ∨ k = B + 1
def StEv (St : List Int → World → Prop) (_ : List Int) (W : World) : Prop := ∃ pre, St pre W
set_option maxHeartbeats 4000000 in
theorem every_iter {gf : Nat} {lb : Array Value} {b : Nat} {K : Nat → Prop} {St : List Int → World → Prop} {xs : List Int} (N B : Nat) (n : Int) (hn : n ≤ 100) (w : World) (eg : ∀ args w, (callFunc gf args).run Try.prog w = .ok (.enter gf args) w)
    (hbw : b < w.heap.size) (hK : ∀ k, K k → k < w.heap.size) (hKb : K b) (hseq : ∀ m, SeqSt m Try.prog gf lb encI b K St xs w) (hSt : ∀ s (A C : World), St s A → C.heap[b]? = A.heap[b]? → St s C) (hSt0 : St [] w)
    (b0 : Boxed w B 25 (.func (.func gf) #[] lb)) (b1 : Boxed w (B + 1) 3 (.int .i64 n)) (hMb : B + 1 ≠ b) :
    SeqSt N Try.prog 14 #[.pointer (some ⟨B + 1, 0, none⟩), .pointer (some ⟨B, 0, none⟩)] encI b (KEv K B) (StEv St) (evL n xs) w := by
  intro l F J Jx W hsz hKW hst hF hJ hJx hY h0
  have HY := Lib.hid hY; have HJ := Lib.hid hJ; have HJX := Lib.hid hJx; have HF := Lib.hid hF; have HST := Lib.hid hSt; have HSEQ := Lib.hid hseq; have HKK := Lib.hid hK
  have HKin := Lib.hid (show HoldsK K w W from fun k hk => hKW k (.inl hk))
  have HSW := Lib.hid (show St [] W from hSt _ _ _ hSt0 (hKW b (.inl hKb)))
  have a0 : Boxed W B 25 (.func (.func gf) #[] lb) := (hKW B (.inr (.inl rfl))).trans b0
  have a1 : Boxed W (B + 1) 3 (.int .i64 n) := (hKW (B + 1) (.inr (.inr rfl))).trans b1
  clear hY hJ hJx hF hSt hseq hK hKW hSt0 b0 b1
  have hBl := a0.lt; have hB1l := a1.lt
  have y0 := a0.cell; have y1 := a1.cell
  refine callsIn_of_wp_marks Try.func14 rfl trivial ?_ rfl
  simp only [Try.ntmps14, List.size_toArray, List.length_cons, List.length_nil, Nat.reduceAdd, Nat.reduceSub, Array.replicate_succ, Array.replicate_zero, List.push_toArray, List.append_toArray, List.nil_append, List.cons_append]
  have s1 : ((W.alloc (.cells #[.func (.yield l) #[] #[]] 33)).alloc (.cells #[.int .i64 0] 3)).heap.size = W.heap.size + 2 := by simp only [World.size_alloc]
  have p0 := (Boxed.new W 33 (.func (.yield l) #[] #[])).alloc (.cells #[.int .i64 0] 3)
  have p1 := Boxed.new (W.alloc (.cells #[.func (.yield l) #[] #[]] 33)) 3 (.int .i64 0)
  simp only [World.size_alloc] at p1
  by_cases hn1 : n < 1
  · have hev : evL n xs = [] := by unfold evL; rw [if_pos hn1]
    have bb := below_new (Below.refl W.heap.size W) (.cells #[.func (.yield l) #[] #[]] 33)
    gi_wp2_with fail
    generalize World.alloc W _ = W1 at bb ⊢
    refine ⟨_, results_none rfl _ _ _, ⟨_, rfl⟩, none, by simp, .inl ⟨?_, ?_⟩⟩
    · rw [hev]; exact HJ.out _ _ _ _ h0 (SameO.of_below bb) bb.size fun k hk _ hor => bb.block k hk
    · exact ⟨[], HST.out _ _ _ HSW.out (bb.block b (by omega))⟩
  have hev : evL n xs = evW n.toNat 0 xs := by unfold evL; rw [if_neg hn1]
  have HEV := Lib.hid hev
  have bb := below_new (below_new (Below.refl W.heap.size W) (.cells #[.func (.yield l) #[] #[]] 33)) (.cells #[.int .i64 0] 3)
  gi_wp2_with fail
  refine ⟨trivial, fun h => absurd h (by simp [Fence.wide]), ?_⟩
  gi_at_call 10
  refine (callsIn_wide.2 (end_all _ _ _)).mono ?_
  rintro e W2 ⟨rfl, hw2⟩
  rw [← hw2] at s1 p0 p1 bb
  clear hw2 hev
  have HN1 := Lib.hid hn1
  have T0 := Lib.hid p0; have T1 := Lib.hid p1; have BB := Lib.hid bb
  have A1 := Lib.hid a1
  have hbW : b < W.heap.size := by omega
  clear p0 p1 bb y0 y1 a0 a1
  gi_wp2_with fail
  refine range_st (n := N) (gf := gf) (lb := lb) rfl eg (b := b) (K := K) (St := St) (xs := xs) (by omega) (fun k hk => by have := HKK.out k hk; omega) ((HSEQ.out (N - 1)).later (by omega) (fun k hk => (BB.out.block k (by have := HKK.out k hk; omega)).trans (HKin.out k hk))) (fun _ => rfl)
    HST.out (HST.out _ _ _ HSW.out (BB.out.block b hbW)) (fun k => F k ∨ k = W.heap.size + 1) (fun k hk => by
      rcases hk with hk | rfl
      · have := HF.out k hk; exact ⟨by omega, fun h => this.2 (.inl h)⟩
      · exact ⟨by omega, fun h => by have := HKK.out _ h; omega⟩) (fun h => by
      rcases h with h | h
      · exact (HF.out b h).2 (.inl hKb)
      · omega)
    (EvI b W.heap.size l (B + 1) n J) (EvX n Jx) (by rw [s1]; exact EvI.rests HJ.out (Nat.le_refl _) hbW hB1l hMb) (fun c => by rw [s1]; exact EvX.rests HJX.out (Nat.le_refl _) c)
    ⟨HJ.out _ _ _ _ h0 (SameO.of_below BB.out) BB.out.size fun k hk _ hor => BB.out.block k hk, T0.out, T1.out, (BB.out.block _ hB1l).trans A1.out⟩ _ (by intro l x W G hG; gi_wp2; exact hG) ?body ?done ?stop
  case body =>
    rintro l' pre x r W1 ⟨hj, hy, hw, hm⟩ hst1 ⟨t, hxs⟩ hsW1 hrq
    obtain ⟨wt, hwt⟩ : ∃ k, k = wtN n.toNat 0 pre := ⟨_, rfl⟩
    rw [← hwt] at hw
    have hwl : wt < n.toNat := by rw [hwt]; exact wtN_lt n.toNat (by have := HN1.out; omega) 0 pre (by have := HN1.out; omega)
    have hrW : ∀ q, r = some q → W.heap.size + 2 ≤ q := fun q hq => by have := hrq q hq; omega
    have hwn : wtN n.toNat 0 (pre ++ [x]) = if wt + 1 = n.toNat then 0 else wt + 1 := by rw [wtN_app, ← hwt, wtN, wtN]
    have hen : evW n.toNat 0 (pre ++ [x]) = evW n.toNat 0 pre ++ (if wt = 0 then [x] else []) := by rw [evW_app, ← hwt, evW, evW, List.append_nil]
    have FIN := Lib.hid (show ∀ (W3 W4 : World) (r3 : Option Nat), NewR W1 r r3 → OnlyF F r W1 W3 → J (evW n.toNat 0 (pre ++ [x])) r3 W3 → SameO W3 W4 → W3.heap.size ≤ W4.heap.size → (∀ k : Nat, k ≠ W.heap.size + 1 → W4.heap[k]? = W3.heap[k]?) → Boxed W4 (W.heap.size + 1) 3 (.int .i64 ((if wt + 1 = n.toNat then 0 else wt + 1 : Nat) : Int)) →
        ∃ r', NewR W1 r r' ∧ OnlyF (fun k => F k ∨ k = W.heap.size + 1) r W1 W4 ∧ EvI b W.heap.size l (B + 1) n J (pre ++ [x]) r' W4 from fun W3 W4 r3 hn3 ho3 hJ3 so hs hk hb4 => by
      have hnf : ∀ k : Nat, F k → k < W.heap.size := fun k h => (HF.out k h).1
      have hr3 : r3 ≠ some (W.heap.size + 1) := fun e => by
        rcases hn3 with rfl | ⟨q, rfl, hq⟩
        · have := hrW _ e; omega
        · injection e with e; omega
      refine ⟨r3, hn3, ⟨by have := ho3.1; omega, fun k hk1 hk2 hk3 => (hk k (fun e => hk2 (.inr e))).trans (ho3.2 k hk1 (fun h => hk2 (.inl h)) hk3)⟩, HJ.out _ _ _ _ hJ3 so hs (fun k _ _ hor => hk k (by rcases hor with h | h; omega; intro e; subst e; exact hr3 h)), ?_, by rw [hwn]; exact hb4, ?_⟩
      · exact (hk _ (by omega)).trans ((ho3.2 _ hy.lt (fun h => by have := hnf _ h; omega) (fun e => by have := hrW _ e; omega)).trans hy)
      · exact (hk _ (by omega)).trans ((ho3.2 _ hm.lt (fun h => (HF.out _ h).2 (.inr (.inr rfl))) (fun e => by have := hrW _ e; omega)).trans hm))
    have cw := hw.cell; have fw := hw.frozen; have lw := hw.lt
    have cy := hy.cell
    have cm := hm.cell; have lm := hm.lt
    have hn100 : wt < 100 := by omega
    by_cases hz : wt = 0
    · subst hz
      rw [if_pos rfl] at hen
      obtain ⟨fn, tmps, assign, body, hyy, hR⟩ := HY.out (evW n.toNat 0 pre) x r W1 hj ⟨pre ++ [x], hst1⟩ ⟨evW n.toNat (if 0 + 1 = n.toNat then 0 else 0 + 1) t, by rw [HEV.out, hxs, evW_app, ← hwt, evW]; simp⟩ (by omega) (fun q hq => by have := hrW q hq; omega)
      have HR := Lib.hid hR
      have HW := Lib.hid hw; have HM := Lib.hid hm; have HEN := Lib.hid hen
      clear hR hen hwn hst1 hxs hj hw hm hwt
      gi_wp2
      refine ⟨fun h => absurd h (by simp [Fence.wide]), (RoundIn.anyW HR.out).mono ?_⟩
      rintro e W3 ⟨r3, hn3, ho3, (⟨rfl, hJ3⟩ | ⟨rfl, hJx3⟩)⟩
      · have w3 : Boxed W3 (W.heap.size + 1) 3 (.int .i64 ((0 : Nat) : Int)) := (ho3.2 _ lw (fun h => by have := (HF.out _ h).1; omega) (fun e => by have := hrW _ e; omega)).trans HW.out
        have m3 : Boxed W3 (B + 1) 3 (.int .i64 n) := (ho3.2 _ lm (fun h => (HF.out _ h).2 (.inr (.inr rfl))) (fun e => by have := hrW _ e; omega)).trans HM.out
        rw [← HEN.out] at hJ3
        have d0 := w3.cell; have d1 := w3.frozen; have d2 := w3.lt; have d3 := m3.cell; have d4 := m3.lt
        by_cases hc : (1 : Int) = n
        · have HIF := Lib.hid (show (if 0 + 1 = n.toNat then 0 else 0 + 1) = 0 by rw [if_pos (by omega)])
          gi_wp2
          exact FIN.out W3 _ r3 hn3 ho3 hJ3 ⟨rfl, rfl, rfl⟩ (by simp [World.setCell]) (fun k hk => by first | exact (setU _ _ _ k hk).trans (setU _ _ _ k hk) | exact setU _ _ _ k hk) (by rw [HIF.out]; first | exact (w3.set _).set _ | exact w3.set _)
        · have HIF := Lib.hid (show (if 0 + 1 = n.toNat then 0 else 0 + 1) = 1 by rw [if_neg (by omega)])
          gi_wp2
          exact FIN.out W3 _ r3 hn3 ho3 hJ3 ⟨rfl, rfl, rfl⟩ (by simp [World.setCell]) (fun k hk => setU _ _ _ k hk) (by rw [HIF.out]; exact w3.set _)
      · gi_wp2
        exact ⟨r3, hn3, ⟨ho3.1, fun k h1 h2 h3 => ho3.2 k h1 (fun h => h2 (.inl h)) h3⟩, rfl, by rw [HEN.out]; exact hJx3⟩
    · rw [if_neg hz, List.append_nil] at hen
      have HEN := Lib.hid hen
      have hj' := hj
      rw [← hen] at hj'
      have HJ1 := Lib.hid hj'
      have HW := Lib.hid hw; have HM := Lib.hid hm
      have hz' : ((wt : Int) == 0) = false := by rw [beq_eq_false_iff_ne]; omega
      clear hen hj' hwn hst1 hxs hj hw hm hwt
      by_cases hc : (wt : Int) + 1 = n
      · have HIF := Lib.hid (show (if wt + 1 = n.toNat then 0 else wt + 1) = 0 by rw [if_pos (by omega)])
        gi_wp2
        refine ⟨fun f h => (by cases h), ?_⟩
        apply_assumption
        gi_wp2
        exact FIN.out W1 _ r (.inl rfl) (OnlyF.refl _ _ _) HJ1.out ⟨rfl, rfl, rfl⟩ (by simp [World.setCell]) (fun k hk => by first | exact (setU _ _ _ k hk).trans (setU _ _ _ k hk) | exact setU _ _ _ k hk) (by rw [HIF.out]; first | exact (HW.out.set _).set _ | exact HW.out.set _)
      · have HIF := Lib.hid (show (if wt + 1 = n.toNat then 0 else wt + 1) = wt + 1 by rw [if_neg (by omega)])
        gi_wp2
        refine ⟨fun f h => (by cases h), ?_⟩
        apply_assumption
        gi_wp2
        exact FIN.out W1 _ r (.inl rfl) (OnlyF.refl _ _ _) HJ1.out ⟨rfl, rfl, rfl⟩ (by simp [World.setCell]) (fun k hk => setU _ _ _ k hk) (by rw [HIF.out]; exact HW.out.set _)
  case done =>
    rintro D r W' hD hrD ⟨hj, hy, hw, hm⟩ hst hK
    gi_wp2
    refine ⟨by simp, .inl ⟨_, _, rfl, run_takeDeferred hK, ?_⟩⟩
    have hne : ∀ k : Nat, k ≠ D → (W'.putObj D (.deferred none)).heap[k]? = W'.heap[k]? := fun k hk => World.putObj_heap_other hk
    refine ⟨_, results_none rfl _ _ _, ⟨_, rfl⟩, r, fun q hq => by have := hrD q hq; omega, .inl ⟨?_, ⟨xs, HST.out _ _ _ hst (hne b (by omega))⟩⟩⟩
    rw [HEV.out]
    exact HJ.out _ _ _ _ hj ⟨rfl, rfl, rfl⟩ (by simp [World.putObj]) fun k _ _ hor => hne k (by rcases hor with h | h; omega; intro e; subst e; have := hrD _ h; omega)
  case stop =>
    rintro D c pre r W' hD hrD ⟨t, hx⟩ ⟨rfl, hjx⟩ hst hK
    gi_wp2
    refine ⟨by simp, .inl ⟨_, _, rfl, run_takeDeferred hK, ?_⟩⟩
    have hne : ∀ k : Nat, k ≠ D → (W'.putObj D (.deferred none)).heap[k]? = W'.heap[k]? := fun k hk => World.putObj_heap_other hk
    refine ⟨_, results_none rfl _ _ _, ⟨_, rfl⟩, r, fun q hq => by have := hrD q hq; omega, .inr ⟨evW n.toNat 0 pre, ⟨evW n.toNat (wtN n.toNat 0 pre) t, by rw [HEV.out, hx, evW_app]⟩, ?_, ⟨pre, HST.out _ _ _ hst (hne b (by omega))⟩⟩⟩
    exact HJX.out _ _ _ _ hjx ⟨rfl, rfl, rfl⟩ (by simp [World.putObj]) fun k _ _ hor => hne k (by rcases hor with h | h; omega; intro e; subst e; have := hrD _ h; omega)
end Go.Proofs.Ytdmkghgachapaaa
