/- Contract of cycle.open. -/
import Derived.Test.YtkeicdimkmmnfaaNext3
import Derived.Test.YtkeicdimkmmnfaaStore
namespace Go.Proofs.Ytkeicdimkmmnfaa
set_option linter.unusedVariables false
set_option maxRecDepth 100000
open Go.RowKit

/-- What open leaves. -/
def OpenOut (a1 a2 a3 : Option Addr) (n c1 c2 c3 : Nat) (xs ys zs : List Int) (e : Ending) : Prop :=
  (∃ (k : Nat) (a m : Int), e = .returned (.tuple #[.agg #[.slice a1 n c1, .slice a2 n c2, .slice a3 n c3, .int .i64 a, .int .i64 m, .int .i64 k], .bool false]) ∧ ∀ d, ¬ Fits xs ys zs n d) ∨
  (∃ (k : Nat) (a m : Int), k ≤ n ∧ Joint xs ys zs k a m ∧ m ≤ 8000000000 ∧ e = .returned (.tuple #[.agg #[.slice a1 n c1, .slice a2 n c2, .slice a3 n c3, .int .i64 a, .int .i64 m, .int .i64 k], .bool true]))
set_option maxHeartbeats 1000000 in
theorem cycle_open (w : World) (a1 a2 : Option Addr) (n1 c1 n2 c2 : Nat) (xs ys : List Int) (a3 : Option Addr) (n3 c3 : Nat) (zs : List Int) (ok : SetOk xs ys) (hl : zs.length = xs.length) (hp : plaAll xs zs = true) (h1 : Ints w w.heap.size a1 n1 xs) (h2 : Ints w w.heap.size a2 n2 ys) (h3 : Ints w w.heap.size a3 n3 zs) :
    Calls Try.prog 59 #[.agg #[.slice a1 n1 c1, .slice a2 n2 c2], .slice a3 n3 c3] w fun e w' => OpenOut a1 a2 a3 n1 c1 c2 c3 xs ys zs e ∧ Below w.heap.size w w' := by
  have l1 := h1.1; have l2 := h2.1; have l3 := h3.1
  have hn8 : n1 ≤ 8 := by have := ok.l2; omega
  have e2 : n2 = n1 := by have := ok.len; omega
  have e3 : n3 = n1 := by omega
  subst e2 e3
  have L1 := Lib.hid l1; have L2 := Lib.hid l2; have L3 := Lib.hid l3
  have H1 := Lib.hid h1; have H2 := Lib.hid h2; have H3 := Lib.hid h3; have OK := Lib.hid ok; have HP := Lib.hid hp
  clear h1 h2 h3 ok l1 l2 l3 hl hp
  go_enter Try.func59, Try.ntmps59
  go_wp2_with fail
  have a0 := ((At.new w (.cells #[.slice a1 n3 c1, .slice a2 n3 c2] 24)).alloc (.cells #[.slice none 0 0, .slice none 0 0, .slice none 0 0, .int .i64 0, .int .i64 0, .int .i64 0] 107)).alloc (.cells #[.slice a1 n3 c1, .slice a2 n3 c2, .slice a3 n3 c3, .int .i64 0, .int .i64 1, .int .i64 0] 107)
  have ar := (At.new1 w (.cells #[.slice a1 n3 c1, .slice a2 n3 c2] 24) (.cells #[.slice none 0 0, .slice none 0 0, .slice none 0 0, .int .i64 0, .int .i64 0, .int .i64 0] 107)).alloc (.cells #[.slice a1 n3 c1, .slice a2 n3 c2, .slice a3 n3 c3, .int .i64 0, .int .i64 1, .int .i64 0] 107)
  have aS := At.new2 w (.cells #[.slice a1 n3 c1, .slice a2 n3 c2] 24) (.cells #[.slice none 0 0, .slice none 0 0, .slice none 0 0, .int .i64 0, .int .i64 0, .int .i64 0] 107) (.cells #[.slice a1 n3 c1, .slice a2 n3 c2, .slice a3 n3 c3, .int .i64 0, .int .i64 1, .int .i64 0] 107)
  have b0 := below_new (below_new (below_new (Below.refl w.heap.size w) (.cells #[.slice a1 n3 c1, .slice a2 n3 c2] 24)) (.cells #[.slice none 0 0, .slice none 0 0, .slice none 0 0, .int .i64 0, .int .i64 0, .int .i64 0] 107)) (.cells #[.slice a1 n3 c1, .slice a2 n3 c2, .slice a3 n3 c3, .int .i64 0, .int .i64 1, .int .i64 0] 107)
  generalize World.alloc (World.alloc _ _) _ = W1 at a0 ar aS b0 ⊢
  go_loopw [7, 8, 9, 10, 11, 18] (fun _ _ _ _ _ i wr => ∃ (k : Nat) (a m : Int), k ≤ n3 ∧ i = .int .i64 k ∧ Joint xs ys zs k a m ∧ m ≤ 8000000000 ∧ At wr w.heap.size (.cells #[.slice a1 n3 c1, .slice a2 n3 c2] 24) ∧ At wr (w.heap.size + 1) (.cells #[.slice none 0 0, .slice none 0 0, .slice none 0 0, .int .i64 0, .int .i64 0, .int .i64 0] 107) ∧ At wr (w.heap.size + 1 + 1) (.cells #[.slice a1 n3 c1, .slice a2 n3 c2, .slice a3 n3 c3, .int .i64 a, .int .i64 m, .int .i64 k] 107) ∧ Below w.heap.size w wr) (fun _ _ _ _ _ i _ => n3 - (intOf i).toNat)
  case atStart => exact ⟨0, 0, 1, by omega, rfl, joint_zero xs ys zs, by omega, a0, ar, aS, b0⟩
  case round =>
    clear a0 ar aS b0
    obtain ⟨k, a, m, hk, rfl, hj, hm, a0, ar, aS, b0⟩ := hrel
    have j1 := hj.pos; have j2 := hj.lo; have j3 := hj.hi
    have HJ := Lib.hid hj; clear hj
    have hltw := aS.lt
    have d0 := a0.cell 0; have d1 := a0.cell 1; simp at d0 d1
    have s0 := aS.cell 0; have s1 := aS.cell 1; have s2 := aS.cell 2; have s3 := aS.cell 3; have s4 := aS.cell 4; have s5 := aS.cell 5; simp at s0 s1 s2 s3 s4 s5
    have r0 := ar.cell 0; have r1 := ar.cell 1; have r2 := ar.cell 2; have r3 := ar.cell 3; have r4 := ar.cell 4; have r5 := ar.cell 5; simp at r0 r1 r2 r3 r4 r5
    have f0 := ar.frozen 0; have f1 := ar.frozen 1; have f2 := ar.frozen 2; have f3 := ar.frozen 3; have f4 := ar.frozen 4; have f5 := ar.frozen 5
    have g0 := aS.frozen 0; have g1 := aS.frozen 1; have g2 := aS.frozen 2; have g3 := aS.frozen 3; have g4 := aS.frozen 4; have g5 := aS.frozen 5
    by_cases hlt : k < n3
    · obtain ⟨b1, o1, x, rfl, hb1, hc1, hx, x1, x2⟩ := (H1.out.below b0 (Nat.le_refl _)).at_ hlt
      by_cases hbig : 8000000 < m
      · go_wp2_with fail
        have k6 := (((((ar.store 0 (.slice (some ⟨b1, o1, none⟩) n3 c1)).store 1 (.slice a2 n3 c2)).store 2 (.slice a3 n3 c3)).store 3 (.int .i64 a)).store 4 (.int .i64 m)).store 5 (.int .i64 k)
        have b6 := below_set (below_set (below_set (below_set (below_set (below_set b0 (p := ⟨w.heap.size + 1, 0, none⟩) (by simp) (.slice (some ⟨b1, o1, none⟩) n3 c1)) (p := ⟨w.heap.size + 1, 1, none⟩) (by simp) (.slice a2 n3 c2)) (p := ⟨w.heap.size + 1, 2, none⟩) (by simp) (.slice a3 n3 c3)) (p := ⟨w.heap.size + 1, 3, none⟩) (by simp) (.int .i64 a)) (p := ⟨w.heap.size + 1, 4, none⟩) (by simp) (.int .i64 m)) (p := ⟨w.heap.size + 1, 5, none⟩) (by simp) (.int .i64 k)
        try simp only [Exit.inBlock, Exit.then]
        generalize World.setCell (World.setCell (World.setCell (World.setCell (World.setCell (World.setCell _ _ _) _ _) _ _) _ _) _ _) _ _ = W2 at k6 b6 ⊢
        have e0 := k6.cell 0; have e1 := k6.cell 1; have e2 := k6.cell 2; have e3 := k6.cell 3; have e4 := k6.cell 4; have e5 := k6.cell 5; simp at e0 e1 e2 e3 e4 e5
        exact bodyPost_ret (v := .tuple #[.agg #[.slice (some ⟨b1, o1, none⟩) n3 c1, .slice a2 n3 c2, .slice a3 n3 c3, .int .i64 a, .int .i64 m, .int .i64 k], .bool true]) (by simp [results, Try.results59, go_sem, e0, e1, e2, e3, e4, e5]) rfl ⟨Or.inr ⟨k, a, m, by omega, HJ.out, hm, rfl⟩, b6⟩
      · have hm' : m ≤ 8000000 := by omega
        obtain ⟨b2, o2, y, rfl, hb2, hc2, hy, y1, y2⟩ := (H2.out.below b0 (Nat.le_refl _)).at_ hlt
        obtain ⟨b3, o3, z, rfl, hb3, hc3, hz, z1, z2⟩ := (H3.out.below b0 (Nat.le_refl _)).at_ hlt
        obtain ⟨p1, p2, p3, p4⟩ := OK.out.each k x y hx hy
        obtain ⟨q1, q2⟩ := plaAll_at xs zs HP.out k x z hx hz
        have r1 := Int.emod_nonneg (z - y) (show x ≠ 0 by omega)
        have r2 := Int.emod_lt_of_pos (z - y) (show 0 < x by omega)
        have t0 : IntKind.i64.wrap (z - y) = z - y := IntWalk.i64_in _ (by omega)
        have t1 : IntKind.i64.wrap ((k : Int) + 1) = (k : Int) + 1 := IntWalk.i64_in _ (by omega)
        by_cases hg : (Int.gcd m x : Int) ∣ (z - y) % x - a
        · have MX := metX_is a m ((z - y) % x) x (by omega) (by omega) (by omega) (by omega) (by omega) (by omega) (by omega) (by omega) hg w
          have FN := Lib.hid (fun W => whole_Meet_fn a m ((z - y) % x) x W (by omega) (by omega) (by omega) (by omega) (by omega) (by omega) (by omega) (by omega) hg)
          have NJ := Lib.hid (joint_meet HJ.out hx hy hz p1 q1 q2 MX)
          have NS := Lib.hid (step_le (M := 8000000) (x := x) j1 hm' p1 p2)
          clear hg MX hx hy hz
          go_wp2_with fail
          go_quiet (first | (go_at_call 100; exact Calls.quiet_of (whole_Mod _ _ _ (by omega) (by omega) (by omega) (by omega))) | (go_at_call 99; exact Calls.quiet_of (FN.out _)))
          go_wp2_with fail
          go_roundw
          case rel => exact ⟨k + 1, _, _, by omega, by go_num, NJ.out, by have := NS.out; omega, ((((a0.drewN _).apart (by simp; omega) _).apart (by simp; omega) _).apart (by simp; omega) _), ((((ar.drewN _).apart (by simp) _).apart (by simp) _).apart (by simp) _), ((((aS.drewN _).store 3 _).store 4 _).store 5 _), below_set (below_set (below_set (below_drewN b0 _) (by simp; omega) _) (by simp; omega) _) (by simp; omega) _⟩
          case measure => simp [intOf]; omega
        · have NO := Lib.hid (joint_none HJ.out hx hy hz p1 q1 q2 hg n3 (by omega))
          have FN := Lib.hid (fun W => whole_Meet_none a m ((z - y) % x) x W (by omega) (by omega) (by omega) (by omega) (by omega) (by omega) (by omega) (by omega) hg)
          clear hg hx hy hz
          go_wp2_with fail
          go_quiet (first | (go_at_call 100; exact Calls.quiet_of (whole_Mod _ _ _ (by omega) (by omega) (by omega) (by omega))) | (go_at_call 99; exact Calls.quiet_of (FN.out _)))
          go_wp2_with fail
          generalize hW : World.drewN wr _ = wd
          replace ar := ar.drawn ⟨_, hW.symm⟩
          replace b0 := below_drawn b0 ⟨_, hW.symm⟩
          have k6 := (((((ar.store 0 (.slice (some ⟨b1, o1, none⟩) n3 c1)).store 1 (.slice (some ⟨b2, o2, none⟩) n3 c2)).store 2 (.slice (some ⟨b3, o3, none⟩) n3 c3)).store 3 (.int .i64 a)).store 4 (.int .i64 m)).store 5 (.int .i64 k)
          have b6 := below_set (below_set (below_set (below_set (below_set (below_set b0 (p := ⟨w.heap.size + 1, 0, none⟩) (by simp) (.slice (some ⟨b1, o1, none⟩) n3 c1)) (p := ⟨w.heap.size + 1, 1, none⟩) (by simp) (.slice (some ⟨b2, o2, none⟩) n3 c2)) (p := ⟨w.heap.size + 1, 2, none⟩) (by simp) (.slice (some ⟨b3, o3, none⟩) n3 c3)) (p := ⟨w.heap.size + 1, 3, none⟩) (by simp) (.int .i64 a)) (p := ⟨w.heap.size + 1, 4, none⟩) (by simp) (.int .i64 m)) (p := ⟨w.heap.size + 1, 5, none⟩) (by simp) (.int .i64 k)
          try simp only [Exit.inBlock, Exit.then]
          generalize World.setCell (World.setCell (World.setCell (World.setCell (World.setCell (World.setCell _ _ _) _ _) _ _) _ _) _ _) _ _ = W2 at k6 b6 ⊢
          have e0 := k6.cell 0; have e1 := k6.cell 1; have e2 := k6.cell 2; have e3 := k6.cell 3; have e4 := k6.cell 4; have e5 := k6.cell 5; simp at e0 e1 e2 e3 e4 e5
          exact bodyPost_ret (v := .tuple #[.agg #[.slice (some ⟨b1, o1, none⟩) n3 c1, .slice (some ⟨b2, o2, none⟩) n3 c2, .slice (some ⟨b3, o3, none⟩) n3 c3, .int .i64 a, .int .i64 m, .int .i64 k], .bool false]) (by simp [results, Try.results59, go_sem, e0, e1, e2, e3, e4, e5]) rfl ⟨Or.inl ⟨k, a, m, rfl, NO.out⟩, b6⟩
    · go_wp2_with fail
      have k6 := (((((ar.store 0 (.slice a1 n3 c1)).store 1 (.slice a2 n3 c2)).store 2 (.slice a3 n3 c3)).store 3 (.int .i64 a)).store 4 (.int .i64 m)).store 5 (.int .i64 k)
      have b6 := below_set (below_set (below_set (below_set (below_set (below_set b0 (p := ⟨w.heap.size + 1, 0, none⟩) (by simp) (.slice a1 n3 c1)) (p := ⟨w.heap.size + 1, 1, none⟩) (by simp) (.slice a2 n3 c2)) (p := ⟨w.heap.size + 1, 2, none⟩) (by simp) (.slice a3 n3 c3)) (p := ⟨w.heap.size + 1, 3, none⟩) (by simp) (.int .i64 a)) (p := ⟨w.heap.size + 1, 4, none⟩) (by simp) (.int .i64 m)) (p := ⟨w.heap.size + 1, 5, none⟩) (by simp) (.int .i64 k)
      try simp only [Exit.inBlock, Exit.then]
      generalize World.setCell (World.setCell (World.setCell (World.setCell (World.setCell (World.setCell _ _ _) _ _) _ _) _ _) _ _) _ _ = W2 at k6 b6 ⊢
      have e0 := k6.cell 0; have e1 := k6.cell 1; have e2 := k6.cell 2; have e3 := k6.cell 3; have e4 := k6.cell 4; have e5 := k6.cell 5; simp at e0 e1 e2 e3 e4 e5
      exact bodyPost_ret (v := .tuple #[.agg #[.slice a1 n3 c1, .slice a2 n3 c2, .slice a3 n3 c3, .int .i64 a, .int .i64 m, .int .i64 k], .bool true]) (by simp [results, Try.results59, go_sem, e0, e1, e2, e3, e4, e5]) rfl ⟨Or.inr ⟨k, a, m, by omega, HJ.out, hm, rfl⟩, b6⟩
end Go.Proofs.Ytkeicdimkmmnfaa
