/- Contracts of cycle.Of and cycle.Full where they fail, and of the reference's SetAt. -/
import Derived.Test.YtkeicdimkmmnfaaCycle3
namespace Go.Proofs.Ytkeicdimkmmnfaa
set_option linter.unusedVariables false
set_option maxRecDepth 100000
open Go.RowKit

theorem ref_Mod_is (a b p : Int) (hp : a % b = p) (w : World) (h1 : -9223372036854775808 ≤ a) (h2 : a ≤ 9223372036854775807) (h3 : 1 ≤ b) (h4 : b ≤ 9223372036854775807) :
    Calls Try.prog 47 #[.int .i64 a, .int .i64 b] w fun e w' => e = .returned (.int .i64 p) ∧ w = w' := by
  subst hp; exact ref_Mod a b w h1 h2 h3 h4
set_option maxHeartbeats 1000000 in
theorem ref_SetAt (w : World) (a1 a2 : Option Addr) (n1 c1 n2 c2 : Nat) (xs ys : List Int) (d : Int) (a3 : Option Addr) (n3 c3 : Nat) (zs : List Int) (d1 : -100000000 ≤ d) (d2 : d ≤ 100000000) (ok : SetOk xs ys) (h1 : Ints w w.heap.size a1 n1 xs) (h2 : Ints w w.heap.size a2 n2 ys) (h3 : Ints w w.heap.size a3 n3 zs) (hl : zs.length = xs.length) :
    Calls Try.prog 14 #[.agg #[.slice a1 n1 c1, .slice a2 n2 c2], .int .i64 d, .slice a3 n3 c3] w fun e w' => e = .returned (.bool (places d xs ys == zs)) ∧ Below w.heap.size w w' := by
  have l1 := h1.1; have l2 := h2.1; have l3 := h3.1
  have hn8 : n1 ≤ 8 := by have := ok.l2; omega
  have e2 : n2 = n1 := by have := ok.len; omega
  have e3 : n3 = n1 := by omega
  subst e2 e3
  have L1 := Lib.hid l1; have L2 := Lib.hid l2; have L3 := Lib.hid l3
  have H1 := Lib.hid h1; have H2 := Lib.hid h2; have H3 := Lib.hid h3; have OK := Lib.hid ok
  clear h1 h2 h3 ok l1 l2 l3 hl
  go_enter Try.func14, Try.ntmps14
  go_wp2_with fail
  have a0 := At.new w (.cells #[.slice a1 n3 c1, .slice a2 n3 c2] 24)
  have b0 := below_new (Below.refl w.heap.size w) (.cells #[.slice a1 n3 c1, .slice a2 n3 c2] 24)
  generalize World.alloc w _ = W1 at a0 b0 ⊢
  go_loopw [7, 8, 12] (fun _ _ i wr => ∃ k : Nat, k ≤ n3 ∧ i = .int .i64 k ∧ (∀ j, j < k → (places d xs ys)[j]? = zs[j]?) ∧ At wr w.heap.size (.cells #[.slice a1 n3 c1, .slice a2 n3 c2] 24) ∧ Below w.heap.size w wr) (fun _ _ i _ => n3 - (intOf i).toNat)
  case atStart => exact ⟨0, by omega, rfl, fun j h => by omega, a0, b0⟩
  case round =>
    clear a0 b0
    obtain ⟨k, hk, rfl, hall, a0, b0⟩ := hrel
    have HA := Lib.hid hall; clear hall
    by_cases hlt : k < n3
    · obtain ⟨b1, o1, x, rfl, hb1, hc1, hx, x1, x2⟩ := (H1.out.below b0 (Nat.le_refl _)).at_ hlt
      obtain ⟨b2, o2, y, rfl, hb2, hc2, hy, y1, y2⟩ := (H2.out.below b0 (Nat.le_refl _)).at_ hlt
      obtain ⟨b3, o3, z, rfl, hb3, hc3, hz, z1, z2⟩ := (H3.out.below b0 (Nat.le_refl _)).at_ hlt
      obtain ⟨p1, p2, p3, p4⟩ := OK.out.each k x y hx hy
      have hpl := places_at d k xs ys x y hx hy
      have d1' := a0.cell 1
      simp at d1'
      have t0 : IntKind.i64.wrap (d + y) = d + y := IntWalk.i64_in _ (by omega)
      have t1 : -9223372036854775808 ≤ d + y := by omega
      have t2 : d + y ≤ 9223372036854775807 := by omega
      have t3 : x ≤ 9223372036854775807 := by omega
      have HZ := Lib.hid hz; have HPL := Lib.hid hpl
      clear hx hy hz hpl
      obtain ⟨P, hP⟩ : ∃ P, (d + y) % x = P := ⟨_, rfl⟩
      rw [hP] at HPL
      have FM := Lib.hid (fun W => ref_Mod_is (d + y) x P hP W t1 t2 p1 t3)
      clear hP
      by_cases hpz : P = z
      · have hb : (P != z) = false := by simpa using hpz
        have hnx := Lib.hid (show ∀ j, j < k + 1 → (places d xs ys)[j]? = zs[j]? from fun j hj => by
          by_cases hjk : j = k
          · subst hjk; rw [HPL.out, HZ.out, hpz]
          · exact HA.out j (by omega))
        clear hpz
        go_wp2_with fail
        go_quiet ((go_at_call 47; exact quiet_left (FM.out _)))
        go_wp2_with fail
        go_roundw
        case rel => exact ⟨k + 1, by omega, by go_num, hnx.out, a0.drewN _, below_drewN b0 _⟩
        case measure => simp [intOf]; omega
      · have hb : (P != z) = true := by simpa using hpz
        have ho := Lib.hid (show (places d xs ys == zs) = false by
          rw [beq_eq_false_iff_ne]; intro he
          have := HPL.out.symm.trans (he ▸ HZ.out)
          injection this with this; exact hpz this)
        clear hpz
        go_wp2_with fail
        go_quiet ((go_at_call 47; exact quiet_left (FM.out _)))
        go_wp2_with fail
        go_ret
        exact ⟨ret_bool (by rw [ho.out]), below_drewN b0 _⟩
    · have ho := Lib.hid (show (places d xs ys == zs) = true by
        rw [beq_iff_eq]
        apply List.ext_getElem?
        intro j
        by_cases hj : j < k
        · exact HA.out j hj
        · rw [List.getElem?_eq_none (by rw [places_len d xs ys (by rw [L1.out, L2.out])]; have := L1.out; omega), List.getElem?_eq_none (by have := L3.out; omega)])
      go_wp2_with fail
      go_ret
      exact ⟨ret_bool (by rw [ho.out]), b0⟩
end Go.Proofs.Ytkeicdimkmmnfaa
