/- Contracts of numeral.sign at Hebrew and of numeral.writeSigns. -/
import Derived.Test.YticflmepmmdnfabDoorNml3
namespace Go.Proofs.YticflmepmmdnfabDoor
set_option linter.unusedVariables false
set_option linter.unusedSimpArgs false
set_option maxRecDepth 100000
open Go.RowKit Go.Shelf Nml

def SignH (p n : Nat) (w : World) : Prop := Calls Tryd.prog 60 #[.int .i64 11, .int .i64 (p : Int), .int .i64 (n : Int)] w fun e w' => e = .returned (.string ⟨(sgn false p n).toArray⟩) ∧ Below w.heap.size w w'
set_option maxHeartbeats 16000000 in
theorem sign_h (p : Nat) (w : World) : SignH p 0 w := by
  unfold SignH
  go_enter Tryd.func60, Tryd.ntmps60
  go_wp2_with fail
  go_ret
  exact ⟨rfl, Below.refl _ _⟩
set_option maxHeartbeats 16000000 in
theorem sign_h0 (n : Nat) (w : World) (h0 : 0 < n) (hn : n < 10) : SignH 0 n w := by
  unfold SignH
  have hb : ∀ o1 : Obj, Below w.heap.size w (w.alloc o1) := fun o1 => below_new (Below.refl _ _) _
  have HB := Lib.hid hb; clear hb
  have HE := Lib.hid (h_enc0 n h0 hn)
  have d0 : ((n : Int) == 0) = false := by simp; omega
  have dn1 : (1 : Int) ≤ (n : Int) := by omega
  have dn2 : (n : Int) < 10 := by omega
  have c32 : IntKind.i32.wrap (1488 + (n : Int) - 1) = 1488 + (n : Int) - 1 := by unfold IntKind.wrap; simp [IntKind.signed, IntKind.bits]; omega
  clear h0 hn
  go_enter Tryd.func60, Tryd.ntmps60
  go_wp2_with fail
  go_ret
  exact ⟨by rw [← HE.out]; rfl, HB.out _⟩
set_option maxHeartbeats 16000000 in
theorem sign_h1 (n : Nat) (w : World) (h0 : 0 < n) (hn : n < 10) : SignH 1 n w := by
  unfold SignH
  have hb : ∀ o1 : Obj, Below w.heap.size w (w.alloc o1) := fun o1 => below_new (Below.refl _ _) _
  have HB := Lib.hid hb; clear hb
  have h2 : n = 1 ∨ n = 2 ∨ n = 3 ∨ n = 4 ∨ n = 5 ∨ n = 6 ∨ n = 7 ∨ n = 8 ∨ n = 9 := by omega
  clear h0 hn
  rcases h2 with rfl | rfl | rfl | rfl | rfl | rfl | rfl | rfl | rfl
  all_goals
    go_enter Tryd.func60, Tryd.ntmps60
    go_wp2_with fail
    go_ret
    exact ⟨rfl, HB.out _⟩
set_option maxHeartbeats 16000000 in
theorem sign_h2 (n : Nat) (w : World) (h0 : 0 < n) (hn : n < 5) : SignH 2 n w := by
  unfold SignH
  have hb : ∀ o1 : Obj, Below w.heap.size w (w.alloc o1) := fun o1 => below_new (Below.refl _ _) _
  have HB := Lib.hid hb; clear hb
  have HE := Lib.hid (h_enc2 n h0 hn)
  have d0 : ((n : Int) == 0) = false := by simp; omega
  have dn1 : (1 : Int) ≤ (n : Int) := by omega
  have dn2 : (n : Int) < 5 := by omega
  have c32 : IntKind.i32.wrap (1511 + (n : Int) - 1) = 1511 + (n : Int) - 1 := by unfold IntKind.wrap; simp [IntKind.signed, IntKind.bits]; omega
  clear h0 hn
  go_enter Tryd.func60, Tryd.ntmps60
  go_wp2_with fail
  go_ret
  exact ⟨by rw [← HE.out]; rfl, HB.out _⟩
set_option maxHeartbeats 16000000 in
theorem sign_h2' (n : Nat) (w : World) (h0 : 4 < n) (hn : n < 10) (ih : ∀ W, SignH 2 (n - 4) W) : SignH 2 n w := by
  have h4 := fun W => sign_h2 4 W (by omega) (by omega)
  unfold SignH at ih h4 ⊢
  have hb : ∀ o1 : Obj, Below w.heap.size w (w.alloc o1) := fun o1 => below_new (Below.refl _ _) _
  have HB := Lib.hid hb; clear hb
  have d0 : ((n : Int) == 0) = false := by simp; omega
  have dn1 : (4 : Int) < (n : Int) := by omega
  have dn2 : (n : Int) < 10 := by omega
  rw [show ((n - 4 : Nat) : Int) = (n : Int) - 4 by omega] at ih
  have ha := addL (sgn false 2 4) (sgn false 2 (n - 4)) _ (h_sum n h0 hn) (by
    have h2 : n = 5 ∨ n = 6 ∨ n = 7 ∨ n = 8 ∨ n = 9 := by omega
    clear ih d0 dn1 dn2 h0 hn
    rcases h2 with rfl | rfl | rfl | rfl | rfl <;> decide +kernel)
  have IH := Lib.hid ih; have H4 := Lib.hid h4
  clear h0 hn ih h4
  generalize sgn false 2 4 = A at ha H4
  generalize sgn false 2 (n - 4) = B at ha IH
  generalize sgn false 2 n = C at ha ⊢
  go_enter Tryd.func60, Tryd.ntmps60
  go_wp2_with fail
  refine (H4.out _).mono ?_
  rintro e w1 ⟨rfl, b1⟩
  have B1 := Lib.hid (below_then (HB.out _) b1); clear b1
  go_wp2_with fail
  refine (IH.out _).mono ?_
  rintro e w2 ⟨rfl, b2⟩
  have B2 := Lib.hid (below_then B1.out b2); clear b2 B1
  go_wp2_with fail
  go_ret
  exact ⟨rfl, B2.out⟩
theorem sign_h2all (n : Nat) (w : World) (hn : n < 10) : SignH 2 n w := by
  by_cases h0 : n = 0
  · subst h0; exact sign_h 2 w
  by_cases h5 : n < 5
  · exact sign_h2 n w (by omega) h5
  by_cases h9 : n < 9
  · exact sign_h2' n w (by omega) hn fun W => sign_h2 (n - 4) W (by omega) (by omega)
  · exact sign_h2' n w (by omega) hn fun W => sign_h2' (n - 4) W (by omega) (by omega) fun W => sign_h2 (n - 4 - 4) W (by omega) (by omega)
theorem num_sign11 (p n : Nat) (w : World) (hp : p < 3) (hn : n < 10) : SignH p n w := by
  by_cases h0 : n = 0
  · subst h0; exact sign_h p w
  have : p = 0 ∨ p = 1 ∨ p = 2 := by omega
  rcases this with rfl | rfl | rfl
  · exact sign_h0 n w (by omega) hn
  · exact sign_h1 n w (by omega) hn
  · exact sign_h2all n w hn
def scr (g : Bool) : Int := if g then 10 else 11
theorem num_sign (g : Bool) (p : Nat) (n : Int) (w : World) (hp : p < 3) (h0 : 0 ≤ n) (hn : n < 10) :
    Calls Tryd.prog 60 #[.int .i64 (scr g), .int .i64 (p : Int), .int .i64 n] w fun e w' => e = .returned (.string ⟨(sgn g p n.toNat).toArray⟩) ∧ Below w.heap.size w w' := by
  have e : n = (n.toNat : Int) := by omega
  obtain ⟨m, hm⟩ : ∃ m, m = n.toNat := ⟨_, rfl⟩
  rw [← hm] at e ⊢
  rw [e]
  cases g with
  | true => exact num_sign10 p m w hp (by omega)
  | false => exact num_sign11 p m w hp (by omega)
theorem sgn_len (g : Bool) (p n : Nat) (hp : p < 3) (hn : n < 10) : (sgn g p n).length ≤ 10 := by
  have h1 : p = 0 ∨ p = 1 ∨ p = 2 := by omega
  have h2 : n = 0 ∨ n = 1 ∨ n = 2 ∨ n = 3 ∨ n = 4 ∨ n = 5 ∨ n = 6 ∨ n = 7 ∨ n = 8 ∨ n = 9 := by omega
  clear hp hn
  cases g <;> rcases h1 with rfl | rfl | rfl <;> rcases h2 with rfl | rfl | rfl | rfl | rfl | rfl | rfl | rfl | rfl | rfl <;> decide +kernel
set_option maxHeartbeats 16000000 in
theorem num_writeSigns (g : Bool) (n : Int) (w : World) (h0 : 0 ≤ n) (h1 : n < 1000) :
    Calls Tryd.prog 44 #[.int .i64 (scr g), .int .i64 n] w fun e w' => e = .returned (.string ⟨(sigS g n.toNat).toArray⟩) ∧ Below w.heap.size w w' := by
  have C0 := fun W => num_sign g 2 (n / 100) W (by omega) (by omega) (by omega)
  have l0 := sgn_len g 2 (n / 100).toNat (by omega) (by omega)
  by_cases hs : g = false ∧ (n % 100 = 15 ∨ n % 100 = 16)
  · obtain ⟨rfl, hr⟩ := hs
    have C1 := fun W => num_sign false 0 9 W (by omega) (by omega) (by omega)
    have C2 := fun W => num_sign false 0 (n % 100 - 9) W (by omega) (by omega) (by omega)
    have l1 := sgn_len false 0 (9 : Int).toNat (by omega) (by omega)
    have l2 := sgn_len false 0 (n % 100 - 9).toNat (by omega) (by omega)
    have HR0 : sigS false n.toNat = sgn false 2 (n / 100).toNat ++ sgn false 0 (9 : Int).toNat ++ sgn false 0 (n % 100 - 9).toNat := by
      unfold sigS
      rw [if_pos ⟨rfl, by omega⟩, show (n / 100).toNat = n.toNat / 100 by omega, show (n % 100 - 9).toNat = n.toNat % 100 - 9 by omega]
      rfl
    generalize sgn false 2 (n / 100).toNat = A0 at C0 l0 HR0
    generalize sgn false 0 (9 : Int).toNat = A1 at C1 l1 HR0
    generalize sgn false 0 (n % 100 - 9).toNat = A2 at C2 l2 HR0
    replace C0 := Lib.hid C0; replace C1 := Lib.hid C1; replace C2 := Lib.hid C2
    have a1 := addL A0 A1 _ rfl (by rw [List.length_append]; omega)
    have a2 := addL (A0 ++ A1) A2 _ rfl (by rw [List.length_append, List.length_append]; omega)
    obtain ⟨T1, hT1⟩ : ∃ T, T = A0 ++ A1 := ⟨_, rfl⟩
    rw [← hT1] at a1 a2 HR0
    obtain ⟨T2, hT2⟩ : ∃ T, T = T1 ++ A2 := ⟨_, rfl⟩
    rw [← hT2] at a2 HR0
    clear hT1 hT2 l0 l1 l2
    have HR := Lib.hid HR0; clear HR0
    have hs : scr false = 11 := rfl
    rw [hs] at *
    rcases hr with hr | hr
    · have d1 : (n % 100 == 15) = true := by simpa using hr
      clear hr
      go_enter Tryd.func44, Tryd.ntmps44
      go_wp2_with fail
      refine (C0.out _).mono ?_
      rintro e w1 ⟨rfl, b1⟩
      have B1 := Lib.hid b1; clear b1
      go_wp2_with fail
      refine (C1.out _).mono ?_
      rintro e w2 ⟨rfl, b2⟩
      have B2 := Lib.hid (below_then B1.out b2); clear b2 B1
      go_wp2_with fail
      refine (C2.out _).mono ?_
      rintro e w3 ⟨rfl, b3⟩
      have B3 := Lib.hid (below_then B2.out b3); clear b3 B2
      go_wp2_with fail
      go_ret
      exact ⟨by rw [HR.out]; rfl, B3.out⟩
    · have d1 : (n % 100 == 15) = false := by simp; omega
      have d2 : (n % 100 == 16) = true := by simpa using hr
      clear hr
      go_enter Tryd.func44, Tryd.ntmps44
      go_wp2_with fail
      refine (C0.out _).mono ?_
      rintro e w1 ⟨rfl, b1⟩
      have B1 := Lib.hid b1; clear b1
      go_wp2_with fail
      refine (C1.out _).mono ?_
      rintro e w2 ⟨rfl, b2⟩
      have B2 := Lib.hid (below_then B1.out b2); clear b2 B1
      go_wp2_with fail
      refine (C2.out _).mono ?_
      rintro e w3 ⟨rfl, b3⟩
      have B3 := Lib.hid (below_then B2.out b3); clear b3 B2
      go_wp2_with fail
      go_ret
      exact ⟨by rw [HR.out]; rfl, B3.out⟩
  · have C1 := fun W => num_sign g 1 (n / 10 % 10) W (by omega) (by omega) (by omega)
    have C2 := fun W => num_sign g 0 (n % 10) W (by omega) (by omega) (by omega)
    have l1 := sgn_len g 1 (n / 10 % 10).toNat (by omega) (by omega)
    have l2 := sgn_len g 0 (n % 10).toNat (by omega) (by omega)
    have HR0 : sigS g n.toNat = sgn g 2 (n / 100).toNat ++ sgn g 1 (n / 10 % 10).toNat ++ sgn g 0 (n % 10).toNat := by
      unfold sigS
      rw [if_neg (by intro h; exact hs ⟨h.1, by omega⟩), show (n / 100).toNat = n.toNat / 100 by omega, show (n / 10 % 10).toNat = n.toNat / 10 % 10 by omega, show (n % 10).toNat = n.toNat % 10 by omega]
    generalize sgn g 2 (n / 100).toNat = A0 at C0 l0 HR0
    generalize sgn g 1 (n / 10 % 10).toNat = A1 at C1 l1 HR0
    generalize sgn g 0 (n % 10).toNat = A2 at C2 l2 HR0
    have a1 := addL A0 A1 _ rfl (by rw [List.length_append]; omega)
    have a2 := addL (A0 ++ A1) A2 _ rfl (by rw [List.length_append, List.length_append]; omega)
    obtain ⟨T1, hT1⟩ : ∃ T, T = A0 ++ A1 := ⟨_, rfl⟩
    rw [← hT1] at a1 a2 HR0
    obtain ⟨T2, hT2⟩ : ∃ T, T = T1 ++ A2 := ⟨_, rfl⟩
    rw [← hT2] at a2 HR0
    clear hT1 hT2 l0 l1 l2
    have HR := Lib.hid HR0; clear HR0
    cases g with
    | true =>
      have hsc : scr true = 10 := rfl
      rw [hsc] at C0 C1 C2 ⊢
      replace C0 := Lib.hid C0; replace C1 := Lib.hid C1; replace C2 := Lib.hid C2
      clear hs
      go_enter Tryd.func44, Tryd.ntmps44
      go_wp2_with fail
      refine (C0.out _).mono ?_
      rintro e w1 ⟨rfl, b1⟩
      have B1 := Lib.hid b1; clear b1
      go_wp2_with fail
      refine (C1.out _).mono ?_
      rintro e w2 ⟨rfl, b2⟩
      have B2 := Lib.hid (below_then B1.out b2); clear b2 B1
      go_wp2_with fail
      refine (C2.out _).mono ?_
      rintro e w3 ⟨rfl, b3⟩
      have B3 := Lib.hid (below_then B2.out b3); clear b3 B2
      go_wp2_with fail
      go_ret
      exact ⟨by rw [HR.out]; rfl, B3.out⟩
    | false =>
      have d1 : (n % 100 == 15) = false := by simp; intro h; exact hs ⟨rfl, .inl h⟩
      have d2 : (n % 100 == 16) = false := by simp; intro h; exact hs ⟨rfl, .inr h⟩
      have hsc : scr false = 11 := rfl
      rw [hsc] at C0 C1 C2 ⊢
      replace C0 := Lib.hid C0; replace C1 := Lib.hid C1; replace C2 := Lib.hid C2
      clear hs
      go_enter Tryd.func44, Tryd.ntmps44
      go_wp2_with fail
      refine (C0.out _).mono ?_
      rintro e w1 ⟨rfl, b1⟩
      have B1 := Lib.hid b1; clear b1
      go_wp2_with fail
      refine (C1.out _).mono ?_
      rintro e w2 ⟨rfl, b2⟩
      have B2 := Lib.hid (below_then B1.out b2); clear b2 B1
      go_wp2_with fail
      refine (C2.out _).mono ?_
      rintro e w3 ⟨rfl, b3⟩
      have B3 := Lib.hid (below_then B2.out b3); clear b3 B2
      go_wp2_with fail
      go_ret
      exact ⟨by rw [HR.out]; rfl, B3.out⟩
end Go.Proofs.YticflmepmmdnfabDoor
