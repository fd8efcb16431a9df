/- NumeralReads: the Go text returns true at every input, and writes nothing that was there. -/
import Derived.Test.YticflmepmmdnfabDoorRows
import Derived.Test.YticflmepmmdnfabDoorNml25
import Derived.Test.YticflmepmmdnfabDoorNml27
import Derived.Test.YticflmepmmdnfabDoorNmlLaid
namespace Go.Proofs.YticflmepmmdnfabDoor.numeralReadsLaw
set_option linter.unusedVariables false
set_option linter.unusedSimpArgs false
set_option maxRecDepth 100000
open Go.RowKit Go.ChangeShapes Go.WideShapes Go.Shelf Nml

theorem litR : rdP 9 (⟨#[88, 73, 86]⟩ : ByteArray).data.toList = (14, 0) := rd_found (m := 14) (by decide) (by decide) (by decide +kernel)
/-- What the law does with the first sixty bytes. -/
theorem cases_read (s : Int) (l : List UInt8) (n : Int) (b : Bool) (hs : inB 0 12 s = true) (h1 : b = true → inS s n = true ∧ numT s n = l) (h2 : b = false → ∀ m, inS s m = true → ¬ numT s m = l) : rdP s l = if b then (n, 0) else (0, 4) := by
  cases b with
  | true => exact rd_found hs (h1 rfl).1 (h1 rfl).2
  | false => exact rd_none hs (h2 rfl)
set_option maxHeartbeats 4000000 in
theorem core (s : Int) (S : ByteArray) (w : World) (hS : S.size ≤ 9223372036854775807) (hz : Zer w) (hu : Utf w) (hp : Pow w) :
    Calls Tryd.prog 5 #[.int .i64 s, .string S] w fun e w' => e = .returned (.bool true) ∧ Below w.heap.size w w' := by
  have HZ := Lib.hid hz; have HU := Lib.hid hu; have HP := Lib.hid hp
  clear hz hu hp
  have C1 := num_Read 9 ⟨#[88, 73, 86]⟩ w (by decide) HZ.out HU.out HP.out
  rw [litR] at C1
  have C1 := Lib.hid C1
  by_cases h60 : 60 < S.size
  · have d60 : (60 : Int) < S.size := by omega
    have hsl : ∀ W, (Instr.slice 9 (.string S) none (some (.int .i64 60)) none).run Tryd.prog W = .ok (.string (S.extract 0 60)) W := fun W => by
      go_simp
      intro h; exact absurd h (by omega)
    have HS60 := Lib.hid (show (S.extract 0 60).size ≤ 60 by rw [ByteArray.size_extract]; omega)
    generalize S.extract 0 60 = S6 at hsl HS60
    have C2 := fun W (hb : Below w.heap.size w W) => num_Read s S6 W HS60.out (HZ.out.below hb) (Utf8Tabs_below HU.out hb) (HP.out.below hb)
    by_cases hs : inB 0 12 s = true
    · have CR := Lib.hid (fun W (hb : Below w.heap.size w W) => ref_NumeralRead s S6 W hs HS60.out (HP.out.below hb))
      have HSS := Lib.hid hs
      have HCA := Lib.hid (fun n b => cases_read s S6.data.toList n b hs)
      generalize rdP s S6.data.toList = V at C2 HCA
      obtain ⟨v, er⟩ := V
      simp only [] at C2
      have C2 := Lib.hid C2
      clear hs
      go_enter Tryd.func5, Tryd.ntmps5
      go_wp2_with fail
      refine C1.out.mono ?_
      rintro e w1 ⟨rfl, b⟩
      have B1 := Lib.hid b; clear b
      go_wp2_with fail
      refine (C2.out _ B1.out).mono ?_
      rintro e w2 ⟨rfl, b⟩
      have B2 := Lib.hid (below_then B1.out b); clear b
      go_wp2_with fail
      refine (ref_In _ _ _ _).mono ?_
      rw [HSS.out]
      rintro e w3 ⟨rfl, rfl⟩
      go_wp2_with fail
      refine (CR.out _ B2.out).mono ?_
      rintro e w4 ⟨n, b, rfl, hb, h1, h2⟩
      have hc := HCA.out n b h1 h2
      have B4 := Lib.hid (below_then B2.out hb); clear hb h1 h2
      cases b with
      | true =>
        obtain ⟨rfl, rfl⟩ : v = n ∧ er = 0 := by injection hc with a b; exact ⟨a, b⟩
        clear hc
        go_wp2_with fail
        go_ret
        exact ⟨ret_bool (by simp), B4.out⟩
      | false =>
        obtain ⟨rfl, rfl⟩ : v = 0 ∧ er = 4 := by injection hc with a b; exact ⟨a, b⟩
        clear hc
        go_wp2_with fail
        go_ret
        exact ⟨ret_bool (by simp), B4.out⟩
    · have hs' : inB 0 12 s = false := by simpa using hs
      have e1 : rdP s S6.data.toList = (0, 1) := by unfold rdP; rw [if_pos hs']
      rw [e1] at C2
      have C2 := Lib.hid C2
      have HSS := Lib.hid hs'
      clear hs hs' e1
      go_enter Tryd.func5, Tryd.ntmps5
      go_wp2_with fail
      refine C1.out.mono ?_
      rintro e w1 ⟨rfl, b⟩
      have B1 := Lib.hid b; clear b
      go_wp2_with fail
      refine (C2.out _ B1.out).mono ?_
      rintro e w2 ⟨rfl, b⟩
      have B2 := Lib.hid (below_then B1.out b); clear b
      go_wp2_with fail
      refine (ref_In _ _ _ _).mono ?_
      rw [HSS.out]
      rintro e w3 ⟨rfl, rfl⟩
      go_wp2_with fail
      go_ret
      exact ⟨ret_bool (by simp), B2.out⟩
  · have d60 : ¬ (60 : Int) < S.size := by omega
    have HS60 := Lib.hid (show S.size ≤ 60 by omega)
    clear h60
    have C2 := fun W (hb : Below w.heap.size w W) => num_Read s S W HS60.out (HZ.out.below hb) (Utf8Tabs_below HU.out hb) (HP.out.below hb)
    by_cases hs : inB 0 12 s = true
    · have CR := Lib.hid (fun W (hb : Below w.heap.size w W) => ref_NumeralRead s S W hs HS60.out (HP.out.below hb))
      have HSS := Lib.hid hs
      have HCA := Lib.hid (fun n b => cases_read s S.data.toList n b hs)
      generalize rdP s S.data.toList = V at C2 HCA
      obtain ⟨v, er⟩ := V
      simp only [] at C2
      have C2 := Lib.hid C2
      clear hs
      go_enter Tryd.func5, Tryd.ntmps5
      go_wp2_with fail
      refine C1.out.mono ?_
      rintro e w1 ⟨rfl, b⟩
      have B1 := Lib.hid b; clear b
      go_wp2_with fail
      refine (C2.out _ B1.out).mono ?_
      rintro e w2 ⟨rfl, b⟩
      have B2 := Lib.hid (below_then B1.out b); clear b
      go_wp2_with fail
      refine (ref_In _ _ _ _).mono ?_
      rw [HSS.out]
      rintro e w3 ⟨rfl, rfl⟩
      go_wp2_with fail
      refine (CR.out _ B2.out).mono ?_
      rintro e w4 ⟨n, b, rfl, hb, h1, h2⟩
      have hc := HCA.out n b h1 h2
      have B4 := Lib.hid (below_then B2.out hb); clear hb h1 h2
      cases b with
      | true =>
        obtain ⟨rfl, rfl⟩ : v = n ∧ er = 0 := by injection hc with a b; exact ⟨a, b⟩
        clear hc
        go_wp2_with fail
        go_ret
        exact ⟨ret_bool (by simp), B4.out⟩
      | false =>
        obtain ⟨rfl, rfl⟩ : v = 0 ∧ er = 4 := by injection hc with a b; exact ⟨a, b⟩
        clear hc
        go_wp2_with fail
        go_ret
        exact ⟨ret_bool (by simp), B4.out⟩
    · have hs' : inB 0 12 s = false := by simpa using hs
      have e1 : rdP s S.data.toList = (0, 1) := by unfold rdP; rw [if_pos hs']
      rw [e1] at C2
      have C2 := Lib.hid C2
      have HSS := Lib.hid hs'
      clear hs hs' e1
      go_enter Tryd.func5, Tryd.ntmps5
      go_wp2_with fail
      refine C1.out.mono ?_
      rintro e w1 ⟨rfl, b⟩
      have B1 := Lib.hid b; clear b
      go_wp2_with fail
      refine (C2.out _ B1.out).mono ?_
      rintro e w2 ⟨rfl, b⟩
      have B2 := Lib.hid (below_then B1.out b); clear b
      go_wp2_with fail
      refine (ref_In _ _ _ _).mono ?_
      rw [HSS.out]
      rintro e w3 ⟨rfl, rfl⟩
      go_wp2_with fail
      go_ret
      exact ⟨ret_bool (by simp), B2.out⟩
theorem walk {H : Type} {enc : TypeId × Value → H} {v0 v1 : Value} {d0 d1 : DataW H} {p0 p1 : List MemPlace} {base : Nat} (W : World)
    (o0 : Value.okWide Tryd.prog W .any base 3 v0) (h0 : DataW.Trod enc Tryd.prog W 0 (fun _ => true) true 3 v0 d0 p0)
    (o1 : Value.okWide Tryd.prog W .any base 9 v1) (h1 : DataW.Trod enc Tryd.prog W 0 (fun _ => true) true 9 v1 d1 p1) (hsz : ∀ bytes, d1 = .lit (.string bytes) → bytes.length ≤ reachBytes) (hL : laidMet Tryd.prog Rows.numeralReadsRow.laid W) :
    Calls Tryd.prog 5 #[v0, v1] W fun e W' => e = .returned (.bool true) ∧ Below W.heap.size W W' := by
  obtain ⟨x, rfl, rfl, rfl, wx⟩ := open_int Tryd.underlying3 o0 h0
  obtain ⟨S, rfl, rfl, rfl, hS⟩ := Go.ChangeMaps.open_string Tryd.underlying9 o1 h1
  have hlim : S.size ≤ 9223372036854775807 := by
    have h1 := hsz S.data.toList rfl
    have h2 := reachBytes_lt
    have e3 : (2 : Nat) ^ 47 = 140737488355328 := by decide
    rw [str_len] at h1
    omega
  exact core x S W hlim (laid_zer hL) (laid_utf hL) (laid_pow pow_data.symm hL.tail.tail)
end Go.Proofs.YticflmepmmdnfabDoor.numeralReadsLaw
