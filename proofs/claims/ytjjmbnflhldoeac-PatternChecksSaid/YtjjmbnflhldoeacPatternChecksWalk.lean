/- PatternChecks: the Go text returns true at every input, and writes nothing that was there. -/
import Derived.Test.YtjjmbnflhldoeacRows
import Derived.Test.YtjjmbnflhldoeacPat5
import Derived.Test.YtjjmbnflhldoeacPat6
import Derived.ChangeMaps5
namespace Go.Proofs.Ytjjmbnflhldoeac.patternChecksLaw
set_option linter.unusedVariables false
set_option maxRecDepth 100000
open Go.RowKit Go.ChangeShapes Go.WideShapes Go.Shelf

def litL : List UInt8 := [123, 100, 125, 46, 32, 123, 110, 97, 109, 101, 125, 32, 123, 121, 125]
theorem litFull : patFull litL = true := by decide +kernel
theorem litErr : patErr litL = 0 := by decide +kernel
set_option maxHeartbeats 8000000 in
theorem core (l : List UInt8) (w : World) (hl : l.length ≤ 9223372036854775807) :
    Calls Try.prog 3 #[.string ⟨l.toArray⟩] w fun e w' => e = .returned (.bool true) ∧ Below w.heap.size w w' := by
  have HFU := Lib.hid (fun W => pt_Full l W hl)
  have HCH := Lib.hid (fun W => pt_Check l W hl)
  have HPP := Lib.hid (fun W => ref_PatternPieces l W hl)
  obtain ⟨S, hS⟩ : ∃ S : ByteArray, S = ⟨l.toArray⟩ := ⟨_, rfl⟩
  obtain ⟨PF, hPF⟩ : ∃ x, x = patFull l := ⟨_, rfl⟩
  obtain ⟨PE, hPE⟩ : ∃ x, x = patErr l := ⟨_, rfl⟩
  rw [← hS, ← hPF, ← hPE] at HFU
  rw [← hS, ← hPE] at HCH
  rw [← hS] at HPP ⊢
  have HPFX := Lib.hid hPF
  have HPEX := Lib.hid hPE
  clear hS hPF hPE
  go_enter Try.func3, Try.ntmps3
  go_wp2_with fail
  refine (pt_Full litL _ (by decide)).mono ?_
  rw [litFull, litErr]
  rintro e w1 ⟨rfl, hb⟩
  have B1 := Lib.hid hb; clear hb
  go_wp2_with fail
  refine (HFU.out _).mono ?_
  rintro e w2 ⟨rfl, hb⟩
  have B2 := Lib.hid (below_then B1.out hb); clear hb B1
  go_wp2_with fail
  refine (HPP.out _).mono ?_
  by_cases hbig : 60 < l.length
  · have e1 : PE = 2 := by rw [HPEX.out, patErr, if_pos hbig]
    have e2 : PF = false := by rw [HPFX.out, patFull, if_pos hbig]
    subst e1; subst e2
    rw [decide_eq_true hbig]
    unfold SplitPost
    rintro e w3 ⟨rfl, hb⟩
    have B3 := Lib.hid (below_then B2.out hb); clear hb B2 hbig hl
    go_wp2_with fail
    refine (HCH.out _).mono ?_
    rintro e w4 ⟨rfl, hb⟩
    have B4 := Lib.hid (below_then B3.out hb); clear hb B3
    go_wp2_with fail
    go_ret
    exact ⟨ret_bool (by simp), B4.out⟩
  · rw [decide_eq_false hbig]
    cases hq : splitT 61 [] l with
    | none =>
      have e1 : PE = 4 := by rw [HPEX.out, patErr, if_neg hbig, hq]
      have e2 : PF = false := by rw [HPFX.out, patFull, if_neg hbig, hq]
      subst e1; subst e2
      unfold SplitPost
      rintro e w3 ⟨rfl, hb⟩
      have B3 := Lib.hid (below_then B2.out hb); clear hb B2 hbig hl hq
      go_wp2_with fail
      refine (HCH.out _).mono ?_
      rintro e w4 ⟨rfl, hb⟩
      have B4 := Lib.hid (below_then B3.out hb); clear hb B3
      go_wp2_with fail
      go_ret
      exact ⟨ret_bool (by simp), B4.out⟩
    | some ps =>
      have e1 : PE = 0 := by rw [HPEX.out, patErr, if_neg hbig, hq]
      have e2 : PF = fullB ps := by rw [HPFX.out, patFull, if_neg hbig, hq]
      subst e1; subst e2
      have HW := Lib.hid (split_well _ _ _ _ hq)
      have HL := Lib.hid (split_len _ _ _ _ hq)
      have HN := Lib.hid (show ps.length ≤ 1000 by have := HL.out; omega)
      unfold SplitPost
      rintro e w3 ⟨v, rfl, hown, hb⟩
      obtain ⟨a, c, rfl, _, _, hrows⟩ := own_parts hown rfl
      have B3 := Lib.hid (below_then B2.out hb)
      obtain ⟨fb, hfb⟩ : ∃ b, b = fullB ps := ⟨_, rfl⟩
      have HPFULL := Lib.hid (fun W (h : RowsOf 2 encPc W W.heap.size a ps.length ps) => ref_PatternFull W ps a ps.length c h HW.out HN.out)
      rw [← hfb] at HPFULL ⊢
      have HRW := Lib.hid hrows; clear hb hrows hown B2 hbig hl hq hfb
      go_wp2_with fail
      refine (HPFULL.out _ HRW.out).mono ?_
      rintro e w4 ⟨rfl, hb⟩
      have B4 := Lib.hid (below_then B3.out hb); clear hb B3 HRW
      go_wp2_with fail
      refine (HCH.out _).mono ?_
      rintro e w5 ⟨rfl, hb⟩
      have B5 := Lib.hid (below_then B4.out hb); clear hb B4
      go_wp2_with fail
      go_ret
      exact ⟨ret_bool (by simp), B5.out⟩
theorem walk {H : Type} {enc : TypeId × Value → H} {v0 : Value} {d0 : DataW H} {p0 : List MemPlace} {base : Nat} (W : World)
    (o0 : Value.okWide Try.prog W .any base 9 v0) (h0 : DataW.Trod enc Try.prog W 0 (fun _ => true) true 9 v0 d0 p0) :
    Calls Try.prog 3 #[v0] W fun e w' => e = .returned (.bool true) ∧ Below W.heap.size W w' := by
  obtain ⟨s, rfl, rfl, rfl, hs⟩ := Go.ChangeMaps.open_string Try.underlying9 o0 h0
  have he : s = ⟨s.data.toList.toArray⟩ := str_eta s
  have hlim : s.data.toList.length ≤ 9223372036854775807 := by
    unfold maxLen at hs
    rw [str_len]; omega
  have := core s.data.toList W hlim
  rw [← he] at this
  exact this
end Go.Proofs.Ytjjmbnflhldoeac.patternChecksLaw
