/- What frac.Read and the reference's FracRead answer, plain: the same. -/
import Derived.Test.YtfbmlbenffkpfabDoorTxt3
namespace Go.Proofs.YtfbmlbenffkpfabDoor
set_option linter.unusedVariables false
open Go.RowKit Num

def rdNum (l : List UInt8) : Int := atoiV (cutL l 47)
def rdDen (l : List UInt8) : Int := if cutB l 47 then atoiV (cutR l 47) else 1
def rdOk (l : List UInt8) : Bool := fracOk (rdNum l) (rdDen l) && ((fracS (rdNum l) (rdDen l)).data.toList == l)
def rfDen (l : List UInt8) : Int := if cutB l 47 then plainNum (cutR l 47) else 1
def rfPlain (l : List UInt8) : Bool := plainOk (cutL l 47) && (!cutB l 47 || (plainOk (cutR l 47) && decide (1 < plainNum (cutR l 47))))
def rfOk (l : List UInt8) : Bool := rfPlain l && fracOk (plainNum (cutL l 47)) (rfDen l)
theorem itoa_no47 (n : Int) : ∀ x ∈ Lib.itoa n, x ≠ 47 := by
  intro x hx
  have hd : ∀ u, ∀ y ∈ Lib.decDigits u, y ≠ (47 : UInt8) := by
    intro u y hy h
    have := dd_dig u y hy
    subst h
    simp [isDig] at this
  unfold Lib.itoa at hx
  split at hx
  · rcases List.mem_cons.1 hx with rfl | hx
    · decide
    · exact hd _ x hx
  · exact hd _ x hx
theorem frac_range {n d : Int} (h : fracOk n d = true) : 1 ≤ d ∧ d ≤ 2147483647 ∧ -2147483647 ≤ n ∧ n ≤ 2147483647 := by
  rcases fracOk_cases n d with ⟨_, a, b, c, e, _⟩ | ⟨hk, _⟩
  · exact ⟨a, b, c, e⟩
  · rw [h] at hk; cases hk
/-- The text of a fraction in order is read by both. -/
theorem read_show {n d : Int} (h : fracOk n d = true) {l : List UInt8} (hl : (fracS n d).data.toList = l) : rfOk l = true ∧ plainNum (cutL l 47) = n ∧ rfDen l = d := by
  obtain ⟨a, b, c, e⟩ := frac_range h
  rw [fracS_list] at hl
  obtain ⟨p1, p2⟩ := plain_itoa n (by omega) (by omega)
  obtain ⟨p3, p4⟩ := plain_itoa d (by omega) (by omega)
  by_cases hd : d = 1
  · rw [if_pos hd] at hl
    subst hl
    have h0 := cut_not (itoa_no47 n)
    obtain ⟨h1, h2⟩ := cutL_none h0
    refine ⟨?_, by rw [h1, p2], by unfold rfDen; rw [h0, hd]; rfl⟩
    unfold rfOk rfPlain rfDen
    rw [h0, h1, p1, p2]
    subst hd
    simpa using h
  · rw [if_neg hd] at hl
    subst hl
    obtain ⟨h0, h1, h2⟩ := cut_app (itoa_no47 n) (Lib.itoa d)
    refine ⟨?_, by rw [h1, p2], by unfold rfDen; rw [h0, h2, p4]; rfl⟩
    unfold rfOk rfPlain rfDen
    rw [h0, h1, h2, p1, p2, p3, p4, decide_eq_true (show 1 < d by omega)]
    simpa using h
/-- What the reference reads is written again. -/
theorem show_read {l : List UInt8} (h : rfOk l = true) : rdNum l = plainNum (cutL l 47) ∧ rdDen l = rfDen l ∧ rdOk l = true := by
  unfold rfOk at h
  rw [Bool.and_eq_true] at h
  obtain ⟨hp, hf⟩ := h
  unfold rfPlain at hp
  rw [Bool.and_eq_true] at hp
  obtain ⟨hp1, hp2⟩ := hp
  have i1 := itoa_plain hp1
  obtain ⟨b1, b2⟩ := plain_bound hp1
  have hn : rdNum l = plainNum (cutL l 47) := by
    unfold rdNum
    conv => lhs; rw [← i1]
    exact (atoiV_itoa (by omega) (by omega)).1
  by_cases hc : cutB l 47 = true
  · rw [hc, Bool.not_true, Bool.false_or, Bool.and_eq_true] at hp2
    obtain ⟨hp2, hp3⟩ := hp2
    have i2 := itoa_plain hp2
    obtain ⟨b3, b4⟩ := plain_bound hp2
    have hlt : 1 < plainNum (cutR l 47) := by simpa using hp3
    have hd : rdDen l = rfDen l := by
      unfold rdDen rfDen
      rw [if_pos hc, if_pos hc]
      conv => lhs; rw [← i2]
      exact (atoiV_itoa (by omega) (by omega)).1
    refine ⟨hn, hd, ?_⟩
    unfold rdOk
    rw [hn, hd, hf, fracS_list]
    have hden : rfDen l = plainNum (cutR l 47) := by unfold rfDen; rw [if_pos hc]
    rw [hden, if_neg (by omega), i1, i2]
    have := (cut_some hc).1
    rw [← this]; simp
  · have hc' : cutB l 47 = false := by simpa using hc
    have hd : rdDen l = rfDen l := by unfold rdDen rfDen; rw [if_neg hc, if_neg hc]
    have h1 : rfDen l = 1 := by unfold rfDen; rw [if_neg hc]
    refine ⟨hn, hd, ?_⟩
    unfold rdOk
    rw [hn, hd, hf, fracS_list, h1, if_pos rfl, i1, (cutL_none hc').1]; simp
theorem rd_rf (l : List UInt8) : rdOk l = rfOk l := by
  rw [Bool.eq_iff_iff]
  constructor
  · intro h
    unfold rdOk at h
    rw [Bool.and_eq_true] at h
    exact (read_show h.1 (by simpa using h.2)).1
  · intro h; exact (show_read h).2.2
def rdOut (l : List UInt8) : Value := if rdOk l then fracVal (rdNum l) (rdDen l) 0 else fracVal 0 0 4
theorem rdOut_ref (l : List UInt8) : rdOut l = if rfOk l then fracVal (plainNum (cutL l 47)) (rfDen l) 0 else fracVal 0 0 4 := by
  unfold rdOut
  rw [rd_rf]
  by_cases h : rfOk l = true
  · obtain ⟨a, b, _⟩ := show_read h
    rw [if_pos h, if_pos h, a, b]
  · rw [if_neg h, if_neg h]
end Go.Proofs.YtfbmlbenffkpfabDoor
