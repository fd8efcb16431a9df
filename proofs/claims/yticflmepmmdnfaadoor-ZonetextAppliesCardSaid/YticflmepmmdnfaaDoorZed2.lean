/- Contracts of zonetext.edit's comparing and of the search by it. -/
import Derived.Test.YticflmepmmdnfaaDoorZedK
namespace Go.Proofs.YticflmepmmdnfaaDoor
set_option linter.unusedVariables false
set_option maxRecDepth 100000
open Go.RowKit

def cmpT (x t : Int) : Int := if x < t then -1 else if t < x then 1 else 0
set_option maxHeartbeats 1000000 in
theorem zed_cmp (w : World) (x o t : Int) (l : ByteArray) :
    Calls Tryd.prog 41 #[.agg #[.int .i64 x, .int .i64 o, .string l], .int .i64 t] w fun e w' => e = .returned (.int .i64 (cmpT x t)) ∧ Below w.heap.size w w' := by
  have HC := Lib.hid (show cmpT x t = if x < t then -1 else if t < x then 1 else 0 from rfl)
  have hc : x < t ∨ (¬ x < t ∧ t < x) ∨ (¬ x < t ∧ ¬ t < x) := by omega
  rcases hc with h1 | ⟨h1, h2⟩ | ⟨h1, h2⟩
  · have HF := Lib.hid (HC.out.trans (if_pos h1))
    clear HC
    go_enter Tryd.func41, Tryd.ntmps41
    go_wp2_with fail
    go_ret
    exact ⟨by rw [HF.out]; rfl, by (repeat' (first | exact Below.refl _ _ | assumption | refine Below.drew ?_ | refine below_drewN ?_ _ | refine below_new ?_ _ | refine below_set ?_ ?_ _ | refine below_then ?_ (by assumption) | refine below_drawn ?_ (by assumption) | exact Nat.le_refl _ | omega | (simp; done) | (simp; omega)))⟩
  · have HF := Lib.hid (HC.out.trans ((if_neg h1).trans (if_pos h2)))
    clear HC
    go_enter Tryd.func41, Tryd.ntmps41
    go_wp2_with fail
    go_ret
    exact ⟨by rw [HF.out]; rfl, by (repeat' (first | exact Below.refl _ _ | assumption | refine Below.drew ?_ | refine below_drewN ?_ _ | refine below_new ?_ _ | refine below_set ?_ ?_ _ | refine below_then ?_ (by assumption) | refine below_drawn ?_ (by assumption) | exact Nat.le_refl _ | omega | (simp; done) | (simp; omega)))⟩
  · have HF := Lib.hid (HC.out.trans ((if_neg h1).trans (if_neg h2)))
    clear HC
    go_enter Tryd.func41, Tryd.ntmps41
    go_wp2_with fail
    go_ret
    exact ⟨by rw [HF.out]; rfl, by (repeat' (first | exact Below.refl _ _ | assumption | refine Below.drew ?_ | refine below_drewN ?_ _ | refine below_new ?_ _ | refine below_set ?_ ?_ _ | refine below_then ?_ (by assumption) | refine below_drawn ?_ (by assumption) | exact Nat.le_refl _ | omega | (simp; done) | (simp; omega)))⟩
theorem cntT_len {xs : List Chg} {t : Int} (ho : Ord xs) {k : Nat} {x : Chg} (hx : xs[k]? = some x) (h : x.1 < t) : ∀ i y, i < k + 1 → xs[i]? = some y → y.1 < t := by
  intro i y hi hy
  have h1 := (cntT_spec xs t ho k x hx).1 h
  exact (cntT_spec xs t ho i y hy).2 (by omega)
theorem cntT_gen {xs : List Chg} {t : Int} (ho : Ord xs) {k : Nat} {x : Chg} (hx : xs[k]? = some x) (h : ¬ x.1 < t) : ∀ i y, k ≤ i → xs[i]? = some y → t ≤ y.1 := by
  intro i y hi hy
  rcases Int.lt_or_le y.1 t with h2 | h2
  case inr => exact h2
  exfalso
  have h1 := (cntT_spec xs t ho i y hy).1 h2
  exact h ((cntT_spec xs t ho k x hx).2 (by omega))
set_option maxHeartbeats 4000000 in
theorem zed_search (w : World) (a : Option Addr) (n c : Nat) (xs : List Chg) (t : Int) (ho : Ord xs) (hn : n ≤ 1000000) (h : Changes w w.heap.size a n xs) :
    Calls Tryd.prog 40 #[.slice a n c, .int .i64 t, .func (.func 41) #[] #[]] w fun e w' => e = .returned (.tuple #[.int .i64 (cntT xs t), .bool (hasT xs t)]) ∧ Below w.heap.size w w' := by
  have L1 := Lib.hid h.len
  have H := Lib.hid h; clear h
  have HO := Lib.hid ho; clear ho
  go_enter Tryd.func40, Tryd.ntmps40
  go_wp2_with fail
  go_loopw [9, 10, 11] (fun vi vj _ wr => ∃ i j : Nat, i ≤ j ∧ j ≤ n ∧ vi = .int .i64 i ∧ vj = .int .i64 j ∧ (∀ p y, p < i → xs[p]? = some y → y.1 < t) ∧ (∀ p y, j ≤ p → xs[p]? = some y → t ≤ y.1) ∧ Below w.heap.size w wr) (fun vi vj _ _ => (intOf vj).toNat - (intOf vi).toNat)
  case atStart =>
    refine ⟨0, n, by omega, by omega, rfl, rfl, fun p y h _ => absurd h (by omega), ?_, Below.refl _ _⟩
    intro p y h hy
    rw [List.getElem?_eq_none (show xs.length ≤ p by have := L1.out; omega)] at hy; cases hy
  case round =>
    obtain ⟨i, j, hij, hjn, rfl, rfl, hlo, hhi, hb⟩ := hrel
    have HLO := Lib.hid hlo; have HHI := Lib.hid hhi; clear hlo hhi
    have HB := Lib.hid hb
    by_cases hlt : i < j
    · have hm1 : i ≤ (i + j) / 2 := by omega
      have hm2 : (i + j) / 2 < j := by omega
      obtain ⟨b1, o1, rfl, hbB, hcs⟩ := (H.out.below hb (Nat.le_refl _)).open_ (by omega)
      obtain ⟨x, o, l, k0, k1, k2, hx, _⟩ := hcs ((i + j) / 2) (by omega)
      have HX := Lib.hid hx
      clear hcs hx hb
      have hw1 : IntKind.i64.wrap ((i : Int) + (j : Int)) = (i : Int) + (j : Int) := IntWalk.i64_in _ (by omega)
      by_cases hc : x < t
      · have HN := Lib.hid (cntT_len HO.out HX.out hc)
        have HC := Lib.hid (show cmpT x t = -1 from if_pos hc)
        clear hc
        go_wp2_with fail
        refine (zed_cmp _ x o t l).mono ?_; rw [HC.out]; rintro e w2 ⟨rfl, hb2⟩
        go_wp2_with fail
        go_roundw
        case rel => exact ⟨(i + j) / 2 + 1, j, by omega, hjn, by go_num, rfl, HN.out, HHI.out, below_then HB.out hb2⟩
        case measure => first | (simp [intOf]; done) | (simp [intOf]; omega)
      · have HN := Lib.hid (cntT_gen HO.out HX.out hc)
        have HC := Lib.hid (show ¬ cmpT x t < 0 by unfold cmpT; rw [if_neg hc]; split <;> omega)
        obtain ⟨z, hz⟩ : ∃ z, z = cmpT x t := ⟨_, rfl⟩
        clear hc
        go_wp2_with fail
        refine (zed_cmp _ x o t l).mono ?_; rw [← hz] at HC ⊢; have hz0 := HC.out; clear HC; rintro e w2 ⟨rfl, hb2⟩
        go_wp2_with fail
        go_roundw
        case rel => exact ⟨i, (i + j) / 2, by omega, by omega, rfl, by go_num, HLO.out, HN.out, below_then HB.out hb2⟩
        case measure => first | (simp [intOf]; done) | (simp [intOf]; omega)
    · obtain rfl : j = i := by omega
      have HU := Lib.hid (cntT_uniq HO.out (by have := L1.out; omega) HLO.out (fun p y h1 h2 => Int.not_lt.2 (HHI.out p y h1 h2)))
      have HH := Lib.hid (hasT_at (t := t) HO.out)
      rw [HU.out] at HH
      by_cases hlt2 : j < n
      · obtain ⟨b1, o1, rfl, hbB, hcs⟩ := (H.out.below hb (Nat.le_refl _)).open_ (by omega)
        obtain ⟨x, o, l, k0, k1, k2, hx, _⟩ := hcs j (by omega)
        have HX := Lib.hid hx
        have HD := Lib.hid (show t ≤ x from HHI.out j _ (Nat.le_refl _) hx)
        clear hcs hx hb
        have HH2 := Lib.hid (show hasT xs t = decide (x = t) by have := HH.out; rw [HX.out] at this; exact this)
        clear HH
        by_cases hc : x = t
        · have HC := Lib.hid (show cmpT x t = 0 by unfold cmpT; rw [if_neg (by omega), if_neg (by omega)])
          have HF := Lib.hid (HH2.out.trans (decide_eq_true hc))
          clear hc HH2 HD HX
          go_wp2_with fail
          refine (zed_cmp _ x o t l).mono ?_; rw [HC.out]; rintro e w2 ⟨rfl, hb2⟩
          go_wp2_with fail
          go_ret2
          exact ⟨by rw [HF.out, HU.out]; rfl, below_then HB.out hb2⟩
        · have HC := Lib.hid (show cmpT x t = 1 by unfold cmpT; have := HD.out; rw [if_neg (by omega), if_pos (by omega)])
          have HF := Lib.hid (HH2.out.trans (decide_eq_false hc))
          clear hc HH2 HD HX
          go_wp2_with fail
          refine (zed_cmp _ x o t l).mono ?_; rw [HC.out]; rintro e w2 ⟨rfl, hb2⟩
          go_wp2_with fail
          go_ret2
          exact ⟨by rw [HF.out, HU.out]; rfl, below_then HB.out hb2⟩
      · have HF := Lib.hid (show hasT xs t = false by have := HH.out; rw [List.getElem?_eq_none (by have := L1.out; omega)] at this; exact this)
        clear HH hb
        go_wp2_with fail
        go_ret2
        exact ⟨by rw [HF.out, HU.out]; rfl, HB.out⟩
end Go.Proofs.YticflmepmmdnfaaDoor
