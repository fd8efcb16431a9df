/- Contracts of recur.listed, with slices.ContainsFunc and its closure. -/
import Derived.Test.YtdmkghgachapaaaGreatDoorRec0
import Derived.Test.YtdmkghgachapaaaGreatDoorMgA
import Derived.Test.YtdmkghgachapaaaGreatDoorOwn
namespace Go.Proofs.YtdmkghgachapaaaGreatDoor
set_option linter.unusedVariables false
set_option maxRecDepth 100000
open Go.RowKit

theorem ints_thenR {w w' : World} {a : Option Addr} {n : Nat} {xs : List Int} (h : Ints w w.heap.size a n xs) (hb : Below w.heap.size w w') : Ints w' w'.heap.size a n xs := (h.below hb (Nat.le_refl _)).more hb.size
theorem take_oneR {α : Type} {xs : List α} {k : Nat} {x : α} (h : xs[k]? = some x) : xs.take (k + 1) = xs.take k ++ [x] := by
  obtain ⟨hl, rfl⟩ := List.getElem?_eq_some_iff.1 h
  exact List.take_succ_eq_append_getElem hl
theorem listed_closure (w : World) (v : Int) (a : Option Addr) (n c : Nat) (ls : List Int) (B : Nat) (hB : B < w.heap.size) (hc : w.cell? ⟨B, 0, none⟩ = some (.slice a n c)) (h : Ints w w.heap.size a n ls) :
    Calls Tryz.prog 36 #[.int .i64 v, .pointer (some ⟨B, 0, none⟩)] w fun e w' => e = .returned (.bool (hasB v ls)) ∧ Below w.heap.size w w' := by
  have H := Lib.hid h; clear h
  go_enter Tryz.func36, Tryz.ntmps36
  go_wp2_with fail
  refine (slices_Contains _ _ _ _ ls v _ H.out).mono ?_
  rintro e w1 ⟨rfl, rfl⟩
  go_wp2_with fail
  go_ret
  exact ⟨rfl, by (repeat' (first | exact Below.refl _ _ | assumption | refine Below.drew ?_ | refine below_drewN ?_ _ | refine below_new ?_ _ | refine below_set ?_ ?_ _ | refine below_then ?_ (by assumption) | refine below_drawn ?_ (by assumption) | exact Nat.le_refl _ | omega | (simp; done) | (simp; omega)))⟩
def anyB (ls vs : List Int) : Bool := vs.any fun v => hasB v ls
def idxR (ls vs : List Int) (w : World) (e : Ending) (w' : World) : Prop :=
  ∃ i : Int, e = .returned (.int .i64 i) ∧ decide (0 ≤ i) = anyB ls vs ∧ Below w.heap.size w w'
set_option maxHeartbeats 2000000 in
theorem indexFunc_listed (w : World) (p a : Option Addr) (m mc n c : Nat) (vs ls : List Int) (B : Nat) (hv : Ints w w.heap.size p m vs) (h : Ints w w.heap.size a n ls) (hB : B < w.heap.size) (hc : w.cell? ⟨B, 0, none⟩ = some (.slice a n c)) :
    Calls Tryz.prog 61 #[.slice p m mc, .func (.func 36) #[] #[.pointer (some ⟨B, 0, none⟩)]] w (idxR ls vs w) := by
  have l1 := Lib.hid hv.1
  have m1 := hv.2.1
  have HV := Lib.hid hv; have H := Lib.hid h; clear hv h
  have HC := Lib.hid hc; clear hc
  go_enter Tryz.func61, Tryz.ntmps61
  go_wp2_with fail
  go_loopw [5, 8] (fun _ i wr => ∃ k : Nat, k ≤ m ∧ i = .int .i64 k ∧ anyB ls (vs.take k) = false ∧ Below w.heap.size w wr) (fun _ i _ => m - (intOf i).toNat)
  case atStart => exact ⟨0, by omega, rfl, by simp [anyB], Below.refl _ _⟩
  case round =>
    obtain ⟨k, hk, rfl, hall, hb⟩ := hrel
    have HA := Lib.hid hall; clear hall
    by_cases hlt : k < m
    · obtain ⟨b, off, v, rfl, hbB, cv, hx, v1, v2⟩ := (ints_thenR HV.out hb).at_ hlt
      have HX := Lib.hid hx; clear hx
      have hcl := listed_closure wr v a n c ls B (Nat.lt_of_lt_of_le hB hb.size) ((hb.cell (p := ⟨B, 0, none⟩) hB).trans HC.out) (ints_thenR H.out hb)
      have hnext := Lib.hid (show anyB ls (vs.take (k + 1)) = hasB v ls by unfold anyB; rw [take_oneR HX.out, List.any_append]; have := HA.out; unfold anyB at this; rw [this]; simp)
      generalize hasB v ls = bb at hcl hnext
      cases bb with
      | true =>
        go_wp2_with (go_at_call 36; refine hcl.mono ?_; rintro e w' ⟨rfl, hb'⟩)
        go_ret
        refine ⟨k, rfl, ?_, below_then hb hb'⟩
        have hn := hnext.out
        unfold anyB at hn ⊢
        rw [decide_eq_true (by omega), eq_comm, List.any_eq_true]
        obtain ⟨x, hx, hxx⟩ := List.any_eq_true.1 hn
        exact ⟨x, List.mem_of_mem_take hx, hxx⟩
      | false =>
        go_wp2_with (go_at_call 36; refine hcl.mono ?_; rintro e w' ⟨rfl, hb'⟩)
        go_roundw
        case rel => exact ⟨k + 1, by omega, by go_num, hnext.out, below_then hb hb'⟩
        case measure => first | (simp [intOf]; done) | (simp [intOf]; omega)
    · obtain rfl : k = m := by omega
      have hl := HA.out
      rw [List.take_of_length_le (by have := l1.out; omega)] at hl
      go_wp2_with fail
      go_ret
      exact ⟨-1, rfl, by rw [hl]; rfl, hb⟩
theorem containsFunc_listed (w : World) (p a : Option Addr) (m mc n c : Nat) (vs ls : List Int) (B : Nat) (hv : Ints w w.heap.size p m vs) (h : Ints w w.heap.size a n ls) (hB : B < w.heap.size) (hc : w.cell? ⟨B, 0, none⟩ = some (.slice a n c)) :
    Calls Tryz.prog 35 #[.slice p m mc, .func (.func 36) #[] #[.pointer (some ⟨B, 0, none⟩)]] w fun e w' => e = .returned (.bool (anyB ls vs)) ∧ Below w.heap.size w w' := by
  have HV := Lib.hid hv; have H := Lib.hid h; have HC := Lib.hid hc; clear hv h hc
  go_enter Tryz.func35, Tryz.ntmps35
  go_wp2_with fail
  refine (indexFunc_listed _ _ _ _ _ _ _ vs ls _ HV.out H.out hB HC.out).mono ?_
  rintro e w1 ⟨i, rfl, hd, hb⟩
  have HI := Lib.hid hd
  clear hd
  go_wp2_with fail
  go_ret
  exact ⟨ret_bool HI.out, hb⟩
def listedB (ls vs : List Int) : Bool := decide (ls.length = 0) || anyB ls vs
set_option maxHeartbeats 2000000 in
theorem recur_listed (w : World) (p a : Option Addr) (m mc n c : Nat) (vs ls : List Int) (hv : Ints w w.heap.size p m vs) (h : Ints w w.heap.size a n ls) :
    Calls Tryz.prog 18 #[.slice a n c, .slice p m mc] w fun e w' => e = .returned (.bool (listedB ls vs)) ∧ Below w.heap.size w w' := by
  have l1 := h.1
  have HV := Lib.hid hv; have H := Lib.hid h; clear hv h
  have b0 := below_new (Below.refl w.heap.size w) (.cells #[.slice a n c] 22)
  have a0 := At.new w (.cells #[.slice a n c] 22)
  by_cases h0 : n = 0
  · subst h0
    have HR := Lib.hid (show listedB ls vs = true by unfold listedB; rw [decide_eq_true l1]; rfl)
    clear l1
    go_enter Tryz.func18, Tryz.ntmps18
    go_wp2_with fail
    go_ret
    exact ⟨by rw [HR.out]; rfl, by (repeat' (first | exact Below.refl _ _ | assumption | refine Below.drew ?_ | refine below_drewN ?_ _ | refine below_new ?_ _ | refine below_set ?_ ?_ _ | refine below_then ?_ (by assumption) | refine below_drawn ?_ (by assumption) | exact Nat.le_refl _ | omega | (simp; done) | (simp; omega)))⟩
  · have HR := Lib.hid (show listedB ls vs = anyB ls vs by unfold listedB; rw [decide_eq_false (by omega)]; rfl)
    have hne : ((n : Int) == 0) = false := by simp; omega
    clear l1
    go_enter Tryz.func18, Tryz.ntmps18
    go_wp2_with fail
    refine (containsFunc_listed _ p a m mc n c vs ls w.heap.size (ints_thenR HV.out b0) (ints_thenR H.out b0) a0.lt (a0.cell 0)).mono ?_
    rintro e w1 ⟨rfl, hb⟩
    go_wp2_with fail
    go_ret
    exact ⟨by rw [HR.out]; rfl, below_then b0 hb⟩
end Go.Proofs.YtdmkghgachapaaaGreatDoor
