/- recur.Parse: the place of a word in a list of words; the pairs of words, plain. -/
import Derived.Test.YtdmkghgachapaaaDoorRcp4
import Derived.Test.YtdmkghgachapaaaDoorRows2
import Derived.Test.YtdmkghgachapaaaDoorMonths
namespace Go.Proofs.YtdmkghgachapaaaDoor
set_option linter.unusedVariables false
set_option linter.unusedSimpArgs false
set_option maxRecDepth 100000
open Go.RowKit

theorem drop_rowR {α : Type} {xs : List α} {k : Nat} {x : α} (h : xs[k]? = some x) : xs.drop k = x :: xs.drop (k + 1) := by
  obtain ⟨hl, rfl⟩ := List.getElem?_eq_some_iff.1 h
  exact List.drop_eq_getElem_cons hl
def encT (s : ByteArray) : List Value := [.string s]
abbrev Txts (w : World) (B : Nat) (a : Option Addr) (n : Nat) (xs : List ByteArray) : Prop := RowsOf 1 encT w B a n xs
theorem txts_at {w : World} {B : Nat} {a : Option Addr} {n : Nat} {xs : List ByteArray} (h : Txts w B a n xs) {k : Nat} (hk : k < n) : ∃ b off s, a = some ⟨b, off, none⟩ ∧ b < B ∧ w.cell? ⟨b, off + k, none⟩ = some (.string s) ∧ xs[k]? = some s := by
  obtain ⟨b, off, e, hb, hc⟩ := h.2.2 (by omega)
  have hl : k < xs.length := by rw [h.1]; exact hk
  have hx := List.getElem?_eq_getElem hl
  have := hc k _ hx 0 _ rfl
  simp only [Nat.mul_one, Nat.add_zero] at this
  exact ⟨b, off, _, e, hb, this, hx⟩
def idxS (s : ByteArray) : List ByteArray → Nat → Int
  | [], _ => -1
  | x :: r, k => if s = x then (k : Int) else idxS s r (k + 1)
theorem idxS_cons (s x : ByteArray) (r : List ByteArray) (k : Nat) : idxS s (x :: r) k = if s = x then (k : Int) else idxS s r (k + 1) := by rw [idxS.eq_def]
def hasS (s : ByteArray) (l : List ByteArray) : Bool := l.any fun x => decide (s = x)
theorem idxS_has (s : ByteArray) : ∀ (l : List ByteArray) (k : Nat), decide (0 ≤ idxS s l k) = hasS s l
  | [], k => by simp [idxS, hasS]
  | x :: r, k => by
    have ih := idxS_has s r (k + 1)
    unfold hasS at ih ⊢
    rw [idxS_cons, List.any_cons]
    by_cases h : s = x
    · rw [if_pos h, decide_eq_true h]; simp
    · rw [if_neg h, ih, decide_eq_false h]; simp
theorem toList_backR {a b : ByteArray} (h : a.toList = b.toList) : a = b := by
  rw [ByteArray.toList_eq, ByteArray.toList_eq] at h
  cases a; cases b
  simpa using Array.toList_inj.1 h
set_option maxHeartbeats 1000000 in
theorem str_Index (w : World) (a : Option Addr) (n c : Nat) (xs : List ByteArray) (s : ByteArray) (B : Nat) (h : Txts w B a n xs) (hB : B ≤ w.heap.size) :
    Calls Tryd.prog 12 #[.slice a n c, .string s] w fun e w' => e = .returned (.int .i64 (idxS s xs 0)) ∧ w = w' := by
  have L1 := Lib.hid h.1
  have m1 := h.2.1
  have H := Lib.hid h; clear h
  go_enter Tryd.func12, Tryd.ntmps12
  go_wp2_with fail
  go_loop [5, 8] (fun _ i => ∃ k : Nat, k ≤ n ∧ i = .int .i64 k ∧ idxS s (xs.drop k) k = idxS s xs 0) (fun _ i => n - (intOf i).toNat)
  case atStart => exact ⟨0, by omega, rfl, rfl⟩
  case round =>
    obtain ⟨k, hk, rfl, hall⟩ := hrel
    have HA := Lib.hid hall; clear hall
    by_cases hlt : k < n
    · obtain ⟨b1, o1, x, rfl, hb1, hc1, hx⟩ := txts_at H.out hlt
      have HN := Lib.hid ((congrArg (fun l => idxS s l k) (drop_rowR hx)).symm.trans HA.out)
      clear hx
      have hbz : b1 < w.heap.size := by omega
      by_cases hq : s = x
      · have HF := Lib.hid (show (k : Int) = idxS s xs 0 by rw [← HN.out, idxS_cons, if_pos hq])
        have hb : (s.toList == x.toList) = true := by simp [hq]
        clear hq HN
        go_wp2_with fail
        go_ret
        exact ⟨by rw [← HF.out]; rfl, rfl⟩
      · have HF := Lib.hid (show idxS s (xs.drop (k + 1)) (k + 1) = idxS s xs 0 by rw [← HN.out, idxS_cons, if_neg hq])
        have hb : (s.toList == x.toList) = false := by
          rw [beq_eq_false_iff_ne]; exact fun e => hq (toList_backR e)
        clear hq HN
        go_wp2_with fail
        go_round
        case rel => exact ⟨k + 1, by omega, by go_num, HF.out⟩
        case measure => first | (simp [intOf]; done) | (simp [intOf]; omega)
    · have HE := Lib.hid (show idxS s xs 0 = -1 by
        rw [← HA.out, List.drop_eq_nil_of_le (by have := L1.out; omega)]; rfl)
      go_wp2_with fail
      go_ret
      exact ⟨by rw [HE.out]; rfl, rfl⟩
theorem pairsR_step (st : Tl) (w : List (List UInt8)) (i : Nat) (k v : List UInt8) (h1 : w[i]? = some k) (h2 : w[i + 1]? = some v) : pairsR st (w.drop i) = pairsR (stepR st k v) (w.drop (i + 2)) := by
  obtain ⟨l1, rfl⟩ := List.getElem?_eq_some_iff.1 h1
  obtain ⟨l2, rfl⟩ := List.getElem?_eq_some_iff.1 h2
  rw [List.drop_eq_getElem_cons l1, List.drop_eq_getElem_cons l2, pairsR]
theorem pairsR_end (st : Tl) (w : List (List UInt8)) (i : Nat) (h : w.length ≤ i + 1) : pairsR st (w.drop i) = st := by
  rcases Nat.lt_or_ge i w.length with hl | hl
  · have e : w.drop i = [w[i]] := by
      rw [List.drop_eq_getElem_cons hl, List.drop_eq_nil_of_le (by omega)]
    rw [e]; rfl
  · rw [List.drop_eq_nil_of_le hl]; rfl
/-- The five words of the units. -/
theorem idx_units (t : ByteArray) : idxS t [⟨#[]⟩, ⟨#[100, 97, 121]⟩, ⟨#[119, 101, 101, 107]⟩, ⟨#[109, 111, 110, 116, 104]⟩, ⟨#[121, 101, 97, 114]⟩] 0 = idxU t.data.toList := by
  have key : ∀ l : List UInt8, (t = ⟨l.toArray⟩) ↔ t.data.toList = l := fun l => by
    constructor
    · rintro rfl; simp
    · intro h; apply ByteArray.ext; apply Array.toList_inj.1; rw [h]
  rw [idxS_cons, idxS_cons, idxS_cons, idxS_cons, idxS_cons]
  unfold idxU
  simp only [show (t = (⟨#[]⟩ : ByteArray)) = (t.data.toList = []) from propext (key []), show (t = (⟨#[100, 97, 121]⟩ : ByteArray)) = (t.data.toList = [100, 97, 121]) from propext (key [100, 97, 121]), show (t = (⟨#[119, 101, 101, 107]⟩ : ByteArray)) = (t.data.toList = [119, 101, 101, 107]) from propext (key [119, 101, 101, 107]), show (t = (⟨#[109, 111, 110, 116, 104]⟩ : ByteArray)) = (t.data.toList = [109, 111, 110, 116, 104]) from propext (key [109, 111, 110, 116, 104]), show (t = (⟨#[121, 101, 97, 114]⟩ : ByteArray)) = (t.data.toList = [121, 101, 97, 114]) from propext (key [121, 101, 97, 114])]
  rfl
end Go.Proofs.YtdmkghgachapaaaDoor
