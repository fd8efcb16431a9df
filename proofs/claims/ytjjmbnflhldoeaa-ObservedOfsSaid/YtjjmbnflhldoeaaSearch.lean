/- Contracts of sort.Search, whatever the predicate, and of sort.SearchInts. -/
import Derived.Test.YtjjmbnflhldoeaaArith0
import Derived.Shelf.Abstract
namespace Go.Proofs.Ytjjmbnflhldoeaa
set_option linter.unusedVariables false
set_option maxRecDepth 100000
open Go.RowKit

def Found (n : Nat) (p : Nat → Bool) (w : World) (e : Ending) (w' : World) : Prop :=
  ∃ r : Nat, e = .returned (.int .i64 r) ∧ r ≤ n ∧ (∀ i, r = i + 1 → p i = false) ∧ (r < n → p r = true) ∧ Below w.heap.size w w'
set_option maxHeartbeats 1000000 in
theorem sort_Search (g : Nat) (lb : Array Value) (eg : ∀ args w, (callFunc g args).run Try.prog w = .ok (.enter g args) w) (n : Nat) (hn : n ≤ 4000000000000000000) (p : Nat → Bool) (w : World)
    (hp : ∀ (W : World) (i : Nat), i < n → Below w.heap.size w W → Calls Try.prog g (#[.int .i64 (i : Int)] ++ lb) W fun e w' => e = .returned (.bool (p i)) ∧ Below w.heap.size w w') :
    Calls Try.prog 92 #[.int .i64 (n : Int), .func (.func g) #[] lb] w (Found n p w) := by
  have HP := Lib.hid hp; clear hp
  go_enter Try.func92, Try.ntmps92
  go_wp2_with fail
  go_loopw [5, 6, 7] (fun i j _ wr => ∃ a b : Nat, a ≤ b ∧ b ≤ n ∧ i = .int .i64 (a : Int) ∧ j = .int .i64 (b : Int) ∧ (∀ k, a = k + 1 → p k = false) ∧ (b < n → p b = true) ∧ Below w.heap.size w wr) (fun i j _ _ => (intOf j).toNat - (intOf i).toNat)
  case atStart => exact ⟨0, n, by omega, by omega, rfl, rfl, fun k h => by omega, fun h => by omega, Below.refl _ _⟩
  case round =>
    obtain ⟨a, b, hab, hbn, rfl, rfl, ha, hb, hbe⟩ := hrel
    have HA := Lib.hid ha; have HB := Lib.hid hb; clear ha hb
    by_cases hlt : a < b
    · have hm : ((a : Int) + (b : Int)) / 2 = (((a + b) / 2 : Nat) : Int) := by omega
      obtain ⟨h, hh⟩ : ∃ h : Nat, h = (a + b) / 2 := ⟨_, rfl⟩
      rw [← hh] at hm
      have h1 : a ≤ h := by omega
      have h2 : h < b := by omega
      clear hh
      have hcall := HP.out wr h (by omega) hbe
      obtain ⟨v, hv⟩ : ∃ v, v = p h := ⟨_, rfl⟩
      rw [← hv] at hcall
      have HV := Lib.hid hv; clear hv
      cases v with
      | true =>
        go_wp2_with (go_at_fn g; refine hcall.mono ?_; rintro e w' ⟨rfl, hb'⟩)
        go_roundw
        case rel => exact ⟨a, h, by omega, by omega, rfl, rfl, HA.out, fun _ => HV.out.symm, hb'⟩
        case measure => simp [intOf]; omega
      | false =>
        go_wp2_with (go_at_fn g; refine hcall.mono ?_; rintro e w' ⟨rfl, hb'⟩)
        go_roundw
        case rel => exact ⟨h + 1, b, by omega, by omega, by go_num, rfl, fun k hk => by rw [show k = h by omega]; exact HV.out.symm, HB.out, hb'⟩
        case measure => simp [intOf]; omega
    · have hab' : a = b := by omega
      subst hab'
      go_wp2_with fail
      go_ret
      exact ⟨a, rfl, hbn, HA.out, HB.out, hbe⟩

theorem cnt_append (a b : List Int) (k : Int) : cnt (a ++ b) k = cnt a k + cnt b k := by unfold cnt; rw [List.filter_append, List.length_append]
theorem cnt_of {xs : List Int} {x : Int} {r : Nat} (hs : xs.Pairwise (· < ·)) (hr : r ≤ xs.length) (h1 : ∀ i, r = i + 1 → ∀ y, xs[i]? = some y → y < x) (h2 : ∀ y, xs[r]? = some y → x ≤ y) : cnt xs (x - 1) = r := by
  have hp := List.pairwise_iff_getElem.1 hs
  have e : xs = xs.take r ++ xs.drop r := (List.take_append_drop r xs).symm
  rw [e, cnt_append, cnt_all, cnt_zero, List.length_take]
  · omega
  · intro y hy
    obtain ⟨i, hi, rfl⟩ := List.getElem_of_mem hy
    rw [List.length_drop] at hi
    rw [List.getElem_drop]
    have h3 := h2 xs[r] (List.getElem?_eq_getElem (by omega))
    rcases Nat.eq_zero_or_pos i with rfl | hp0
    · simpa using (by omega : x - 1 < xs[r])
    · have := hp r (r + i) (by omega) (by omega) (by omega); omega
  · intro y hy
    obtain ⟨i, hi, rfl⟩ := List.getElem_of_mem hy
    rw [List.length_take] at hi
    rw [List.getElem_take]
    have h3 := h1 (r - 1) (by omega) xs[r - 1] (List.getElem?_eq_getElem (by omega))
    rcases Nat.lt_or_ge i (r - 1) with q | q
    · have := hp i (r - 1) (by omega) (by omega) q; omega
    · have : i = r - 1 := by omega
      subst this; omega
theorem searchInts_closure (w : World) (a : Option Addr) (n c : Nat) (xs : List Int) (x : Int) (B C : Nat) (h : Ints w w.heap.size a n xs) (hB : w.cell? ⟨B, 0, none⟩ = some (.slice a n c)) (hC : w.cell? ⟨C, 0, none⟩ = some (.int .i64 x)) (i : Nat) (hi : i < n) (y : Int) (hy : xs[i]? = some y) :
    Calls Try.prog 93 #[.int .i64 (i : Int), .pointer (some ⟨B, 0, none⟩), .pointer (some ⟨C, 0, none⟩)] w fun e w' => e = .returned (.bool (decide (x ≤ y))) ∧ Below w.heap.size w w' := by
  obtain ⟨b, off, y', rfl, hbB, cy, hx, y1, y2⟩ := h.at_ hi
  obtain rfl : y = y' := by rw [hx] at hy; injection hy with hy; exact hy.symm
  clear h hx hy
  go_enter Try.func93, Try.ntmps93
  go_wp2_with fail
  go_quiet (fail)
  go_wp2_with fail
  go_ret
  exact ⟨rfl, by (repeat' (first | exact Below.refl _ _ | assumption | refine Below.drew ?_ | refine below_drewN ?_ _ | refine below_new ?_ _ | refine below_set ?_ ?_ _ | refine below_then ?_ (by assumption) | refine below_drawn ?_ (by assumption) | exact Nat.le_refl _ | omega | (simp; done) | (simp; omega)))⟩
set_option maxHeartbeats 1000000 in
theorem sort_SearchInts (w : World) (a : Option Addr) (n c : Nat) (xs : List Int) (x : Int) (h : Ints w w.heap.size a n xs) (hs : xs.Pairwise (· < ·)) (hn : n ≤ 4000000000000000000) :
    Calls Try.prog 91 #[.slice a n c, .int .i64 x] w fun e w' => e = .returned (.int .i64 (cnt xs (x - 1) : Int)) ∧ Below w.heap.size w w' := by
  have l1 := Lib.hid h.1
  have HS := Lib.hid hs
  have H := Lib.hid h; clear h hs
  go_enter Try.func91, Try.ntmps91
  go_wp2_with fail
  have hb0 : Below w.heap.size w ((w.alloc (.cells #[.slice a n c] 22)).alloc (.cells #[.int .i64 x] 3)) := by (repeat' (first | exact Below.refl _ _ | assumption | refine Below.drew ?_ | refine below_drewN ?_ _ | refine below_new ?_ _ | refine below_set ?_ ?_ _ | refine below_then ?_ (by assumption) | refine below_drawn ?_ (by assumption) | exact Nat.le_refl _ | omega | (simp; done) | (simp; omega)))
  have q1 := (At.new w (.cells #[.slice a n c] 22)).alloc (.cells #[.int .i64 x] 3)
  have q2 := At.new1 w (.cells #[.slice a n c] 22) (.cells #[.int .i64 x] 3)
  generalize World.alloc (World.alloc w _) _ = W1 at hb0 q1 q2 ⊢
  refine (sort_Search 93 #[.pointer (some ⟨w.heap.size, 0, none⟩), .pointer (some ⟨w.heap.size + 1, 0, none⟩)] (enters_of Try.func93 (by kernel_rfl) rfl) n hn (fun i => decide (x ≤ (xs[i]?).getD 0)) W1 ?_).mono ?_
  · intro W i hi hbW
    have hxi : xs[i]? = some ((xs[i]?).getD 0) := by rw [List.getElem?_eq_getElem (by have := l1.out; omega)]; rfl
    have q3 := q1.below hbW q1.lt
    have q4 := q2.below hbW q2.lt
    have r3 := q3.cell 0; have r4 := q4.cell 0
    simp at r3 r4
    exact (searchInts_closure W a n c xs x _ _ (((H.out.below hb0 (Nat.le_refl _)).below hbW hb0.size).more (Nat.le_trans hb0.size hbW.size)) r3 r4 i hi _ hxi).mono fun e w' ⟨he, hb'⟩ => ⟨he, below_then hbW hb'⟩
  · rintro e w2 ⟨r, rfl, hr, hr1, hr2, hb2⟩
    have hres : cnt xs (x - 1) = r := cnt_of HS.out (by have := l1.out; omega) (fun i hi y hy => by have := hr1 i hi; simp [hy] at this; exact this) (fun y hy => by
      have hlt := (List.getElem?_eq_some_iff.1 hy).1
      have := hr2 (by have := l1.out; omega); simp [hy] at this; exact this)
    have HR := Lib.hid hres; clear hres hr1 hr2
    go_wp2_with fail
    go_ret
    exact ⟨ret_int (by rw [HR.out]), by (repeat' (first | exact Below.refl _ _ | assumption | refine Below.drew ?_ | refine below_drewN ?_ _ | refine below_new ?_ _ | refine below_set ?_ ?_ _ | refine below_then ?_ (by assumption) | refine below_drawn ?_ (by assumption) | exact Nat.le_refl _ | omega | (simp; done) | (simp; omega)))⟩
end Go.Proofs.Ytjjmbnflhldoeaa
