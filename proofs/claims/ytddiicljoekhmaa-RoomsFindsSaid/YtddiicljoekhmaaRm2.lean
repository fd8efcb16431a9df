/- rooms: Index at names, find, taken, Free. -/
import Derived.Test.YtddiicljoekhmaaRm1
namespace Go.Proofs.Ytddiicljoekhmaa
set_option linter.unusedVariables false
set_option maxRecDepth 100000
open Go.RowKit

def encT (s : ByteArray) : List Value := [.string s]
abbrev Txts (w : World) (B : Nat) (a : Option Addr) (n : Nat) (xs : List ByteArray) : Prop := RowsOf 1 encT w B a n xs
theorem txts_at {w : World} {B : Nat} {a : Option Addr} {n : Nat} {xs : List ByteArray} (h : Txts w B a n xs) {k : Nat} (hk : k < n) : ∃ b off s, a = some ⟨b, off, none⟩ ∧ b < B ∧ w.cell? ⟨b, off + k, none⟩ = some (.string s) ∧ xs[k]? = some s := by
  obtain ⟨b, off, e, hb, hc⟩ := h.2.2 (by omega)
  have hl : k < xs.length := by rw [h.1]; exact hk
  have hx := List.getElem?_eq_getElem hl
  have := hc k _ hx 0 _ rfl
  simp only [Nat.mul_one, Nat.add_zero] at this
  exact ⟨b, off, _, e, hb, this, hx⟩
def idxS (s : ByteArray) : List ByteArray → Nat → Int
  | [], _ => -1
  | x :: r, k => if s = x then (k : Int) else idxS s r (k + 1)
theorem idxS_cons (s x : ByteArray) (r : List ByteArray) (k : Nat) : idxS s (x :: r) k = if s = x then (k : Int) else idxS s r (k + 1) := by rw [idxS.eq_def]
def hasS (s : ByteArray) (l : List ByteArray) : Bool := l.any fun x => decide (s = x)
theorem idxS_has (s : ByteArray) : ∀ (l : List ByteArray) (k : Nat), decide (0 ≤ idxS s l k) = hasS s l
  | [], k => by simp [idxS, hasS]
  | x :: r, k => by
    have ih := idxS_has s r (k + 1)
    unfold hasS at ih ⊢
    rw [idxS_cons, List.any_cons]
    by_cases h : s = x
    · rw [if_pos h, decide_eq_true h]; simp
    · rw [if_neg h, ih, decide_eq_false h]; simp
theorem toList_backR {a b : ByteArray} (h : a.toList = b.toList) : a = b := by
  rw [ByteArray.toList_eq, ByteArray.toList_eq] at h
  cases a; cases b
  simpa using Array.toList_inj.1 h
set_option maxHeartbeats 1000000 in
theorem str_Index (w : World) (a : Option Addr) (n c : Nat) (xs : List ByteArray) (s : ByteArray) (B : Nat) (h : Txts w B a n xs) (hB : B ≤ w.heap.size) :
    Calls Try.prog 26 #[.slice a n c, .string s] w fun e w' => e = .returned (.int .i64 (idxS s xs 0)) ∧ w = w' := by
  have L1 := Lib.hid h.1
  have m1 := h.2.1
  have H := Lib.hid h; clear h
  go_enter Try.func26, Try.ntmps26
  go_wp2_with fail
  go_loop [5, 8] (fun _ i => ∃ k : Nat, k ≤ n ∧ i = .int .i64 k ∧ idxS s (xs.drop k) k = idxS s xs 0) (fun _ i => n - (intOf i).toNat)
  case atStart => exact ⟨0, by omega, rfl, rfl⟩
  case round =>
    obtain ⟨k, hk, rfl, hall⟩ := hrel
    have HA := Lib.hid hall; clear hall
    by_cases hlt : k < n
    · obtain ⟨b1, o1, x, rfl, hb1, hc1, hx⟩ := txts_at H.out hlt
      have HN := Lib.hid ((congrArg (fun l => idxS s l k) (drop_row hx)).symm.trans HA.out)
      clear hx
      have hbz : b1 < w.heap.size := by omega
      by_cases hq : s = x
      · have HF := Lib.hid (show (k : Int) = idxS s xs 0 by rw [← HN.out, idxS_cons, if_pos hq])
        have hb : (s.toList == x.toList) = true := by simp [hq]
        clear hq HN
        go_wp2_with fail
        go_ret
        exact ⟨by rw [← HF.out]; rfl, rfl⟩
      · have HF := Lib.hid (show idxS s (xs.drop (k + 1)) (k + 1) = idxS s xs 0 by rw [← HN.out, idxS_cons, if_neg hq])
        have hb : (s.toList == x.toList) = false := by
          rw [beq_eq_false_iff_ne]; exact fun e => hq (toList_backR e)
        clear hq HN
        go_wp2_with fail
        go_round
        case rel => exact ⟨k + 1, by omega, by go_num, HF.out⟩
        case measure => first | (simp [intOf]; done) | (simp [intOf]; omega)
    · have HE := Lib.hid (show idxS s xs 0 = -1 by
        rw [← HA.out, List.drop_eq_nil_of_le (by have := L1.out; omega)]; rfl)
      go_wp2_with fail
      go_ret
      exact ⟨by rw [HE.out]; rfl, rfl⟩
theorem str_Contains (w : World) (a : Option Addr) (n c : Nat) (xs : List ByteArray) (s : ByteArray) (B : Nat) (h : Txts w B a n xs) (hB : B ≤ w.heap.size) :
    Calls Try.prog 9 #[.slice a n c, .string s] w fun e w' => e = .returned (.bool (hasS s xs)) ∧ w = w' := by
  have HI := Lib.hid (idxS_has s xs 0)
  have H := Lib.hid h; clear h
  go_enter Try.func9, Try.ntmps9
  go_wp2_with fail
  refine (str_Index _ _ _ _ _ _ _ H.out hB).mono ?_
  rintro e w1 ⟨rfl, rfl⟩
  go_wp2_with fail
  go_ret
  exact ⟨ret_bool HI.out, rfl⟩
def one3 : ByteArray := ⟨#[111, 110, 101]⟩
def two3 : ByteArray := ⟨#[116, 119, 111]⟩
/-- Two rooms: the pair of rows, their names, the bookings of each. -/
structure RoomsAt (W : World) (P gn gb cn : Nat) (v1 v2 : Value) : Prop where
  at_ : At W P (.cells #[.slice (some ⟨gn, 0, none⟩) 2 cn, .slice (some ⟨gb, 0, none⟩) 2 2] 61)
  names : Txts W W.heap.size (some ⟨gn, 0, none⟩) 2 [one3, two3]
  rows : At W gb (.cells #[v1, v2] 33)
theorem RoomsAt.then_ {W W' : World} {P gn gb cn : Nat} {v1 v2 : Value} (h : RoomsAt W P gn gb cn v1 v2) (hb : Below W.heap.size W W') : RoomsAt W' P gn gb cn v1 v2 :=
  ⟨h.at_.then_ hb, (h.names.below hb (Nat.le_refl _)).more hb.size, h.rows.then_ hb⟩
def roomNo (s : ByteArray) : Int := if s = one3 then 0 else if s = two3 then 1 else -1
theorem idx_room (s : ByteArray) : idxS s [one3, two3] 0 = roomNo s := by
  rw [idxS_cons, idxS_cons]; rfl
theorem rooms_find (w : World) (P gn gb cn : Nat) (v1 v2 : Value) (s : ByteArray) (h : RoomsAt w P gn gb cn v1 v2) :
    Calls Try.prog 28 #[.pointer (some ⟨P, 0, none⟩), .string s] w fun e w' => e = .returned (.int .i64 (roomNo s)) ∧ w = w' := by
  have x0 : w.cell? ⟨P, 0, none⟩ = some (.slice (some ⟨gn, 0, none⟩) 2 cn) := h.at_.cell 0
  have H := Lib.hid h; clear h
  go_enter Try.func28, Try.ntmps28
  go_wp2_with fail
  refine (str_Index _ _ _ _ _ s _ H.out.names (Nat.le_refl _)).mono ?_
  rw [idx_room]
  rintro e w1 ⟨rfl, rfl⟩
  go_wp2_with fail
  go_ret
  exact ⟨rfl, rfl⟩
theorem bkg_ContainsFunc (w : World) (a : Option Addr) (n c : Nat) (xs : List Bkg) (bt bf : Nat) (to_ from_ : Int) (h : Bkgs w w.heap.size a n xs) (hbt : bt < w.heap.size) (cbt : w.cell? ⟨bt, 0, none⟩ = some (.int .i64 to_)) (hbf : bf < w.heap.size) (cbf : w.cell? ⟨bf, 0, none⟩ = some (.int .i64 from_)) :
    Calls Try.prog 41 #[.slice a n c, .func (.func 42) #[] #[.pointer (some ⟨bt, 0, none⟩), .pointer (some ⟨bf, 0, none⟩)]] w fun e w' => e = .returned (.bool (xs.any (lapB from_ to_))) ∧ Below w.heap.size w w' := by
  have HI := Lib.hid (idxP_any (lapB from_ to_) xs 0)
  have HC := Lib.hid (taken_index w a n c xs bt bf to_ from_ h hbt cbt hbf cbf)
  clear h hbt cbt hbf cbf
  go_enter Try.func41, Try.ntmps41
  go_wp2_with fail
  refine HC.out.mono ?_
  rintro e w1 ⟨rfl, hb⟩
  go_wp2_with fail
  go_ret
  exact ⟨ret_bool HI.out, hb⟩
/-- The row of room k. -/
def rowV (k : Nat) (v1 v2 : Value) : Value := if k = 0 then v1 else v2
theorem rooms_taken (w : World) (P gn gb cn : Nat) (v1 v2 : Value) (k : Nat) (a : Option Addr) (n c : Nat) (xs : List Bkg) (f t : Int) (hk : k < 2) (h : RoomsAt w P gn gb cn v1 v2) (hv : rowV k v1 v2 = .slice a n c) (hx : Bkgs w w.heap.size a n xs) :
    Calls Try.prog 30 #[.pointer (some ⟨P, 0, none⟩), .int .i64 (k : Int), .int .i64 f, .int .i64 t] w fun e w' => e = .returned (.bool (xs.any (lapB f t))) ∧ Below w.heap.size w w' := by
  have hP := h.at_.lt; have hg := h.rows.lt
  have x1 : w.cell? ⟨P, 1, none⟩ = some (.slice (some ⟨gb, 0, none⟩) 2 2) := h.at_.cell 1
  have y : w.cell? ⟨gb, k, none⟩ = some (.slice a n c) := by
    rw [h.rows.cell, ← hv]
    match k, hk with
    | 0, _ => rfl
    | 1, _ => rfl
  have H := Lib.hid h; have HX := Lib.hid hx; clear h hv hx
  go_enter Try.func30, Try.ntmps30
  go_wp2_with fail
  have hb : Below w.heap.size w ((w.alloc (.cells #[.int .i64 f] 3)).alloc (.cells #[.int .i64 t] 3)) := by (repeat' (first | exact Below.refl _ _ | assumption | refine Below.drew ?_ | refine below_drewN ?_ _ | refine below_new ?_ _ | refine below_set ?_ ?_ _ | refine below_then ?_ (by assumption) | refine below_drawn ?_ (by assumption) | exact Nat.le_refl _ | omega | (simp; done) | (simp; omega)))
  have a0 := (At.new w (.cells #[.int .i64 f] 3)).alloc (.cells #[.int .i64 t] 3)
  have a1 := At.new1 w (.cells #[.int .i64 f] 3) (.cells #[.int .i64 t] 3)
  generalize World.alloc (World.alloc w _) _ = W1 at hb a0 a1 ⊢
  refine (bkg_ContainsFunc _ a n c xs (w.heap.size + 1) w.heap.size t f (HX.out.then_ hb) a1.lt (a1.cell 0) a0.lt (a0.cell 0)).mono ?_
  rintro e w2 ⟨rfl, hb2⟩
  go_wp2_with fail
  go_ret
  exact ⟨rfl, below_then hb hb2⟩
end Go.Proofs.Ytddiicljoekhmaa
