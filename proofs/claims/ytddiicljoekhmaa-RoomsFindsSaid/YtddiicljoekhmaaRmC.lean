/- books.bookError. -/
import Derived.Test.YtddiicljoekhmaaRmU
import Derived.Test.YtddiicljoekhmaaLex
import Derived.Deep.Cut
import Derived.Deep.CutRange
namespace Go.Proofs.Ytddiicljoekhmaa
set_option linter.unusedVariables false
set_option linter.unusedSimpArgs false
set_option maxRecDepth 100000
open Go.RowKit

set_option maxHeartbeats 4000000 in
theorem books_bookError (w : World) (b : Nat) (a : Option Addr) (n c : Nat) (xs : List Bkg) (r : ByteArray) (f t : Int) (x : ByteArray) (hbl : b < w.heap.size) (hbc : w.cell? ⟨b, 0, none⟩ = some (.slice a n c)) (h : Bkgs w w.heap.size a n xs) (hok : okBkg (r, f, t, x)) :
    Calls Try.prog 12 #[.pointer (some ⟨b, 0, none⟩), .agg #[.string r, .int .i64 f, .int .i64 t, .string x]] w fun e w' => e = .returned (.int .i64 (plainE r f t x xs)) ∧ Below w.heap.size w w' := by
  have HO := Lib.hid (show plainE r f t x xs = if roomNo r < 0 then 5 else if isName x = false then 5 else if stretchE f t ≠ 0 then stretchE f t else if xs.any (lapR r f t) = true then 7 else 0 from rfl)
  have HST := Lib.hid (show stretchE f t = if (instB f && instB t) = false then 3 else if t ≤ f then 9 else 0 from rfl)
  obtain ⟨hrs, hf, ht, hxs⟩ := hok
  simp only at hrs hf ht hxs
  have f1 := hf.1; have f2 := hf.2; have t1 := ht.1; have t2 := ht.2
  have CI := Lib.hid (fun (W : World) => ref_InstantB f W f1 f2)
  have CT := Lib.hid (fun (W : World) => ref_InstantB t W t1 t2)
  have CO := Lib.hid (fun (W : World) (hb : Below w.heap.size w W) => books_overlaps W b a n c xs r f t (Nat.lt_of_lt_of_le hbl hb.size) ((hb.cell (p := ⟨b, 0, none⟩) hbl).trans hbc) (h.then_ hb))
  clear h hbc
  go_enter Try.func12, Try.ntmps12
  go_upto_region 1 with fail
  have hb0 : Below w.heap.size w (w.alloc (.cells #[.string r, .int .i64 f, .int .i64 t, .string x] 39)) := by (repeat' (first | exact Below.refl _ _ | assumption | refine Below.drew ?_ | refine below_drewN ?_ _ | refine below_new ?_ _ | refine below_set ?_ ?_ _ | refine below_then ?_ (by assumption) | refine below_drawn ?_ (by assumption) | exact Nat.le_refl _ | omega | (simp; done) | (simp; omega)))
  have ax0 := At.new w (.cells #[.string r, .int .i64 f, .int .i64 t, .string x] 39)
  generalize World.alloc w _ = W1 at hb0 ax0 ⊢
  have KK := Lib.hid (fun (W : World) (hW : Below W1.heap.size W1 W) => show W.cell? ⟨w.heap.size, 0, none⟩ = some (.string r) ∧ W.cell? ⟨w.heap.size, 3, none⟩ = some (.string x) from ⟨(ax0.then_ hW).cell 0, (ax0.then_ hW).cell 3⟩)
  have AX := Lib.hid ax0; have HB := Lib.hid hb0; clear ax0 hb0
  rcases Int.lt_or_le (roomNo r) 0 with hr | hr
  · have HF := Lib.hid (HO.out.trans (if_pos hr)); clear HO
    have HH := Lib.hid (show hasS r [one3, two3] = false by rw [has_pair, decide_eq_false (by omega)])
    clear hr
    refine wp_region_held_drew (S := (fun w' => w'.cell? ⟨w.heap.size, 0, none⟩ = some (.string r) ∧ w'.cell? ⟨w.heap.size, 3, none⟩ = some (.string x))) (by kernel_rfl) ?_ (fun hHeld => ?_)
    · (try dsimp only); exact KK.out _ (by first | (repeat' (first | exact Below.refl _ _ | assumption | refine Below.drew ?_ | refine below_drewN ?_ _ | refine below_new ?_ _ | refine below_set ?_ ?_ _ | refine below_then ?_ (by assumption) | refine below_drawn ?_ (by assumption) | exact Nat.le_refl _ | omega | (simp; done) | (simp; omega))) | assumption)
    refine lex_take (i := 1) (v := ?_) rfl (by kernel_rfl) (by kernel_rfl) (by kernel_rfl) (fun _ _ _ h => h) (by rfl) ?_ (by assumption) ?_
    rotate_left
    · (intro w hSw; (try dsimp only at hSw); have z0 := hSw.1; have z3 := hSw.2; go_simp; try with_reducible rfl)
    try simp only [Act.put, List.setIfInBounds_toArray, List.set_cons_zero, List.set_cons_succ]
    refine lex_take (i := 2) (v := ?_) rfl (by kernel_rfl) (by kernel_rfl) (by kernel_rfl) (fun _ _ _ h => h) (by rfl) ?_ (by assumption) ?_
    rotate_left
    · (intro w hSw; (try dsimp only at hSw); have z0 := hSw.1; have z3 := hSw.2; go_simp; try with_reducible rfl)
    try simp only [Act.put, List.setIfInBounds_toArray, List.set_cons_zero, List.set_cons_succ]
    refine lex_step (i := 0) rfl (by kernel_rfl) (by rfl) (fun Kx hKx => ?_)
    (go_simp; go_at_call 10; refine (law_pair W1.drew).mono ?_; rintro e w2 ⟨pb, rfl, htx, hb2⟩; have hb2' : Below W1.heap.size W1 w2 := (Below.refl _ _).drew.trans hb2; try go_wp2_with fail)
    refine hKx.out _ _ ?_ (fun hHeld => ?_)
    · (try dsimp only); exact KK.out _ (by first | (repeat' (first | exact Below.refl _ _ | assumption | refine Below.drew ?_ | refine below_drewN ?_ _ | refine below_new ?_ _ | refine below_set ?_ ?_ _ | refine below_then ?_ (by assumption) | refine below_drawn ?_ (by assumption) | exact Nat.le_refl _ | omega | (simp; done) | (simp; omega))) | assumption)
    clear hKx Kx
    try simp only [Act.put, List.setIfInBounds_toArray, List.set_cons_zero, List.set_cons_succ]
    refine lex_step (i := 3) rfl (by kernel_rfl) (by rfl) (fun Kx hKx => ?_)
    (go_simp; go_at_call 9; refine (str_Contains _ _ _ _ _ r _ htx (Nat.le_refl _)).mono ?_; rw [HH.out]; rintro e w3 ⟨rfl, rfl⟩; try go_wp2_with fail)
    refine hKx.out _ _ ?_ (fun hHeld => ?_)
    · (try dsimp only); exact KK.out _ (by first | (repeat' (first | exact Below.refl _ _ | assumption | refine Below.drew ?_ | refine below_drewN ?_ _ | refine below_new ?_ _ | refine below_set ?_ ?_ _ | refine below_then ?_ (by assumption) | refine below_drawn ?_ (by assumption) | exact Nat.le_refl _ | omega | (simp; done) | (simp; omega))) | assumption)
    clear hKx Kx
    try simp only [Act.put, List.setIfInBounds_toArray, List.set_cons_zero, List.set_cons_succ]
    refine lex_take (i := 4) (v := ?_) rfl (by kernel_rfl) (by kernel_rfl) (by kernel_rfl) (fun _ _ _ h => h) (by rfl) ?_ (by assumption) ?_
    rotate_left
    · (intro w hSw; (try dsimp only at hSw); go_simp; try with_reducible rfl)
    try simp only [Act.put, List.setIfInBounds_toArray, List.set_cons_zero, List.set_cons_succ]
    refine lex_take (i := 5) (v := ?_) rfl (by kernel_rfl) (by kernel_rfl) (by kernel_rfl) (fun _ _ _ h => h) (by rfl) ?_ (by assumption) ?_
    rotate_left
    · (intro w hSw; (try dsimp only at hSw); go_simp; try with_reducible rfl)
    try simp only [Act.put, List.setIfInBounds_toArray, List.set_cons_zero, List.set_cons_succ]
    refine lex_skip (i := 6) rfl (by kernel_rfl) (by kernel_rfl) (by kernel_rfl) (fun _ _ _ h => h) (by rfl) (by assumption) ?_
    try simp only [Act.put, List.setIfInBounds_toArray, List.set_cons_zero, List.set_cons_succ]
    refine lex_skip (i := 7) rfl (by kernel_rfl) (by kernel_rfl) (by kernel_rfl) (fun _ _ _ h => h) (by rfl) (by assumption) ?_
    try simp only [Act.put, List.setIfInBounds_toArray, List.set_cons_zero, List.set_cons_succ]
    refine lex_skip (i := 8) rfl (by kernel_rfl) (by kernel_rfl) (by kernel_rfl) (fun _ _ _ h => h) (by rfl) (by assumption) ?_
    try simp only [Act.put, List.setIfInBounds_toArray, List.set_cons_zero, List.set_cons_succ]
    refine lex_skip (i := 9) rfl (by kernel_rfl) (by kernel_rfl) (by kernel_rfl) (fun _ _ _ h => h) (by rfl) (by assumption) ?_
    try simp only [Act.put, List.setIfInBounds_toArray, List.set_cons_zero, List.set_cons_succ]
    refine lex_take (i := 10) (v := ?_) rfl (by kernel_rfl) (by kernel_rfl) (by kernel_rfl) (fun _ _ _ h => h) (by rfl) ?_ (by assumption) ?_
    rotate_left
    · (intro w hSw; (try dsimp only at hSw); go_simp; try with_reducible rfl)
    try simp only [Act.put, List.setIfInBounds_toArray, List.set_cons_zero, List.set_cons_succ]
    refine lex_take (i := 11) (v := ?_) rfl (by kernel_rfl) (by kernel_rfl) (by kernel_rfl) (fun _ _ _ h => h) (by rfl) ?_ (by assumption) ?_
    rotate_left
    · (intro w hSw; (try dsimp only at hSw); go_simp; try with_reducible rfl)
    try simp only [Act.put, List.setIfInBounds_toArray, List.set_cons_zero, List.set_cons_succ]
    refine wpAnyH_done (by kernel_rfl) ?_ _
    have hb3 := below_then HB.out hb2'
    go_wp2_with fail
    go_ret
    exact ⟨by rw [HF.out]; rfl, hb3⟩
  have HO1 := Lib.hid (HO.out.trans (if_neg (by omega))); clear HO
  have HH := Lib.hid (show hasS r [one3, two3] = true by rw [has_pair, decide_eq_true hr])
  clear hr
  rcases Bool.eq_false_or_eq_true (isName x) with hn | hn
  case inr =>
    have HF := Lib.hid (HO1.out.trans (if_pos hn)); clear HO1
    have HNM := Lib.hid hn; clear hn
    refine wp_region_held_drew (S := (fun w' => w'.cell? ⟨w.heap.size, 0, none⟩ = some (.string r) ∧ w'.cell? ⟨w.heap.size, 3, none⟩ = some (.string x))) (by kernel_rfl) ?_ (fun hHeld => ?_)
    · (try dsimp only); exact KK.out _ (by first | (repeat' (first | exact Below.refl _ _ | assumption | refine Below.drew ?_ | refine below_drewN ?_ _ | refine below_new ?_ _ | refine below_set ?_ ?_ _ | refine below_then ?_ (by assumption) | refine below_drawn ?_ (by assumption) | exact Nat.le_refl _ | omega | (simp; done) | (simp; omega))) | assumption)
    refine lex_take (i := 1) (v := ?_) rfl (by kernel_rfl) (by kernel_rfl) (by kernel_rfl) (fun _ _ _ h => h) (by rfl) ?_ (by assumption) ?_
    rotate_left
    · (intro w hSw; (try dsimp only at hSw); have z0 := hSw.1; have z3 := hSw.2; go_simp; try with_reducible rfl)
    try simp only [Act.put, List.setIfInBounds_toArray, List.set_cons_zero, List.set_cons_succ]
    refine lex_take (i := 2) (v := ?_) rfl (by kernel_rfl) (by kernel_rfl) (by kernel_rfl) (fun _ _ _ h => h) (by rfl) ?_ (by assumption) ?_
    rotate_left
    · (intro w hSw; (try dsimp only at hSw); have z0 := hSw.1; have z3 := hSw.2; go_simp; try with_reducible rfl)
    try simp only [Act.put, List.setIfInBounds_toArray, List.set_cons_zero, List.set_cons_succ]
    refine lex_step (i := 0) rfl (by kernel_rfl) (by rfl) (fun Kx hKx => ?_)
    (go_simp; go_at_call 10; refine (law_pair W1.drew).mono ?_; rintro e w2 ⟨pb, rfl, htx, hb2⟩; have hb2' : Below W1.heap.size W1 w2 := (Below.refl _ _).drew.trans hb2; try go_wp2_with fail)
    refine hKx.out _ _ ?_ (fun hHeld => ?_)
    · (try dsimp only); exact KK.out _ (by first | (repeat' (first | exact Below.refl _ _ | assumption | refine Below.drew ?_ | refine below_drewN ?_ _ | refine below_new ?_ _ | refine below_set ?_ ?_ _ | refine below_then ?_ (by assumption) | refine below_drawn ?_ (by assumption) | exact Nat.le_refl _ | omega | (simp; done) | (simp; omega))) | assumption)
    clear hKx Kx
    try simp only [Act.put, List.setIfInBounds_toArray, List.set_cons_zero, List.set_cons_succ]
    refine lex_step (i := 3) rfl (by kernel_rfl) (by rfl) (fun Kx hKx => ?_)
    (go_simp; go_at_call 9; refine (str_Contains _ _ _ _ _ r _ htx (Nat.le_refl _)).mono ?_; rw [HH.out]; rintro e w3 ⟨rfl, rfl⟩; try go_wp2_with fail)
    refine hKx.out _ _ ?_ (fun hHeld => ?_)
    · (try dsimp only); exact KK.out _ (by first | (repeat' (first | exact Below.refl _ _ | assumption | refine Below.drew ?_ | refine below_drewN ?_ _ | refine below_new ?_ _ | refine below_set ?_ ?_ _ | refine below_then ?_ (by assumption) | refine below_drawn ?_ (by assumption) | exact Nat.le_refl _ | omega | (simp; done) | (simp; omega))) | assumption)
    clear hKx Kx
    try simp only [Act.put, List.setIfInBounds_toArray, List.set_cons_zero, List.set_cons_succ]
    refine lex_take (i := 4) (v := ?_) rfl (by kernel_rfl) (by kernel_rfl) (by kernel_rfl) (fun _ _ _ h => h) (by rfl) ?_ (by assumption) ?_
    rotate_left
    · (intro w hSw; (try dsimp only at hSw); go_simp; try with_reducible rfl)
    try simp only [Act.put, List.setIfInBounds_toArray, List.set_cons_zero, List.set_cons_succ]
    refine lex_take (i := 5) (v := ?_) rfl (by kernel_rfl) (by kernel_rfl) (by kernel_rfl) (fun _ _ _ h => h) (by rfl) ?_ (by assumption) ?_
    rotate_left
    · (intro w hSw; (try dsimp only at hSw); go_simp; try with_reducible rfl)
    try simp only [Act.put, List.setIfInBounds_toArray, List.set_cons_zero, List.set_cons_succ]
    refine lex_take (i := 6) (v := ?_) rfl (by kernel_rfl) (by kernel_rfl) (by kernel_rfl) (fun _ _ _ h => h) (by rfl) ?_ (by assumption) ?_
    rotate_left
    · (intro w hSw; (try dsimp only at hSw); have z0 := hSw.1; have z3 := hSw.2; go_simp; try with_reducible rfl)
    try simp only [Act.put, List.setIfInBounds_toArray, List.set_cons_zero, List.set_cons_succ]
    refine lex_take (i := 7) (v := ?_) rfl (by kernel_rfl) (by kernel_rfl) (by kernel_rfl) (fun _ _ _ h => h) (by rfl) ?_ (by assumption) ?_
    rotate_left
    · (intro w hSw; (try dsimp only at hSw); have z0 := hSw.1; have z3 := hSw.2; go_simp; try with_reducible rfl)
    try simp only [Act.put, List.setIfInBounds_toArray, List.set_cons_zero, List.set_cons_succ]
    refine lex_step (i := 8) rfl (by kernel_rfl) (by rfl) (fun Kx hKx => ?_)
    (go_simp; go_at_call 8; refine (ref_Name _ _ hxs).mono ?_; rw [HNM.out]; rintro e w3 ⟨rfl, rfl⟩; try go_wp2_with fail)
    refine hKx.out _ _ ?_ (fun hHeld => ?_)
    · (try dsimp only); exact KK.out _ (by first | (repeat' (first | exact Below.refl _ _ | assumption | refine Below.drew ?_ | refine below_drewN ?_ _ | refine below_new ?_ _ | refine below_set ?_ ?_ _ | refine below_then ?_ (by assumption) | refine below_drawn ?_ (by assumption) | exact Nat.le_refl _ | omega | (simp; done) | (simp; omega))) | assumption)
    clear hKx Kx
    try simp only [Act.put, List.setIfInBounds_toArray, List.set_cons_zero, List.set_cons_succ]
    refine lex_take (i := 9) (v := ?_) rfl (by kernel_rfl) (by kernel_rfl) (by kernel_rfl) (fun _ _ _ h => h) (by rfl) ?_ (by assumption) ?_
    rotate_left
    · (intro w hSw; (try dsimp only at hSw); go_simp; try with_reducible rfl)
    try simp only [Act.put, List.setIfInBounds_toArray, List.set_cons_zero, List.set_cons_succ]
    refine lex_take (i := 10) (v := ?_) rfl (by kernel_rfl) (by kernel_rfl) (by kernel_rfl) (fun _ _ _ h => h) (by rfl) ?_ (by assumption) ?_
    rotate_left
    · (intro w hSw; (try dsimp only at hSw); go_simp; try with_reducible rfl)
    try simp only [Act.put, List.setIfInBounds_toArray, List.set_cons_zero, List.set_cons_succ]
    refine lex_take (i := 11) (v := ?_) rfl (by kernel_rfl) (by kernel_rfl) (by kernel_rfl) (fun _ _ _ h => h) (by rfl) ?_ (by assumption) ?_
    rotate_left
    · (intro w hSw; (try dsimp only at hSw); go_simp; try with_reducible rfl)
    try simp only [Act.put, List.setIfInBounds_toArray, List.set_cons_zero, List.set_cons_succ]
    refine wpAnyH_done (by kernel_rfl) ?_ _
    have hb3 := below_then HB.out hb2'
    go_wp2_with fail
    go_ret
    exact ⟨by rw [HF.out]; rfl, hb3⟩
  have HO2 := Lib.hid (HO1.out.trans (if_neg (by rw [hn]; simp))); clear HO1
  have HNM := Lib.hid hn; clear hn
  refine wp_region_held_drew (S := (fun w' => w'.cell? ⟨w.heap.size, 0, none⟩ = some (.string r) ∧ w'.cell? ⟨w.heap.size, 3, none⟩ = some (.string x))) (by kernel_rfl) ?_ (fun hHeld => ?_)
  · (try dsimp only); exact KK.out _ (by first | (repeat' (first | exact Below.refl _ _ | assumption | refine Below.drew ?_ | refine below_drewN ?_ _ | refine below_new ?_ _ | refine below_set ?_ ?_ _ | refine below_then ?_ (by assumption) | refine below_drawn ?_ (by assumption) | exact Nat.le_refl _ | omega | (simp; done) | (simp; omega))) | assumption)
  refine lex_take (i := 1) (v := ?_) rfl (by kernel_rfl) (by kernel_rfl) (by kernel_rfl) (fun _ _ _ h => h) (by rfl) ?_ (by assumption) ?_
  rotate_left
  · (intro w hSw; (try dsimp only at hSw); have z0 := hSw.1; have z3 := hSw.2; go_simp; try with_reducible rfl)
  try simp only [Act.put, List.setIfInBounds_toArray, List.set_cons_zero, List.set_cons_succ]
  refine lex_take (i := 2) (v := ?_) rfl (by kernel_rfl) (by kernel_rfl) (by kernel_rfl) (fun _ _ _ h => h) (by rfl) ?_ (by assumption) ?_
  rotate_left
  · (intro w hSw; (try dsimp only at hSw); have z0 := hSw.1; have z3 := hSw.2; go_simp; try with_reducible rfl)
  try simp only [Act.put, List.setIfInBounds_toArray, List.set_cons_zero, List.set_cons_succ]
  refine lex_step (i := 0) rfl (by kernel_rfl) (by rfl) (fun Kx hKx => ?_)
  (go_simp; go_at_call 10; refine (law_pair W1.drew).mono ?_; rintro e w2 ⟨pb, rfl, htx, hb2⟩; have hb2' : Below W1.heap.size W1 w2 := (Below.refl _ _).drew.trans hb2; try go_wp2_with fail)
  refine hKx.out _ _ ?_ (fun hHeld => ?_)
  · (try dsimp only); exact KK.out _ (by first | (repeat' (first | exact Below.refl _ _ | assumption | refine Below.drew ?_ | refine below_drewN ?_ _ | refine below_new ?_ _ | refine below_set ?_ ?_ _ | refine below_then ?_ (by assumption) | refine below_drawn ?_ (by assumption) | exact Nat.le_refl _ | omega | (simp; done) | (simp; omega))) | assumption)
  clear hKx Kx
  try simp only [Act.put, List.setIfInBounds_toArray, List.set_cons_zero, List.set_cons_succ]
  refine lex_step (i := 3) rfl (by kernel_rfl) (by rfl) (fun Kx hKx => ?_)
  (go_simp; go_at_call 9; refine (str_Contains _ _ _ _ _ r _ htx (Nat.le_refl _)).mono ?_; rw [HH.out]; rintro e w3 ⟨rfl, rfl⟩; try go_wp2_with fail)
  refine hKx.out _ _ ?_ (fun hHeld => ?_)
  · (try dsimp only); exact KK.out _ (by first | (repeat' (first | exact Below.refl _ _ | assumption | refine Below.drew ?_ | refine below_drewN ?_ _ | refine below_new ?_ _ | refine below_set ?_ ?_ _ | refine below_then ?_ (by assumption) | refine below_drawn ?_ (by assumption) | exact Nat.le_refl _ | omega | (simp; done) | (simp; omega))) | assumption)
  clear hKx Kx
  try simp only [Act.put, List.setIfInBounds_toArray, List.set_cons_zero, List.set_cons_succ]
  refine lex_take (i := 4) (v := ?_) rfl (by kernel_rfl) (by kernel_rfl) (by kernel_rfl) (fun _ _ _ h => h) (by rfl) ?_ (by assumption) ?_
  rotate_left
  · (intro w hSw; (try dsimp only at hSw); go_simp; try with_reducible rfl)
  try simp only [Act.put, List.setIfInBounds_toArray, List.set_cons_zero, List.set_cons_succ]
  refine lex_take (i := 5) (v := ?_) rfl (by kernel_rfl) (by kernel_rfl) (by kernel_rfl) (fun _ _ _ h => h) (by rfl) ?_ (by assumption) ?_
  rotate_left
  · (intro w hSw; (try dsimp only at hSw); go_simp; try with_reducible rfl)
  try simp only [Act.put, List.setIfInBounds_toArray, List.set_cons_zero, List.set_cons_succ]
  refine lex_take (i := 6) (v := ?_) rfl (by kernel_rfl) (by kernel_rfl) (by kernel_rfl) (fun _ _ _ h => h) (by rfl) ?_ (by assumption) ?_
  rotate_left
  · (intro w hSw; (try dsimp only at hSw); have z0 := hSw.1; have z3 := hSw.2; go_simp; try with_reducible rfl)
  try simp only [Act.put, List.setIfInBounds_toArray, List.set_cons_zero, List.set_cons_succ]
  refine lex_take (i := 7) (v := ?_) rfl (by kernel_rfl) (by kernel_rfl) (by kernel_rfl) (fun _ _ _ h => h) (by rfl) ?_ (by assumption) ?_
  rotate_left
  · (intro w hSw; (try dsimp only at hSw); have z0 := hSw.1; have z3 := hSw.2; go_simp; try with_reducible rfl)
  try simp only [Act.put, List.setIfInBounds_toArray, List.set_cons_zero, List.set_cons_succ]
  refine lex_step (i := 8) rfl (by kernel_rfl) (by rfl) (fun Kx hKx => ?_)
  (go_simp; go_at_call 8; refine (ref_Name _ _ hxs).mono ?_; rw [HNM.out]; rintro e w3 ⟨rfl, rfl⟩; try go_wp2_with fail)
  refine hKx.out _ _ ?_ (fun hHeld => ?_)
  · (try dsimp only); exact KK.out _ (by first | (repeat' (first | exact Below.refl _ _ | assumption | refine Below.drew ?_ | refine below_drewN ?_ _ | refine below_new ?_ _ | refine below_set ?_ ?_ _ | refine below_then ?_ (by assumption) | refine below_drawn ?_ (by assumption) | exact Nat.le_refl _ | omega | (simp; done) | (simp; omega))) | assumption)
  clear hKx Kx
  try simp only [Act.put, List.setIfInBounds_toArray, List.set_cons_zero, List.set_cons_succ]
  refine lex_take (i := 9) (v := ?_) rfl (by kernel_rfl) (by kernel_rfl) (by kernel_rfl) (fun _ _ _ h => h) (by rfl) ?_ (by assumption) ?_
  rotate_left
  · (intro w hSw; (try dsimp only at hSw); go_simp; try with_reducible rfl)
  try simp only [Act.put, List.setIfInBounds_toArray, List.set_cons_zero, List.set_cons_succ]
  refine lex_take (i := 10) (v := ?_) rfl (by kernel_rfl) (by kernel_rfl) (by kernel_rfl) (fun _ _ _ h => h) (by rfl) ?_ (by assumption) ?_
  rotate_left
  · (intro w hSw; (try dsimp only at hSw); go_simp; try with_reducible rfl)
  try simp only [Act.put, List.setIfInBounds_toArray, List.set_cons_zero, List.set_cons_succ]
  refine lex_take (i := 11) (v := ?_) rfl (by kernel_rfl) (by kernel_rfl) (by kernel_rfl) (fun _ _ _ h => h) (by rfl) ?_ (by assumption) ?_
  rotate_left
  · (intro w hSw; (try dsimp only at hSw); go_simp; try with_reducible rfl)
  try simp only [Act.put, List.setIfInBounds_toArray, List.set_cons_zero, List.set_cons_succ]
  refine wpAnyH_done (by kernel_rfl) ?_ _
  have hb3 := below_then HB.out hb2'
  have hx3 := AX.out.then_ hb2'
  have e1 : w2.cell? ⟨w.heap.size, 1, none⟩ = some (.int .i64 f) := hx3.cell 1
  have e2 : w2.cell? ⟨w.heap.size, 2, none⟩ = some (.int .i64 t) := hx3.cell 2
  have e0 : w2.cell? ⟨w.heap.size, 0, none⟩ = some (.string r) := hx3.cell 0
  have HB3 := Lib.hid hb3
  have HCO := Lib.hid (CO.out w2 hb3)
  clear hb3 hx3 hb2 hb2' htx KK HB AX hHeld CO
  cases hp : instB f with
  | false =>
    have HF := Lib.hid (show plainE r f t x xs = 3 by rw [HO2.out, HST.out, hp]; rfl)
    go_wp2_with (go_at_call 17; refine (CI.out _).mono ?_; rw [hp]; rintro e w4 ⟨rfl, rfl⟩)
    go_ret
    exact ⟨by rw [HF.out]; rfl, HB3.out⟩
  | true =>
    cases hq : instB t with
    | false =>
      have HF := Lib.hid (show plainE r f t x xs = 3 by rw [HO2.out, HST.out, hp, hq]; rfl)
      go_wp2_with (first | (go_at_call 17; with_reducible refine (CI.out _).mono ?_; rw [hp]; rintro e w4 ⟨rfl, rfl⟩) | (go_at_call 17; with_reducible refine (CT.out _).mono ?_; rw [hq]; rintro e w4 ⟨rfl, rfl⟩))
      go_ret
      exact ⟨by rw [HF.out]; rfl, HB3.out⟩
    | true =>
      have HST2 := Lib.hid (show stretchE f t = if t ≤ f then 9 else 0 by rw [HST.out, hp, hq]; rfl)
      rcases Int.lt_or_le f t with hc | hc
      case inr =>
        have HF := Lib.hid (show plainE r f t x xs = 9 by rw [HO2.out, HST2.out, if_pos hc]; rfl)
        clear HO2 HST HST2
        go_wp2_with (first | (go_at_call 17; with_reducible refine (CI.out _).mono ?_; rw [hp]; rintro e w4 ⟨rfl, rfl⟩) | (go_at_call 17; with_reducible refine (CT.out _).mono ?_; rw [hq]; rintro e w4 ⟨rfl, rfl⟩))
        go_ret
        exact ⟨by rw [HF.out]; rfl, HB3.out⟩
      have HF0 := Lib.hid (show plainE r f t x xs = if xs.any (lapR r f t) = true then 7 else 0 by rw [HO2.out, HST2.out, if_neg (show ¬ t ≤ f by omega)]; rfl)
      clear HO2 HST HST2
      cases hl : xs.any (lapR r f t) with
      | true =>
        have HF := Lib.hid (HF0.out.trans (if_pos hl)); clear HF0
        go_wp2_with (first | (go_at_call 17; with_reducible refine (CI.out _).mono ?_; rw [hp]; rintro e w4 ⟨rfl, rfl⟩) | (go_at_call 17; with_reducible refine (CT.out _).mono ?_; rw [hq]; rintro e w4 ⟨rfl, rfl⟩) | (go_at_call 18; refine HCO.out.mono ?_; rw [hl]; rintro e w5 ⟨rfl, hb5⟩))
        go_ret
        exact ⟨by rw [HF.out]; rfl, below_then HB3.out hb5⟩
      | false =>
        have HF := Lib.hid (HF0.out.trans (if_neg (by rw [hl]; simp))); clear HF0
        go_wp2_with (first | (go_at_call 17; with_reducible refine (CI.out _).mono ?_; rw [hp]; rintro e w4 ⟨rfl, rfl⟩) | (go_at_call 17; with_reducible refine (CT.out _).mono ?_; rw [hq]; rintro e w4 ⟨rfl, rfl⟩) | (go_at_call 18; refine HCO.out.mono ?_; rw [hl]; rintro e w5 ⟨rfl, hb5⟩))
        go_ret
        exact ⟨by rw [HF.out]; rfl, below_then HB3.out hb5⟩
end Go.Proofs.Ytddiicljoekhmaa
