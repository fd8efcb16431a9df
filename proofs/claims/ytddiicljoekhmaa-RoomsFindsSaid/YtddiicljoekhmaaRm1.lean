/- rooms: instants, a stretch of time; the places that its two closures find. -/
import Derived.Test.YtddiicljoekhmaaRm0
import Derived.Test.YtddiicljoekhmaaLine2
import Derived.Test.YtddiicljoekhmaaQuiet
namespace Go.Proofs.Ytddiicljoekhmaa
set_option linter.unusedVariables false
set_option maxRecDepth 100000
open Go.RowKit

theorem line_IsInstant (t : Int) (w : World) (h1 : -9223372036854775808 ≤ t) (h2 : t ≤ 9223372036854775807) :
    Calls Try.prog 37 #[.int .i64 t] w fun e w' => e = .returned (.bool (instB t)) ∧ Drawn w w' := by
  go_enter Try.func37, Try.ntmps37
  go_wp2_with fail
  refine (whole_Down _ _ _ h1 h2 (by omega) (by omega)).mono ?_; rintro e w' ⟨rfl, hd⟩
  go_wp2_with fail
  refine (line_Is _ _).mono ?_; rintro e w' ⟨rfl, rfl⟩
  go_wp2_with fail
  go_ret
  exact ⟨rfl, hd⟩
theorem ref_InstantB (t : Int) (w : World) (h1 : -9223372036854775808 ≤ t) (h2 : t ≤ 9223372036854775807) :
    Calls Try.prog 17 #[.int .i64 t] w fun e w' => e = .returned (.bool (instB t)) ∧ w = w' := ref_Instant t w h1 h2
/-- The first place where a question is answered yes. -/
def idxP (p : Bkg → Bool) : List Bkg → Nat → Int
  | [], _ => -1
  | x :: r, k => if p x = true then (k : Int) else idxP p r (k + 1)
theorem idxP_cons (p : Bkg → Bool) (x : Bkg) (r : List Bkg) (k : Nat) : idxP p (x :: r) k = if p x = true then (k : Int) else idxP p r (k + 1) := by rw [idxP.eq_def]
theorem idxP_any (p : Bkg → Bool) : ∀ (l : List Bkg) (k : Nat), decide (0 ≤ idxP p l k) = l.any p
  | [], k => by simp [idxP]
  | x :: r, k => by
    rw [idxP_cons, List.any_cons]
    by_cases h : p x = true
    · rw [if_pos h, h]; simp
    · rw [if_neg h, idxP_any p r (k + 1)]; simp [h]
def lapB (from_ to_ : Int) (x : Bkg) : Bool := decide (x.2.1 < to_) && decide (from_ < x.2.2.1)
def atB (from_ : Int) (x : Bkg) : Bool := decide (x.2.1 = from_)
def stretchE (f t : Int) : Int := if (instB f && instB t) = false then 3 else if t ≤ f then 9 else 0
theorem rooms_stretch (f t : Int) (w : World) (h1 : I64 f) (h2 : I64 t) :
    Calls Try.prog 29 #[.int .i64 f, .int .i64 t] w fun e w' => e = .returned (.int .i64 (stretchE f t)) ∧ Drawn w w' := by
  have HO := Lib.hid (show stretchE f t = if (instB f && instB t) = false then 3 else if t ≤ f then 9 else 0 from rfl)
  obtain ⟨p, hp⟩ : ∃ p, p = instB f := ⟨_, rfl⟩
  obtain ⟨q, hq⟩ : ∃ q, q = instB t := ⟨_, rfl⟩
  rw [← hp, ← hq] at HO
  have HP := Lib.hid hp; have HQ := Lib.hid hq; clear hp hq
  have a1 := h1.1; have a2 := h1.2; have b1 := h2.1; have b2 := h2.2
  cases p
  · have HF := Lib.hid (HO.out.trans (if_pos (by simp))); clear HO
    go_enter Try.func29, Try.ntmps29
    go_wp2_with fail
    refine (line_IsInstant _ _ a1 a2).mono ?_; rw [← HP.out]; rintro e w1 ⟨rfl, hd⟩
    go_wp2_with fail
    go_ret
    exact ⟨by rw [HF.out]; rfl, hd⟩
  cases q
  · have HF := Lib.hid (HO.out.trans (if_pos (by simp))); clear HO
    go_enter Try.func29, Try.ntmps29
    go_wp2_with fail
    refine (line_IsInstant _ _ a1 a2).mono ?_; rw [← HP.out]; rintro e w1 ⟨rfl, hd⟩
    go_wp2_with fail
    refine (line_IsInstant _ _ b1 b2).mono ?_; rw [← HQ.out]; rintro e w2 ⟨rfl, hd2⟩
    go_wp2_with fail
    go_ret
    exact ⟨by rw [HF.out]; rfl, hd.trans hd2⟩
  have HO2 := Lib.hid (HO.out.trans (if_neg (by simp))); clear HO
  rcases Int.lt_or_le f t with hc | hc
  · have HF := Lib.hid (HO2.out.trans (if_neg (by omega))); clear HO2
    go_enter Try.func29, Try.ntmps29
    go_wp2_with fail
    refine (line_IsInstant _ _ a1 a2).mono ?_; rw [← HP.out]; rintro e w1 ⟨rfl, hd⟩
    go_wp2_with fail
    refine (line_IsInstant _ _ b1 b2).mono ?_; rw [← HQ.out]; rintro e w2 ⟨rfl, hd2⟩
    go_wp2_with fail
    go_ret
    exact ⟨by rw [HF.out]; rfl, hd.trans hd2⟩
  · have HF := Lib.hid (HO2.out.trans (if_pos hc)); clear HO2
    go_enter Try.func29, Try.ntmps29
    go_wp2_with fail
    refine (line_IsInstant _ _ a1 a2).mono ?_; rw [← HP.out]; rintro e w1 ⟨rfl, hd⟩
    go_wp2_with fail
    refine (line_IsInstant _ _ b1 b2).mono ?_; rw [← HQ.out]; rintro e w2 ⟨rfl, hd2⟩
    go_wp2_with fail
    go_ret
    exact ⟨by rw [HF.out]; rfl, hd.trans hd2⟩
set_option maxHeartbeats 1000000 in
theorem taken_at (w : World) (r x : ByteArray) (f t : Int) (bt bf : Nat) (to_ from_ : Int) (hbt : bt < w.heap.size) (cbt : w.cell? ⟨bt, 0, none⟩ = some (.int .i64 to_)) (hbf : bf < w.heap.size) (cbf : w.cell? ⟨bf, 0, none⟩ = some (.int .i64 from_)) :
    Calls Try.prog 42 #[.agg #[.string r, .int .i64 f, .int .i64 t, .string x], .pointer (some ⟨bt, 0, none⟩), .pointer (some ⟨bf, 0, none⟩)] w fun e w' => e = .returned (.bool (lapB from_ to_  (r, f, t, x))) ∧ Below w.heap.size w w' := by
  have nbt : bt ≠ w.heap.size := by omega
  have nbf : bf ≠ w.heap.size := by omega
  have HO := Lib.hid (show lapB from_ to_ (r, f, t, x) = (decide (f < to_) && decide (from_ < t)) from rfl)
  by_cases h1 : f < to_
  · by_cases h2 : from_ < t
    all_goals
      have HF := Lib.hid (show lapB from_ to_ (r, f, t, x) = decide (from_ < t) by rw [HO.out, decide_eq_true h1, Bool.true_and])
      clear HO
      go_enter Try.func42, Try.ntmps42
      go_wp2_with fail
      go_ret
      exact ⟨by rw [HF.out]; simp [h2], by (repeat' (first | exact Below.refl _ _ | assumption | refine Below.drew ?_ | refine below_drewN ?_ _ | refine below_new ?_ _ | refine below_set ?_ ?_ _ | refine below_then ?_ (by assumption) | refine below_drawn ?_ (by assumption) | exact Nat.le_refl _ | omega | (simp; done) | (simp; omega)))⟩
  · have HF := Lib.hid (show lapB from_ to_ (r, f, t, x) = false by rw [HO.out, decide_eq_false h1, Bool.false_and])
    clear HO
    go_enter Try.func42, Try.ntmps42
    go_wp2_with fail
    go_ret
    exact ⟨by rw [HF.out]; rfl, by (repeat' (first | exact Below.refl _ _ | assumption | refine Below.drew ?_ | refine below_drewN ?_ _ | refine below_new ?_ _ | refine below_set ?_ ?_ _ | refine below_then ?_ (by assumption) | refine below_drawn ?_ (by assumption) | exact Nat.le_refl _ | omega | (simp; done) | (simp; omega)))⟩
set_option maxHeartbeats 2000000 in
theorem taken_index (w : World) (a : Option Addr) (n c : Nat) (xs : List Bkg) (bt bf : Nat) (to_ from_ : Int) (h : Bkgs w w.heap.size a n xs) (hbt : bt < w.heap.size) (cbt : w.cell? ⟨bt, 0, none⟩ = some (.int .i64 to_)) (hbf : bf < w.heap.size) (cbf : w.cell? ⟨bf, 0, none⟩ = some (.int .i64 from_)) :
    Calls Try.prog 32 #[.slice a n c, .func (.func 42) #[] #[.pointer (some ⟨bt, 0, none⟩), .pointer (some ⟨bf, 0, none⟩)]] w fun e w' => e = .returned (.int .i64 (idxP (lapB from_ to_) xs 0)) ∧ Below w.heap.size w w' := by
  have l1 := Lib.hid h.len
  have m1 := h.max
  have H := Lib.hid h; clear h
  have HC := Lib.hid (fun (wr : World) (hb : Below w.heap.size w wr) (r x : ByteArray) (f t : Int) => taken_at wr r x f t bt bf to_ from_ (Nat.lt_of_lt_of_le hbt hb.size) ((hb.cell (p := ⟨bt, 0, none⟩) hbt).trans cbt) (Nat.lt_of_lt_of_le hbf hb.size) ((hb.cell (p := ⟨bf, 0, none⟩) hbf).trans cbf))
  clear cbt cbf
  go_enter Try.func32, Try.ntmps32
  go_wp2_with fail
  go_loopw [5, 8] (fun _ i wr => ∃ k : Nat, k ≤ n ∧ i = .int .i64 k ∧ idxP (lapB from_ to_) (xs.drop k) k = idxP (lapB from_ to_) xs 0 ∧ Below w.heap.size w wr) (fun _ i _ => n - (intOf i).toNat)
  case atStart => exact ⟨0, by omega, rfl, rfl, Below.refl _ _⟩
  case round =>
    obtain ⟨k, hk, rfl, hall, hb⟩ := hrel
    have HA := Lib.hid hall; clear hall
    by_cases hlt : k < n
    · obtain ⟨b, off, rfl, hbB, hcs⟩ := (H.out.below hb (Nat.le_refl _)).open_ (by omega)
      obtain ⟨r, f, t, x, k0, k1, k2, k3, hx, _⟩ := hcs k hlt
      have HN := Lib.hid ((congrArg (fun l => idxP (lapB from_ to_) l k) (drop_row hx)).symm.trans HA.out)
      clear hcs hx
      have hcl := HC.out wr hb r x f t
      have HB := Lib.hid hb; clear hb
      rw [idxP_cons] at HN
      generalize lapB from_ to_ (r, f, t, x) = bb at hcl HN
      cases bb with
      | true =>
        have HF := Lib.hid (show (k : Int) = idxP (lapB from_ to_) xs 0 from HN.out)
        clear HN
        go_wp2_with (go_at_call 42; refine hcl.mono ?_; rintro e w' ⟨rfl, hb'⟩)
        go_ret
        exact ⟨by rw [← HF.out]; rfl, below_then HB.out hb'⟩
      | false =>
        have HF := Lib.hid (show idxP (lapB from_ to_) (xs.drop (k + 1)) (k + 1) = idxP (lapB from_ to_) xs 0 from HN.out)
        clear HN
        go_wp2_with (go_at_call 42; refine hcl.mono ?_; rintro e w' ⟨rfl, hb'⟩)
        go_roundw
        case rel => exact ⟨k + 1, by omega, by go_num, HF.out, below_then HB.out hb'⟩
        case measure => first | (simp [intOf]; done) | (simp [intOf]; omega)
    · have HE := Lib.hid (show idxP (lapB from_ to_) xs 0 = -1 by
        rw [← HA.out, List.drop_eq_nil_of_le (by have := l1.out; omega)]; rfl)
      clear HA
      go_wp2_with fail
      go_ret
      exact ⟨by rw [HE.out]; rfl, hb⟩
set_option maxHeartbeats 1000000 in
theorem drop_at (w : World) (r x : ByteArray) (f t : Int) (bf : Nat) (from_ : Int) (hbf : bf < w.heap.size) (cbf : w.cell? ⟨bf, 0, none⟩ = some (.int .i64 from_)) :
    Calls Try.prog 33 #[.agg #[.string r, .int .i64 f, .int .i64 t, .string x], .pointer (some ⟨bf, 0, none⟩)] w fun e w' => e = .returned (.bool (atB from_  (r, f, t, x))) ∧ Below w.heap.size w w' := by
  have nbf : bf ≠ w.heap.size := by omega
  have HO := Lib.hid (show atB from_ (r, f, t, x) = decide (f = from_) from rfl)
  by_cases h1 : f = from_
  · have HF := Lib.hid (HO.out.trans (decide_eq_true h1))
    subst h1
    clear HO
    go_enter Try.func33, Try.ntmps33
    go_wp2_with fail
    go_ret
    exact ⟨by rw [HF.out]; simp, by (repeat' (first | exact Below.refl _ _ | assumption | refine Below.drew ?_ | refine below_drewN ?_ _ | refine below_new ?_ _ | refine below_set ?_ ?_ _ | refine below_then ?_ (by assumption) | refine below_drawn ?_ (by assumption) | exact Nat.le_refl _ | omega | (simp; done) | (simp; omega)))⟩
  · have HF := Lib.hid (HO.out.trans (decide_eq_false h1))
    have h1' : (f == from_) = false := by simpa using h1
    clear HO
    go_enter Try.func33, Try.ntmps33
    go_wp2_with fail
    go_ret
    exact ⟨by rw [HF.out]; rfl, by (repeat' (first | exact Below.refl _ _ | assumption | refine Below.drew ?_ | refine below_drewN ?_ _ | refine below_new ?_ _ | refine below_set ?_ ?_ _ | refine below_then ?_ (by assumption) | refine below_drawn ?_ (by assumption) | exact Nat.le_refl _ | omega | (simp; done) | (simp; omega)))⟩
set_option maxHeartbeats 2000000 in
theorem drop_index (w : World) (a : Option Addr) (n c : Nat) (xs : List Bkg) (bf : Nat) (from_ : Int) (h : Bkgs w w.heap.size a n xs) (hbf : bf < w.heap.size) (cbf : w.cell? ⟨bf, 0, none⟩ = some (.int .i64 from_)) :
    Calls Try.prog 32 #[.slice a n c, .func (.func 33) #[] #[.pointer (some ⟨bf, 0, none⟩)]] w fun e w' => e = .returned (.int .i64 (idxP (atB from_) xs 0)) ∧ Below w.heap.size w w' := by
  have l1 := Lib.hid h.len
  have m1 := h.max
  have H := Lib.hid h; clear h
  have HC := Lib.hid (fun (wr : World) (hb : Below w.heap.size w wr) (r x : ByteArray) (f t : Int) => drop_at wr r x f t bf from_ (Nat.lt_of_lt_of_le hbf hb.size) ((hb.cell (p := ⟨bf, 0, none⟩) hbf).trans cbf))
  clear cbf
  go_enter Try.func32, Try.ntmps32
  go_wp2_with fail
  go_loopw [5, 8] (fun _ i wr => ∃ k : Nat, k ≤ n ∧ i = .int .i64 k ∧ idxP (atB from_) (xs.drop k) k = idxP (atB from_) xs 0 ∧ Below w.heap.size w wr) (fun _ i _ => n - (intOf i).toNat)
  case atStart => exact ⟨0, by omega, rfl, rfl, Below.refl _ _⟩
  case round =>
    obtain ⟨k, hk, rfl, hall, hb⟩ := hrel
    have HA := Lib.hid hall; clear hall
    by_cases hlt : k < n
    · obtain ⟨b, off, rfl, hbB, hcs⟩ := (H.out.below hb (Nat.le_refl _)).open_ (by omega)
      obtain ⟨r, f, t, x, k0, k1, k2, k3, hx, _⟩ := hcs k hlt
      have HN := Lib.hid ((congrArg (fun l => idxP (atB from_) l k) (drop_row hx)).symm.trans HA.out)
      clear hcs hx
      have hcl := HC.out wr hb r x f t
      have HB := Lib.hid hb; clear hb
      rw [idxP_cons] at HN
      generalize atB from_ (r, f, t, x) = bb at hcl HN
      cases bb with
      | true =>
        have HF := Lib.hid (show (k : Int) = idxP (atB from_) xs 0 from HN.out)
        clear HN
        go_wp2_with (go_at_call 33; refine hcl.mono ?_; rintro e w' ⟨rfl, hb'⟩)
        go_ret
        exact ⟨by rw [← HF.out]; rfl, below_then HB.out hb'⟩
      | false =>
        have HF := Lib.hid (show idxP (atB from_) (xs.drop (k + 1)) (k + 1) = idxP (atB from_) xs 0 from HN.out)
        clear HN
        go_wp2_with (go_at_call 33; refine hcl.mono ?_; rintro e w' ⟨rfl, hb'⟩)
        go_roundw
        case rel => exact ⟨k + 1, by omega, by go_num, HF.out, below_then HB.out hb'⟩
        case measure => first | (simp [intOf]; done) | (simp [intOf]; omega)
    · have HE := Lib.hid (show idxP (atB from_) xs 0 = -1 by
        rw [← HA.out, List.drop_eq_nil_of_le (by have := l1.out; omega)]; rfl)
      clear HA
      go_wp2_with fail
      go_ret
      exact ⟨by rw [HE.out]; rfl, hb⟩
end Go.Proofs.Ytddiicljoekhmaa
