/- LunisolarFromDays: the Go text returns true at every input, and writes nothing that was there. -/
import Derived.Test.YtjekdceicjnamaaLuni8
import Derived.Test.YtjekdceicjnamaaMoonOpen
import Derived.Test.YtjekdceicjnamaaPlainMoon
namespace Go.Proofs.Ytjekdceicjnamaa.lunisolarFromDaysLaw
set_option linter.unusedVariables false
set_option maxRecDepth 100000
open Go.RowKit Go.ChangeShapes Go.WideShapes

theorem fromM_of {s : ByteArray} {f sn sd mn md ln ld c : Int} {ls vs : List Int} {N : Int} (ok : MoonOk s f sn sd mn md ln ld c ls vs N) {x y : Int} (y1 : -9999 ≤ y) (y2 : y ≤ 9999) (hy : InMoonYear (yearD f sn sd mn md ln ld c N ls vs) y x) : FromM f sn sd mn md ln ld c N ls vs x (dateM f sn sd mn md ln ld c N ls vs x y) := by
  have hg := yearD_succ ok
  refine ⟨fun h => ?_, fun h => ?_, fun z z1 z2 hz => by rw [hy.unique hg hz]⟩
  · have := rise_le _ hg y1; have := hy.1; omega
  · have := rise_le _ hg (show y + 1 ≤ 10000 by omega); have := hy.2; omega
theorem litY : InMoonYear (yearD 1 0 1 59 2 1 1 1 2 [] []) 1 59 := by
  refine ⟨?_, ?_⟩ <;> decide +kernel
theorem litD : dateM 1 0 1 59 2 1 1 1 2 [] [] 59 1 = .tuple #[.agg #[.int .i64 1, .int .i64 2, .int .i64 30], .int .i64 0] := by
  unfold dateM
  rw [show monK 1 0 1 59 2 1 1 1 2 [] [] 59 1 = 2 by decide +kernel, show begD 1 0 1 59 2 1 1 1 2 [] [] 1 ((2 : Nat) : Int) = 30 by decide +kernel]
  rfl
theorem first (w : World) : Calls Try.prog 21 #[.agg #[.string ⟨#[112, 108, 97, 105, 110]⟩, .int .i64 1, .int .i64 0, .int .i64 1, .int .i64 59, .int .i64 2, .int .i64 1, .int .i64 1, .int .i64 1, .slice none 0 0, .slice none 0 0], .int .i64 59] w fun e w' => e = .returned (.tuple #[.agg #[.int .i64 1, .int .i64 2, .int .i64 30], .int .i64 0]) ∧ Below w.heap.size w w' := by
  have := lunisolar_FromDay_in w ⟨#[112, 108, 97, 105, 110]⟩ 1 0 1 59 2 1 1 1 none none 0 0 0 0 [] [] 2 59 _ (by decide) plain_ints (plain_at w) plain_err plain_ok (by decide +kernel) (fromM_of plain_ok (by omega) (by omega) litY)
  rw [litD] at this
  exact this
theorem both (w : World) (s : ByteArray) (f sn sd mn md ln ld c : Int) (a1 a2 : Option Addr) (n1 c1 n2 c2 : Nat) (ls vs : List Int) (N x : Int) (hs : s.size ≤ 9223372036854775807) (hi : MoonI sn sd mn md ln ld) (h : MoonAt w a1 a2 n1 n2 ls vs) (q : moonErr s f sn sd mn md ln ld c ls vs = 0) (ok : MoonOk s f sn sd mn md ln ld c ls vs N) : ∃ A B D E : Int,
    (∀ W, Below w.heap.size w W → Calls Try.prog 21 #[.agg #[.string s, .int .i64 f, .int .i64 sn, .int .i64 sd, .int .i64 mn, .int .i64 md, .int .i64 ln, .int .i64 ld, .int .i64 c, .slice a1 n1 c1, .slice a2 n2 c2], .int .i64 x] W fun e w' => e = .returned (.tuple #[.agg #[.int .i64 A, .int .i64 B, .int .i64 D], .int .i64 E]) ∧ Below W.heap.size W w') ∧
    (∀ W, Below w.heap.size w W → Calls Try.prog 22 #[.agg #[.string s, .int .i64 f, .int .i64 sn, .int .i64 sd, .int .i64 mn, .int .i64 md, .int .i64 ln, .int .i64 ld, .int .i64 c, .slice a1 n1 c1, .slice a2 n2 c2], .int .i64 x] W fun e w' => e = .returned (.tuple #[.agg #[.int .i64 A, .int .i64 B, .int .i64 D], .int .i64 E]) ∧ Below W.heap.size W w') := by
  cases hx : inB (-4000000) 4000000 x
  · exact ⟨0, 0, 0, 3, fun W hW => lunisolar_FromDay_out W s f sn sd mn md ln ld c a1 a2 n1 c1 n2 c2 ls vs x hs hi (h.then_ hW) q hx, fun W hW => ref_MoonFromDay_out W s f sn sd mn md ln ld c a1 a2 n1 c1 n2 c2 ls vs x hx⟩
  · obtain ⟨A, B, D, E, hF⟩ := fromM_exists ok x
    exact ⟨A, B, D, E, fun W hW => lunisolar_FromDay_in W s f sn sd mn md ln ld c a1 a2 n1 c1 n2 c2 ls vs N x _ hs hi (h.then_ hW) q ok hx hF, fun W hW => ref_MoonFromDay_in W s f sn sd mn md ln ld c a1 a2 n1 c1 n2 c2 ls vs N x _ (h.then_ hW) ok hx hF⟩
set_option maxHeartbeats 4000000 in
theorem core (w : World) (s : ByteArray) (f sn sd mn md ln ld c : Int) (a1 a2 : Option Addr) (n1 c1 n2 c2 : Nat) (ls vs : List Int) (x : Int) (hxi : I64 x) (hs : s.size ≤ 9223372036854775807) (hi : MoonI sn sd mn md ln ld) (h : MoonAt w a1 a2 n1 n2 ls vs) :
    Calls Try.prog 5 #[.agg #[.string s, .int .i64 f, .int .i64 sn, .int .i64 sd, .int .i64 mn, .int .i64 md, .int .i64 ln, .int .i64 ld, .int .i64 c, .slice a1 n1 c1, .slice a2 n2 c2], .int .i64 x] w fun e w' => e = .returned (.bool true) ∧ Below w.heap.size w w' := by
  have H := Lib.hid h; clear h
  have HI := Lib.hid hi; clear hi
  go_enter Try.func5, Try.ntmps5
  go_wp2_with fail
  refine (law_plainMoon _).mono ?_
  rintro e w1 ⟨rfl, hb⟩
  have on := (OneM.new w (.cells #[.string s, .int .i64 f, .int .i64 sn, .int .i64 sd, .int .i64 mn, .int .i64 md, .int .i64 ln, .int .i64 ld, .int .i64 c, .slice a1 n1 c1, .slice a2 n2 c2] 26)).step hb
  clear hb
  go_wp2_with fail
  refine (first _).mono ?_
  rintro e w2 ⟨rfl, hb⟩
  replace on := on.step hb
  clear hb
  have hl2 := on.1.lt
  go_wp2_with fail
  replace on := on.step (below_new (Below.refl _ _) (.cells #[.int .i64 1, .int .i64 2, .int .i64 30] 39))
  generalize World.alloc w2 _ = W2 at on ⊢
  obtain ⟨x0, x1, x2, x3, x4, x5, x6, x7, x8, x9, x10⟩ := on.cells
  have hdd : inB (-4000000) 4000000 x = false ∨ (inB (-4000000) 4000000 x = true ∧ ¬ -4000000 < f) ∨ (inB (-4000000) 4000000 x = true ∧ -4000000 < f ∧ ¬ f < 4000000) ∨ (inB (-4000000) 4000000 x = true ∧ -4000000 < f ∧ f < 4000000) := by
    cases inB (-4000000) 4000000 x
    · exact .inl rfl
    · by_cases f1 : -4000000 < f
      · by_cases f2 : f < 4000000
        · exact .inr (.inr (.inr ⟨rfl, f1, f2⟩))
        · exact .inr (.inr (.inl ⟨rfl, f1, f2⟩))
      · exact .inr (.inl ⟨rfl, f1⟩)
  rcases hdd with hd | ⟨hd, f1⟩ | ⟨hd, f1, f2⟩ | ⟨hd, f1, f2⟩
  · refine (ref_Day _ _).mono ?_
    rw [hd]
    rintro e w9 ⟨rfl, rfl⟩
    by_cases q : moonErr s f sn sd mn md ln ld c ls vs = 0
    · obtain ⟨N, ok⟩ := moonOk_of q
      obtain ⟨A, B, D, E, h1, h2⟩ := both w s f sn sd mn md ln ld c a1 a2 n1 c1 n2 c2 ls vs N x hs HI.out H.out q ok
      have F1 := Lib.hid h1; have F2 := Lib.hid h2; have HQ := Lib.hid q
      clear q ok h1 h2
      go_wp2_with fail
      refine (F1.out _ on.below).mono ?_
      rintro e w3 ⟨rfl, hb⟩
      replace on := on.step hb
      clear hb x0 x1 x2 x3 x4 x5 x6 x7 x8 x9 x10
      have hl3 := on.1.lt
      obtain ⟨x0, x1, x2, x3, x4, x5, x6, x7, x8, x9, x10⟩ := on.cells
      go_wp2_with fail
      have ad := At.new w3 (.cells #[.int .i64 A, .int .i64 B, .int .i64 D] 39)
      replace on := on.step (below_new (Below.refl _ _) (.cells #[.int .i64 A, .int .i64 B, .int .i64 D] 39))
      clear x0 x1 x2 x3 x4 x5 x6 x7 x8 x9 x10
      generalize World.alloc w3 _ = W3 at ad on ⊢
      refine (ref_MoonError _ s f sn sd mn md ln ld c a1 a2 n1 c1 n2 c2 ls vs hs HI.out (H.out.then_ on.below)).mono ?_
      rw [HQ.out]
      rintro e w4 ⟨rfl, hb⟩
      replace on := on.step hb
      replace ad := ad.then_ hb
      clear hb
      obtain ⟨x0, x1, x2, x3, x4, x5, x6, x7, x8, x9, x10⟩ := on.cells
      go_wp2_with fail
      refine (F2.out _ on.below).mono ?_
      rintro e w5 ⟨rfl, hb⟩
      replace on := on.step hb
      replace ad := ad.then_ hb
      clear hb x0 x1 x2 x3 x4 x5 x6 x7 x8 x9 x10
      have d0 := ad.cell 0; have d1 := ad.cell 1; have d2 := ad.cell 2; simp at d0 d1 d2
      have hadl := ad.lt
      have B0 := on.below
      go_wp2_with fail
      go_ret
      exact ⟨by simp, by (repeat' (first | exact Below.refl _ _ | assumption | refine Below.drew ?_ | refine below_drewN ?_ _ | refine below_new ?_ _ | refine below_set ?_ ?_ _ | refine below_then ?_ (by assumption) | refine below_drawn ?_ (by assumption) | exact Nat.le_refl _ | omega | (simp; done) | (simp; omega)))⟩
    · obtain ⟨F, hF⟩ : ∃ F, F = moonErr s f sn sd mn md ln ld c ls vs := ⟨_, rfl⟩
      have e1 := fun (W : World) (hW : Below w.heap.size w W) => lunisolar_FromDay_err W s f sn sd mn md ln ld c a1 a2 n1 c1 n2 c2 ls vs x hs HI.out (H.out.then_ hW) q
      rw [← hF] at e1 q
      have F1 := Lib.hid e1; have HF := Lib.hid hF
      have q' : (F != 0) = true := by simpa using q
      clear e1 q hF
      go_wp2_with fail
      refine (F1.out _ on.below).mono ?_
      rintro e w3 ⟨rfl, hb⟩
      replace on := on.step hb
      clear hb x0 x1 x2 x3 x4 x5 x6 x7 x8 x9 x10
      have hl3 := on.1.lt
      obtain ⟨x0, x1, x2, x3, x4, x5, x6, x7, x8, x9, x10⟩ := on.cells
      go_wp2_with fail
      have ad := At.new w3 (.cells #[.int .i64 0, .int .i64 0, .int .i64 0] 39)
      replace on := on.step (below_new (Below.refl _ _) (.cells #[.int .i64 0, .int .i64 0, .int .i64 0] 39))
      clear x0 x1 x2 x3 x4 x5 x6 x7 x8 x9 x10
      generalize World.alloc w3 _ = W3 at ad on ⊢
      refine (ref_MoonError _ s f sn sd mn md ln ld c a1 a2 n1 c1 n2 c2 ls vs hs HI.out (H.out.then_ on.below)).mono ?_
      rw [← HF.out]
      rintro e w4 ⟨rfl, hb⟩
      replace on := on.step hb
      replace ad := ad.then_ hb
      clear hb
      have d0 := ad.cell 0; have d1 := ad.cell 1; have d2 := ad.cell 2; simp at d0 d1 d2
      have B0 := on.below
      go_wp2_with fail
      go_ret
      exact ⟨by simp, by (repeat' (first | exact Below.refl _ _ | assumption | refine Below.drew ?_ | refine below_drewN ?_ _ | refine below_new ?_ _ | refine below_set ?_ ?_ _ | refine below_then ?_ (by assumption) | refine below_drawn ?_ (by assumption) | exact Nat.le_refl _ | omega | (simp; done) | (simp; omega)))⟩
  · refine (ref_Day _ _).mono ?_
    rw [hd]
    rintro e w9 ⟨rfl, rfl⟩
    by_cases q : moonErr s f sn sd mn md ln ld c ls vs = 0
    · obtain ⟨N, ok⟩ := moonOk_of q
      obtain ⟨A, B, D, E, h1, h2⟩ := both w s f sn sd mn md ln ld c a1 a2 n1 c1 n2 c2 ls vs N x hs HI.out H.out q ok
      have F1 := Lib.hid h1; have F2 := Lib.hid h2; have HQ := Lib.hid q
      clear q ok h1 h2
      go_wp2_with fail
      refine (F1.out _ on.below).mono ?_
      rintro e w3 ⟨rfl, hb⟩
      replace on := on.step hb
      clear hb x0 x1 x2 x3 x4 x5 x6 x7 x8 x9 x10
      have hl3 := on.1.lt
      obtain ⟨x0, x1, x2, x3, x4, x5, x6, x7, x8, x9, x10⟩ := on.cells
      go_wp2_with fail
      have ad := At.new w3 (.cells #[.int .i64 A, .int .i64 B, .int .i64 D] 39)
      replace on := on.step (below_new (Below.refl _ _) (.cells #[.int .i64 A, .int .i64 B, .int .i64 D] 39))
      clear x0 x1 x2 x3 x4 x5 x6 x7 x8 x9 x10
      generalize World.alloc w3 _ = W3 at ad on ⊢
      refine (ref_MoonError _ s f sn sd mn md ln ld c a1 a2 n1 c1 n2 c2 ls vs hs HI.out (H.out.then_ on.below)).mono ?_
      rw [HQ.out]
      rintro e w4 ⟨rfl, hb⟩
      replace on := on.step hb
      replace ad := ad.then_ hb
      clear hb
      obtain ⟨x0, x1, x2, x3, x4, x5, x6, x7, x8, x9, x10⟩ := on.cells
      go_wp2_with fail
      refine (F2.out _ on.below).mono ?_
      rintro e w5 ⟨rfl, hb⟩
      replace on := on.step hb
      replace ad := ad.then_ hb
      clear hb x0 x1 x2 x3 x4 x5 x6 x7 x8 x9 x10
      have d0 := ad.cell 0; have d1 := ad.cell 1; have d2 := ad.cell 2; simp at d0 d1 d2
      have hadl := ad.lt
      have B0 := on.below
      go_wp2_with fail
      go_ret
      exact ⟨by simp, by (repeat' (first | exact Below.refl _ _ | assumption | refine Below.drew ?_ | refine below_drewN ?_ _ | refine below_new ?_ _ | refine below_set ?_ ?_ _ | refine below_then ?_ (by assumption) | refine below_drawn ?_ (by assumption) | exact Nat.le_refl _ | omega | (simp; done) | (simp; omega)))⟩
    · obtain ⟨F, hF⟩ : ∃ F, F = moonErr s f sn sd mn md ln ld c ls vs := ⟨_, rfl⟩
      have e1 := fun (W : World) (hW : Below w.heap.size w W) => lunisolar_FromDay_err W s f sn sd mn md ln ld c a1 a2 n1 c1 n2 c2 ls vs x hs HI.out (H.out.then_ hW) q
      rw [← hF] at e1 q
      have F1 := Lib.hid e1; have HF := Lib.hid hF
      have q' : (F != 0) = true := by simpa using q
      clear e1 q hF
      go_wp2_with fail
      refine (F1.out _ on.below).mono ?_
      rintro e w3 ⟨rfl, hb⟩
      replace on := on.step hb
      clear hb x0 x1 x2 x3 x4 x5 x6 x7 x8 x9 x10
      have hl3 := on.1.lt
      obtain ⟨x0, x1, x2, x3, x4, x5, x6, x7, x8, x9, x10⟩ := on.cells
      go_wp2_with fail
      have ad := At.new w3 (.cells #[.int .i64 0, .int .i64 0, .int .i64 0] 39)
      replace on := on.step (below_new (Below.refl _ _) (.cells #[.int .i64 0, .int .i64 0, .int .i64 0] 39))
      clear x0 x1 x2 x3 x4 x5 x6 x7 x8 x9 x10
      generalize World.alloc w3 _ = W3 at ad on ⊢
      refine (ref_MoonError _ s f sn sd mn md ln ld c a1 a2 n1 c1 n2 c2 ls vs hs HI.out (H.out.then_ on.below)).mono ?_
      rw [← HF.out]
      rintro e w4 ⟨rfl, hb⟩
      replace on := on.step hb
      replace ad := ad.then_ hb
      clear hb
      have d0 := ad.cell 0; have d1 := ad.cell 1; have d2 := ad.cell 2; simp at d0 d1 d2
      have B0 := on.below
      go_wp2_with fail
      go_ret
      exact ⟨by simp, by (repeat' (first | exact Below.refl _ _ | assumption | refine Below.drew ?_ | refine below_drewN ?_ _ | refine below_new ?_ _ | refine below_set ?_ ?_ _ | refine below_then ?_ (by assumption) | refine below_drawn ?_ (by assumption) | exact Nat.le_refl _ | omega | (simp; done) | (simp; omega)))⟩
  · refine (ref_Day _ _).mono ?_
    rw [hd]
    rintro e w9 ⟨rfl, rfl⟩
    by_cases q : moonErr s f sn sd mn md ln ld c ls vs = 0
    · obtain ⟨N, ok⟩ := moonOk_of q
      obtain ⟨A, B, D, E, h1, h2⟩ := both w s f sn sd mn md ln ld c a1 a2 n1 c1 n2 c2 ls vs N x hs HI.out H.out q ok
      have F1 := Lib.hid h1; have F2 := Lib.hid h2; have HQ := Lib.hid q
      clear q ok h1 h2
      go_wp2_with fail
      refine (F1.out _ on.below).mono ?_
      rintro e w3 ⟨rfl, hb⟩
      replace on := on.step hb
      clear hb x0 x1 x2 x3 x4 x5 x6 x7 x8 x9 x10
      have hl3 := on.1.lt
      obtain ⟨x0, x1, x2, x3, x4, x5, x6, x7, x8, x9, x10⟩ := on.cells
      go_wp2_with fail
      have ad := At.new w3 (.cells #[.int .i64 A, .int .i64 B, .int .i64 D] 39)
      replace on := on.step (below_new (Below.refl _ _) (.cells #[.int .i64 A, .int .i64 B, .int .i64 D] 39))
      clear x0 x1 x2 x3 x4 x5 x6 x7 x8 x9 x10
      generalize World.alloc w3 _ = W3 at ad on ⊢
      refine (ref_MoonError _ s f sn sd mn md ln ld c a1 a2 n1 c1 n2 c2 ls vs hs HI.out (H.out.then_ on.below)).mono ?_
      rw [HQ.out]
      rintro e w4 ⟨rfl, hb⟩
      replace on := on.step hb
      replace ad := ad.then_ hb
      clear hb
      obtain ⟨x0, x1, x2, x3, x4, x5, x6, x7, x8, x9, x10⟩ := on.cells
      go_wp2_with fail
      refine (F2.out _ on.below).mono ?_
      rintro e w5 ⟨rfl, hb⟩
      replace on := on.step hb
      replace ad := ad.then_ hb
      clear hb x0 x1 x2 x3 x4 x5 x6 x7 x8 x9 x10
      have d0 := ad.cell 0; have d1 := ad.cell 1; have d2 := ad.cell 2; simp at d0 d1 d2
      have hadl := ad.lt
      have B0 := on.below
      go_wp2_with fail
      go_ret
      exact ⟨by simp, by (repeat' (first | exact Below.refl _ _ | assumption | refine Below.drew ?_ | refine below_drewN ?_ _ | refine below_new ?_ _ | refine below_set ?_ ?_ _ | refine below_then ?_ (by assumption) | refine below_drawn ?_ (by assumption) | exact Nat.le_refl _ | omega | (simp; done) | (simp; omega)))⟩
    · obtain ⟨F, hF⟩ : ∃ F, F = moonErr s f sn sd mn md ln ld c ls vs := ⟨_, rfl⟩
      have e1 := fun (W : World) (hW : Below w.heap.size w W) => lunisolar_FromDay_err W s f sn sd mn md ln ld c a1 a2 n1 c1 n2 c2 ls vs x hs HI.out (H.out.then_ hW) q
      rw [← hF] at e1 q
      have F1 := Lib.hid e1; have HF := Lib.hid hF
      have q' : (F != 0) = true := by simpa using q
      clear e1 q hF
      go_wp2_with fail
      refine (F1.out _ on.below).mono ?_
      rintro e w3 ⟨rfl, hb⟩
      replace on := on.step hb
      clear hb x0 x1 x2 x3 x4 x5 x6 x7 x8 x9 x10
      have hl3 := on.1.lt
      obtain ⟨x0, x1, x2, x3, x4, x5, x6, x7, x8, x9, x10⟩ := on.cells
      go_wp2_with fail
      have ad := At.new w3 (.cells #[.int .i64 0, .int .i64 0, .int .i64 0] 39)
      replace on := on.step (below_new (Below.refl _ _) (.cells #[.int .i64 0, .int .i64 0, .int .i64 0] 39))
      clear x0 x1 x2 x3 x4 x5 x6 x7 x8 x9 x10
      generalize World.alloc w3 _ = W3 at ad on ⊢
      refine (ref_MoonError _ s f sn sd mn md ln ld c a1 a2 n1 c1 n2 c2 ls vs hs HI.out (H.out.then_ on.below)).mono ?_
      rw [← HF.out]
      rintro e w4 ⟨rfl, hb⟩
      replace on := on.step hb
      replace ad := ad.then_ hb
      clear hb
      have d0 := ad.cell 0; have d1 := ad.cell 1; have d2 := ad.cell 2; simp at d0 d1 d2
      have B0 := on.below
      go_wp2_with fail
      go_ret
      exact ⟨by simp, by (repeat' (first | exact Below.refl _ _ | assumption | refine Below.drew ?_ | refine below_drewN ?_ _ | refine below_new ?_ _ | refine below_set ?_ ?_ _ | refine below_then ?_ (by assumption) | refine below_drawn ?_ (by assumption) | exact Nat.le_refl _ | omega | (simp; done) | (simp; omega)))⟩
  · have hd2 := inB_iff.1 hd
    have t0 : IntKind.i64.wrap (x - f) = x - f := IntWalk.i64_in _ (by omega)
    have m1 := Int.lt_tmod_of_pos (x - f) (show (0 : Int) < 20000 by omega)
    have m2 := Int.tmod_lt_of_pos (x - f) (show (0 : Int) < 20000 by omega)
    obtain ⟨M, hM⟩ : ∃ M, M = Int.tmod (x - f) 20000 := ⟨_, rfl⟩
    have t1 : IntKind.i64.wrap (f + Int.tmod (x - f) 20000) = f + Int.tmod (x - f) 20000 := IntWalk.i64_in _ (by omega)
    have t2 : IntKind.i64.wrap (Int.tmod (x - f) 20000) = Int.tmod (x - f) 20000 := IntWalk.i64_in _ (by omega)
    clear hM
    refine (ref_Day _ _).mono ?_
    rw [hd]
    rintro e w9 ⟨rfl, rfl⟩
    go_upto_if 35 with fail
    go_cut [1] from 36 (fun y wx => ∃ X : Int, y = .int .i64 X ∧ wx = W2)
    case first =>
      go_wp2_with fail
      all_goals
        go_meet
        case rel => exact ⟨_, rfl, rfl⟩
    case rest =>
    obtain ⟨X, rfl, rfl⟩ := hcut
    by_cases q : moonErr s f sn sd mn md ln ld c ls vs = 0
    · obtain ⟨N, ok⟩ := moonOk_of q
      obtain ⟨A, B, D, E, h1, h2⟩ := both w s f sn sd mn md ln ld c a1 a2 n1 c1 n2 c2 ls vs N X hs HI.out H.out q ok
      have F1 := Lib.hid h1; have F2 := Lib.hid h2; have HQ := Lib.hid q
      clear q ok h1 h2
      go_wp2_with fail
      refine (F1.out _ on.below).mono ?_
      rintro e w3 ⟨rfl, hb⟩
      replace on := on.step hb
      clear hb x0 x1 x2 x3 x4 x5 x6 x7 x8 x9 x10
      have hl3 := on.1.lt
      obtain ⟨x0, x1, x2, x3, x4, x5, x6, x7, x8, x9, x10⟩ := on.cells
      go_wp2_with fail
      have ad := At.new w3 (.cells #[.int .i64 A, .int .i64 B, .int .i64 D] 39)
      replace on := on.step (below_new (Below.refl _ _) (.cells #[.int .i64 A, .int .i64 B, .int .i64 D] 39))
      clear x0 x1 x2 x3 x4 x5 x6 x7 x8 x9 x10
      generalize World.alloc w3 _ = W3 at ad on ⊢
      refine (ref_MoonError _ s f sn sd mn md ln ld c a1 a2 n1 c1 n2 c2 ls vs hs HI.out (H.out.then_ on.below)).mono ?_
      rw [HQ.out]
      rintro e w4 ⟨rfl, hb⟩
      replace on := on.step hb
      replace ad := ad.then_ hb
      clear hb
      obtain ⟨x0, x1, x2, x3, x4, x5, x6, x7, x8, x9, x10⟩ := on.cells
      go_wp2_with fail
      refine (F2.out _ on.below).mono ?_
      rintro e w5 ⟨rfl, hb⟩
      replace on := on.step hb
      replace ad := ad.then_ hb
      clear hb x0 x1 x2 x3 x4 x5 x6 x7 x8 x9 x10
      have d0 := ad.cell 0; have d1 := ad.cell 1; have d2 := ad.cell 2; simp at d0 d1 d2
      have hadl := ad.lt
      have B0 := on.below
      go_wp2_with fail
      go_ret
      exact ⟨by simp, by (repeat' (first | exact Below.refl _ _ | assumption | refine Below.drew ?_ | refine below_drewN ?_ _ | refine below_new ?_ _ | refine below_set ?_ ?_ _ | refine below_then ?_ (by assumption) | refine below_drawn ?_ (by assumption) | exact Nat.le_refl _ | omega | (simp; done) | (simp; omega)))⟩
    · obtain ⟨F, hF⟩ : ∃ F, F = moonErr s f sn sd mn md ln ld c ls vs := ⟨_, rfl⟩
      have e1 := fun (W : World) (hW : Below w.heap.size w W) => lunisolar_FromDay_err W s f sn sd mn md ln ld c a1 a2 n1 c1 n2 c2 ls vs X hs HI.out (H.out.then_ hW) q
      rw [← hF] at e1 q
      have F1 := Lib.hid e1; have HF := Lib.hid hF
      have q' : (F != 0) = true := by simpa using q
      clear e1 q hF
      go_wp2_with fail
      refine (F1.out _ on.below).mono ?_
      rintro e w3 ⟨rfl, hb⟩
      replace on := on.step hb
      clear hb x0 x1 x2 x3 x4 x5 x6 x7 x8 x9 x10
      have hl3 := on.1.lt
      obtain ⟨x0, x1, x2, x3, x4, x5, x6, x7, x8, x9, x10⟩ := on.cells
      go_wp2_with fail
      have ad := At.new w3 (.cells #[.int .i64 0, .int .i64 0, .int .i64 0] 39)
      replace on := on.step (below_new (Below.refl _ _) (.cells #[.int .i64 0, .int .i64 0, .int .i64 0] 39))
      clear x0 x1 x2 x3 x4 x5 x6 x7 x8 x9 x10
      generalize World.alloc w3 _ = W3 at ad on ⊢
      refine (ref_MoonError _ s f sn sd mn md ln ld c a1 a2 n1 c1 n2 c2 ls vs hs HI.out (H.out.then_ on.below)).mono ?_
      rw [← HF.out]
      rintro e w4 ⟨rfl, hb⟩
      replace on := on.step hb
      replace ad := ad.then_ hb
      clear hb
      have d0 := ad.cell 0; have d1 := ad.cell 1; have d2 := ad.cell 2; simp at d0 d1 d2
      have B0 := on.below
      go_wp2_with fail
      go_ret
      exact ⟨by simp, by (repeat' (first | exact Below.refl _ _ | assumption | refine Below.drew ?_ | refine below_drewN ?_ _ | refine below_new ?_ _ | refine below_set ?_ ?_ _ | refine below_then ?_ (by assumption) | refine below_drawn ?_ (by assumption) | exact Nat.le_refl _ | omega | (simp; done) | (simp; omega)))⟩
theorem walk {H : Type} {enc : TypeId × Value → H} {v0 v1 : Value} {d0 d1 : DataW H} {p0 p1 : List MemPlace} {base : Nat} (W : World)
    (o0 : Value.okWide Try.prog W .any base 26 v0) (h0 : DataW.Trod enc Try.prog W 0 (fun _ => true) true 26 v0 d0 p0)
    (o1 : Value.okWide Try.prog W .any base 3 v1) (h1 : DataW.Trod enc Try.prog W 0 (fun _ => true) true 3 v1 d1 p1) :
    Calls Try.prog 5 #[v0, v1] W fun e w' => e = .returned (.bool true) ∧ Below W.heap.size W w' := by
  obtain ⟨s, f, sn, sd, mn, md, ln, ld, c, a1, a2, n1, c1, n2, c2, ls, vs, rfl, hs, hf, hI, hc, k1, k2, h⟩ := open_MoonRule o0 h0
  obtain ⟨y, rfl, rfl, rfl, wy⟩ := open_int Try.underlying3 o1 h1
  exact core W s f sn sd mn md ln ld c a1 a2 n1 c1 n2 c2 ls vs y (bounds_i64 wy) hs hI h
end Go.Proofs.Ytjekdceicjnamaa.lunisolarFromDaysLaw
