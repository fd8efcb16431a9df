/- Contracts of lunisolar.FromDay. -/
import Derived.Test.YtjekdceicjnamaaLuni5
import Derived.Test.YtjekdceicjnamaaFrom2
namespace Go.Proofs.Ytjekdceicjnamaa
set_option linter.unusedVariables false
set_option maxRecDepth 100000
open Go.RowKit

/-- The month of a day of a year. -/
def monK (f sn sd mn md ln ld c N : Int) (ls vs : List Int) (x y : Int) : Nat := monF (fun m => begD f sn sd mn md ln ld c N ls vs y m) x (mths c ls y).toNat
/-- The date of a day of a year. -/
def dateM (f sn sd mn md ln ld c N : Int) (ls vs : List Int) (x y : Int) : Value := .tuple #[.agg #[.int .i64 y, .int .i64 (monK f sn sd mn md ln ld c N ls vs x y), .int .i64 (x - begD f sn sd mn md ln ld c N ls vs y (monK f sn sd mn md ln ld c N ls vs x y) + 1)], .int .i64 0]
/-- What the date of a day is. -/
structure FromM (f sn sd mn md ln ld c N : Int) (ls vs : List Int) (x : Int) (res : Value) : Prop where
  low : x < yearD f sn sd mn md ln ld c N ls vs (-9999) → res = noDate
  high : yearD f sn sd mn md ln ld c N ls vs 10000 ≤ x → res = noDate
  mid : ∀ y, -9999 ≤ y → y ≤ 9999 → InMoonYear (yearD f sn sd mn md ln ld c N ls vs) y x → res = dateM f sn sd mn md ln ld c N ls vs x y
theorem fromM_exists {s : ByteArray} {f sn sd mn md ln ld c : Int} {ls vs : List Int} {N : Int} (ok : MoonOk s f sn sd mn md ln ld c ls vs N) (x : Int) : ∃ a b d e : Int, FromM f sn sd mn md ln ld c N ls vs x (.tuple #[.agg #[.int .i64 a, .int .i64 b, .int .i64 d], .int .i64 e]) := by
  have hg := yearD_succ ok
  by_cases h1 : x < yearD f sn sd mn md ln ld c N ls vs (-9999)
  · refine ⟨0, 0, 0, 3, fun _ => rfl, fun _ => rfl, fun y y1 y2 hy => ?_⟩
    have := rise_le _ hg y1; have := hy.1; omega
  by_cases h2 : yearD f sn sd mn md ln ld c N ls vs 10000 ≤ x
  · refine ⟨0, 0, 0, 3, fun _ => rfl, fun _ => rfl, fun y y1 y2 hy => ?_⟩
    have := rise_le _ hg (show y + 1 ≤ 10000 by omega); have := hy.2; omega
  obtain ⟨r, hr⟩ := placeG_exists (yearD f sn sd mn md ln ld c N ls vs) (-9999) x 19999
  have hr0 : r ≠ 0 := by
    intro h; subst h; have := hr.2.2 (by omega); simp at this; omega
  have hyy : InMoonYear (yearD f sn sd mn md ln ld c N ls vs) (-9999 + (r : Int) - 1) x := by
    refine ⟨?_, ?_⟩
    · have := hr.2.1 (r - 1) (by omega)
      rw [show -9999 + (((r - 1 : Nat)) : Int) = -9999 + (r : Int) - 1 by omega] at this; exact this
    · rw [show -9999 + (r : Int) - 1 + 1 = -9999 + (r : Int) by omega]
      by_cases hl : r < 19999
      · exact hr.2.2 hl
      · have : r = 19999 := by have := hr.1; omega
        subst this; rw [show -9999 + ((19999 : Nat) : Int) = 10000 by omega]; omega
  have key : FromM f sn sd mn md ln ld c N ls vs x (dateM f sn sd mn md ln ld c N ls vs x (-9999 + (r : Int) - 1)) := ⟨fun h => absurd h h1, fun h => absurd h h2, fun y y1 y2 hy => by rw [hyy.unique hg hy]⟩
  exact ⟨_, _, _, _, key⟩
/-- The boxes of FromDay. -/
def FromB (w : World) (bl : Nat) (oc od : Obj) (W : World) : Prop := Tri w w.heap.size bl (w.heap.size + 1) oc (.cells #[.int .i64 (-10000)] 3) od W ∧ At W (w.heap.size + 1 + 1) (.cells #[.int .i64 0, .int .i64 0, .int .i64 0] 39)
theorem FromB.step {w W W' : World} {bl : Nat} {oc od : Obj} (h : FromB w bl oc od W) (hb : Below W.heap.size W W') : FromB w bl oc od W' := ⟨h.1.step hb, h.2.then_ hb⟩
theorem FromB.drew {w W : World} {bl : Nat} {oc od : Obj} (h : FromB w bl oc od W) : FromB w bl oc od W.drew := ⟨h.1.drew, h.2.drew⟩
theorem Tri.moon {w0 W : World} {b1 b2 b3 : Nat} {t1 t2 t3 : TypeId} {v0 v1 v2 v3 v4 v5 v6 v7 v8 v9 v10 x y : Value} (h : Tri w0 b1 b2 b3 (.cells #[v0, v1, v2, v3, v4, v5, v6, v7, v8, v9, v10] t1) (.cells #[x] t2) (.cells #[y] t3) W) :
    (W.cell? ⟨b1, 0, none⟩ = some v0 ∧ W.cell? ⟨b1, 1, none⟩ = some v1 ∧ W.cell? ⟨b1, 2, none⟩ = some v2 ∧ W.cell? ⟨b1, 3, none⟩ = some v3 ∧ W.cell? ⟨b1, 4, none⟩ = some v4 ∧ W.cell? ⟨b1, 5, none⟩ = some v5 ∧ W.cell? ⟨b1, 6, none⟩ = some v6 ∧ W.cell? ⟨b1, 7, none⟩ = some v7 ∧ W.cell? ⟨b1, 8, none⟩ = some v8 ∧ W.cell? ⟨b1, 9, none⟩ = some v9 ∧ W.cell? ⟨b1, 10, none⟩ = some v10) ∧ W.cell? ⟨b2, 0, none⟩ = some x ∧ W.cell? ⟨b3, 0, none⟩ = some y :=
  ⟨⟨h.1.cell 0, h.1.cell 1, h.1.cell 2, h.1.cell 3, h.1.cell 4, h.1.cell 5, h.1.cell 6, h.1.cell 7, h.1.cell 8, h.1.cell 9, h.1.cell 10⟩, h.2.1.cell 0, h.2.2.1.cell 0⟩
theorem lfrom_closure (w0 w : World) (s : ByteArray) (f sn sd mn md ln ld c : Int) (a1 a2 : Option Addr) (n1 c1 n2 c2 : Nat) (ls vs : List Int) (N x : Int) (b1 b2 b3 : Nat) (t1 t2 t3 : TypeId) (i : Nat) (hi : i < 20002) (ok : MoonOk s f sn sd mn md ln ld c ls vs N) (h : MoonAt w0 a1 a2 n1 n2 ls vs) (ht : Tri w0 b1 b2 b3 (.cells #[.string s, .int .i64 f, .int .i64 sn, .int .i64 sd, .int .i64 mn, .int .i64 md, .int .i64 ln, .int .i64 ld, .int .i64 c, .slice a1 n1 c1, .slice a2 n2 c2] t1) (.cells #[.int .i64 (-10000)] t2) (.cells #[.int .i64 x] t3) w) :
    Calls Try.prog 53 #[.int .i64 (i : Int), .pointer (some ⟨b1, 0, none⟩), .pointer (some ⟨b2, 0, none⟩), .pointer (some ⟨b3, 0, none⟩)] w fun e w' => e = .returned (.bool (decide (x < yearD f sn sd mn md ln ld c N ls vs (-10000 + (i : Int))))) ∧ Tri w0 b1 b2 b3 (.cells #[.string s, .int .i64 f, .int .i64 sn, .int .i64 sd, .int .i64 mn, .int .i64 md, .int .i64 ln, .int .i64 ld, .int .i64 c, .slice a1 n1 c1, .slice a2 n2 c2] t1) (.cells #[.int .i64 (-10000)] t2) (.cells #[.int .i64 x] t3) w' := by
  have fb : ∀ W, Below w0.heap.size w0 W → Calls Try.prog 42 #[.agg #[.string s, .int .i64 f, .int .i64 sn, .int .i64 sd, .int .i64 mn, .int .i64 md, .int .i64 ln, .int .i64 ld, .int .i64 c, .slice a1 n1 c1, .slice a2 n2 c2], .int .i64 (-10000 + (i : Int)), .int .i64 1] W fun e w' => e = .returned (.int .i64 (yearD f sn sd mn md ln ld c N ls vs (-10000 + (i : Int)))) ∧ Below W.heap.size W w' := fun W hW => by
    have := lunisolar_begin W s f sn sd mn md ln ld c a1 a2 n1 c1 n2 c2 ls vs N (-10000 + (i : Int)) 1 ok (by omega) (by omega) (by omega) (by omega) (h.then_ hW)
    rw [beginD_at (by have := mths_in c ls (-10000 + (i : Int)); omega)] at this
    exact this
  generalize yearD f sn sd mn md ln ld c N ls vs (-10000 + (i : Int)) = Y at *
  have FB := Lib.hid fb
  clear h ok fb
  have t0 : IntKind.i64.wrap (-10000 + (i : Int)) = -10000 + (i : Int) := IntWalk.i64_in _ (by omega)
  go_enter Try.func53, Try.ntmps53
  go_wp2_with fail
  (refine region_class (Tri w0 b1 b2 b3 (.cells #[.string s, .int .i64 f, .int .i64 sn, .int .i64 sd, .int .i64 mn, .int .i64 md, .int .i64 ln, .int .i64 ld, .int .i64 c, .slice a1 n1 c1, .slice a2 n2 c2] t1) (.cells #[.int .i64 (-10000)] t2) (.cells #[.int .i64 x] t3)) (by kernel_rfl) (by kernel_rfl) (ht.drew) ?_; repeat ((first | (refine class_take ?_ (by rfl) ?_ ?_; rotate_left; focus (intro wq hq; ((obtain ⟨⟨x0, x1, x2, x3, x4, x5, x6, x7, x8, x9, x10⟩, y0, y1⟩ := hq.moon)); go_simp; first | done | with_reducible rfl | ((go_at_call 42; refine (FB.out _ hq.2.2.2).mono ?_; rintro e w' ⟨rfl, hb⟩; refine ⟨?_, hq.step hb⟩; with_reducible rfl)))) | refine class_skip (by rfl) ?_); try simp only [Act.put, List.setIfInBounds_toArray, List.set_cons_zero, List.set_cons_succ]))
  refine wpQuiet_nil ?_
  intro W2 tw2
  clear t0
  go_wp2_with fail
  go_ret
  exact ⟨rfl, tw2⟩
theorem lsearch_year (w0 w : World) (s : ByteArray) (f sn sd mn md ln ld c : Int) (a1 a2 : Option Addr) (n1 c1 n2 c2 : Nat) (ls vs : List Int) (N x : Int) (b1 b2 b3 : Nat) (t1 t2 t3 : TypeId) (r : Nat) (hr : PlaceG (yearD f sn sd mn md ln ld c N ls vs) (-10000) 20002 x r) (ok : MoonOk s f sn sd mn md ln ld c ls vs N) (h : MoonAt w0 a1 a2 n1 n2 ls vs) (ht : Tri w0 b1 b2 b3 (.cells #[.string s, .int .i64 f, .int .i64 sn, .int .i64 sd, .int .i64 mn, .int .i64 md, .int .i64 ln, .int .i64 ld, .int .i64 c, .slice a1 n1 c1, .slice a2 n2 c2] t1) (.cells #[.int .i64 (-10000)] t2) (.cells #[.int .i64 x] t3) w) :
    Calls Try.prog 52 #[.int .i64 20002, .func (.func 53) #[] #[.pointer (some ⟨b1, 0, none⟩), .pointer (some ⟨b2, 0, none⟩), .pointer (some ⟨b3, 0, none⟩)]] w fun e w' => e = .returned (.int .i64 (r : Int)) ∧ Below w.heap.size w w' := by
  refine (sort_Search 53 #[.pointer (some ⟨b1, 0, none⟩), .pointer (some ⟨b2, 0, none⟩), .pointer (some ⟨b3, 0, none⟩)] (enters_of Try.func53 (by kernel_rfl) rfl) 20002 (by omega) (fun i => decide (x < yearD f sn sd mn md ln ld c N ls vs (-10000 + (i : Int)))) w ?_).mono ?_
  · intro W i hi hbW
    have hT := ht.step hbW
    have hc := lfrom_closure w W s f sn sd mn md ln ld c a1 a2 n1 c1 n2 c2 ls vs N x b1 b2 b3 t1 t2 t3 i hi ok (h.then_ ht.2.2.2) ⟨hT.1, hT.2.1, hT.2.2.1, hbW⟩
    exact hc.mono fun e w' ⟨he, ht'⟩ => ⟨he, ht'.2.2.2⟩
  · rintro e w2 ⟨r', rfl, h1, h2, h3, hb⟩
    have := placeG_unique (yearD_succ ok) hr h1 (fun i hi => by have := h2 i hi; simpa using this) (fun hl => by have := h3 hl; simpa using this)
    subst this
    exact ⟨rfl, hb⟩
theorem lunisolar_FromDay_err (w : World) (s : ByteArray) (f sn sd mn md ln ld c : Int) (a1 a2 : Option Addr) (n1 c1 n2 c2 : Nat) (ls vs : List Int) (x : Int) (hs : s.size ≤ 9223372036854775807) (hi : MoonI sn sd mn md ln ld) (h : MoonAt w a1 a2 n1 n2 ls vs) (q : moonErr s f sn sd mn md ln ld c ls vs ≠ 0) :
    Calls Try.prog 21 #[.agg #[.string s, .int .i64 f, .int .i64 sn, .int .i64 sd, .int .i64 mn, .int .i64 md, .int .i64 ln, .int .i64 ld, .int .i64 c, .slice a1 n1 c1, .slice a2 n2 c2], .int .i64 x] w fun e w' => e = .returned (.tuple #[.agg #[.int .i64 0, .int .i64 0, .int .i64 0], .int .i64 (moonErr s f sn sd mn md ln ld c ls vs)]) ∧ Below w.heap.size w w' := by
  have H := Lib.hid h; clear h
  obtain ⟨E, hE⟩ : ∃ E, E = moonErr s f sn sd mn md ln ld c ls vs := ⟨_, rfl⟩
  rw [← hE] at q ⊢
  have HE := Lib.hid hE; clear hE
  have q' : (E != 0) = true := by simpa using q
  clear q
  go_enter Try.func21, Try.ntmps21
  go_wp2_with fail
  have ar0 := At.new2 w (.cells #[.string s, .int .i64 f, .int .i64 sn, .int .i64 sd, .int .i64 mn, .int .i64 md, .int .i64 ln, .int .i64 ld, .int .i64 c, .slice a1 n1 c1, .slice a2 n2 c2] 26) (.cells #[.int .i64 x] 3) (.cells #[.int .i64 0, .int .i64 0, .int .i64 0] 39)
  have b0 : Below w.heap.size w (((w.alloc (.cells #[.string s, .int .i64 f, .int .i64 sn, .int .i64 sd, .int .i64 mn, .int .i64 md, .int .i64 ln, .int .i64 ld, .int .i64 c, .slice a1 n1 c1, .slice a2 n2 c2] 26)).alloc (.cells #[.int .i64 x] 3)).alloc (.cells #[.int .i64 0, .int .i64 0, .int .i64 0] 39)) := by (repeat' (first | exact Below.refl _ _ | assumption | refine Below.drew ?_ | refine below_drewN ?_ _ | refine below_new ?_ _ | refine below_set ?_ ?_ _ | refine below_then ?_ (by assumption) | refine below_drawn ?_ (by assumption) | exact Nat.le_refl _ | omega | (simp; done) | (simp; omega)))
  generalize World.alloc (World.alloc (World.alloc w _) _) _ = W1 at ar0 b0 ⊢
  refine (lunisolar_Check _ s f sn sd mn md ln ld c a1 a2 n1 c1 n2 c2 ls vs hs hi (H.out.then_ b0)).mono ?_
  rw [← HE.out]
  rintro e w1 ⟨rfl, hb⟩
  have ar := ar0.then_ hb
  replace b0 := below_then b0 hb
  clear hb ar0
  have e0 := ar.cell 0; have e1 := ar.cell 1; have e2 := ar.cell 2; simp at e0 e1 e2
  have z0 := ar.frozen 0; have z1 := ar.frozen 1; have z2 := ar.frozen 2
  go_wp2_with fail
  have ar3 := ar.store3 (.int .i64 0) (.int .i64 0) (.int .i64 0)
  have b3 := below_set3 b0 (p := w.heap.size + 1 + 1) (by omega) (.int .i64 0) (.int .i64 0) (.int .i64 0)
  clear e0 e1 e2 z0 z1 z2
  generalize World.setCell (World.setCell _ _ _) _ _ = W3 at ar3 b3 ⊢
  have e0 := ar3.cell 0; have e1 := ar3.cell 1; have e2 := ar3.cell 2; simp at e0 e1 e2
  exact bodyPost_ret (v := .tuple #[.agg #[.int .i64 0, .int .i64 0, .int .i64 0], .int .i64 E]) (by simp [results, Try.results21, go_sem, e0, e1, e2]) rfl ⟨rfl, b3⟩
theorem lunisolar_FromDay_out (w : World) (s : ByteArray) (f sn sd mn md ln ld c : Int) (a1 a2 : Option Addr) (n1 c1 n2 c2 : Nat) (ls vs : List Int) (x : Int) (hs : s.size ≤ 9223372036854775807) (hi : MoonI sn sd mn md ln ld) (h : MoonAt w a1 a2 n1 n2 ls vs) (q : moonErr s f sn sd mn md ln ld c ls vs = 0) (hx : inB (-4000000) 4000000 x = false) :
    Calls Try.prog 21 #[.agg #[.string s, .int .i64 f, .int .i64 sn, .int .i64 sd, .int .i64 mn, .int .i64 md, .int .i64 ln, .int .i64 ld, .int .i64 c, .slice a1 n1 c1, .slice a2 n2 c2], .int .i64 x] w fun e w' => e = .returned noDate ∧ Below w.heap.size w w' := by
  have H := Lib.hid h; clear h
  have HE := Lib.hid q; clear q
  go_enter Try.func21, Try.ntmps21
  go_wp2_with fail
  have ar0 := At.new2 w (.cells #[.string s, .int .i64 f, .int .i64 sn, .int .i64 sd, .int .i64 mn, .int .i64 md, .int .i64 ln, .int .i64 ld, .int .i64 c, .slice a1 n1 c1, .slice a2 n2 c2] 26) (.cells #[.int .i64 x] 3) (.cells #[.int .i64 0, .int .i64 0, .int .i64 0] 39)
  have ad0 := (At.new1 w (.cells #[.string s, .int .i64 f, .int .i64 sn, .int .i64 sd, .int .i64 mn, .int .i64 md, .int .i64 ln, .int .i64 ld, .int .i64 c, .slice a1 n1 c1, .slice a2 n2 c2] 26) (.cells #[.int .i64 x] 3)).alloc (.cells #[.int .i64 0, .int .i64 0, .int .i64 0] 39)
  have b0 : Below w.heap.size w (((w.alloc (.cells #[.string s, .int .i64 f, .int .i64 sn, .int .i64 sd, .int .i64 mn, .int .i64 md, .int .i64 ln, .int .i64 ld, .int .i64 c, .slice a1 n1 c1, .slice a2 n2 c2] 26)).alloc (.cells #[.int .i64 x] 3)).alloc (.cells #[.int .i64 0, .int .i64 0, .int .i64 0] 39)) := by (repeat' (first | exact Below.refl _ _ | assumption | refine Below.drew ?_ | refine below_drewN ?_ _ | refine below_new ?_ _ | refine below_set ?_ ?_ _ | refine below_then ?_ (by assumption) | refine below_drawn ?_ (by assumption) | exact Nat.le_refl _ | omega | (simp; done) | (simp; omega)))
  generalize World.alloc (World.alloc (World.alloc w _) _) _ = W1 at ar0 ad0 b0 ⊢
  refine (lunisolar_Check _ s f sn sd mn md ln ld c a1 a2 n1 c1 n2 c2 ls vs hs hi (H.out.then_ b0)).mono ?_
  rw [HE.out]
  rintro e w1 ⟨rfl, hb⟩
  have ar := ar0.then_ hb
  have ad := ad0.then_ hb
  replace b0 := below_then b0 hb
  clear hb ar0 ad0
  have c0 := ad.cell 0
  simp at c0
  go_wp2_with fail
  refine (line_Is _ _).mono ?_; rw [hx]; rintro e w4 ⟨rfl, rfl⟩
  have e0 := ar.cell 0; have e1 := ar.cell 1; have e2 := ar.cell 2; simp at e0 e1 e2
  have z0 := ar.frozen 0; have z1 := ar.frozen 1; have z2 := ar.frozen 2
  go_wp2_with fail
  have ar3 := ar.store3 (.int .i64 0) (.int .i64 0) (.int .i64 0)
  have b3 := below_set3 b0 (p := w.heap.size + 1 + 1) (by omega) (.int .i64 0) (.int .i64 0) (.int .i64 0)
  clear e0 e1 e2 z0 z1 z2 c0
  generalize World.setCell (World.setCell _ _ _) _ _ = W3 at ar3 b3 ⊢
  have e0 := ar3.cell 0; have e1 := ar3.cell 1; have e2 := ar3.cell 2; simp at e0 e1 e2
  exact bodyPost_ret (v := noDate) (by simp [noDate, results, Try.results21, go_sem, e0, e1, e2]) rfl ⟨rfl, b3⟩
set_option maxHeartbeats 2000000 in
theorem lunisolar_FromDay_in (w : World) (s : ByteArray) (f sn sd mn md ln ld c : Int) (a1 a2 : Option Addr) (n1 c1 n2 c2 : Nat) (ls vs : List Int) (N x : Int) (res : Value) (hs : s.size ≤ 9223372036854775807) (hi : MoonI sn sd mn md ln ld) (h : MoonAt w a1 a2 n1 n2 ls vs) (q : moonErr s f sn sd mn md ln ld c ls vs = 0) (ok : MoonOk s f sn sd mn md ln ld c ls vs N) (hx : inB (-4000000) 4000000 x = true) (hres : FromM f sn sd mn md ln ld c N ls vs x res) :
    Calls Try.prog 21 #[.agg #[.string s, .int .i64 f, .int .i64 sn, .int .i64 sd, .int .i64 mn, .int .i64 md, .int .i64 ln, .int .i64 ld, .int .i64 c, .slice a1 n1 c1, .slice a2 n2 c2], .int .i64 x] w fun e w' => e = .returned res ∧ Below w.heap.size w w' := by
  have H := Lib.hid h; clear h
  have HE := Lib.hid q; clear q
  have OK := Lib.hid ok
  have hx2 := inB_iff.1 hx
  obtain ⟨r, hr⟩ := placeG_exists (yearD f sn sd mn md ln ld c N ls vs) (-10000) x 20002
  have hr1 : r ≤ 20002 := hr.1
  have HR := Lib.hid hr
  have hg := yearD_succ ok
  have HRES := Lib.hid hres
  have t1 : IntKind.i64.wrap (-10000 + (r : Int)) = -10000 + (r : Int) := IntWalk.i64_in _ (by omega)
  obtain ⟨y, hyr⟩ : ∃ y, y = -10000 + (r : Int) - 1 := ⟨_, rfl⟩
  have t2 : IntKind.i64.wrap (-10000 + (r : Int) - 1) = y := by rw [hyr]; exact IntWalk.i64_in _ (by omega)
  have hcase : (y ≤ -10000 ∧ res = noDate) ∨ (-10000 < y ∧ 10000 ≤ y ∧ res = noDate) ∨ (-9999 ≤ y ∧ y ≤ 9999 ∧ InMoonYear (yearD f sn sd mn md ln ld c N ls vs) y x ∧ res = dateM f sn sd mn md ln ld c N ls vs x y) := by
    by_cases h1 : r ≤ 1
    · refine .inl ⟨by omega, hres.low ?_⟩
      have := hr.2.2 (by omega)
      have := rise_le _ hg (show -10000 + (r : Int) ≤ -9999 by omega)
      omega
    by_cases h2 : 20001 ≤ r
    · refine .inr (.inl ⟨by omega, by omega, hres.high ?_⟩)
      have := hr.2.1 20000 (by omega)
      rw [show -10000 + ((20000 : Nat) : Int) = 10000 by omega] at this
      exact this
    have hy : InMoonYear (yearD f sn sd mn md ln ld c N ls vs) y x := by
      refine ⟨?_, ?_⟩
      · have := hr.2.1 (r - 1) (by omega)
        rw [show -10000 + (((r - 1 : Nat)) : Int) = y by omega] at this; exact this
      · rw [show y + 1 = -10000 + (r : Int) by omega]; exact hr.2.2 (by omega)
    exact .inr (.inr ⟨by omega, by omega, hy, hres.mid y (by omega) (by omega) hy⟩)
  clear ok hres hr hyr hg
  rcases hcase with ⟨hy, hre⟩ | ⟨hy1, hy, hre⟩ | ⟨hy1, hy2, hin, hre⟩
  · have g1 : decide (y ≤ -10000) = true := by simpa using hy
    subst hre
    go_enter Try.func21, Try.ntmps21
    go_wp2_with fail
    have t30 : Tri w w.heap.size (w.heap.size + 1) (w.heap.size + 1 + 1) (.cells #[.string s, .int .i64 f, .int .i64 sn, .int .i64 sd, .int .i64 mn, .int .i64 md, .int .i64 ln, .int .i64 ld, .int .i64 c, .slice a1 n1 c1, .slice a2 n2 c2] 26) (.cells #[.int .i64 x] 3) (.cells #[.int .i64 0, .int .i64 0, .int .i64 0] 39) (((w.alloc (.cells #[.string s, .int .i64 f, .int .i64 sn, .int .i64 sd, .int .i64 mn, .int .i64 md, .int .i64 ln, .int .i64 ld, .int .i64 c, .slice a1 n1 c1, .slice a2 n2 c2] 26)).alloc (.cells #[.int .i64 x] 3)).alloc (.cells #[.int .i64 0, .int .i64 0, .int .i64 0] 39)) := ⟨(((At.new w (.cells #[.string s, .int .i64 f, .int .i64 sn, .int .i64 sd, .int .i64 mn, .int .i64 md, .int .i64 ln, .int .i64 ld, .int .i64 c, .slice a1 n1 c1, .slice a2 n2 c2] 26)).alloc (.cells #[.int .i64 x] 3)).alloc (.cells #[.int .i64 0, .int .i64 0, .int .i64 0] 39)), (At.new1 w (.cells #[.string s, .int .i64 f, .int .i64 sn, .int .i64 sd, .int .i64 mn, .int .i64 md, .int .i64 ln, .int .i64 ld, .int .i64 c, .slice a1 n1 c1, .slice a2 n2 c2] 26) (.cells #[.int .i64 x] 3)).alloc (.cells #[.int .i64 0, .int .i64 0, .int .i64 0] 39), At.new2 w (.cells #[.string s, .int .i64 f, .int .i64 sn, .int .i64 sd, .int .i64 mn, .int .i64 md, .int .i64 ln, .int .i64 ld, .int .i64 c, .slice a1 n1 c1, .slice a2 n2 c2] 26) (.cells #[.int .i64 x] 3) (.cells #[.int .i64 0, .int .i64 0, .int .i64 0] 39), by (repeat' (first | exact Below.refl _ _ | assumption | refine Below.drew ?_ | refine below_drewN ?_ _ | refine below_new ?_ _ | refine below_set ?_ ?_ _ | refine below_then ?_ (by assumption) | refine below_drawn ?_ (by assumption) | exact Nat.le_refl _ | omega | (simp; done) | (simp; omega)))⟩
    generalize World.alloc (World.alloc (World.alloc w _) _) _ = W1 at t30 ⊢
    refine (lunisolar_Check _ s f sn sd mn md ln ld c a1 a2 n1 c1 n2 c2 ls vs hs hi (H.out.then_ t30.2.2.2)).mono ?_
    rw [HE.out]
    rintro e w1 ⟨rfl, hb⟩
    have t3' := t30.step hb
    clear hb t30
    have c0 := t3'.2.1.cell 0
    simp at c0
    go_wp2_with fail
    refine (line_Is _ _).mono ?_; rw [hx]; rintro e w4 ⟨rfl, rfl⟩
    go_wp2_with fail
    have f4 : FromB w w1.heap.size (.cells #[.string s, .int .i64 f, .int .i64 sn, .int .i64 sd, .int .i64 mn, .int .i64 md, .int .i64 ln, .int .i64 ld, .int .i64 c, .slice a1 n1 c1, .slice a2 n2 c2] 26) (.cells #[.int .i64 x] 3) (w1.alloc (.cells #[.int .i64 (-10000)] 3)) := ⟨⟨t3'.1.alloc _, At.new w1 _, t3'.2.1.alloc _, below_new t3'.2.2.2 _⟩, t3'.2.2.1.alloc _⟩
    clear t3' c0
    generalize World.alloc w1 _ = W2 at f4 ⊢
    generalize w1.heap.size = bl at f4 ⊢
    (refine region_class (FromB w bl (.cells #[.string s, .int .i64 f, .int .i64 sn, .int .i64 sd, .int .i64 mn, .int .i64 md, .int .i64 ln, .int .i64 ld, .int .i64 c, .slice a1 n1 c1, .slice a2 n2 c2] 26) (.cells #[.int .i64 x] 3)) (by kernel_rfl) (by kernel_rfl) (f4.drew) ?_; repeat ((first | (refine class_take ?_ (by rfl) ?_ ?_; rotate_left; focus (intro wq hq; ((obtain ⟨⟨x0, x1, x2, x3, x4, x5, x6, x7, x8, x9, x10⟩, y0, y1⟩ := hq.1.moon)); go_simp; first | done | with_reducible rfl | ((go_at_call 52; refine (lsearch_year w _ s f sn sd mn md ln ld c a1 a2 n1 c1 n2 c2 ls vs N x _ _ _ _ _ _ r HR.out OK.out H.out hq.1).mono ?_; rintro e w' ⟨rfl, hb⟩; refine ⟨?_, hq.step hb⟩; with_reducible rfl)))) | refine class_skip (by rfl) ?_); try simp only [Act.put, List.setIfInBounds_toArray, List.set_cons_zero, List.set_cons_succ]))
    refine wpQuiet_nil ?_
    intro W3 f43
    clear f4 t1 t2
    have f4 := f43
    clear f43
    have ar := f4.2
    have e0 := ar.cell 0; have e1 := ar.cell 1; have e2 := ar.cell 2; simp at e0 e1 e2
    have z0 := ar.frozen 0; have z1 := ar.frozen 1; have z2 := ar.frozen 2
    go_wp2_with fail
    have ar3 := ar.store3 (.int .i64 0) (.int .i64 0) (.int .i64 0)
    have b3 := below_set3 f4.1.2.2.2 (p := w.heap.size + 1 + 1) (by omega) (.int .i64 0) (.int .i64 0) (.int .i64 0)
    clear e0 e1 e2 z0 z1 z2
    generalize World.setCell (World.setCell _ _ _) _ _ = W5 at ar3 b3 ⊢
    have e0 := ar3.cell 0; have e1 := ar3.cell 1; have e2 := ar3.cell 2; simp at e0 e1 e2
    exact bodyPost_ret (v := noDate) (by simp [noDate, results, Try.results21, go_sem, e0, e1, e2]) rfl ⟨rfl, b3⟩
  · have g1 : decide (y ≤ -10000) = false := by simp; omega
    have g2 : decide (10000 ≤ y) = true := by simpa using hy
    subst hre
    go_enter Try.func21, Try.ntmps21
    go_wp2_with fail
    have t30 : Tri w w.heap.size (w.heap.size + 1) (w.heap.size + 1 + 1) (.cells #[.string s, .int .i64 f, .int .i64 sn, .int .i64 sd, .int .i64 mn, .int .i64 md, .int .i64 ln, .int .i64 ld, .int .i64 c, .slice a1 n1 c1, .slice a2 n2 c2] 26) (.cells #[.int .i64 x] 3) (.cells #[.int .i64 0, .int .i64 0, .int .i64 0] 39) (((w.alloc (.cells #[.string s, .int .i64 f, .int .i64 sn, .int .i64 sd, .int .i64 mn, .int .i64 md, .int .i64 ln, .int .i64 ld, .int .i64 c, .slice a1 n1 c1, .slice a2 n2 c2] 26)).alloc (.cells #[.int .i64 x] 3)).alloc (.cells #[.int .i64 0, .int .i64 0, .int .i64 0] 39)) := ⟨(((At.new w (.cells #[.string s, .int .i64 f, .int .i64 sn, .int .i64 sd, .int .i64 mn, .int .i64 md, .int .i64 ln, .int .i64 ld, .int .i64 c, .slice a1 n1 c1, .slice a2 n2 c2] 26)).alloc (.cells #[.int .i64 x] 3)).alloc (.cells #[.int .i64 0, .int .i64 0, .int .i64 0] 39)), (At.new1 w (.cells #[.string s, .int .i64 f, .int .i64 sn, .int .i64 sd, .int .i64 mn, .int .i64 md, .int .i64 ln, .int .i64 ld, .int .i64 c, .slice a1 n1 c1, .slice a2 n2 c2] 26) (.cells #[.int .i64 x] 3)).alloc (.cells #[.int .i64 0, .int .i64 0, .int .i64 0] 39), At.new2 w (.cells #[.string s, .int .i64 f, .int .i64 sn, .int .i64 sd, .int .i64 mn, .int .i64 md, .int .i64 ln, .int .i64 ld, .int .i64 c, .slice a1 n1 c1, .slice a2 n2 c2] 26) (.cells #[.int .i64 x] 3) (.cells #[.int .i64 0, .int .i64 0, .int .i64 0] 39), by (repeat' (first | exact Below.refl _ _ | assumption | refine Below.drew ?_ | refine below_drewN ?_ _ | refine below_new ?_ _ | refine below_set ?_ ?_ _ | refine below_then ?_ (by assumption) | refine below_drawn ?_ (by assumption) | exact Nat.le_refl _ | omega | (simp; done) | (simp; omega)))⟩
    generalize World.alloc (World.alloc (World.alloc w _) _) _ = W1 at t30 ⊢
    refine (lunisolar_Check _ s f sn sd mn md ln ld c a1 a2 n1 c1 n2 c2 ls vs hs hi (H.out.then_ t30.2.2.2)).mono ?_
    rw [HE.out]
    rintro e w1 ⟨rfl, hb⟩
    have t3' := t30.step hb
    clear hb t30
    have c0 := t3'.2.1.cell 0
    simp at c0
    go_wp2_with fail
    refine (line_Is _ _).mono ?_; rw [hx]; rintro e w4 ⟨rfl, rfl⟩
    go_wp2_with fail
    have f4 : FromB w w1.heap.size (.cells #[.string s, .int .i64 f, .int .i64 sn, .int .i64 sd, .int .i64 mn, .int .i64 md, .int .i64 ln, .int .i64 ld, .int .i64 c, .slice a1 n1 c1, .slice a2 n2 c2] 26) (.cells #[.int .i64 x] 3) (w1.alloc (.cells #[.int .i64 (-10000)] 3)) := ⟨⟨t3'.1.alloc _, At.new w1 _, t3'.2.1.alloc _, below_new t3'.2.2.2 _⟩, t3'.2.2.1.alloc _⟩
    clear t3' c0
    generalize World.alloc w1 _ = W2 at f4 ⊢
    generalize w1.heap.size = bl at f4 ⊢
    (refine region_class (FromB w bl (.cells #[.string s, .int .i64 f, .int .i64 sn, .int .i64 sd, .int .i64 mn, .int .i64 md, .int .i64 ln, .int .i64 ld, .int .i64 c, .slice a1 n1 c1, .slice a2 n2 c2] 26) (.cells #[.int .i64 x] 3)) (by kernel_rfl) (by kernel_rfl) (f4.drew) ?_; repeat ((first | (refine class_take ?_ (by rfl) ?_ ?_; rotate_left; focus (intro wq hq; ((obtain ⟨⟨x0, x1, x2, x3, x4, x5, x6, x7, x8, x9, x10⟩, y0, y1⟩ := hq.1.moon)); go_simp; first | done | with_reducible rfl | ((go_at_call 52; refine (lsearch_year w _ s f sn sd mn md ln ld c a1 a2 n1 c1 n2 c2 ls vs N x _ _ _ _ _ _ r HR.out OK.out H.out hq.1).mono ?_; rintro e w' ⟨rfl, hb⟩; refine ⟨?_, hq.step hb⟩; with_reducible rfl)))) | refine class_skip (by rfl) ?_); try simp only [Act.put, List.setIfInBounds_toArray, List.set_cons_zero, List.set_cons_succ]))
    refine wpQuiet_nil ?_
    intro W3 f43
    clear f4 t1 t2
    have f4 := f43
    clear f43
    have ar := f4.2
    have e0 := ar.cell 0; have e1 := ar.cell 1; have e2 := ar.cell 2; simp at e0 e1 e2
    have z0 := ar.frozen 0; have z1 := ar.frozen 1; have z2 := ar.frozen 2
    go_wp2_with fail
    have ar3 := ar.store3 (.int .i64 0) (.int .i64 0) (.int .i64 0)
    have b3 := below_set3 f4.1.2.2.2 (p := w.heap.size + 1 + 1) (by omega) (.int .i64 0) (.int .i64 0) (.int .i64 0)
    clear e0 e1 e2 z0 z1 z2
    generalize World.setCell (World.setCell _ _ _) _ _ = W5 at ar3 b3 ⊢
    have e0 := ar3.cell 0; have e1 := ar3.cell 1; have e2 := ar3.cell 2; simp at e0 e1 e2
    exact bodyPost_ret (v := noDate) (by simp [noDate, results, Try.results21, go_sem, e0, e1, e2]) rfl ⟨rfl, b3⟩
  · have g1 : decide (y ≤ -10000) = false := by simp; omega
    have g2 : decide (10000 ≤ y) = false := by simp; omega
    have hmm := mths_in c ls y
    obtain ⟨MM, hMM⟩ : ∃ MM : Nat, (MM : Int) = mths c ls y := ⟨(mths c ls y).toNat, by omega⟩
    have hk : monK f sn sd mn md ln ld c N ls vs x y = monF (fun m => begD f sn sd mn md ln ld c N ls vs y m) x MM := by
      unfold monK; rw [← hMM]; rfl
    have hin1 : begD f sn sd mn md ln ld c N ls vs y 1 ≤ x := hin.1
    rw [← hMM] at hmm
    have HMM := Lib.hid hMM
    have fb : ∀ (W : World) (m : Nat), Below w.heap.size w W → 1 ≤ m → m ≤ MM → Calls Try.prog 42 #[.agg #[.string s, .int .i64 f, .int .i64 sn, .int .i64 sd, .int .i64 mn, .int .i64 md, .int .i64 ln, .int .i64 ld, .int .i64 c, .slice a1 n1 c1, .slice a2 n2 c2], .int .i64 y, .int .i64 (m : Int)] W fun e w' => e = .returned (.int .i64 (begD f sn sd mn md ln ld c N ls vs y (m : Int))) ∧ Below W.heap.size W w' := fun W m hW m1 m2 => by
      have := lunisolar_begin W s f sn sd mn md ln ld c a1 a2 n1 c1 n2 c2 ls vs N y m OK.out (by omega) (by omega) (by omega) (by omega) (H.out.then_ hW)
      rw [beginD_at (by omega)] at this
      exact this
    have hbin : ∀ m : Nat, 1 ≤ m → m ≤ MM → -16000000 ≤ begD f sn sd mn md ln ld c N ls vs y (m : Int) ∧ begD f sn sd mn md ln ld c N ls vs y (m : Int) ≤ 16000000 := fun m m1 m2 => begD_in OK.out y m (by omega) (by omega) (by omega) (by omega)
    have HB1 := Lib.hid hin1
    unfold dateM at hre
    obtain ⟨g, hg⟩ : ∃ g : Int → Int, g = fun m => begD f sn sd mn md ln ld c N ls vs y m := ⟨_, rfl⟩
    have hgm : ∀ m : Int, begD f sn sd mn md ln ld c N ls vs y m = g m := fun m => by rw [hg]
    rw [← hg] at hk
    rw [hgm, hk] at hre
    simp only [hgm] at fb hbin HB1
    have FB := Lib.hid fb; have HBI := Lib.hid hbin; have HRE := Lib.hid hre
    clear fb hbin hin1 hin hk hgm hg hMM hre
    go_enter Try.func21, Try.ntmps21
    go_wp2_with fail
    have t30 : Tri w w.heap.size (w.heap.size + 1) (w.heap.size + 1 + 1) (.cells #[.string s, .int .i64 f, .int .i64 sn, .int .i64 sd, .int .i64 mn, .int .i64 md, .int .i64 ln, .int .i64 ld, .int .i64 c, .slice a1 n1 c1, .slice a2 n2 c2] 26) (.cells #[.int .i64 x] 3) (.cells #[.int .i64 0, .int .i64 0, .int .i64 0] 39) (((w.alloc (.cells #[.string s, .int .i64 f, .int .i64 sn, .int .i64 sd, .int .i64 mn, .int .i64 md, .int .i64 ln, .int .i64 ld, .int .i64 c, .slice a1 n1 c1, .slice a2 n2 c2] 26)).alloc (.cells #[.int .i64 x] 3)).alloc (.cells #[.int .i64 0, .int .i64 0, .int .i64 0] 39)) := ⟨(((At.new w (.cells #[.string s, .int .i64 f, .int .i64 sn, .int .i64 sd, .int .i64 mn, .int .i64 md, .int .i64 ln, .int .i64 ld, .int .i64 c, .slice a1 n1 c1, .slice a2 n2 c2] 26)).alloc (.cells #[.int .i64 x] 3)).alloc (.cells #[.int .i64 0, .int .i64 0, .int .i64 0] 39)), (At.new1 w (.cells #[.string s, .int .i64 f, .int .i64 sn, .int .i64 sd, .int .i64 mn, .int .i64 md, .int .i64 ln, .int .i64 ld, .int .i64 c, .slice a1 n1 c1, .slice a2 n2 c2] 26) (.cells #[.int .i64 x] 3)).alloc (.cells #[.int .i64 0, .int .i64 0, .int .i64 0] 39), At.new2 w (.cells #[.string s, .int .i64 f, .int .i64 sn, .int .i64 sd, .int .i64 mn, .int .i64 md, .int .i64 ln, .int .i64 ld, .int .i64 c, .slice a1 n1 c1, .slice a2 n2 c2] 26) (.cells #[.int .i64 x] 3) (.cells #[.int .i64 0, .int .i64 0, .int .i64 0] 39), by (repeat' (first | exact Below.refl _ _ | assumption | refine Below.drew ?_ | refine below_drewN ?_ _ | refine below_new ?_ _ | refine below_set ?_ ?_ _ | refine below_then ?_ (by assumption) | refine below_drawn ?_ (by assumption) | exact Nat.le_refl _ | omega | (simp; done) | (simp; omega)))⟩
    generalize World.alloc (World.alloc (World.alloc w _) _) _ = W1 at t30 ⊢
    refine (lunisolar_Check _ s f sn sd mn md ln ld c a1 a2 n1 c1 n2 c2 ls vs hs hi (H.out.then_ t30.2.2.2)).mono ?_
    rw [HE.out]
    rintro e w1 ⟨rfl, hb⟩
    have t3' := t30.step hb
    clear hb t30
    have c0 := t3'.2.1.cell 0
    simp at c0
    go_wp2_with fail
    refine (line_Is _ _).mono ?_; rw [hx]; rintro e w4 ⟨rfl, rfl⟩
    go_wp2_with fail
    have f4 : FromB w w1.heap.size (.cells #[.string s, .int .i64 f, .int .i64 sn, .int .i64 sd, .int .i64 mn, .int .i64 md, .int .i64 ln, .int .i64 ld, .int .i64 c, .slice a1 n1 c1, .slice a2 n2 c2] 26) (.cells #[.int .i64 x] 3) (w1.alloc (.cells #[.int .i64 (-10000)] 3)) := ⟨⟨t3'.1.alloc _, At.new w1 _, t3'.2.1.alloc _, below_new t3'.2.2.2 _⟩, t3'.2.2.1.alloc _⟩
    clear t3' c0
    generalize World.alloc w1 _ = W2 at f4 ⊢
    generalize w1.heap.size = bl at f4 ⊢
    (refine region_class (FromB w bl (.cells #[.string s, .int .i64 f, .int .i64 sn, .int .i64 sd, .int .i64 mn, .int .i64 md, .int .i64 ln, .int .i64 ld, .int .i64 c, .slice a1 n1 c1, .slice a2 n2 c2] 26) (.cells #[.int .i64 x] 3)) (by kernel_rfl) (by kernel_rfl) (f4.drew) ?_; repeat ((first | (refine class_take ?_ (by rfl) ?_ ?_; rotate_left; focus (intro wq hq; ((obtain ⟨⟨x0, x1, x2, x3, x4, x5, x6, x7, x8, x9, x10⟩, y0, y1⟩ := hq.1.moon)); go_simp; first | done | with_reducible rfl | ((go_at_call 52; refine (lsearch_year w _ s f sn sd mn md ln ld c a1 a2 n1 c1 n2 c2 ls vs N x _ _ _ _ _ _ r HR.out OK.out H.out hq.1).mono ?_; rintro e w' ⟨rfl, hb⟩; refine ⟨?_, hq.step hb⟩; with_reducible rfl)))) | refine class_skip (by rfl) ?_); try simp only [Act.put, List.setIfInBounds_toArray, List.set_cons_zero, List.set_cons_succ]))
    refine wpQuiet_nil ?_
    intro W3 f43
    clear f4 t1 t2
    have f4 := f43
    clear f43
    obtain ⟨⟨x0, x1, x2, x3, x4, x5, x6, x7, x8, x9, x10⟩, y0, y1⟩ := f4.1.moon
    go_wp2_with fail
    refine (lunisolar_months _ s f sn sd mn md ln ld c a1 a2 n1 c1 n2 c2 ls vs N y OK.out (by omega) (by omega) (H.out.then_ f4.1.2.2.2)).mono ?_
    rw [← HMM.out]
    rintro e w5 ⟨rfl, hb⟩
    replace f4 := f4.step hb
    clear hb x0 x1 x2 x3 x4 x5 x6 x7 x8 x9 x10 y0 y1
    go_wp2_with fail
    go_loopw [9] (fun t wr => ∃ (j : Nat), t = .int .i64 (j : Int) ∧ 1 ≤ j ∧ j ≤ MM ∧ monF g x j = monF g x MM ∧ FromB w bl (.cells #[.string s, .int .i64 f, .int .i64 sn, .int .i64 sd, .int .i64 mn, .int .i64 md, .int .i64 ln, .int .i64 ld, .int .i64 c, .slice a1 n1 c1, .slice a2 n2 c2] 26) (.cells #[.int .i64 x] 3) wr) (fun t _ => (intOf t).toNat)
    case atStart => exact ⟨MM, rfl, by omega, by omega, rfl, f4⟩
    case round =>
      clear f4
      obtain ⟨j, rfl, j1, j2, hj, f4⟩ := hrel
      have HJ := Lib.hid hj; clear hj
      obtain ⟨bi1, bi2⟩ := HBI.out j j1 j2
      have fbj := FB.out
      obtain ⟨G, hG⟩ : ∃ G, G = g (j : Int) := ⟨_, rfl⟩
      rw [← hG] at bi1 bi2
      have HG := Lib.hid hG; clear hG fbj
      by_cases hlt : x < G
      · have hj2 : 2 ≤ j := by
          rcases Nat.lt_or_ge j 2 with h | h
          · have : j = 1 := by omega
            subst this
            have := HB1.out; rw [HG.out] at hlt
            exact absurd hlt (by simpa using this)
          · exact h
        have hnx := Lib.hid (monF_next (g := g) (x := x) hj2 (by rw [← HG.out]; exact hlt))
        have t3 : IntKind.i64.wrap ((j : Int) - 1) = (j : Int) - 1 := IntWalk.i64_in _ (by omega)
        go_wp2_with fail
        (refine region_class (FromB w bl (.cells #[.string s, .int .i64 f, .int .i64 sn, .int .i64 sd, .int .i64 mn, .int .i64 md, .int .i64 ln, .int .i64 ld, .int .i64 c, .slice a1 n1 c1, .slice a2 n2 c2] 26) (.cells #[.int .i64 x] 3)) (by kernel_rfl) (by kernel_rfl) (f4.drew) ?_; repeat ((first | (refine class_take ?_ (by rfl) ?_ ?_; rotate_left; focus (intro wq hq; ((obtain ⟨⟨x0, x1, x2, x3, x4, x5, x6, x7, x8, x9, x10⟩, y0, y1⟩ := hq.1.moon)); go_simp; first | done | with_reducible rfl | ((go_at_call 42; refine (FB.out _ j hq.1.2.2.2 j1 j2).mono ?_; rw [← HG.out]; rintro e w' ⟨rfl, hb⟩; refine ⟨?_, hq.step hb⟩; with_reducible rfl)))) | refine class_skip (by rfl) ?_); try simp only [Act.put, List.setIfInBounds_toArray, List.set_cons_zero, List.set_cons_succ]))
        refine wpQuiet_nil ?_
        intro W6 f46
        clear f4
        go_wp2_with fail
        go_roundw
        case rel => exact ⟨j - 1, by go_num, by omega, by omega, by rw [hnx.out, HJ.out], f46⟩
        case measure => simp [intOf]; omega
      · have hst := monF_stop (g := g) (x := x) j1 (by rw [← HG.out]; omega)
        have hfin := HRE.out
        rw [← HJ.out, hst, ← HG.out] at hfin
        have HFIN := Lib.hid hfin
        clear hst hfin
        have t3 : IntKind.i64.wrap (x - G) = x - G := IntWalk.i64_in _ (by omega)
        have t4 : IntKind.i64.wrap (x - G + 1) = x - G + 1 := IntWalk.i64_in _ (by omega)
        go_wp2_with fail
        (refine region_class (FromB w bl (.cells #[.string s, .int .i64 f, .int .i64 sn, .int .i64 sd, .int .i64 mn, .int .i64 md, .int .i64 ln, .int .i64 ld, .int .i64 c, .slice a1 n1 c1, .slice a2 n2 c2] 26) (.cells #[.int .i64 x] 3)) (by kernel_rfl) (by kernel_rfl) (f4.drew) ?_; repeat ((first | (refine class_take ?_ (by rfl) ?_ ?_; rotate_left; focus (intro wq hq; ((obtain ⟨⟨x0, x1, x2, x3, x4, x5, x6, x7, x8, x9, x10⟩, y0, y1⟩ := hq.1.moon)); go_simp; first | done | with_reducible rfl | ((go_at_call 42; refine (FB.out _ j hq.1.2.2.2 j1 j2).mono ?_; rw [← HG.out]; rintro e w' ⟨rfl, hb⟩; refine ⟨?_, hq.step hb⟩; with_reducible rfl)))) | refine class_skip (by rfl) ?_); try simp only [Act.put, List.setIfInBounds_toArray, List.set_cons_zero, List.set_cons_succ]))
        refine wpQuiet_nil ?_
        intro W6 f46
        clear f4
        go_wp2_with fail
        obtain ⟨⟨x0, x1, x2, x3, x4, x5, x6, x7, x8, x9, x10⟩, y0, y1⟩ := f46.drew.1.moon
        go_region_with (go_at_call 42; refine (FB.out _ j f46.drew.1.2.2.2 j1 j2).mono ?_; rw [← HG.out]; rintro e w7 ⟨rfl, hb⟩; have f47 := f46.drew.step hb; clear hb; obtain ⟨_, _, u1⟩ := f47.1.moon; have ar := f47.2; have e0 := ar.cell 0; have e1 := ar.cell 1; have e2 := ar.cell 2; simp at e0 e1 e2; have z0 := ar.frozen 0; have z1 := ar.frozen 1; have z2 := ar.frozen 2)
        all_goals
          go_wp2_with fail
          have ar3 := ar.store3 (.int .i64 y) (.int .i64 (j : Int)) (.int .i64 (x - G + 1))
          have b3 := below_set3 f47.1.2.2.2 (p := w.heap.size + 1 + 1) (by omega) (.int .i64 y) (.int .i64 (j : Int)) (.int .i64 (x - G + 1))
          clear e0 e1 e2 z0 z1 z2
          generalize World.setCell (World.setCell _ _ _) _ _ = W8 at ar3 b3 ⊢
          have e0 := ar3.cell 0; have e1 := ar3.cell 1; have e2 := ar3.cell 2; simp at e0 e1 e2
          exact bodyPost_ret (v := .tuple #[.agg #[.int .i64 y, .int .i64 (j : Int), .int .i64 (x - G + 1)], .int .i64 0]) (by simp [results, Try.results21, go_sem, e0, e1, e2]) rfl ⟨congrArg Ending.returned HFIN.out.symm, b3⟩
end Go.Proofs.Ytjekdceicjnamaa
