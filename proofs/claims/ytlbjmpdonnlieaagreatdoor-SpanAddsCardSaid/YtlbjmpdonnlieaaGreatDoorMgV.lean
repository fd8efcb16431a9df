/- Several texts in one: From1, From2, From3, From4, From5, ToDay2. -/
import Derived.Test.YtlbjmpdonnlieaaGreatDoorMgJ
set_option linter.unusedSimpArgs false
namespace Go.Proofs.YtlbjmpdonnlieaaGreatDoor
set_option linter.unusedVariables false
set_option maxRecDepth 100000
open Go.RowKit
def Tri (w0 : World) (b1 b2 b3 : Nat) (o1 o2 o3 : Obj) (W : World) : Prop := At W b1 o1 ∧ At W b2 o2 ∧ At W b3 o3 ∧ Below w0.heap.size w0 W
theorem Tri.step {w0 W W' : World} {b1 b2 b3 : Nat} {o1 o2 o3 : Obj} (h : Tri w0 b1 b2 b3 o1 o2 o3 W) (hb : Below W.heap.size W W') : Tri w0 b1 b2 b3 o1 o2 o3 W' := ⟨h.1.then_ hb, h.2.1.then_ hb, h.2.2.1.then_ hb, below_then h.2.2.2 hb⟩
theorem Tri.drew {w0 W : World} {b1 b2 b3 : Nat} {o1 o2 o3 : Obj} (h : Tri w0 b1 b2 b3 o1 o2 o3 W) : Tri w0 b1 b2 b3 o1 o2 o3 W.drew := ⟨h.1.drew, h.2.1.drew, h.2.2.1.drew, h.2.2.2.drew⟩
theorem Tri.cells {w0 W : World} {b1 b2 b3 : Nat} {t1 t2 t3 : TypeId} {v0 v1 v2 v3 v4 x y : Value} (h : Tri w0 b1 b2 b3 (.cells #[v0, v1, v2, v3, v4] t1) (.cells #[x] t2) (.cells #[y] t3) W) :
    W.cell? ⟨b1, 0, none⟩ = some v0 ∧ W.cell? ⟨b1, 1, none⟩ = some v1 ∧ W.cell? ⟨b1, 2, none⟩ = some v2 ∧ W.cell? ⟨b1, 3, none⟩ = some v3 ∧ W.cell? ⟨b1, 4, none⟩ = some v4 ∧ W.cell? ⟨b2, 0, none⟩ = some x ∧ W.cell? ⟨b3, 0, none⟩ = some y :=
  ⟨h.1.cell 0, h.1.cell 1, h.1.cell 2, h.1.cell 3, h.1.cell 4, h.2.1.cell 0, h.2.2.1.cell 0⟩
theorem fromDay_closure (w0 w : World) (s : ByteArray) (f c : Int) (a1 a2 : Option Addr) (n1 c1 n2 c2 : Nat) (ms : List Mon) (ls : List Int) (x : Int) (b1 b2 b3 : Nat) (t1 t2 t3 : TypeId) (i : Nat) (hi : i < 20004) (ok : CalOk s f c ms ls) (h : CalAt w0 a1 a2 n1 n2 ms ls) (ht : Tri w0 b1 b2 b3 (.cells #[.string s, .int .i64 f, .int .i64 c, .slice a1 n1 c1, .slice a2 n2 c2] t1) (.cells #[.int .i64 (-10001)] t2) (.cells #[.int .i64 x] t3) w) :
    Calls Tryz.prog 137 #[.int .i64 (i : Int), .pointer (some ⟨b1, 0, none⟩), .pointer (some ⟨b2, 0, none⟩), .pointer (some ⟨b3, 0, none⟩)] w fun e w' => e = .returned (.bool (decide (x < nyOf (shortOf ms) (longOf ms) f c ls (-10001 + (i : Int))))) ∧ Tri w0 b1 b2 b3 (.cells #[.string s, .int .i64 f, .int .i64 c, .slice a1 n1 c1, .slice a2 n2 c2] t1) (.cells #[.int .i64 (-10001)] t2) (.cells #[.int .i64 x] t3) w' := by
  have H := Lib.hid h; have OK := Lib.hid ok; clear h ok
  obtain ⟨N, hN⟩ : ∃ N, N = nyOf (shortOf ms) (longOf ms) f c ls (-10001 + (i : Int)) := ⟨_, rfl⟩
  rw [← hN]
  have HN := Lib.hid hN; clear hN
  have t0 : IntKind.i64.wrap (-10001 + (i : Int)) = -10001 + (i : Int) := IntWalk.i64_in _ (by omega)
  have y1 : -20000 ≤ -10001 + (i : Int) := by omega
  have y2 : -10001 + (i : Int) ≤ 20000 := by omega
  go_enter Tryz.func137, Tryz.ntmps137
  go_wp2_with fail
  (refine region_class (Tri w0 b1 b2 b3 (.cells #[.string s, .int .i64 f, .int .i64 c, .slice a1 n1 c1, .slice a2 n2 c2] t1) (.cells #[.int .i64 (-10001)] t2) (.cells #[.int .i64 x] t3)) (by kernel_rfl) (by kernel_rfl) (ht.drew) ?_; repeat ((first | (refine class_take ?_ (by rfl) ?_ ?_; rotate_left; focus (intro wq hq; ((obtain ⟨x0, x1, x2, x3, x4, x5, x6⟩ := hq.cells)); go_simp; first | done | with_reducible rfl | (first | (go_at_call 138; refine (arith_newYear _ _ _ _ _ _ _ _ _ _ ms ls _ OK.out y1 y2 (H.out.then_ hq.2.2.2)).mono ?_; rw [← HN.out]; rintro e w' ⟨rfl, hb⟩; refine ⟨?_, hq.step hb⟩; with_reducible rfl)))) | refine class_skip (by rfl) ?_); try simp only [Act.put, List.setIfInBounds_toArray, List.set_cons_zero, List.set_cons_succ]))
  refine wpQuiet_nil ?_
  intro W2 tw2
  clear t0
  go_wp2_with fail
  go_ret
  exact ⟨rfl, tw2⟩
def Place (ms : List Mon) (ls : List Int) (f c x : Int) (r : Nat) : Prop := r ≤ 20004 ∧ (∀ i : Nat, i < r → nyOf (shortOf ms) (longOf ms) f c ls (-10001 + (i : Int)) ≤ x) ∧ (r < 20004 → x < nyOf (shortOf ms) (longOf ms) f c ls (-10001 + (r : Int)))
theorem place_unique {s : ByteArray} {f c : Int} {ms : List Mon} {ls : List Int} (ok : CalOk s f c ms ls) {x : Int} {r r' : Nat} (h : Place ms ls f c x r) (h1 : r' ≤ 20004) (h2 : ∀ i, r' = i + 1 → ¬ x < nyOf (shortOf ms) (longOf ms) f c ls (-10001 + (i : Int))) (h3 : r' < 20004 → x < nyOf (shortOf ms) (longOf ms) f c ls (-10001 + (r' : Int))) : r' = r := by
  rcases Nat.lt_trichotomy r' r with q | q | q
  · have := h.2.1 r' q; have := h3 (by have := h.1; omega); omega
  · exact q
  · have a := h.2.2 (by omega)
    have b := h2 (r' - 1) (by omega)
    have m := nyOf_lt ok (show -10001 + (r : Int) ≤ -10001 + ((r' - 1 : Nat) : Int) by omega)
    omega
theorem place_exists (ms : List Mon) (ls : List Int) (f c x : Int) : ∃ r, Place ms ls f c x r := by
  have key : ∀ n : Nat, n ≤ 20004 → (∃ r, r < n ∧ (∀ i : Nat, i < r → nyOf (shortOf ms) (longOf ms) f c ls (-10001 + (i : Int)) ≤ x) ∧ x < nyOf (shortOf ms) (longOf ms) f c ls (-10001 + (r : Int))) ∨ (∀ i : Nat, i < n → nyOf (shortOf ms) (longOf ms) f c ls (-10001 + (i : Int)) ≤ x) := by
    intro n
    induction n with
    | zero => intro _; exact .inr fun i hi => by omega
    | succ n ih =>
      intro hn
      rcases ih (by omega) with ⟨r, h1, h2, h3⟩ | h
      · exact .inl ⟨r, by omega, h2, h3⟩
      · by_cases q : x < nyOf (shortOf ms) (longOf ms) f c ls (-10001 + (n : Int))
        · exact .inl ⟨n, by omega, h, q⟩
        · refine .inr fun i hi => ?_
          rcases Nat.lt_or_ge i n with q' | q'
          · exact h i q'
          · have : i = n := by omega
            subst this; omega
  rcases key 20004 (by omega) with ⟨r, h1, h2, h3⟩ | h
  · exact ⟨r, by omega, h2, fun _ => h3⟩
  · exact ⟨20004, by omega, h, fun h => by omega⟩
theorem search_year (w0 w : World) (s : ByteArray) (f c : Int) (a1 a2 : Option Addr) (n1 c1 n2 c2 : Nat) (ms : List Mon) (ls : List Int) (x : Int) (b1 b2 b3 : Nat) (t1 t2 t3 : TypeId) (r : Nat) (hr : Place ms ls f c x r) (ok : CalOk s f c ms ls) (h : CalAt w0 a1 a2 n1 n2 ms ls) (ht : Tri w0 b1 b2 b3 (.cells #[.string s, .int .i64 f, .int .i64 c, .slice a1 n1 c1, .slice a2 n2 c2] t1) (.cells #[.int .i64 (-10001)] t2) (.cells #[.int .i64 x] t3) w) :
    Calls Tryz.prog 92 #[.int .i64 20004, .func (.func 137) #[] #[.pointer (some ⟨b1, 0, none⟩), .pointer (some ⟨b2, 0, none⟩), .pointer (some ⟨b3, 0, none⟩)]] w fun e w' => e = .returned (.int .i64 (r : Int)) ∧ Below w.heap.size w w' := by
  refine (sort_Search 137 #[.pointer (some ⟨b1, 0, none⟩), .pointer (some ⟨b2, 0, none⟩), .pointer (some ⟨b3, 0, none⟩)] (enters_of Tryz.func137 (by kernel_rfl) rfl) 20004 (by omega) (fun i => decide (x < nyOf (shortOf ms) (longOf ms) f c ls (-10001 + (i : Int)))) w ?_).mono ?_
  · intro W i hi hbW
    have hT := ht.step hbW
    have hc := fromDay_closure w W s f c a1 a2 n1 c1 n2 c2 ms ls x b1 b2 b3 t1 t2 t3 i hi ok (h.then_ ht.2.2.2) ⟨hT.1, hT.2.1, hT.2.2.1, hbW⟩
    exact hc.mono fun e w' ⟨he, ht'⟩ => ⟨he, ht'.2.2.2⟩
  · rintro e w2 ⟨r', rfl, h1, h2, h3, hb⟩
    have := place_unique ok hr h1 (fun i hi => by have := h2 i hi; simpa using this) (fun hl => by have := h3 hl; simpa using this)
    subst this
    exact ⟨rfl, hb⟩
def From4 (w : World) (oc od : Obj) (W : World) : Prop := Tri w w.heap.size (w.heap.size + 1 + 1 + 1) (w.heap.size + 1) oc (.cells #[.int .i64 (-10001)] 3) od W ∧ At W (w.heap.size + 1 + 1) (.cells #[.int .i64 0, .int .i64 0, .int .i64 0] 52)
theorem From4.step {w W W' : World} {oc od : Obj} (h : From4 w oc od W) (hb : Below W.heap.size W W') : From4 w oc od W' := ⟨h.1.step hb, h.2.then_ hb⟩
theorem From4.drew {w W : World} {oc od : Obj} (h : From4 w oc od W) : From4 w oc od W.drew := ⟨h.1.drew, h.2.drew⟩
theorem From4.new (w : World) (oc od : Obj) : From4 w oc od ((((w.alloc oc).alloc od).alloc (.cells #[.int .i64 0, .int .i64 0, .int .i64 0] 52)).alloc (.cells #[.int .i64 (-10001)] 3)) :=
  ⟨⟨(((At.new w _).alloc _).alloc _).alloc _, At.new3 w _ _ _ _, ((At.new1 w _ _).alloc _).alloc _, by exact bl⟩, (At.new2 w _ _ _).alloc _⟩
theorem arith_fromDay_out (w : World) (s : ByteArray) (f c : Int) (a1 a2 : Option Addr) (n1 c1 n2 c2 : Nat) (x : Int) (hx : inB (-4000000) 4000000 x = false) :
    Calls Tryz.prog 91 #[.agg #[.string s, .int .i64 f, .int .i64 c, .slice a1 n1 c1, .slice a2 n2 c2], .int .i64 x] w fun e w' => e = .returned noDate ∧ Below w.heap.size w w' := by
  go_enter Tryz.func91, Tryz.ntmps91
  go_wp2_with fail
  refine (line_Is _ _).mono ?_; rw [hx]; rintro e w1 ⟨rfl, rfl⟩
  go_wp2_with fail
  exact bodyPost_ret (v := noDate) (by simp [noDate, results, Tryz.results91, go_sem]) rfl ⟨rfl, by exact bl⟩
set_option maxHeartbeats 2000000 in
theorem arith_fromDay_no (w : World) (s : ByteArray) (f c : Int) (a1 a2 : Option Addr) (n1 c1 n2 c2 : Nat) (ms : List Mon) (ls : List Int) (x : Int) (r : Nat) (hr : Place ms ls f c x r) (hy : inB (-10000) 10000 (-10001 + (r : Int) - 1) = false) (ok : CalOk s f c ms ls) (x1' : -4000000 ≤ x) (x2' : x ≤ 4000000) (h : CalAt w a1 a2 n1 n2 ms ls) :
    Calls Tryz.prog 91 #[.agg #[.string s, .int .i64 f, .int .i64 c, .slice a1 n1 c1, .slice a2 n2 c2], .int .i64 x] w fun e w' => e = .returned noDate ∧ Below w.heap.size w w' := by
  have H := Lib.hid h; have OK := Lib.hid ok; have HR := Lib.hid hr
  clear h ok hr
  have hx := inB_yes x1' x2'
  have hr1 : r ≤ 20004 := HR.out.1
  go_enter Tryz.func91, Tryz.ntmps91
  go_wp2_with fail
  refine (line_Is _ _).mono ?_; rw [hx]; rintro e w1 ⟨rfl, rfl⟩
  go_wp2_with fail
  have f4 := From4.new w (.cells #[.string s, .int .i64 f, .int .i64 c, .slice a1 n1 c1, .slice a2 n2 c2] 39) (.cells #[.int .i64 x] 3)
  generalize World.alloc (World.alloc (World.alloc (World.alloc w _) _) _) _ = W1 at f4 ⊢
  have t1 : IntKind.i64.wrap (-10001 + (r : Int)) = -10001 + (r : Int) := IntWalk.i64_in _ (by omega)
  have t2 : IntKind.i64.wrap (-10001 + (r : Int) - 1) = -10001 + (r : Int) - 1 := IntWalk.i64_in _ (by omega)
  (refine region_class (From4 w (.cells #[.string s, .int .i64 f, .int .i64 c, .slice a1 n1 c1, .slice a2 n2 c2] 39) (.cells #[.int .i64 x] 3)) (by kernel_rfl) (by kernel_rfl) (f4.drew) ?_; repeat ((first | (refine class_take ?_ (by rfl) ?_ ?_; rotate_left; focus (intro wq hq; ((obtain ⟨x0, x1, x2, x3, x4, x5, x6⟩ := hq.1.cells)); go_simp; first | done | with_reducible rfl | (first | (go_at_call 92; refine (search_year w _ s f c a1 a2 n1 c1 n2 c2 ms ls x _ _ _ _ _ _ r HR.out OK.out H.out hq.1).mono ?_; rintro e w' ⟨rfl, hb⟩; refine ⟨?_, hq.step hb⟩; with_reducible rfl)))) | refine class_skip (by rfl) ?_); try simp only [Act.put, List.setIfInBounds_toArray, List.set_cons_zero, List.set_cons_succ]))
  refine wpQuiet_nil ?_
  intro W2 f42
  clear t1 t2 f4
  go_wp2_with fail
  refine (arith_isYear _ _).mono ?_; rw [hy]; rintro e w3 ⟨rfl, rfl⟩
  have ar := f42.2
  have e0 := ar.cell 0; have e1 := ar.cell 1; have e2 := ar.cell 2; simp at e0 e1 e2
  have z0 := ar.frozen 0; have z1 := ar.frozen 1; have z2 := ar.frozen 2
  go_wp2_with fail
  have ar3 := ar.store3 (.int .i64 0) (.int .i64 0) (.int .i64 0)
  have b3 := below_set3 f42.1.2.2.2 (p := w.heap.size + 1 + 1) (by omega) (.int .i64 0) (.int .i64 0) (.int .i64 0)
  clear e0 e1 e2 z0 z1 z2
  generalize World.setCell (World.setCell _ _ _) _ _ = W3 at ar3 b3 ⊢
  have e0 := ar3.cell 0; have e1 := ar3.cell 1; have e2 := ar3.cell 2; simp at e0 e1 e2
  exact bodyPost_ret (v := noDate) (by simp [noDate, results, Tryz.results91, go_sem, e0, e1, e2]) rfl ⟨rfl, b3⟩
set_option maxHeartbeats 2000000 in
theorem arith_fromDay_yes (w : World) (s : ByteArray) (f c : Int) (a1 a2 : Option Addr) (n1 c1 n2 c2 : Nat) (ms : List Mon) (ls : List Int) (x : Int) (r : Nat) (y : Int) (hr : Place ms ls f c x r) (hyr : -10001 + (r : Int) - 1 = y) (y1 : -10000 ≤ y) (y2 : y ≤ 10000) (ok : CalOk s f c ms ls) (x1' : -4000000 ≤ x) (x2' : x ≤ 4000000) (h : CalAt w a1 a2 n1 n2 ms ls) (k : Nat) (r' : Int)
    (hk : findM (flag ls (placeOf c y)) ms (x - nyOf (shortOf ms) (longOf ms) f c ls y) 0 = (k, r')) (hin : InYear ms ls f c y x) :
    Calls Tryz.prog 91 #[.agg #[.string s, .int .i64 f, .int .i64 c, .slice a1 n1 c1, .slice a2 n2 c2], .int .i64 x] w fun e w' => e = .returned (dateAt y k r') ∧ Below w.heap.size w w' := by
  obtain ⟨g1, g2, g3, g4⟩ := ok_n1 h ok
  have L1 := Lib.hid h.1.len
  have hin2 := hin.2
  rw [nyOf_succ ok y] at hin2
  have hin1 := hin.1
  have hlp := lenY_pos ok (flag ls (placeOf c y))
  obtain ⟨N, hN⟩ : ∃ N, N = nyOf (shortOf ms) (longOf ms) f c ls y := ⟨_, rfl⟩
  rw [← hN] at hk hin1 hin2
  have hR0 : 0 ≤ x - N := by omega
  have hR1 := Lib.hid (show x - N < lenY (shortOf ms) (longOf ms) (flag ls (placeOf c y)) by omega)
  have hR2 : x - N < 8000 := by omega
  have hNb : -5000000 ≤ N ∧ N ≤ 5000000 := by omega
  obtain ⟨nb1, nb2⟩ := hNb
  have HN := Lib.hid hN; have HK := Lib.hid hk
  clear hin hin1 hin2 hlp hN hk
  have y1' : -20000 ≤ y := by omega
  have y2' : y ≤ 20000 := by omega
  have hy := inB_yes y1 y2
  have HYR := Lib.hid hyr; clear hyr
  have H := Lib.hid h; have OK := Lib.hid ok; have HR := Lib.hid hr
  clear h ok hr
  have hx := inB_yes x1' x2'
  have hr1 : r ≤ 20004 := HR.out.1
  go_enter Tryz.func91, Tryz.ntmps91
  go_wp2_with fail
  refine (line_Is _ _).mono ?_; rw [hx]; rintro e w1 ⟨rfl, rfl⟩
  go_wp2_with fail
  have f4 := From4.new w (.cells #[.string s, .int .i64 f, .int .i64 c, .slice a1 n1 c1, .slice a2 n2 c2] 39) (.cells #[.int .i64 x] 3)
  generalize World.alloc (World.alloc (World.alloc (World.alloc w _) _) _) _ = W1 at f4 ⊢
  have t1 : IntKind.i64.wrap (-10001 + (r : Int)) = -10001 + (r : Int) := IntWalk.i64_in _ (by omega)
  have t2 : IntKind.i64.wrap (-10001 + (r : Int) - 1) = -10001 + (r : Int) - 1 := IntWalk.i64_in _ (by omega)
  (refine region_class (From4 w (.cells #[.string s, .int .i64 f, .int .i64 c, .slice a1 n1 c1, .slice a2 n2 c2] 39) (.cells #[.int .i64 x] 3)) (by kernel_rfl) (by kernel_rfl) (f4.drew) ?_; repeat ((first | (refine class_take ?_ (by rfl) ?_ ?_; rotate_left; focus (intro wq hq; ((obtain ⟨x0, x1, x2, x3, x4, x5, x6⟩ := hq.1.cells)); go_simp; first | done | with_reducible rfl | (first | (go_at_call 92; refine (search_year w _ s f c a1 a2 n1 c1 n2 c2 ms ls x _ _ _ _ _ _ r HR.out OK.out H.out hq.1).mono ?_; rintro e w' ⟨rfl, hb⟩; refine ⟨?_, hq.step hb⟩; with_reducible rfl)))) | refine class_skip (by rfl) ?_); try simp only [Act.put, List.setIfInBounds_toArray, List.set_cons_zero, List.set_cons_succ]))
  refine wpQuiet_nil ?_
  intro W2 f42
  clear t1 t2 f4
  rw [HYR.out]
  go_wp2_with fail
  refine (arith_isYear _ _).mono ?_; rw [hy]; rintro e w3 ⟨rfl, rfl⟩
  go_wp2_with fail
  have t3 : IntKind.i64.wrap (x - N) = x - N := IntWalk.i64_in _ (by omega)
  (refine region_class (From4 w (.cells #[.string s, .int .i64 f, .int .i64 c, .slice a1 n1 c1, .slice a2 n2 c2] 39) (.cells #[.int .i64 x] 3)) (by kernel_rfl) (by kernel_rfl) (f42.drew) ?_; repeat ((first | (refine class_take ?_ (by rfl) ?_ ?_; rotate_left; focus (intro wq hq; ((obtain ⟨x0, x1, x2, x3, x4, x5, x6⟩ := hq.1.cells)); go_simp; first | done | with_reducible rfl | (first | (go_at_call 138; refine (arith_newYear _ _ _ _ _ _ _ _ _ _ ms ls _ OK.out y1' y2' (H.out.then_ hq.1.2.2.2)).mono ?_; rw [← HN.out]; rintro e w' ⟨rfl, hb⟩; refine ⟨?_, hq.step hb⟩; with_reducible rfl)))) | refine class_skip (by rfl) ?_); try simp only [Act.put, List.setIfInBounds_toArray, List.set_cons_zero, List.set_cons_succ]))
  refine wpQuiet_nil ?_
  intro W3 f43
  clear t3 f42
  go_wp2_with fail
  go_loopw [8, 9] (fun t i wr => ∃ (j : Nat) (rr : Int), i = .int .i64 ((j : Int) + 1) ∧ t = .int .i64 rr ∧ FindTo (flag ls (placeOf c y)) ms (x - N) j rr ∧ From4 w (.cells #[.string s, .int .i64 f, .int .i64 c, .slice a1 n1 c1, .slice a2 n2 c2] 39) (.cells #[.int .i64 x] 3) wr) (fun _ i _ => n1 + 1 - (intOf i).toNat)
  case atStart => exact ⟨0, x - N, rfl, rfl, FindTo.start _ _ _ hR0, f43⟩
  case round =>
    clear f43
    obtain ⟨j, rr, rfl, rfl, hF, f4⟩ := hrel
    have hjl := hF.in_ hR1.out
    have hjn : j < n1 := by have := L1.out; omega
    have rr0 : 0 ≤ rr := hF.2.1
    have rr1 : rr < 8000 := by
      have h1 := hF.2.2.1
      have h2 := sumM_bound OK.out.lens (flag ls (placeOf c y)) j (by omega)
      omega
    obtain ⟨m, hm⟩ : ∃ m, ms[j]? = some m := ⟨_, List.getElem?_eq_getElem hjl⟩
    obtain ⟨mb1, mb2⟩ := mlenOf_bound OK.out.lens hm (flag ls (placeOf c y))
    have HM := Lib.hid hm; have HF := Lib.hid hF
    clear hm hF hjl
    obtain ⟨ML, hML⟩ : ∃ ML, ML = mlenOf m (flag ls (placeOf c y)) := ⟨_, rfl⟩
    rw [← hML] at mb1 mb2
    have HML := Lib.hid hML; clear hML
    obtain ⟨x0, x1, x2, x3, x4, x5, x6⟩ := f4.1.cells
    by_cases hlt : rr < ML
    · have hst := HF.out.stop HM.out (by rw [← HML.out]; exact hlt)
      have hkj : k = j ∧ r' = rr := by have := HK.out.symm.trans hst; simpa using this
      obtain ⟨rfl, rfl⟩ := hkj
      clear hst
      go_wp2_with fail
      refine (arith_length _ _ _ _ _ _ _ _ _ _ ms ls y k m OK.out.cy1 OK.out.cy2 OK.out.sorted g3 (by omega) (by omega) (H.out.then_ f4.1.2.2.2) g2 HM.out).mono ?_
      rw [← HML.out]
      rintro e w4 ⟨rfl, hb⟩
      replace f4 := f4.step hb
      clear hb x0 x1 x2 x3 x4 x5 x6
      have ar := f4.2
      have e0 := ar.cell 0; have e1 := ar.cell 1; have e2 := ar.cell 2; simp at e0 e1 e2
      have z0 := ar.frozen 0; have z1 := ar.frozen 1; have z2 := ar.frozen 2
      go_wp2_with fail
      have ar3 := ar.store3 (.int .i64 y) (.int .i64 ((k : Int) + 1)) (.int .i64 (r' + 1))
      have b3 := below_set3 f4.1.2.2.2 (p := w.heap.size + 1 + 1) (by omega) (.int .i64 y) (.int .i64 ((k : Int) + 1)) (.int .i64 (r' + 1))
      clear e0 e1 e2 z0 z1 z2
      generalize World.setCell (World.setCell _ _ _) _ _ = W5 at ar3 b3 ⊢
      have e0 := ar3.cell 0; have e1 := ar3.cell 1; have e2 := ar3.cell 2; simp at e0 e1 e2
      exact bodyPost_ret (v := dateAt y k r') (by simp [dateAt, results, Tryz.results91, go_sem, e0, e1, e2]) rfl ⟨rfl, b3⟩
    · have hnx := Lib.hid (HF.out.next HM.out (by rw [← HML.out]; exact hlt))
      rw [← HML.out] at hnx
      go_wp2_with fail
      refine (arith_length _ _ _ _ _ _ _ _ _ _ ms ls y j m OK.out.cy1 OK.out.cy2 OK.out.sorted g3 (by omega) (by omega) (H.out.then_ f4.1.2.2.2) g2 HM.out).mono ?_
      rw [← HML.out]
      rintro e w4 ⟨rfl, hb⟩
      replace f4 := f4.step hb
      clear hb x0 x1 x2 x3 x4 x5 x6
      obtain ⟨x0, x1, x2, x3, x4, x5, x6⟩ := f4.1.cells
      go_wp2_with fail
      refine (arith_length _ _ _ _ _ _ _ _ _ _ ms ls y j m OK.out.cy1 OK.out.cy2 OK.out.sorted g3 (by omega) (by omega) (H.out.then_ f4.1.2.2.2) g2 HM.out).mono ?_
      rw [← HML.out]
      rintro e w5 ⟨rfl, hb⟩
      replace f4 := f4.step hb
      clear hb x0 x1 x2 x3 x4 x5 x6
      go_wp2_with fail
      go_roundw
      case rel => exact ⟨j + 1, rr - ML, by go_num, rfl, hnx.out, f4⟩
      case measure => simp [intOf]; omega
theorem year_parts (C : Nat) (y : Int) (h : 1 ≤ C) : ∃ (q : Int) (p : Nat), p < C ∧ y = 1 + q * (C : Int) + (p : Int) ∧ ∀ S L f ls, nyOf S L f C ls y = f + q * daysTo S L ls C + daysTo S L ls p := by
  have h1 : (C : Int) * ((y - 1) / (C : Int)) + (y - 1) % (C : Int) = y - 1 := Int.mul_ediv_add_emod _ _
  have h2 := placeOf_in C y (by omega)
  have h3 : (y - 1) % (C : Int) = placeOf C y := rfl
  refine ⟨(y - 1) / (C : Int), (placeOf C y).toNat, by omega, ?_, fun S L f ls => ?_⟩
  · rw [h3, Int.mul_comm] at h1; omega
  · unfold nyOf; rw [h3, show ((placeOf C y).toNat : Int) = placeOf C y by omega]
theorem daysTo_le {s : ByteArray} {f c : Int} {ms : List Mon} {ls : List Int} (ok : CalOk s f c ms ls) {a b : Int} (h : a ≤ b) (h0 : 0 ≤ a) : daysTo (shortOf ms) (longOf ms) ls a ≤ daysTo (shortOf ms) (longOf ms) ls b := by
  have key : ∀ n : Nat, daysTo (shortOf ms) (longOf ms) ls a ≤ daysTo (shortOf ms) (longOf ms) ls (a + n) := by
    intro n
    induction n with
    | zero => simp
    | succ n ih =>
      have h1 := daysTo_succ (shortOf ms) (longOf ms) ls (a + n) ok.sorted
      have h2 := lenY_pos ok (flag ls (a + n))
      rw [show a + ((n + 1 : Nat) : Int) = a + n + 1 by omega, h1]; omega
  have := key (b - a).toNat
  rwa [show a + (((b - a).toNat : Nat) : Int) = b by omega] at this
theorem div_is (a T q : Int) (hT : 1 ≤ T) (h1 : q * T ≤ a) (h2 : a < q * T + T) : a / T = q := by
  have : a = (a - q * T) + T * q := by rw [Int.mul_comm T q]; omega
  rw [this, Int.add_mul_ediv_left _ _ (by omega), Int.ediv_eq_zero_of_lt (by omega) (by omega)]; simp
theorem mul_abs_le' (q T : Int) (hT : 1 ≤ T) : (0 ≤ q → q ≤ q * T) ∧ (q ≤ 0 → q * T ≤ q) := by
  constructor
  · intro h
    have := Int.mul_le_mul_of_nonneg_left hT h; omega
  · intro h
    have := Int.mul_le_mul_of_nonpos_left h hT; omega
theorem year_exists {s : ByteArray} {f : Int} {C : Nat} {ms : List Mon} {ls : List Int} (ok : CalOk s f C ms ls) (x : Int) : ∃ y, InYear ms ls f C y x := by
  have cy1 : 1 ≤ C := by have := ok.cy1; omega
  have h0 := daysTo_zero (shortOf ms) (longOf ms) ls (fun z hz => (ok.leaps z hz).1)
  have hTb := daysTo_bound (shortOf ms) (longOf ms) ls (C : Int) (by omega) ok.cy2 ok.sh1 ok.sh2 ok.lo1 ok.lo2 ok.sorted (fun z hz => (ok.leaps z hz).1)
  obtain ⟨T, hT⟩ : ∃ T, T = daysTo (shortOf ms) (longOf ms) ls C := ⟨_, rfl⟩
  rw [← hT] at hTb
  have hr1 := Int.emod_nonneg (x - f) (show T ≠ 0 by omega)
  have hr2 := Int.emod_lt_of_pos (x - f) (show 0 < T by omega)
  have hdm : T * ((x - f) / T) + (x - f) % T = x - f := Int.mul_ediv_add_emod _ _
  have key : ∀ n : Nat, n ≤ C → (∃ i, i < n ∧ daysTo (shortOf ms) (longOf ms) ls (i : Int) ≤ (x - f) % T ∧ (x - f) % T < daysTo (shortOf ms) (longOf ms) ls ((i : Int) + 1)) ∨ daysTo (shortOf ms) (longOf ms) ls (n : Int) ≤ (x - f) % T := by
    intro n
    induction n with
    | zero => intro _; exact .inr (by rw [show ((0 : Nat) : Int) = 0 from rfl, h0]; exact hr1)
    | succ n ih =>
      intro hn
      rcases ih (by omega) with ⟨i, h1, h2⟩ | h
      · exact .inl ⟨i, by omega, h2⟩
      · by_cases q : (x - f) % T < daysTo (shortOf ms) (longOf ms) ls ((n : Int) + 1)
        · exact .inl ⟨n, by omega, h, q⟩
        · exact .inr (by rw [show ((n + 1 : Nat) : Int) = (n : Int) + 1 by omega]; omega)
  rcases key C (by omega) with ⟨i, hi, h1, h2⟩ | h
  · have hp := place_at C ((x - f) / T) i hi
    have hq : (1 + (x - f) / T * (C : Int) + (i : Int) - 1) / (C : Int) = (x - f) / T := div_is _ _ _ (by omega) (by omega) (by omega)
    have hny : nyOf (shortOf ms) (longOf ms) f C ls (1 + (x - f) / T * (C : Int) + (i : Int)) = f + (x - f) / T * T + daysTo (shortOf ms) (longOf ms) ls (i : Int) := by
      have hp' : (1 + (x - f) / T * (C : Int) + (i : Int) - 1) % (C : Int) = (i : Int) := hp
      unfold nyOf; rw [hq, hp', ← hT]
    have hs := daysTo_succ (shortOf ms) (longOf ms) ls (i : Int) ok.sorted
    refine ⟨1 + (x - f) / T * (C : Int) + (i : Int), ?_, ?_⟩
    · rw [hny]; rw [Int.mul_comm T] at hdm; omega
    · rw [nyOf_succ ok, hny, hp]; rw [Int.mul_comm T] at hdm; omega
  · rw [← hT] at h; omega
theorem years_FromDay_out (w : World) (s : ByteArray) (f : Int) (C : Nat) (a1 a2 : Option Addr) (n1 c1 n2 c2 : Nat) (ms : List Mon) (ls : List Int) (g : Nat) (x : Int) (hx : inB (-4000000) 4000000 x = false) :
    Calls Tryz.prog 21 #[.agg #[.string s, .int .i64 f, .int .i64 (C : Int), .slice a1 n1 c1, .slice a2 n2 c2, .slice (some ⟨g, 0, none⟩) C C, .int .i64 (shortOf ms), .int .i64 (longOf ms), .int .i64 (daysTo (shortOf ms) (longOf ms) ls (C : Int))], .int .i64 x] w fun e w' => e = .returned noDate ∧ Below w.heap.size w w' := by
  go_enter Tryz.func21, Tryz.ntmps21
  go_wp2_with fail
  refine (ref_Day _ _).mono ?_; rw [hx]; rintro e w1 ⟨rfl, rfl⟩
  go_wp2_with fail
  exact bodyPost_ret (v := noDate) (by simp [noDate, results, Tryz.results21, go_sem]) rfl ⟨rfl, by exact bl⟩
set_option maxHeartbeats 2000000 in
theorem years_FromDay_no (w : World) (s : ByteArray) (f : Int) (C : Nat) (a1 a2 : Option Addr) (n1 c1 n2 c2 : Nat) (ms : List Mon) (ls : List Int) (g : Nat) (x y : Int) (ok : CalOk s f C ms ls) (x1' : -4000000 ≤ x) (x2' : x ≤ 4000000) (hg : MarksAt w g C ls) (h : CalAt w a1 a2 n1 n2 ms ls) (hin : InYear ms ls f C y x) (hy : inB (-10000) 10000 y = false) :
    Calls Tryz.prog 21 #[.agg #[.string s, .int .i64 f, .int .i64 (C : Int), .slice a1 n1 c1, .slice a2 n2 c2, .slice (some ⟨g, 0, none⟩) C C, .int .i64 (shortOf ms), .int .i64 (longOf ms), .int .i64 (daysTo (shortOf ms) (longOf ms) ls (C : Int))], .int .i64 x] w fun e w' => e = .returned noDate ∧ Below w.heap.size w w' := by
  obtain ⟨g1, g2, g3, g4⟩ := ok_n1 h ok
  have L1 := Lib.hid h.1.len
  have cy1 : 1 ≤ C := by have := ok.cy1; omega
  have cy2 : C ≤ 3000 := by have := ok.cy2; omega
  have ep1 := ok.ep1; have ep2 := ok.ep2
  obtain ⟨q, p, hpC, hYq, hny⟩ := year_parts C y cy1
  have hnyY := hny (shortOf ms) (longOf ms) f ls
  have hin2 := hin.2
  rw [nyOf_succ ok y] at hin2
  have hin1 := hin.1
  have hpl : placeOf C y = (p : Int) := by rw [hYq]; exact place_at C q p hpC
  rw [hpl] at hin2
  have hlp := lenY_pos ok (flag ls (p : Int))
  have hsucc := daysTo_succ (shortOf ms) (longOf ms) ls (p : Int) ok.sorted
  have hTle := daysTo_le ok (show (p : Int) + 1 ≤ C by omega) (by omega)
  have hTb := daysTo_bound (shortOf ms) (longOf ms) ls (C : Int) (by omega) (by omega) ok.sh1 ok.sh2 ok.lo1 ok.lo2 ok.sorted (fun z hz => (ok.leaps z hz).1)
  have hpb := daysTo_bound (shortOf ms) (longOf ms) ls (p : Int) (by omega) (by omega) ok.sh1 ok.sh2 ok.lo1 ok.lo2 ok.sorted (fun z hz => (ok.leaps z hz).1)
  obtain ⟨T, hT⟩ : ∃ T, T = daysTo (shortOf ms) (longOf ms) ls C := ⟨_, rfl⟩
  rw [← hT] at hnyY hTle hTb ⊢
  rw [hnyY] at hin1 hin2
  have hq : (x - f) / T = q := div_is (x - f) T q (by omega) (by omega) (by omega)
  have hqb : -33000000 ≤ q * T ∧ q * T ≤ 8100000 := by omega
  have hqs : -33000000 ≤ q ∧ q ≤ 9000000 := by
    have := mul_abs_le' q T (by omega)
    omega
  have hqC : -33000000 ≤ q * (C : Int) ∧ q * (C : Int) ≤ 9000000 := by
    have e1 := hTb.1
    rcases Int.lt_or_le q 0 with hq0 | hq0
    · exact q63
    · exact q93
  obtain ⟨qb1, qb2⟩ := hqb
  obtain ⟨qs1, qs2⟩ := hqs
  obtain ⟨qC1, qC2⟩ := hqC
  obtain ⟨T1, T2⟩ := hTb
  have T3 : T ≤ 24000000 := by omega
  have hx := inB_yes x1' x2'
  have HQ := Lib.hid hq; have HY := Lib.hid hYq; have HPL := Lib.hid hpl
  have H := Lib.hid h; have OK := Lib.hid ok; have HG := Lib.hid hg
  have HI1 := Lib.hid hin1; have HI2 := Lib.hid hin2
  have HD0 := Lib.hid (daysTo_zero (shortOf ms) (longOf ms) ls (fun z hz => (ok.leaps z hz).1))
  clear h ok hg hin hin1 hin2 hlp hsucc hTle hpb hq hYq hpl hnyY hny hT
  go_enter Tryz.func21, Tryz.ntmps21
  go_wp2_with fail
  refine (ref_Day _ _).mono ?_; rw [hx]; rintro e w1 ⟨rfl, rfl⟩
  go_wp2_with fail
  refine (ref_Floor _ _ _ (by omega) (by omega) (by omega) (by omega)).mono ?_; rw [HQ.out]; rintro e w1 ⟨rfl, rfl⟩
  have tw := Two.new w (.cells #[.string s, .int .i64 f, .int .i64 (C : Int), .slice a1 n1 c1, .slice a2 n2 c2, .slice (some ⟨g, 0, none⟩) C C, .int .i64 (shortOf ms), .int .i64 (longOf ms), .int .i64 T] 43) (.cells #[.int .i64 0, .int .i64 0, .int .i64 0] 52)
  generalize World.alloc (World.alloc w _) _ = W1 at tw ⊢
  obtain ⟨z0, z1, z2, z3, z4, z5, z6, z7, z8⟩ := tw.years
  have t1 : IntKind.i64.wrap (q * (C : Int)) = q * (C : Int) := IntWalk.i64_in _ (by omega)
  have t2 : IntKind.i64.wrap (1 + q * (C : Int)) = 1 + q * (C : Int) := IntWalk.i64_in _ (by omega)
  have t3 : IntKind.i64.wrap (x - f) = x - f := IntWalk.i64_in _ (by omega)
  have t4 : IntKind.i64.wrap (q * T) = q * T := IntWalk.i64_in _ (by omega)
  have t5 : IntKind.i64.wrap (x - f - q * T) = x - f - q * T := IntWalk.i64_in _ (by omega)
  go_wp2_with fail
  go_quiet (fail)
  have tw1 := tw.drewN nq
  clear t1 t2 t3 t4 t5 z0 z1 z2 z3 z4 z5 z6 z7 z8 tw
  go_wp2_with fail
  go_loopw [7, 8] (fun u v wr => ∃ i : Nat, i ≤ p ∧ u = .int .i64 (1 + q * (C : Int) + (i : Int)) ∧ v = .int .i64 (x - f - q * T - daysTo (shortOf ms) (longOf ms) ls (i : Int)) ∧ Two w (.cells #[.string s, .int .i64 f, .int .i64 (C : Int), .slice a1 n1 c1, .slice a2 n2 c2, .slice (some ⟨g, 0, none⟩) C C, .int .i64 (shortOf ms), .int .i64 (longOf ms), .int .i64 T] 43) (.cells #[.int .i64 0, .int .i64 0, .int .i64 0] 52) wr) (fun u _ _ => (1 + q * (C : Int) + p - intOf u).toNat)
  case atStart => exact ⟨0, by omega, by simp, by rw [show ((0 : Nat) : Int) = 0 from rfl, HD0.out]; simp, tw1⟩
  case round =>
    clear tw1
    obtain ⟨i, hi, rfl, rfl, tw⟩ := hrel
    have hdb := daysTo_bound (shortOf ms) (longOf ms) ls (i : Int) (by omega) (by omega) OK.out.sh1 OK.out.sh2 OK.out.lo1 OK.out.lo2 OK.out.sorted (fun z hz => (OK.out.leaps z hz).1)
    obtain ⟨db1, db2⟩ := hdb
    have hds := daysTo_succ (shortOf ms) (longOf ms) ls (i : Int) OK.out.sorted
    have hpi := Lib.hid (place_at C q i (by omega))
    have hlb := lenY_pos OK.out (flag ls (i : Int))
    obtain ⟨lb1, lb2⟩ := hlb
    obtain ⟨z0, z1, z2, z3, z4, z5, z6, z7, z8⟩ := tw.years
    by_cases hlt : i < p
    · have hle := daysTo_le OK.out (show (i : Int) + 1 ≤ (p : Int) by omega) (by omega)
      have hi1 := HI1.out
      rw [hds] at hle
      have hge : lenY (shortOf ms) (longOf ms) (flag ls (i : Int)) ≤ x - f - q * T - daysTo (shortOf ms) (longOf ms) ls (i : Int) := by omega
      have HDS := Lib.hid hds
      clear hds hle hi1
      obtain ⟨Z, hZ⟩ : ∃ Z, Z = lenY (shortOf ms) (longOf ms) (flag ls (i : Int)) := ⟨_, rfl⟩
      rw [← hZ] at hge lb1 lb2 HDS
      have HZ := Lib.hid hZ; clear hZ
      generalize hDD : daysTo (shortOf ms) (longOf ms) ls (i : Int) = D at hge db1 db2 HDS ⊢
      clear hDD
      go_wp2_with fail
      refine (years_Length _ s f C a1 a2 n1 c1 n2 c2 ms ls g _ _ _ _ cy1 cy2 (by omega) (by omega) (HG.out.then_ tw.2.2)).mono ?_
      rw [hpi.out, ← HZ.out]
      rintro e w2 ⟨rfl, hb⟩
      replace tw := tw.step hb
      clear hb z0 z1 z2 z3 z4 z5 z6 z7 z8
      obtain ⟨z0, z1, z2, z3, z4, z5, z6, z7, z8⟩ := tw.years
      go_wp2_with fail
      refine (years_Length _ s f C a1 a2 n1 c1 n2 c2 ms ls g _ _ _ _ cy1 cy2 (by omega) (by omega) (HG.out.then_ tw.2.2)).mono ?_
      rw [hpi.out, ← HZ.out]
      rintro e w3 ⟨rfl, hb⟩
      replace tw := tw.step hb
      clear hb z0 z1 z2 z3 z4 z5 z6 z7 z8
      go_wp2_with fail
      go_roundw
      case rel => exact ⟨i + 1, by omega, by go_num, by rw [show ((i + 1 : Nat) : Int) = (i : Int) + 1 by omega, HDS.out]; go_num, tw⟩
      case measure => simp [intOf]; omega
    · obtain rfl : p = i := by omega
      have hi2 := HI2.out
      have hi1 := HI1.out
      have hge : x - f - q * T - daysTo (shortOf ms) (longOf ms) ls (p : Int) < lenY (shortOf ms) (longOf ms) (flag ls (p : Int)) := by omega
      have hR0 : 0 ≤ x - f - q * T - daysTo (shortOf ms) (longOf ms) ls (p : Int) := by omega
      clear hds hi1 hi2
      obtain ⟨R, hR⟩ : ∃ R, R = x - f - q * T - daysTo (shortOf ms) (longOf ms) ls (p : Int) := ⟨_, rfl⟩
      rw [← hR] at hge hR0 ⊢
      have HR := Lib.hid hR; clear hR
      obtain ⟨Z, hZ⟩ : ∃ Z, Z = lenY (shortOf ms) (longOf ms) (flag ls (p : Int)) := ⟨_, rfl⟩
      rw [← hZ] at hge lb1 lb2
      have HZ := Lib.hid hZ; clear hZ
      go_wp2_with fail
      refine (years_Length _ s f C a1 a2 n1 c1 n2 c2 ms ls g _ _ _ _ cy1 cy2 (by omega) (by omega) (HG.out.then_ tw.2.2)).mono ?_
      rw [hpi.out, ← HZ.out]
      rintro e w2 ⟨rfl, hb⟩
      replace tw := tw.step hb
      clear hb z0 z1 z2 z3 z4 z5 z6 z7 z8
      rw [← HY.out]
      go_wp2_with fail
      refine (ref_In _ _ _ _).mono ?_; rw [hy]; rintro e w3 ⟨rfl, rfl⟩
      have ar := tw.2.1
      have e0 := ar.cell 0; have e1 := ar.cell 1; have e2 := ar.cell 2; simp at e0 e1 e2
      have z0 := ar.frozen 0; have z1 := ar.frozen 1; have z2 := ar.frozen 2
      go_wp2_with fail
      have ar3 := ar.store3 (.int .i64 0) (.int .i64 0) (.int .i64 0)
      have b3 := below_set3 tw.2.2 (p := w.heap.size + 1) (by omega) (.int .i64 0) (.int .i64 0) (.int .i64 0)
      clear e0 e1 e2 z0 z1 z2
      generalize World.setCell (World.setCell _ _ _) _ _ = W3 at ar3 b3 ⊢
      have e0 := ar3.cell 0; have e1 := ar3.cell 1; have e2 := ar3.cell 2; simp at e0 e1 e2
      exact bodyPost_ret (v := noDate) (by simp [noDate, results, Tryz.results21, go_sem, e0, e1, e2]) rfl ⟨rfl, b3⟩
set_option maxHeartbeats 4000000 in
theorem years_FromDay_yes (w : World) (s : ByteArray) (f : Int) (C : Nat) (a1 a2 : Option Addr) (n1 c1 n2 c2 : Nat) (ms : List Mon) (ls : List Int) (g : Nat) (x y : Int) (ok : CalOk s f C ms ls) (x1' : -4000000 ≤ x) (x2' : x ≤ 4000000) (hg : MarksAt w g C ls) (h : CalAt w a1 a2 n1 n2 ms ls) (hin : InYear ms ls f C y x) (y1 : -10000 ≤ y) (y2 : y ≤ 10000) (k : Nat) (r' : Int) (hk : findM (flag ls (placeOf C y)) ms (x - nyOf (shortOf ms) (longOf ms) f C ls y) 0 = (k, r')) :
    Calls Tryz.prog 21 #[.agg #[.string s, .int .i64 f, .int .i64 (C : Int), .slice a1 n1 c1, .slice a2 n2 c2, .slice (some ⟨g, 0, none⟩) C C, .int .i64 (shortOf ms), .int .i64 (longOf ms), .int .i64 (daysTo (shortOf ms) (longOf ms) ls (C : Int))], .int .i64 x] w fun e w' => e = .returned (dateAt y k r') ∧ Below w.heap.size w w' := by
  have hy := inB_yes y1 y2
  have HK := Lib.hid hk; clear hk
  obtain ⟨g1, g2, g3, g4⟩ := ok_n1 h ok
  have L1 := Lib.hid h.1.len
  have cy1 : 1 ≤ C := by have := ok.cy1; omega
  have cy2 : C ≤ 3000 := by have := ok.cy2; omega
  have ep1 := ok.ep1; have ep2 := ok.ep2
  obtain ⟨q, p, hpC, hYq, hny⟩ := year_parts C y cy1
  have hnyY := hny (shortOf ms) (longOf ms) f ls
  have hin2 := hin.2
  rw [nyOf_succ ok y] at hin2
  have hin1 := hin.1
  have hpl : placeOf C y = (p : Int) := by rw [hYq]; exact place_at C q p hpC
  rw [hpl] at hin2
  have hlp := lenY_pos ok (flag ls (p : Int))
  have hsucc := daysTo_succ (shortOf ms) (longOf ms) ls (p : Int) ok.sorted
  have hTle := daysTo_le ok (show (p : Int) + 1 ≤ C by omega) (by omega)
  have hTb := daysTo_bound (shortOf ms) (longOf ms) ls (C : Int) (by omega) (by omega) ok.sh1 ok.sh2 ok.lo1 ok.lo2 ok.sorted (fun z hz => (ok.leaps z hz).1)
  have hpb := daysTo_bound (shortOf ms) (longOf ms) ls (p : Int) (by omega) (by omega) ok.sh1 ok.sh2 ok.lo1 ok.lo2 ok.sorted (fun z hz => (ok.leaps z hz).1)
  obtain ⟨T, hT⟩ : ∃ T, T = daysTo (shortOf ms) (longOf ms) ls C := ⟨_, rfl⟩
  rw [← hT] at hnyY hTle hTb ⊢
  rw [hnyY] at hin1 hin2
  have hq : (x - f) / T = q := div_is (x - f) T q (by omega) (by omega) (by omega)
  have hqb : -33000000 ≤ q * T ∧ q * T ≤ 8100000 := by omega
  have hqs : -33000000 ≤ q ∧ q ≤ 9000000 := by
    have := mul_abs_le' q T (by omega)
    omega
  have hqC : -33000000 ≤ q * (C : Int) ∧ q * (C : Int) ≤ 9000000 := by
    have e1 := hTb.1
    rcases Int.lt_or_le q 0 with hq0 | hq0
    · exact q63
    · exact q93
  obtain ⟨qb1, qb2⟩ := hqb
  obtain ⟨qs1, qs2⟩ := hqs
  obtain ⟨qC1, qC2⟩ := hqC
  obtain ⟨T1, T2⟩ := hTb
  have T3 : T ≤ 24000000 := by omega
  have hx := inB_yes x1' x2'
  have HQ := Lib.hid hq; have HY := Lib.hid hYq; have HPL := Lib.hid hpl
  have H := Lib.hid h; have OK := Lib.hid ok; have HG := Lib.hid hg
  have HI1 := Lib.hid hin1; have HI2 := Lib.hid hin2
  have HD0 := Lib.hid (daysTo_zero (shortOf ms) (longOf ms) ls (fun z hz => (ok.leaps z hz).1))
  have HNY := Lib.hid hnyY
  clear h ok hg hin hin1 hin2 hlp hsucc hTle hpb hq hYq hpl hnyY hny hT
  go_enter Tryz.func21, Tryz.ntmps21
  go_wp2_with fail
  refine (ref_Day _ _).mono ?_; rw [hx]; rintro e w1 ⟨rfl, rfl⟩
  go_wp2_with fail
  refine (ref_Floor _ _ _ (by omega) (by omega) (by omega) (by omega)).mono ?_; rw [HQ.out]; rintro e w1 ⟨rfl, rfl⟩
  have tw := Two.new w (.cells #[.string s, .int .i64 f, .int .i64 (C : Int), .slice a1 n1 c1, .slice a2 n2 c2, .slice (some ⟨g, 0, none⟩) C C, .int .i64 (shortOf ms), .int .i64 (longOf ms), .int .i64 T] 43) (.cells #[.int .i64 0, .int .i64 0, .int .i64 0] 52)
  generalize World.alloc (World.alloc w _) _ = W1 at tw ⊢
  obtain ⟨z0, z1, z2, z3, z4, z5, z6, z7, z8⟩ := tw.years
  have t1 : IntKind.i64.wrap (q * (C : Int)) = q * (C : Int) := IntWalk.i64_in _ (by omega)
  have t2 : IntKind.i64.wrap (1 + q * (C : Int)) = 1 + q * (C : Int) := IntWalk.i64_in _ (by omega)
  have t3 : IntKind.i64.wrap (x - f) = x - f := IntWalk.i64_in _ (by omega)
  have t4 : IntKind.i64.wrap (q * T) = q * T := IntWalk.i64_in _ (by omega)
  have t5 : IntKind.i64.wrap (x - f - q * T) = x - f - q * T := IntWalk.i64_in _ (by omega)
  go_wp2_with fail
  go_quiet (fail)
  have tw1 := tw.drewN nq
  clear t1 t2 t3 t4 t5 z0 z1 z2 z3 z4 z5 z6 z7 z8 tw
  go_wp2_with fail
  go_loopw [7, 8] (fun u v wr => ∃ i : Nat, i ≤ p ∧ u = .int .i64 (1 + q * (C : Int) + (i : Int)) ∧ v = .int .i64 (x - f - q * T - daysTo (shortOf ms) (longOf ms) ls (i : Int)) ∧ Two w (.cells #[.string s, .int .i64 f, .int .i64 (C : Int), .slice a1 n1 c1, .slice a2 n2 c2, .slice (some ⟨g, 0, none⟩) C C, .int .i64 (shortOf ms), .int .i64 (longOf ms), .int .i64 T] 43) (.cells #[.int .i64 0, .int .i64 0, .int .i64 0] 52) wr) (fun u _ _ => (1 + q * (C : Int) + p - intOf u).toNat)
  case atStart => exact ⟨0, by omega, by simp, by rw [show ((0 : Nat) : Int) = 0 from rfl, HD0.out]; simp, tw1⟩
  case round =>
    clear tw1
    obtain ⟨i, hi, rfl, rfl, tw⟩ := hrel
    have hdb := daysTo_bound (shortOf ms) (longOf ms) ls (i : Int) (by omega) (by omega) OK.out.sh1 OK.out.sh2 OK.out.lo1 OK.out.lo2 OK.out.sorted (fun z hz => (OK.out.leaps z hz).1)
    obtain ⟨db1, db2⟩ := hdb
    have hds := daysTo_succ (shortOf ms) (longOf ms) ls (i : Int) OK.out.sorted
    have hpi := Lib.hid (place_at C q i (by omega))
    have hlb := lenY_pos OK.out (flag ls (i : Int))
    obtain ⟨lb1, lb2⟩ := hlb
    obtain ⟨z0, z1, z2, z3, z4, z5, z6, z7, z8⟩ := tw.years
    by_cases hlt : i < p
    · have hle := daysTo_le OK.out (show (i : Int) + 1 ≤ (p : Int) by omega) (by omega)
      have hi1 := HI1.out
      rw [hds] at hle
      have hge : lenY (shortOf ms) (longOf ms) (flag ls (i : Int)) ≤ x - f - q * T - daysTo (shortOf ms) (longOf ms) ls (i : Int) := by omega
      have HDS := Lib.hid hds
      clear hds hle hi1
      obtain ⟨Z, hZ⟩ : ∃ Z, Z = lenY (shortOf ms) (longOf ms) (flag ls (i : Int)) := ⟨_, rfl⟩
      rw [← hZ] at hge lb1 lb2 HDS
      have HZ := Lib.hid hZ; clear hZ
      generalize hDD : daysTo (shortOf ms) (longOf ms) ls (i : Int) = D at hge db1 db2 HDS ⊢
      clear hDD
      go_wp2_with fail
      refine (years_Length _ s f C a1 a2 n1 c1 n2 c2 ms ls g _ _ _ _ cy1 cy2 (by omega) (by omega) (HG.out.then_ tw.2.2)).mono ?_
      rw [hpi.out, ← HZ.out]
      rintro e w2 ⟨rfl, hb⟩
      replace tw := tw.step hb
      clear hb z0 z1 z2 z3 z4 z5 z6 z7 z8
      obtain ⟨z0, z1, z2, z3, z4, z5, z6, z7, z8⟩ := tw.years
      go_wp2_with fail
      refine (years_Length _ s f C a1 a2 n1 c1 n2 c2 ms ls g _ _ _ _ cy1 cy2 (by omega) (by omega) (HG.out.then_ tw.2.2)).mono ?_
      rw [hpi.out, ← HZ.out]
      rintro e w3 ⟨rfl, hb⟩
      replace tw := tw.step hb
      clear hb z0 z1 z2 z3 z4 z5 z6 z7 z8
      go_wp2_with fail
      go_roundw
      case rel => exact ⟨i + 1, by omega, by go_num, by rw [show ((i + 1 : Nat) : Int) = (i : Int) + 1 by omega, HDS.out]; go_num, tw⟩
      case measure => simp [intOf]; omega
    · obtain rfl : p = i := by omega
      have hi2 := HI2.out
      have hi1 := HI1.out
      have hge : x - f - q * T - daysTo (shortOf ms) (longOf ms) ls (p : Int) < lenY (shortOf ms) (longOf ms) (flag ls (p : Int)) := by omega
      have hR0 : 0 ≤ x - f - q * T - daysTo (shortOf ms) (longOf ms) ls (p : Int) := by omega
      clear hds hi1 hi2
      obtain ⟨R, hR⟩ : ∃ R, R = x - f - q * T - daysTo (shortOf ms) (longOf ms) ls (p : Int) := ⟨_, rfl⟩
      rw [← hR] at hge hR0 ⊢
      have HR := Lib.hid hR; clear hR
      obtain ⟨Z, hZ⟩ : ∃ Z, Z = lenY (shortOf ms) (longOf ms) (flag ls (p : Int)) := ⟨_, rfl⟩
      rw [← hZ] at hge lb1 lb2
      have HZ := Lib.hid hZ; clear hZ
      go_wp2_with fail
      refine (years_Length _ s f C a1 a2 n1 c1 n2 c2 ms ls g _ _ _ _ cy1 cy2 (by omega) (by omega) (HG.out.then_ tw.2.2)).mono ?_
      rw [hpi.out, ← HZ.out]
      rintro e w2 ⟨rfl, hb⟩
      replace tw := tw.step hb
      clear hb z0 z1 z2 z3 z4 z5 z6 z7 z8
      rw [← HY.out]
      go_wp2_with fail
      refine (ref_In _ _ _ _).mono ?_; rw [hy]; rintro e w3 ⟨rfl, rfl⟩
      go_wp2_with fail
      have HRL := Lib.hid (show R < lenY (shortOf ms) (longOf ms) (flag ls (placeOf C y)) by rw [HPL.out, ← HZ.out]; exact hge)
      have hKR := HK.out
      rw [show x - nyOf (shortOf ms) (longOf ms) f C ls y = R by rw [HNY.out, HR.out]; omega] at hKR
      have HKR := Lib.hid hKR; clear hKR
      have R8 : R < 8000 := by omega
      clear hge
      go_loopw [8, 9] (fun t i wr => ∃ (j : Nat) (rr : Int), i = .int .i64 ((j : Int) + 1) ∧ t = .int .i64 rr ∧ FindTo (flag ls (placeOf C y)) ms R j rr ∧ Two w (.cells #[.string s, .int .i64 f, .int .i64 (C : Int), .slice a1 n1 c1, .slice a2 n2 c2, .slice (some ⟨g, 0, none⟩) C C, .int .i64 (shortOf ms), .int .i64 (longOf ms), .int .i64 T] 43) (.cells #[.int .i64 0, .int .i64 0, .int .i64 0] 52) wr) (fun _ i _ => n1 + 1 - (intOf i).toNat)
      case atStart => exact ⟨0, R, rfl, rfl, FindTo.start _ _ _ hR0, tw⟩
      case round =>
        clear tw
        obtain ⟨j, rr, rfl, rfl, hF, tw⟩ := hrel
        have hjl := hF.in_ HRL.out
        have hjn : j < n1 := by have := L1.out; omega
        have rr0 : 0 ≤ rr := hF.2.1
        have rr1 : rr < 8000 := by
          have h1 := hF.2.2.1
          have h2 := sumM_bound OK.out.lens (flag ls (placeOf C y)) j (by omega)
          omega
        obtain ⟨m, hm⟩ : ∃ m, ms[j]? = some m := ⟨_, List.getElem?_eq_getElem hjl⟩
        obtain ⟨mb1, mb2⟩ := mlenOf_bound OK.out.lens hm (flag ls (placeOf C y))
        have HM := Lib.hid hm; have HF := Lib.hid hF
        clear hm hF hjl
        obtain ⟨ML, hML⟩ : ∃ ML, ML = mlenOf m (flag ls (placeOf C y)) := ⟨_, rfl⟩
        rw [← hML] at mb1 mb2
        have HML := Lib.hid hML; clear hML
        obtain ⟨z0, z1, z2, z3, z4, z5, z6, z7, z8⟩ := tw.years
        by_cases hlt2 : rr < ML
        · have hst := HF.out.stop HM.out (by rw [← HML.out]; exact hlt2)
          have hkj : k = j ∧ r' = rr := by have := HKR.out.symm.trans hst; simpa using this
          obtain ⟨rfl, rfl⟩ := hkj
          clear hst
          go_wp2_with fail
          refine (years_Month _ s f C a1 a2 n1 c1 n2 c2 ms ls g y _ _ _ k m cy1 cy2 (by omega) (by omega) (HG.out.then_ tw.2.2) (H.out.then_ tw.2.2) g2 HM.out).mono ?_
          rw [← HML.out]
          rintro e w4 ⟨rfl, hb⟩
          replace tw := tw.step hb
          clear hb z0 z1 z2 z3 z4 z5 z6 z7 z8
          have ar := tw.2.1
          have e0 := ar.cell 0; have e1 := ar.cell 1; have e2 := ar.cell 2; simp at e0 e1 e2
          have z0 := ar.frozen 0; have z1 := ar.frozen 1; have z2 := ar.frozen 2
          go_wp2_with fail
          have ar3 := ar.store3 (.int .i64 y) (.int .i64 ((k : Int) + 1)) (.int .i64 (r' + 1))
          have b3 := below_set3 tw.2.2 (p := w.heap.size + 1) (by omega) (.int .i64 y) (.int .i64 ((k : Int) + 1)) (.int .i64 (r' + 1))
          clear e0 e1 e2 z0 z1 z2
          generalize World.setCell (World.setCell _ _ _) _ _ = W5 at ar3 b3 ⊢
          have e0 := ar3.cell 0; have e1 := ar3.cell 1; have e2 := ar3.cell 2; simp at e0 e1 e2
          exact bodyPost_ret (v := dateAt y k r') (by simp [dateAt, results, Tryz.results21, go_sem, e0, e1, e2]) rfl ⟨rfl, b3⟩
        · have hnx := Lib.hid (HF.out.next HM.out (by rw [← HML.out]; exact hlt2))
          rw [← HML.out] at hnx
          go_wp2_with fail
          refine (years_Month _ s f C a1 a2 n1 c1 n2 c2 ms ls g y _ _ _ j m cy1 cy2 (by omega) (by omega) (HG.out.then_ tw.2.2) (H.out.then_ tw.2.2) g2 HM.out).mono ?_
          rw [← HML.out]
          rintro e w4 ⟨rfl, hb⟩
          replace tw := tw.step hb
          clear hb z0 z1 z2 z3 z4 z5 z6 z7 z8
          obtain ⟨z0, z1, z2, z3, z4, z5, z6, z7, z8⟩ := tw.years
          go_wp2_with fail
          refine (years_Month _ s f C a1 a2 n1 c1 n2 c2 ms ls g y _ _ _ j m cy1 cy2 (by omega) (by omega) (HG.out.then_ tw.2.2) (H.out.then_ tw.2.2) g2 HM.out).mono ?_
          rw [← HML.out]
          rintro e w5 ⟨rfl, hb⟩
          replace tw := tw.step hb
          clear hb z0 z1 z2 z3 z4 z5 z6 z7 z8
          go_wp2_with fail
          go_roundw
          case rel => exact ⟨j + 1, rr - ML, by go_num, rfl, hnx.out, tw⟩
          case measure => simp [intOf]; omega
theorem place_of_year {s : ByteArray} {f c : Int} {ms : List Mon} {ls : List Int} (ok : CalOk s f c ms ls) {x y : Int} (h : InYear ms ls f c y x) (y1 : -10000 ≤ y) (y2 : y ≤ 10000) : Place ms ls f c x (y + 10002).toNat := by
  refine ⟨by omega, fun i hi => ?_, fun _ => ?_⟩
  · have := nyOf_lt ok (show -10001 + (i : Int) ≤ y by omega)
    have := h.1; omega
  · rw [show -10001 + ((y + 10002).toNat : Int) = y + 1 by omega]; exact h.2
theorem year_of_place {f c : Int} {ms : List Mon} {ls : List Int} {x : Int} {r : Nat} (h : Place ms ls f c x r) (y1 : -10000 ≤ -10001 + (r : Int) - 1) (y2 : -10001 + (r : Int) - 1 ≤ 10000) : InYear ms ls f c (-10001 + (r : Int) - 1) x := by
  refine ⟨?_, ?_⟩
  · have := h.2.1 (r - 1) (by omega)
    rwa [show -10001 + ((r - 1 : Nat) : Int) = -10001 + (r : Int) - 1 by omega] at this
  · have := h.2.2 (by omega)
    rwa [show -10001 + (r : Int) - 1 + 1 = -10001 + (r : Int) by omega]
end Go.Proofs.YtlbjmpdonnlieaaGreatDoor
