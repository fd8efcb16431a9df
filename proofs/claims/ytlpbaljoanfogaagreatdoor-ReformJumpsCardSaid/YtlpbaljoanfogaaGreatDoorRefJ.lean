import Derived.Test.YtlpbaljoanfogaaGreatDoorMg9
import Derived.Test.YtlpbaljoanfogaaGreatDoorMg4
set_option linter.unusedSimpArgs false
namespace Go.Proofs.YtlpbaljoanfogaaGreatDoor
set_option linter.unusedVariables false
set_option maxRecDepth 100000
open Go.RowKit Go.ChangeShapes Go.WideShapes Go.Shelf
def jumpN (ee e2 nn f : Int) : Int := if ee ≠ 0 then 0 else if e2 ≠ 0 then 0 else nn - f
def jumpE (ee e2 : Int) : Int := if ee ≠ 0 then ee else if e2 ≠ 0 then 6 else 0
set_option maxHeartbeats 4000000 in
theorem reform_Jump_bad (w : World) (nm : ByteArray) (a : Option Addr) (n c : Nat) (xs : List Prt) (hs : nm.size ≤ 9223372036854775807) (hc : n ≤ c) (h : Parts w w.heap.size a n xs) (x E : Int)
    (hE : (reformErr nm xs = E ∧ E ≠ 0) ∨ (reformErr nm xs = 0 ∧ ¬ (1 ≤ x ∧ x < n) ∧ E = 1)) :
    Calls Tryz.prog 19 #[.agg #[.string nm, .slice a n c], .int .i64 x] w fun e w' => e = .returned (.tuple #[.int .i64 0, .int .i64 E]) ∧ Below w.heap.size w w' := by
  have a0 := At.new w (refO nm a n c)
  have b0 := below_new (Below.refl w.heap.size w) (refO nm a n c)
  have m1 := h.max
  have H := Lib.hid h; clear h
  have hcase : (reformErr nm xs = E ∧ E ≠ 0) ∨ (reformErr nm xs = 0 ∧ decide (x < 1) = true ∧ E = 1) ∨ (reformErr nm xs = 0 ∧ decide (x < 1) = false ∧ decide (x ≥ (n : Int)) = true ∧ E = 1) := by
    rcases hE with h | ⟨h1, h2, h3⟩
    · exact .inl h
    · by_cases h4 : x < 1
      · exact .inr (.inl ⟨h1, by simpa using h4, h3⟩)
      · exact .inr (.inr ⟨h1, by simpa using h4, by simp; omega, h3⟩)
  clear hE
  rcases hcase with ⟨he, hne⟩ | ⟨he, q1, rfl⟩ | ⟨he, q1, q2, rfl⟩
  · have hne' : (E != 0) = true := by simpa using hne
    have HE := Lib.hid he; clear he hne
    go_enter Tryz.func19, Tryz.ntmps19
    go_wp2_with fail
    generalize World.alloc w _ = W0 at a0 b0 ⊢
    have B0 := Lib.hid b0
    have x0 := a0.cell 0; have x1 := a0.cell 1; simp at x0 x1
    have hl := a0.lt
    clear a0 b0
    go_wp2_with fail
    refine (reform_Check W0 nm a n c xs hs hc (H.out.then_ B0.out)).mono ?_
    rw [HE.out]
    rintro e w1 ⟨rfl, hb⟩
    have B1 := Lib.hid (below_then B0.out hb)
    clear hb
    go_wp2_with fail
    go_ret2
    exact ⟨rfl, B1.out⟩
  all_goals
    have HE := Lib.hid he; clear he
    go_enter Tryz.func19, Tryz.ntmps19
    go_wp2_with fail
    generalize World.alloc w _ = W0 at a0 b0 ⊢
    have A0 := Lib.hid a0; have B0 := Lib.hid b0
    have x0 := a0.cell 0; have x1 := a0.cell 1; simp at x0 x1
    have hl := a0.lt
    clear a0 b0
    go_wp2_with fail
    refine (reform_Check W0 nm a n c xs hs hc (H.out.then_ B0.out)).mono ?_
    rw [HE.out]
    rintro e w1 ⟨rfl, hb⟩
    have aa := A0.out.then_ hb
    have B1 := Lib.hid (below_then B0.out hb)
    clear hb x0 x1 hl A0
    have x0 := aa.cell 0; have x1 := aa.cell 1; simp at x0 x1
    have hl := aa.lt
    clear aa
    go_wp2_with fail
    go_ret2
    exact ⟨rfl, B1.out⟩
set_option maxHeartbeats 4000000 in
theorem reform_Jump_ok (w : World) (nm : ByteArray) (a : Option Addr) (n c : Nat) (xs : List Prt) (hs : nm.size ≤ 9223372036854775807) (hc : n ≤ c) (h : Parts w w.heap.size a n xs) (hE : reformErr nm xs = 0) (K J : Nat) (hKJ : K = J + 1) (hK : K < n)
    (f f' : Int) (s s' : ByteArray) (hxK : xs[K]? = some (f, s)) (hxJ : xs[J]? = some (f', s')) (da db dd ee nn e2 : Int)
    (HD : ∀ W, Below w.heap.size w W → Calls Tryz.prog 33 #[.string s, .int .i64 f] W fun e w' => e = .returned (.tuple #[.agg #[.int .i64 da, .int .i64 db, .int .i64 dd], .int .i64 ee]) ∧ Below W.heap.size W w')
    (HT : ∀ W, Below w.heap.size w W → Calls Tryz.prog 42 #[.string s', .agg #[.int .i64 da, .int .i64 db, .int .i64 dd]] W fun e w' => e = .returned (.tuple #[.int .i64 nn, .int .i64 e2]) ∧ Below W.heap.size W w')
    (hn : e2 = 0 → -4000000 ≤ nn ∧ nn ≤ 4000000) :
    Calls Tryz.prog 19 #[.agg #[.string nm, .slice a n c], .int .i64 (K : Int)] w fun e w' => e = .returned (.tuple #[.int .i64 (jumpN ee e2 nn f), .int .i64 (jumpE ee e2)]) ∧ Below w.heap.size w w' := by
  obtain ⟨hn1, hn2, hhd, hall⟩ := reformErr_parts hE
  have hfb := (hall (f, s) (List.mem_of_getElem? hxK)).2
  obtain ⟨fb1, fb2⟩ : -4000000 ≤ f ∧ f ≤ 4000000 := hfb
  obtain ⟨JN, hJN⟩ : ∃ q, q = jumpN ee e2 nn f := ⟨_, rfl⟩
  obtain ⟨JE, hJE⟩ : ∃ q, q = jumpE ee e2 := ⟨_, rfl⟩
  rw [← hJN, ← hJE]
  have HJN := Lib.hid hJN; have HJE := Lib.hid hJE
  have m1 := h.max
  have a0 := At.new w (refO nm a n c)
  have b0 := below_new (Below.refl w.heap.size w) (refO nm a n c)
  have H := Lib.hid h; have HE := Lib.hid hE; have CD := Lib.hid HD; have CT := Lib.hid HT; have HN := Lib.hid hn
  obtain ⟨b, off, rfl, hbB, hcs0⟩ := h.open_ (by omega)
  obtain ⟨g1, t1, hc1, hc2, hx1, _, _, _⟩ := hcs0 K hK
  rw [hxK] at hx1; cases hx1
  obtain ⟨g2, t2, _, hc4, hx2, _, _, _⟩ := hcs0 J (by omega)
  rw [hxJ] at hx2; cases hx2
  have C1 := Lib.hid hc1; have C2 := Lib.hid hc2; have C4 := Lib.hid hc4; have HBB := Lib.hid hbB
  have hk1 : decide ((K : Int) < 1) = false := by simp; omega
  have hk2 : decide ((K : Int) ≥ (n : Int)) = false := by simp; omega
  have hwk : IntKind.i64.wrap ((K : Int) - 1) = (J : Int) := by rw [show (K : Int) - 1 = (J : Int) by omega]; exact IntWalk.i64_in _ (by omega)
  have hki : (K : Int) < (n : Int) := by omega
  have hk0 : (0 : Int) ≤ (K : Int) := by omega
  have hji : (J : Int) < (n : Int) := by omega
  have hj0 : (0 : Int) ≤ (J : Int) := by omega
  have hJn : J < n := by omega
  clear h hE HD HT hn hJN hJE hcs0 hc1 hc2 hc4 hxK hxJ hn1 hn2 hhd hall hKJ
  go_enter Tryz.func19, Tryz.ntmps19
  go_wp2_with fail
  generalize World.alloc w _ = W0 at a0 b0 ⊢
  have A0 := Lib.hid a0; have B0 := Lib.hid b0
  have x0 := a0.cell 0; have x1 := a0.cell 1; simp at x0 x1
  have hl := a0.lt
  clear a0 b0
  go_wp2_with fail
  refine (reform_Check W0 nm (some ⟨b, off, none⟩) n c xs hs hc (H.out.then_ B0.out)).mono ?_
  rw [HE.out]
  rintro e w1 ⟨rfl, hb⟩
  have aa := A0.out.then_ hb
  have bb := below_then B0.out hb
  have A1 := Lib.hid aa
  have B1 := Lib.hid bb
  clear hb x0 x1 hl A0 B0
  have c1 := (bb.cell (p := ⟨b, off + K * 2, none⟩) hbB).trans C1.out
  have c2 := (bb.cell (p := ⟨b, off + K * 2 + 1, none⟩) hbB).trans C2.out
  have hbz : b < w1.heap.size := by have := bb.size; omega
  have x0 := aa.cell 0; have x1 := aa.cell 1; simp at x0 x1
  have hl := aa.lt
  clear aa bb
  go_wp2_with fail
  clear x0 x1 hl c1 c2 hbz
  refine (CD.out w1 B1.out).mono ?_
  rintro e w2 ⟨rfl, hb⟩
  have o2 := At.new w2 (dateO da db dd)
  have A2 := Lib.hid ((A1.out.then_ hb).alloc (dateO da db dd))
  have B2 := Lib.hid (below_new (below_then B1.out hb) (dateO da db dd))
  obtain ⟨T, hT⟩ : ∃ T, T = w2.heap.size := ⟨_, rfl⟩
  rw [← hT] at o2
  clear hb A1 B1
  go_upto_region 8 with fail
  rw [← hT]
  generalize World.alloc w2 _ = W2 at o2 A2 B2 ⊢
  clear hT
  by_cases he : ee = 0
  case neg =>
    have hne : (ee != 0) = true := by simpa using he
    have e1 := Lib.hid (show JN = 0 from by rw [HJN.out, jumpN, if_pos he])
    have e3 := Lib.hid (show JE = ee from by rw [HJE.out, jumpE, if_pos he])
    clear he o2
    go_wp2_with fail
    go_ret2
    exact ⟨by rw [e1.out, e3.out]; rfl, B2.out⟩
  subst he
  have O2 := Lib.hid o2
  clear o2
  go_upto_region 10 with fail
  refine wp_region_held_drew (S := fun wx => At wx w.heap.size (refO nm (some ⟨b, off, none⟩) n c) ∧ At wx T (dateO da db dd) ∧ Below w.heap.size w wx) (by kernel_rfl) ?_ (fun hHeld => ?_)
  · (try dsimp only); exact ⟨A2.out.drew, O2.out.drew, B2.out.drew⟩
  refine lex_take (i := 0) (v := ?_) rfl (by kernel_rfl) (by kernel_rfl) (by kernel_rfl) (fun _ _ _ h => h) (by rfl) ?_ (by assumption) ?_
  rotate_left
  · (intro w hSw; (try dsimp only at hSw); have x0 := hSw.1.cell 0; have x1 := hSw.1.cell 1; have z0 := hSw.2.1.cell 0; have z1 := hSw.2.1.cell 1; have z2 := hSw.2.1.cell 2; have c4 := (hSw.2.2.cell (p := ⟨b, off + J * 2 + 1, none⟩) HBB.out).trans C4.out; go_simp; try with_reducible rfl)
  try simp only [Act.put, List.setIfInBounds_toArray, List.set_cons_zero, List.set_cons_succ]
  refine lex_take (i := 1) (v := ?_) rfl (by kernel_rfl) (by kernel_rfl) (by kernel_rfl) (fun _ _ _ h => h) (by rfl) ?_ (by assumption) ?_
  rotate_left
  · (intro w hSw; (try dsimp only at hSw); have x0 := hSw.1.cell 0; have x1 := hSw.1.cell 1; have z0 := hSw.2.1.cell 0; have z1 := hSw.2.1.cell 1; have z2 := hSw.2.1.cell 2; have c4 := (hSw.2.2.cell (p := ⟨b, off + J * 2 + 1, none⟩) HBB.out).trans C4.out; go_simp; try with_reducible rfl)
  try simp only [Act.put, List.setIfInBounds_toArray, List.set_cons_zero, List.set_cons_succ]
  refine lex_take (i := 2) (v := ?_) rfl (by kernel_rfl) (by kernel_rfl) (by kernel_rfl) (fun _ _ _ h => h) (by rfl) ?_ (by assumption) ?_
  rotate_left
  · (intro w hSw; (try dsimp only at hSw); have x0 := hSw.1.cell 0; have x1 := hSw.1.cell 1; have z0 := hSw.2.1.cell 0; have z1 := hSw.2.1.cell 1; have z2 := hSw.2.1.cell 2; have c4 := (hSw.2.2.cell (p := ⟨b, off + J * 2 + 1, none⟩) HBB.out).trans C4.out; go_simp; try with_reducible rfl)
  try simp only [Act.put, List.setIfInBounds_toArray, List.set_cons_zero, List.set_cons_succ]
  refine lex_take (i := 3) (v := ?_) rfl (by kernel_rfl) (by kernel_rfl) (by kernel_rfl) (fun _ _ _ h => h) (by rfl) ?_ (by assumption) ?_
  rotate_left
  · (intro w hSw; (try dsimp only at hSw); have x0 := hSw.1.cell 0; have x1 := hSw.1.cell 1; have z0 := hSw.2.1.cell 0; have z1 := hSw.2.1.cell 1; have z2 := hSw.2.1.cell 2; have c4 := (hSw.2.2.cell (p := ⟨b, off + J * 2 + 1, none⟩) HBB.out).trans C4.out; go_simp; try with_reducible rfl)
  try simp only [Act.put, List.setIfInBounds_toArray, List.set_cons_zero, List.set_cons_succ]
  refine lex_take (i := 4) (v := ?_) rfl (by kernel_rfl) (by kernel_rfl) (by kernel_rfl) (fun _ _ _ h => h) (by rfl) ?_ (by assumption) ?_
  rotate_left
  · (intro w hSw; (try dsimp only at hSw); have x0 := hSw.1.cell 0; have x1 := hSw.1.cell 1; have z0 := hSw.2.1.cell 0; have z1 := hSw.2.1.cell 1; have z2 := hSw.2.1.cell 2; have c4 := (hSw.2.2.cell (p := ⟨b, off + J * 2 + 1, none⟩) HBB.out).trans C4.out; go_simp; try with_reducible rfl)
  try simp only [Act.put, List.setIfInBounds_toArray, List.set_cons_zero, List.set_cons_succ]
  refine lex_take (i := 5) (v := ?_) rfl (by kernel_rfl) (by kernel_rfl) (by kernel_rfl) (fun _ _ _ h => h) (by rfl) ?_ (by assumption) ?_
  rotate_left
  · (intro w hSw; (try dsimp only at hSw); have x0 := hSw.1.cell 0; have x1 := hSw.1.cell 1; have z0 := hSw.2.1.cell 0; have z1 := hSw.2.1.cell 1; have z2 := hSw.2.1.cell 2; have c4 := (hSw.2.2.cell (p := ⟨b, off + J * 2 + 1, none⟩) HBB.out).trans C4.out; go_simp; try with_reducible rfl)
  try simp only [Act.put, List.setIfInBounds_toArray, List.set_cons_zero, List.set_cons_succ]
  refine lex_take (i := 6) (v := ?_) rfl (by kernel_rfl) (by kernel_rfl) (by kernel_rfl) (fun _ _ _ h => h) (by rfl) ?_ (by assumption) ?_
  rotate_left
  · (intro w hSw; (try dsimp only at hSw); have x0 := hSw.1.cell 0; have x1 := hSw.1.cell 1; have z0 := hSw.2.1.cell 0; have z1 := hSw.2.1.cell 1; have z2 := hSw.2.1.cell 2; have c4 := (hSw.2.2.cell (p := ⟨b, off + J * 2 + 1, none⟩) HBB.out).trans C4.out; go_simp; try with_reducible rfl)
  try simp only [Act.put, List.setIfInBounds_toArray, List.set_cons_zero, List.set_cons_succ]
  refine lex_take (i := 7) (v := ?_) rfl (by kernel_rfl) (by kernel_rfl) (by kernel_rfl) (fun _ _ _ h => h) (by rfl) ?_ (by assumption) ?_
  rotate_left
  · (intro w hSw; (try dsimp only at hSw); have x0 := hSw.1.cell 0; have x1 := hSw.1.cell 1; have z0 := hSw.2.1.cell 0; have z1 := hSw.2.1.cell 1; have z2 := hSw.2.1.cell 2; have c4 := (hSw.2.2.cell (p := ⟨b, off + J * 2 + 1, none⟩) HBB.out).trans C4.out; go_simp; try with_reducible rfl)
  try simp only [Act.put, List.setIfInBounds_toArray, List.set_cons_zero, List.set_cons_succ]
  refine lex_step (i := 8) rfl (by kernel_rfl) (by rfl) (fun Kx hKx => ?_)
  (have hqB := hHeld.2.2; go_simp; go_at_call 42; (with_reducible refine (CT.out _ hqB).mono ?_); rintro e w5 ⟨rfl, hb5⟩; try go_wp2_with fail)
  refine hKx.out _ _ ?_ (fun hHeld => ?_)
  · (try dsimp only); exact ⟨hHeld.1.then_ hb5, hHeld.2.1.then_ hb5, below_then hHeld.2.2 hb5⟩
  clear hKx Kx
  try simp only [Act.put, List.setIfInBounds_toArray, List.set_cons_zero, List.set_cons_succ]
  refine lex_take (i := 9) (v := ?_) rfl (by kernel_rfl) (by kernel_rfl) (by kernel_rfl) (fun _ _ _ h => h) (by rfl) ?_ (by assumption) ?_
  rotate_left
  · (intro w hSw; (try dsimp only at hSw); go_simp; try with_reducible rfl)
  try simp only [Act.put, List.setIfInBounds_toArray, List.set_cons_zero, List.set_cons_succ]
  refine lex_take (i := 10) (v := ?_) rfl (by kernel_rfl) (by kernel_rfl) (by kernel_rfl) (fun _ _ _ h => h) (by rfl) ?_ (by assumption) ?_
  rotate_left
  · (intro w hSw; (try dsimp only at hSw); go_simp; try with_reducible rfl)
  try simp only [Act.put, List.setIfInBounds_toArray, List.set_cons_zero, List.set_cons_succ]
  refine lex_take (i := 11) (v := ?_) rfl (by kernel_rfl) (by kernel_rfl) (by kernel_rfl) (fun _ _ _ h => h) (by rfl) ?_ (by assumption) ?_
  rotate_left
  · (intro w hSw; (try dsimp only at hSw); go_simp; try with_reducible rfl)
  try simp only [Act.put, List.setIfInBounds_toArray, List.set_cons_zero, List.set_cons_succ]
  refine lex_take (i := 12) (v := ?_) rfl (by kernel_rfl) (by kernel_rfl) (by kernel_rfl) (fun _ _ _ h => h) (by rfl) ?_ (by assumption) ?_
  rotate_left
  · (intro w hSw; (try dsimp only at hSw); go_simp; try with_reducible rfl)
  try simp only [Act.put, List.setIfInBounds_toArray, List.set_cons_zero, List.set_cons_succ]
  refine lex_take (i := 13) (v := ?_) rfl (by kernel_rfl) (by kernel_rfl) (by kernel_rfl) (fun _ _ _ h => h) (by rfl) ?_ (by assumption) ?_
  rotate_left
  · (intro w hSw; (try dsimp only at hSw); go_simp; try with_reducible rfl)
  try simp only [Act.put, List.setIfInBounds_toArray, List.set_cons_zero, List.set_cons_succ]
  refine wpAnyH_done (by kernel_rfl) ?_ _
  clear A2 O2 B2
  have B3 := Lib.hid hHeld.2.2
  clear hHeld
  by_cases h2 : e2 = 0
  case neg =>
    have hne : (e2 != 0) = true := by simpa using h2
    have e1 := Lib.hid (show JN = 0 from by rw [HJN.out, jumpN, if_neg (by simp), if_pos h2])
    have e3 := Lib.hid (show JE = 6 from by rw [HJE.out, jumpE, if_neg (by simp), if_pos h2])
    clear h2
    go_wp2_with fail
    go_ret2
    exact ⟨by rw [e1.out, e3.out]; rfl, B3.out⟩
  subst h2
  obtain ⟨nb1, nb2⟩ := HN.out rfl
  have hwn : IntKind.i64.wrap (nn - f) = nn - f := IntWalk.i64_in _ (by omega)
  have e1 := Lib.hid (show JN = nn - f from by rw [HJN.out, jumpN, if_neg (by simp), if_neg (by simp)])
  have e3 := Lib.hid (show JE = 0 from by rw [HJE.out, jumpE, if_neg (by simp), if_neg (by simp)])
  go_wp2_with fail
  go_ret2
  exact ⟨by rw [e1.out, e3.out]; rfl, B3.out⟩
end Go.Proofs.YtlpbaljoanfogaaGreatDoor
