import Derived.Test.YtlpbaljoanfogaaGreatDoorRows
import Derived.Test.YtlpbaljoanfogaaGreatDoorMg4
import Derived.Test.YtlpbaljoanfogaaGreatDoorMg8
import Derived.Test.YtlpbaljoanfogaaGreatDoorMg9
import Derived.Test.YtlpbaljoanfogaaGreatDoorMgI
set_option linter.unusedSimpArgs false
namespace Go.Proofs.YtlpbaljoanfogaaGreatDoor.reformDatesLaw
set_option linter.unusedVariables false
set_option maxRecDepth 100000
open Go.RowKit Go.ChangeShapes Go.WideShapes Go.Shelf
abbrev julL : List UInt8 := [106, 117, 108, 105, 97, 110]
theorem good_err : reformErr sChange chgParts = 0 := by decide +kernel
theorem jul_b : fromB julL 577735 1582 9 3 = true := by decide +kernel
theorem jul_day : ∃ r, rowOf sJulian.data.toList = some r ∧ FromC r 577735 1582 10 4 0 := from_row jul_b (by omega) (by omega) (by omega) (by omega)
theorem pick_j : PickTo chgParts 577735 2 0 := by
  refine .inr ⟨by omega, ⟨_, rfl, by decide⟩, fun j p h1 h2 hp => ?_⟩
  obtain rfl : j = 1 := by omega
  cases hp
  decide
theorem One.kept {w W W' : World} {o : Obj} {T : Nat} (h : One w o W) (k : OneKept T W W') (hT : w.heap.size < T) : One w o W' := ⟨At.oneKept h.1 k (by omega), k.below_own h.2 (by omega)⟩
theorem join9 {G F : Nat → World → Option Addr → Nat → Nat → Option Addr → Nat → Nat → Nat → Prop} {R : Prop} (h : (∀ T W p1 q1 r1 p2 q2 r2 g, F T W p1 q1 r1 p2 q2 r2 g → G T W p1 q1 r1 p2 q2 r2 g) → R) (k : ∀ T W p1 q1 r1 p2 q2 r2 g, F T W p1 q1 r1 p2 q2 r2 g → G T W p1 q1 r1 p2 q2 r2 g) : R := h k
set_option maxHeartbeats 4000000 in
theorem core (w : World) (mx : Int) (hmx : w.cell? ⟨0, 0, none⟩ = some (.int .i64 mx)) (hlv : Lvl w) (hsg : Sgn w) (nm : ByteArray) (a : Option Addr) (n c : Nat) (xs : List Prt) (hs : nm.size ≤ 9223372036854775807) (hc : n ≤ c) (h : Parts w w.heap.size a n xs) (x : Int) :
    Calls Tryz.prog 3 #[.agg #[.string nm, .slice a n c], .int .i64 x] w fun e w' => e = .returned (.bool true) ∧ Below w.heap.size w w' := by
  have hgm := World.block_lt_of_cell? _ _ hmx
  have MX : ∀ W, Below w.heap.size w W → W.cell? ⟨0, 0, none⟩ = some (.int .i64 mx) := fun W hW => (hW.cell (p := ⟨0, 0, none⟩) hgm).trans hmx
  have PA : ∀ W, Below w.heap.size w W → Parts W W.heap.size a n xs := fun W hW => (h.below hW (Nat.le_refl _)).more hW.size
  have CJ := Lib.hid (fun (W : World) (hW : Below w.heap.size w W) => show Calls Tryz.prog 33 #[.string sJulian, .int .i64 577735] W fun e w' => e = .returned (.tuple #[.agg #[.int .i64 1582, .int .i64 10, .int .i64 4], .int .i64 0]) ∧ Below W.heap.size W w' from by
    obtain ⟨r, hr, hf⟩ := jul_day
    exact date_at hr hf W mx (MX W hW) (hlv.below hW) (hsg.below hW))
  have CN := Lib.hid (fun (W : World) (hW : Below w.heap.size w W) (s : ByteArray) (row : List UInt8) (hro : rowOf s.data.toList = some row) => named_at hro W mx (MX W hW))
  have CE := Lib.hid (fun (W : World) (hW : Below w.heap.size w W) => ref_ReformError W mx (MX W hW) nm a n c xs hs hc (PA W hW))
  have CP := Lib.hid (fun (W : World) (hW : Below w.heap.size w W) => ref_ReformPart W nm a n c xs hc (PA W hW) x)
  have LEN := Lib.hid h.len
  have HH := Lib.hid h
  obtain ⟨da, db, dd, ee, HF, HR⟩ : ∃ da db dd ee : Int,
      (∀ W, Below w.heap.size w W → Calls Tryz.prog 9 #[.agg #[.string nm, .slice a n c], .int .i64 x] W fun e w' => e = .returned (.tuple #[.agg #[.int .i64 da, .int .i64 db, .int .i64 dd], .int .i64 ee]) ∧ Below W.heap.size W w') ∧
      ((reformErr nm xs ≠ 0 ∧ da = 0 ∧ db = 0 ∧ dd = 0 ∧ ee = reformErr nm xs) ∨ (reformErr nm xs = 0 ∧ inB (-4000000) 4000000 x = false ∧ da = 0 ∧ db = 0 ∧ dd = 0 ∧ ee = 3) ∨
        (reformErr nm xs = 0 ∧ inB (-4000000) 4000000 x = true ∧ 1 ≤ n ∧ headF xs ≤ x ∧ ∃ kk f s row, kk < n ∧ xs[kk]? = some (f, s) ∧ PickTo xs x n kk ∧ rowOf s.data.toList = some row ∧ FromY row x da db dd ee)) := by
    by_cases hE : reformErr nm xs = 0
    case neg => exact ⟨0, 0, 0, reformErr nm xs, fun W hW => reform_FromDay_bad W nm a n c xs hs hc (PA W hW) x _ (.inl ⟨rfl, hE⟩), .inl ⟨hE, rfl, rfl, rfl, rfl⟩⟩
    rcases inB_cases (-4000000) 4000000 x with ⟨hd, x1, x2⟩ | ⟨hd, hd'⟩
    case inr => exact ⟨0, 0, 0, 3, fun W hW => reform_FromDay_bad W nm a n c xs hs hc (PA W hW) x _ (.inr ⟨hE, hd, rfl⟩), .inr (.inl ⟨hE, hd, rfl, rfl, rfl, rfl⟩)⟩
    obtain ⟨hn1, hn2, hhd, hall⟩ := reformErr_parts hE
    obtain ⟨kk, hp⟩ := pick_exists (xs := xs) (x := x) (by omega) xs.length (Nat.le_refl _)
    rw [LEN.out] at hp hn1
    have hkn : kk < n := by
      rcases hp with ⟨h1, _⟩ | ⟨h1, _⟩
      · omega
      · exact h1
    have hx := List.getElem?_eq_getElem (show kk < xs.length by rw [LEN.out]; exact hkn)
    obtain ⟨⟨f, s⟩, hfs⟩ : ∃ p, p = xs[kk]'(by rw [LEN.out]; exact hkn) := ⟨_, rfl⟩
    rw [← hfs] at hx
    obtain ⟨row, hro⟩ := calB_row (hall (f, s) (List.mem_of_getElem? hx)).1
    have hrow : row ∈ rowsL := List.mem_of_find?_eq_some hro
    obtain ⟨da, db, dd, ee, f1, f2⟩ := from_at hrow x
    exact ⟨da, db, dd, ee, fun W hW => reform_FromDay_ok W nm a n c xs hs hc (PA W hW) x hE x1 x2 kk f s hx hp da db dd ee (fun W' hW' => date_at hro f1 W' mx (MX W' (below_then hW hW')) (hlv.below (below_then hW hW')) (hsg.below (below_then hW hW'))),
      .inr (.inr ⟨hE, hd, hn1, by omega, kk, f, s, row, hkn, hx, hp, hro, f2⟩)⟩
  obtain ⟨E, hE⟩ : ∃ E, E = reformErr nm xs := ⟨_, rfl⟩
  rw [← hE] at CE HR
  have HF := Lib.hid HF; have HR := Lib.hid HR
  clear hE MX PA hmx hlv hsg hgm h
  go_enter Tryz.func3, Tryz.ntmps3
  go_wp2_with fail
  have o0 := One.new w (refO nm a n c)
  generalize World.alloc w _ = W0 at o0 ⊢
  refine (law_change _).mono ?_
  rintro e w1 ⟨G, rfl, hG, hgl, hb⟩
  have O1 := Lib.hid (o0.step hb)
  have CF := Lib.hid (reform_FromDay_ok w1 sChange (some ⟨G, 0, none⟩) 2 2 chgParts (by decide) (by omega) (parts_two hG (by decide)) 577735 good_err (by omega) (by omega) 0 (-4000000) sJulian rfl pick_j 1582 10 4 0 (fun W hW => CJ.out W (below_then O1.out.2 hW)))
  clear o0 hb hG hgl CJ
  go_wp2_with fail
  refine CF.out.mono ?_
  rintro e w2 ⟨rfl, hb⟩
  have o2 := At.new w2 (dateO 1582 10 4)
  have O2 := Lib.hid ((O1.out.step hb).alloc (dateO 1582 10 4))
  obtain ⟨T2, hT⟩ : ∃ T, T = w2.heap.size := ⟨_, rfl⟩
  rw [← hT] at o2
  clear hb O1 CF
  go_upto_region 2 with fail
  rw [← hT]
  generalize World.alloc w2 _ = W2 at o2 O2 ⊢
  clear hT
  have x0 := o2.cell 0; have x1 := o2.cell 1; have x2 := o2.cell 2; simp at x0 x1 x2
  have q2 := O2.out.1
  have u0 := q2.cell 0; have u1 := q2.cell 1; simp at u0 u1
  have hl := o2.lt; have hl2 := q2.lt
  clear o2 q2
  go_wp2_with fail
  clear x0 x1 x2 u0 u1 hl hl2
  refine (HF.out _ O2.out.2).mono ?_
  rintro e w3 ⟨rfl, hb⟩
  have o3 := At.new w3 (dateO da db dd)
  have O3 := Lib.hid ((O2.out.step hb).alloc (dateO da db dd))
  obtain ⟨T3, hT⟩ : ∃ T, T = w3.heap.size := ⟨_, rfl⟩
  rw [← hT] at o3
  clear hb O2
  go_upto_region 5 with fail
  rw [← hT]
  generalize World.alloc w3 _ = W3 at o3 O3 ⊢
  clear hT
  have D3 := Lib.hid o3
  have q3 := O3.out.1
  have u0 := q3.cell 0; have u1 := q3.cell 1; simp at u0 u1
  have hl2 := q3.lt
  clear o3 q3
  go_wp2_with fail
  clear u0 u1 hl2
  refine (CE.out _ O3.out.2).mono ?_
  rintro e w4 ⟨rfl, hb⟩
  have O4 := Lib.hid (O3.out.step hb)
  have D4 := Lib.hid (D3.out.then_ hb)
  clear hb O3 D3 CE HF
  rcases HR.out with ⟨hne, rfl, rfl, rfl, rfl⟩ | ⟨rfl, hx, rfl, rfl, rfl, rfl⟩ | ⟨rfl, hx, hn1, hh0, kk, f, s, row, hkn, hkx, hp, hro, hfy⟩
  · have hne' : (ee != 0) = true := by simpa using hne
    have d4 := D4.out
    have x0 := d4.cell 0; have x1 := d4.cell 1; have x2 := d4.cell 2; simp at x0 x1 x2
    have hl := d4.lt
    clear d4 HR
    go_wp2_with fail
    go_ret
    exact ⟨ret_bool (by simp), O4.out.2⟩
  · have d4 := D4.out
    have x0 := d4.cell 0; have x1 := d4.cell 1; have x2 := d4.cell 2; simp at x0 x1 x2
    have hl := d4.lt
    clear d4 HR
    go_wp2_with (go_at_call 12; refine (ref_Day _ _).mono ?_; rw [hx]; rintro e w5 ⟨rfl, rfl⟩)
    go_ret
    exact ⟨ret_bool (by simp), O4.out.2⟩
  · obtain ⟨b, off, rfl, hbB, hcs0⟩ := HH.out.open_ (by omega)
    obtain ⟨f', s', hc1, hc2, hx', f1, f2, hsz⟩ := hcs0 kk hkn
    rw [hkx] at hx'
    cases hx'
    have HC2 := Lib.hid hc2; have HBB := Lib.hid hbB; have HRO := Lib.hid hro; have HFY := Lib.hid hfy; have HKN := Lib.hid hkn
    have CPK := Lib.hid (fun (W : World) (hW : Below w.heap.size w W) => CP.out W hW hn1 hh0 kk hp)
    clear hc1 hc2 hcs0 HR CP hkx hp hro hfy hh0 HH
    go_upto_region 10 with (go_at_call 12; refine (ref_Day _ _).mono ?_; rw [hx]; rintro e w5 ⟨rfl, rfl⟩)
    generalize hWD : w4 = W4 at O4 D4 ⊢
    clear hWD
    refine' join9 (F := fun T W p1 q1 r1 p2 q2 r2 g => One w (refO nm (some ⟨b, off, none⟩) n c) W ∧ At W T3 (dateO da db dd) ∧ At W T (yrW row p1 p2 q1 r1 q2 r2 g) ∧ CalAt W p1 p2 q1 q2 (msL row) (lsL row) ∧ MarksAt W g (calN row) (lsL row)) (fun hj => ?_) ?_
    rotate_left
    ·
      refine wp_region_held_drew (S := fun wx => One w (refO nm (some ⟨b, off, none⟩) n c) wx ∧ At wx T3 (dateO da db dd)) (by kernel_rfl) ?_ (fun hHeld => ?_)
      · (try dsimp only); exact ⟨O4.out.drew, D4.out.drew⟩
      refine lex_take (i := 0) (v := ?_) rfl (by kernel_rfl) (by kernel_rfl) (by kernel_rfl) (fun _ _ _ h => h) (by rfl) ?_ (by assumption) ?_
      rotate_left
      · (intro w hSw; (try dsimp only at hSw); have x1 := hSw.1.1.cell 1; have c2 := (hSw.1.2.cell (p := ⟨b, off + kk * 2 + 1, none⟩) HBB.out).trans HC2.out; have x0 := hSw.1.1.cell 0; go_simp; try with_reducible rfl)
      try simp only [Act.put, List.setIfInBounds_toArray, List.set_cons_zero, List.set_cons_succ]
      refine lex_take (i := 1) (v := ?_) rfl (by kernel_rfl) (by kernel_rfl) (by kernel_rfl) (fun _ _ _ h => h) (by rfl) ?_ (by assumption) ?_
      rotate_left
      · (intro w hSw; (try dsimp only at hSw); have x1 := hSw.1.1.cell 1; have c2 := (hSw.1.2.cell (p := ⟨b, off + kk * 2 + 1, none⟩) HBB.out).trans HC2.out; have x0 := hSw.1.1.cell 0; go_simp; try with_reducible rfl)
      try simp only [Act.put, List.setIfInBounds_toArray, List.set_cons_zero, List.set_cons_succ]
      refine lex_take (i := 2) (v := ?_) rfl (by kernel_rfl) (by kernel_rfl) (by kernel_rfl) (fun _ _ _ h => h) (by rfl) ?_ (by assumption) ?_
      rotate_left
      · (intro w hSw; (try dsimp only at hSw); have x1 := hSw.1.1.cell 1; have c2 := (hSw.1.2.cell (p := ⟨b, off + kk * 2 + 1, none⟩) HBB.out).trans HC2.out; have x0 := hSw.1.1.cell 0; go_simp; try with_reducible rfl)
      try simp only [Act.put, List.setIfInBounds_toArray, List.set_cons_zero, List.set_cons_succ]
      refine lex_take (i := 3) (v := ?_) rfl (by kernel_rfl) (by kernel_rfl) (by kernel_rfl) (fun _ _ _ h => h) (by rfl) ?_ (by assumption) ?_
      rotate_left
      · (intro w hSw; (try dsimp only at hSw); have x1 := hSw.1.1.cell 1; have c2 := (hSw.1.2.cell (p := ⟨b, off + kk * 2 + 1, none⟩) HBB.out).trans HC2.out; have x0 := hSw.1.1.cell 0; go_simp; try with_reducible rfl)
      try simp only [Act.put, List.setIfInBounds_toArray, List.set_cons_zero, List.set_cons_succ]
      have n1 : w.heap.size < W4.heap.size := hHeld.1.1.lt
      have n2 : T3 < W4.heap.size := hHeld.2.lt
      refine lex_step2 (i := 4) (j := 12) rfl rfl (by kernel_rfl) (by rfl) (by rfl) (fun Kx hKx => ?_) (fun Kx hKx => ?_)
      · (have hqB := hHeld.1.2; go_simp; go_at_call 14; (with_reducible refine (CPK.out _ hqB).mono ?_); rintro e w5 ⟨rfl, hb5⟩; try go_wp2_with fail)
        refine hKx.out _ _ ?_ (fun hHeld => ?_)
        · (try dsimp only); exact ⟨hHeld.1.step hb5, hHeld.2.then_ hb5⟩
        clear hKx Kx
        try simp only [Act.put, List.setIfInBounds_toArray, List.set_cons_zero, List.set_cons_succ]
        refine lex_take (i := 5) (v := ?_) rfl (by kernel_rfl) (by kernel_rfl) (by kernel_rfl) (fun _ _ _ h => h) (by rfl) ?_ (by assumption) ?_
        rotate_left
        · (intro w hSw; (try dsimp only at hSw); have x1 := hSw.1.1.cell 1; have c2 := (hSw.1.2.cell (p := ⟨b, off + kk * 2 + 1, none⟩) HBB.out).trans HC2.out; have x0 := hSw.1.1.cell 0; go_simp; try with_reducible rfl)
        try simp only [Act.put, List.setIfInBounds_toArray, List.set_cons_zero, List.set_cons_succ]
        refine lex_take (i := 6) (v := ?_) rfl (by kernel_rfl) (by kernel_rfl) (by kernel_rfl) (fun _ _ _ h => h) (by rfl) ?_ (by assumption) ?_
        rotate_left
        · (intro w hSw; (try dsimp only at hSw); have x1 := hSw.1.1.cell 1; have c2 := (hSw.1.2.cell (p := ⟨b, off + kk * 2 + 1, none⟩) HBB.out).trans HC2.out; have x0 := hSw.1.1.cell 0; go_simp; try with_reducible rfl)
        try simp only [Act.put, List.setIfInBounds_toArray, List.set_cons_zero, List.set_cons_succ]
        refine lex_take (i := 7) (v := ?_) rfl (by kernel_rfl) (by kernel_rfl) (by kernel_rfl) (fun _ _ _ h => h) (by rfl) ?_ (by assumption) ?_
        rotate_left
        · (intro w hSw; (try dsimp only at hSw); have x1 := hSw.1.1.cell 1; have c2 := (hSw.1.2.cell (p := ⟨b, off + kk * 2 + 1, none⟩) HBB.out).trans HC2.out; have x0 := hSw.1.1.cell 0; go_simp; try with_reducible rfl)
        try simp only [Act.put, List.setIfInBounds_toArray, List.set_cons_zero, List.set_cons_succ]
        have n1 : w.heap.size < w5.heap.size := hHeld.1.1.lt
        have n2 : T3 < w5.heap.size := hHeld.2.lt
        refine lex_step2 (i := 8) (j := 12) rfl rfl (by kernel_rfl) (by rfl) (by rfl) (fun Kx hKx => ?_) (fun Kx hKx => ?_)
        · (have hqB := hHeld.1.2; go_simp; go_at_call 13; (with_reducible refine (CN.out _ hqB s row HRO.out).mono ?_); rintro e w6 ⟨v, rfl, p1, q1, r1, p2, q2, r2, g, rfl, k1, k2, hcal, hmk, hb6⟩; try go_wp2_with fail)
          refine hKx.out _ _ ?_ (fun hHeld => ?_)
          · (try dsimp only); exact ⟨hHeld.1.step hb6, hHeld.2.then_ hb6⟩
          clear hKx Kx
          try simp only [Act.put, List.setIfInBounds_toArray, List.set_cons_zero, List.set_cons_succ]
          refine lex_take (i := 9) (v := ?_) rfl (by kernel_rfl) (by kernel_rfl) (by kernel_rfl) (fun _ _ _ h => h) (by rfl) ?_ (by assumption) ?_
          rotate_left
          · (intro w hSw; (try dsimp only at hSw); go_simp; try with_reducible rfl)
          try simp only [Act.put, List.setIfInBounds_toArray, List.set_cons_zero, List.set_cons_succ]
          refine lex_take (i := 10) (v := ?_) rfl (by kernel_rfl) (by kernel_rfl) (by kernel_rfl) (fun _ _ _ h => h) (by rfl) ?_ (by assumption) ?_
          rotate_left
          · (intro w hSw; (try dsimp only at hSw); go_simp; try with_reducible rfl)
          try simp only [Act.put, List.setIfInBounds_toArray, List.set_cons_zero, List.set_cons_succ]
          refine lex_take (i := 11) (v := ?_) rfl (by kernel_rfl) (by kernel_rfl) (by kernel_rfl) (fun _ _ _ h => h) (by rfl) ?_ (by assumption) ?_
          rotate_left
          · (intro w hSw; (try dsimp only at hSw); go_simp; try with_reducible rfl)
          try simp only [Act.put, List.setIfInBounds_toArray, List.set_cons_zero, List.set_cons_succ]
          have n1 : w.heap.size < w6.heap.size := hHeld.1.1.lt
          have n2 : T3 < w6.heap.size := hHeld.2.lt
          refine lex_step (i := 12) rfl (by kernel_rfl) (by rfl) (fun Kx hKx => ?_)
          go_simp
          refine hKx.out _ _ ?_ (fun hHeld => ?_)
          · (try dsimp only); exact ⟨hHeld.1.alloc _, hHeld.2.alloc _⟩
          clear hKx Kx
          try simp only [Act.put, List.setIfInBounds_toArray, List.set_cons_zero, List.set_cons_succ]
          have z4 := (At.new w6 zYo)
          obtain ⟨T5, hT5⟩ : ∃ T, T = w6.heap.size := ⟨_, rfl⟩
          rw [← hT5] at z4 n1 n2
          rw [← hT5]
          clear hT5
          replace n2 : T3 ≠ T5 := by omega
          have HCA := hcal.alloc zYo
          have HMA := hmk.then_ (below_new (Below.refl _ _) zYo)
          have z6 := z4
          clear z4
          generalize World.alloc w6 _ = Wa at z6 HCA HMA hHeld ⊢
          have y0 := z6.cell 0; have y1 := z6.cell 1; have y2 := z6.cell 2; have y3 := z6.cell 3; have y4 := z6.cell 4; have y5 := z6.cell 5; have y6 := z6.cell 6; have y7 := z6.cell 7; have y8 := z6.cell 8; simp at y0 y1 y2 y3 y4 y5 y6 y7 y8
          have fz0 := z6.frozen 0; have fz1 := z6.frozen 1; have fz2 := z6.frozen 2; have fz3 := z6.frozen 3; have fz4 := z6.frozen 4; have fz5 := z6.frozen 5; have fz6 := z6.frozen 6; have fz7 := z6.frozen 7; have fz8 := z6.frozen 8
          have hly := z6.lt
          have HO6 := one_set9 Wa T5 (.string (tkS (ruleL row).nm)) (.int .i64 (ruleL row).ep) (.int .i64 (calN row : Int)) (.slice p1 q1 r1) (.slice p2 q2 r2) (.slice (some ⟨g, 0, none⟩) (calN row) (calN row)) (.int .i64 (shortOf (msL row))) (.int .i64 (longOf (msL row))) (.int .i64 (daysTo (shortOf (msL row)) (longOf (msL row)) (lsL row) (calN row : Int)))
          refine lex_step (i := 13) rfl (by kernel_rfl) (by rfl) (fun Kx hKx => ?_)
          go_simp
          try go_wp2_with fail
          refine hKx.out _ _ ?_ (fun hHeld => ?_)
          · (try dsimp only); exact ⟨One.kept hHeld.1 HO6 n1, At.oneKept hHeld.2 HO6 n2⟩
          clear hKx Kx
          try simp only [Act.put, List.setIfInBounds_toArray, List.set_cons_zero, List.set_cons_succ]
          have YS := years_store (row := row) (c1 := r1) (c2 := r2) (List.mem_of_find?_eq_some HRO.out) z6 HCA HMA rfl
          obtain ⟨ya, yc, ym, _⟩ := YS
          clear HO6 HCA HMA hly z6 y0 fz0 y1 fz1 y2 fz2 y3 fz3 y4 fz4 y5 fz5 y6 fz6 y7 fz7 y8 fz8
          generalize World.setCell (World.setCell _ _ _) _ _ = Wb at ya yc ym hHeld ⊢
          refine lex_take (i := 14) (v := ?_) rfl (by kernel_rfl) (by kernel_rfl) (by kernel_rfl) (fun _ _ _ h => h) (by rfl) ?_ (by assumption) ?_
          rotate_left
          · (intro w hSw; (try dsimp only at hSw); go_simp; try with_reducible rfl)
          try simp only [Act.put, List.setIfInBounds_toArray, List.set_cons_zero, List.set_cons_succ]
          refine wpAnyH_done (by kernel_rfl) ?_ _
          exact hj T5 Wb p1 q1 r1 p2 q2 r2 g ⟨hHeld.1, hHeld.2, ya, yc, ym⟩
        · go_simp
          refine hKx.out _ _ ?_ (fun hHeld => ?_)
          · (try dsimp only); exact ⟨hHeld.1.alloc _, hHeld.2.alloc _⟩
          clear hKx Kx
          try simp only [Act.put, List.setIfInBounds_toArray, List.set_cons_zero, List.set_cons_succ]
          have z4 := (At.new w5 zYo)
          obtain ⟨T5, hT5⟩ : ∃ T, T = w5.heap.size := ⟨_, rfl⟩
          rw [← hT5] at z4 n1 n2
          rw [← hT5]
          clear hT5
          replace n2 : T3 ≠ T5 := by omega
          generalize World.alloc w5 _ = Wc at z4 hHeld ⊢
          refine lex_step (i := 8) rfl (by kernel_rfl) (by rfl) (fun Kx hKx => ?_)
          (have hqB := hHeld.1.2; go_simp; go_at_call 13; (with_reducible refine (CN.out _ hqB s row HRO.out).mono ?_); rintro e w6 ⟨v, rfl, p1, q1, r1, p2, q2, r2, g, rfl, k1, k2, hcal, hmk, hb6⟩; try go_wp2_with fail)
          refine hKx.out _ _ ?_ (fun hHeld => ?_)
          · (try dsimp only); exact ⟨hHeld.1.step hb6, hHeld.2.then_ hb6⟩
          clear hKx Kx
          try simp only [Act.put, List.setIfInBounds_toArray, List.set_cons_zero, List.set_cons_succ]
          refine lex_take (i := 9) (v := ?_) rfl (by kernel_rfl) (by kernel_rfl) (by kernel_rfl) (fun _ _ _ h => h) (by rfl) ?_ (by assumption) ?_
          rotate_left
          · (intro w hSw; (try dsimp only at hSw); go_simp; try with_reducible rfl)
          try simp only [Act.put, List.setIfInBounds_toArray, List.set_cons_zero, List.set_cons_succ]
          refine lex_take (i := 10) (v := ?_) rfl (by kernel_rfl) (by kernel_rfl) (by kernel_rfl) (fun _ _ _ h => h) (by rfl) ?_ (by assumption) ?_
          rotate_left
          · (intro w hSw; (try dsimp only at hSw); go_simp; try with_reducible rfl)
          try simp only [Act.put, List.setIfInBounds_toArray, List.set_cons_zero, List.set_cons_succ]
          refine lex_take (i := 11) (v := ?_) rfl (by kernel_rfl) (by kernel_rfl) (by kernel_rfl) (fun _ _ _ h => h) (by rfl) ?_ (by assumption) ?_
          rotate_left
          · (intro w hSw; (try dsimp only at hSw); go_simp; try with_reducible rfl)
          try simp only [Act.put, List.setIfInBounds_toArray, List.set_cons_zero, List.set_cons_succ]
          have z6 := z4.then_ hb6
          clear z4
          have HCA := hcal; have HMA := hmk
          clear hcal hmk hb6
          generalize w6 = Wa at z6 HCA HMA hHeld ⊢
          have y0 := z6.cell 0; have y1 := z6.cell 1; have y2 := z6.cell 2; have y3 := z6.cell 3; have y4 := z6.cell 4; have y5 := z6.cell 5; have y6 := z6.cell 6; have y7 := z6.cell 7; have y8 := z6.cell 8; simp at y0 y1 y2 y3 y4 y5 y6 y7 y8
          have fz0 := z6.frozen 0; have fz1 := z6.frozen 1; have fz2 := z6.frozen 2; have fz3 := z6.frozen 3; have fz4 := z6.frozen 4; have fz5 := z6.frozen 5; have fz6 := z6.frozen 6; have fz7 := z6.frozen 7; have fz8 := z6.frozen 8
          have hly := z6.lt
          have HO6 := one_set9 Wa T5 (.string (tkS (ruleL row).nm)) (.int .i64 (ruleL row).ep) (.int .i64 (calN row : Int)) (.slice p1 q1 r1) (.slice p2 q2 r2) (.slice (some ⟨g, 0, none⟩) (calN row) (calN row)) (.int .i64 (shortOf (msL row))) (.int .i64 (longOf (msL row))) (.int .i64 (daysTo (shortOf (msL row)) (longOf (msL row)) (lsL row) (calN row : Int)))
          refine lex_step (i := 13) rfl (by kernel_rfl) (by rfl) (fun Kx hKx => ?_)
          go_simp
          try go_wp2_with fail
          refine hKx.out _ _ ?_ (fun hHeld => ?_)
          · (try dsimp only); exact ⟨One.kept hHeld.1 HO6 n1, At.oneKept hHeld.2 HO6 n2⟩
          clear hKx Kx
          try simp only [Act.put, List.setIfInBounds_toArray, List.set_cons_zero, List.set_cons_succ]
          have YS := years_store (row := row) (c1 := r1) (c2 := r2) (List.mem_of_find?_eq_some HRO.out) z6 HCA HMA rfl
          obtain ⟨ya, yc, ym, _⟩ := YS
          clear HO6 HCA HMA hly z6 y0 fz0 y1 fz1 y2 fz2 y3 fz3 y4 fz4 y5 fz5 y6 fz6 y7 fz7 y8 fz8
          generalize World.setCell (World.setCell _ _ _) _ _ = Wb at ya yc ym hHeld ⊢
          refine lex_take (i := 14) (v := ?_) rfl (by kernel_rfl) (by kernel_rfl) (by kernel_rfl) (fun _ _ _ h => h) (by rfl) ?_ (by assumption) ?_
          rotate_left
          · (intro w hSw; (try dsimp only at hSw); go_simp; try with_reducible rfl)
          try simp only [Act.put, List.setIfInBounds_toArray, List.set_cons_zero, List.set_cons_succ]
          refine wpAnyH_done (by kernel_rfl) ?_ _
          exact hj T5 Wb p1 q1 r1 p2 q2 r2 g ⟨hHeld.1, hHeld.2, ya, yc, ym⟩
      · go_simp
        refine hKx.out _ _ ?_ (fun hHeld => ?_)
        · (try dsimp only); exact ⟨hHeld.1.alloc _, hHeld.2.alloc _⟩
        clear hKx Kx
        try simp only [Act.put, List.setIfInBounds_toArray, List.set_cons_zero, List.set_cons_succ]
        have z4 := (At.new W4 zYo).drew
        obtain ⟨T5, hT5⟩ : ∃ T, T = W4.heap.size := ⟨_, rfl⟩
        rw [← hT5] at z4 n1 n2
        rw [← hT5]
        clear hT5
        replace n2 : T3 ≠ T5 := by omega
        generalize World.drew (World.alloc W4 _) = Wc at z4 hHeld ⊢
        refine lex_step (i := 4) rfl (by kernel_rfl) (by rfl) (fun Kx hKx => ?_)
        (have hqB := hHeld.1.2; go_simp; go_at_call 14; (with_reducible refine (CPK.out _ hqB).mono ?_); rintro e w5 ⟨rfl, hb5⟩; try go_wp2_with fail)
        refine hKx.out _ _ ?_ (fun hHeld => ?_)
        · (try dsimp only); exact ⟨hHeld.1.step hb5, hHeld.2.then_ hb5⟩
        clear hKx Kx
        try simp only [Act.put, List.setIfInBounds_toArray, List.set_cons_zero, List.set_cons_succ]
        refine lex_take (i := 5) (v := ?_) rfl (by kernel_rfl) (by kernel_rfl) (by kernel_rfl) (fun _ _ _ h => h) (by rfl) ?_ (by assumption) ?_
        rotate_left
        · (intro w hSw; (try dsimp only at hSw); have x1 := hSw.1.1.cell 1; have c2 := (hSw.1.2.cell (p := ⟨b, off + kk * 2 + 1, none⟩) HBB.out).trans HC2.out; have x0 := hSw.1.1.cell 0; go_simp; try with_reducible rfl)
        try simp only [Act.put, List.setIfInBounds_toArray, List.set_cons_zero, List.set_cons_succ]
        refine lex_take (i := 6) (v := ?_) rfl (by kernel_rfl) (by kernel_rfl) (by kernel_rfl) (fun _ _ _ h => h) (by rfl) ?_ (by assumption) ?_
        rotate_left
        · (intro w hSw; (try dsimp only at hSw); have x1 := hSw.1.1.cell 1; have c2 := (hSw.1.2.cell (p := ⟨b, off + kk * 2 + 1, none⟩) HBB.out).trans HC2.out; have x0 := hSw.1.1.cell 0; go_simp; try with_reducible rfl)
        try simp only [Act.put, List.setIfInBounds_toArray, List.set_cons_zero, List.set_cons_succ]
        refine lex_take (i := 7) (v := ?_) rfl (by kernel_rfl) (by kernel_rfl) (by kernel_rfl) (fun _ _ _ h => h) (by rfl) ?_ (by assumption) ?_
        rotate_left
        · (intro w hSw; (try dsimp only at hSw); have x1 := hSw.1.1.cell 1; have c2 := (hSw.1.2.cell (p := ⟨b, off + kk * 2 + 1, none⟩) HBB.out).trans HC2.out; have x0 := hSw.1.1.cell 0; go_simp; try with_reducible rfl)
        try simp only [Act.put, List.setIfInBounds_toArray, List.set_cons_zero, List.set_cons_succ]
        have z4 := z4.then_ hb5
        generalize w5 = Wd at z4 hHeld ⊢
        refine lex_step (i := 8) rfl (by kernel_rfl) (by rfl) (fun Kx hKx => ?_)
        (have hqB := hHeld.1.2; go_simp; go_at_call 13; (with_reducible refine (CN.out _ hqB s row HRO.out).mono ?_); rintro e w6 ⟨v, rfl, p1, q1, r1, p2, q2, r2, g, rfl, k1, k2, hcal, hmk, hb6⟩; try go_wp2_with fail)
        refine hKx.out _ _ ?_ (fun hHeld => ?_)
        · (try dsimp only); exact ⟨hHeld.1.step hb6, hHeld.2.then_ hb6⟩
        clear hKx Kx
        try simp only [Act.put, List.setIfInBounds_toArray, List.set_cons_zero, List.set_cons_succ]
        refine lex_take (i := 9) (v := ?_) rfl (by kernel_rfl) (by kernel_rfl) (by kernel_rfl) (fun _ _ _ h => h) (by rfl) ?_ (by assumption) ?_
        rotate_left
        · (intro w hSw; (try dsimp only at hSw); go_simp; try with_reducible rfl)
        try simp only [Act.put, List.setIfInBounds_toArray, List.set_cons_zero, List.set_cons_succ]
        refine lex_take (i := 10) (v := ?_) rfl (by kernel_rfl) (by kernel_rfl) (by kernel_rfl) (fun _ _ _ h => h) (by rfl) ?_ (by assumption) ?_
        rotate_left
        · (intro w hSw; (try dsimp only at hSw); go_simp; try with_reducible rfl)
        try simp only [Act.put, List.setIfInBounds_toArray, List.set_cons_zero, List.set_cons_succ]
        refine lex_take (i := 11) (v := ?_) rfl (by kernel_rfl) (by kernel_rfl) (by kernel_rfl) (fun _ _ _ h => h) (by rfl) ?_ (by assumption) ?_
        rotate_left
        · (intro w hSw; (try dsimp only at hSw); go_simp; try with_reducible rfl)
        try simp only [Act.put, List.setIfInBounds_toArray, List.set_cons_zero, List.set_cons_succ]
        have z6 := z4.then_ hb6
        clear z4
        have HCA := hcal; have HMA := hmk
        clear hcal hmk hb6
        generalize w6 = Wa at z6 HCA HMA hHeld ⊢
        have y0 := z6.cell 0; have y1 := z6.cell 1; have y2 := z6.cell 2; have y3 := z6.cell 3; have y4 := z6.cell 4; have y5 := z6.cell 5; have y6 := z6.cell 6; have y7 := z6.cell 7; have y8 := z6.cell 8; simp at y0 y1 y2 y3 y4 y5 y6 y7 y8
        have fz0 := z6.frozen 0; have fz1 := z6.frozen 1; have fz2 := z6.frozen 2; have fz3 := z6.frozen 3; have fz4 := z6.frozen 4; have fz5 := z6.frozen 5; have fz6 := z6.frozen 6; have fz7 := z6.frozen 7; have fz8 := z6.frozen 8
        have hly := z6.lt
        have HO6 := one_set9 Wa T5 (.string (tkS (ruleL row).nm)) (.int .i64 (ruleL row).ep) (.int .i64 (calN row : Int)) (.slice p1 q1 r1) (.slice p2 q2 r2) (.slice (some ⟨g, 0, none⟩) (calN row) (calN row)) (.int .i64 (shortOf (msL row))) (.int .i64 (longOf (msL row))) (.int .i64 (daysTo (shortOf (msL row)) (longOf (msL row)) (lsL row) (calN row : Int)))
        refine lex_step (i := 13) rfl (by kernel_rfl) (by rfl) (fun Kx hKx => ?_)
        go_simp
        try go_wp2_with fail
        refine hKx.out _ _ ?_ (fun hHeld => ?_)
        · (try dsimp only); exact ⟨One.kept hHeld.1 HO6 n1, At.oneKept hHeld.2 HO6 n2⟩
        clear hKx Kx
        try simp only [Act.put, List.setIfInBounds_toArray, List.set_cons_zero, List.set_cons_succ]
        have YS := years_store (row := row) (c1 := r1) (c2 := r2) (List.mem_of_find?_eq_some HRO.out) z6 HCA HMA rfl
        obtain ⟨ya, yc, ym, _⟩ := YS
        clear HO6 HCA HMA hly z6 y0 fz0 y1 fz1 y2 fz2 y3 fz3 y4 fz4 y5 fz5 y6 fz6 y7 fz7 y8 fz8
        generalize World.setCell (World.setCell _ _ _) _ _ = Wb at ya yc ym hHeld ⊢
        refine lex_take (i := 14) (v := ?_) rfl (by kernel_rfl) (by kernel_rfl) (by kernel_rfl) (fun _ _ _ h => h) (by rfl) ?_ (by assumption) ?_
        rotate_left
        · (intro w hSw; (try dsimp only at hSw); go_simp; try with_reducible rfl)
        try simp only [Act.put, List.setIfInBounds_toArray, List.set_cons_zero, List.set_cons_succ]
        refine wpAnyH_done (by kernel_rfl) ?_ _
        exact hj T5 Wb p1 q1 r1 p2 q2 r2 g ⟨hHeld.1, hHeld.2, ya, yc, ym⟩
    · intro T W p1 q1 r1 p2 q2 r2 g ⟨hO, hD, hY, hC, hM⟩
      have HO := Lib.hid hO; have HD := Lib.hid hD; have HY := Lib.hid hY
      have x0 := hY.cell 0; have x1 := hY.cell 1; have x2 := hY.cell 2; have x3 := hY.cell 3; have x4 := hY.cell 4; have x5 := hY.cell 5; have x6 := hY.cell 6; have x7 := hY.cell 7; have x8 := hY.cell 8; simp at x0 x1 x2 x3 x4 x5 x6 x7 x8
      have hl := hY.lt
      clear hO hD hY
      go_wp2_with fail
      clear x0 x1 x2 x3 x4 x5 x6 x7 x8 hl
      refine (HFY.out W g p1 p2 q1 r1 q2 r2 hM hC).mono ?_
      rintro e w7 ⟨rfl, hb⟩
      have o7 := At.new w7 (dateO da db dd)
      have D7 := Lib.hid ((HD.out.then_ hb).alloc (dateO da db dd))
      have O7 := Lib.hid ((HO.out.step hb).alloc (dateO da db dd))
      obtain ⟨T7, hT⟩ : ∃ T, T = w7.heap.size := ⟨_, rfl⟩
      rw [← hT] at o7
      clear hb HO HD hM hC
      go_upto_region 12 with fail
      rw [← hT]
      generalize World.alloc w7 _ = W7 at o7 D7 O7 ⊢
      clear hT
      have d7 := D7.out
      have x0 := o7.cell 0; have x1 := o7.cell 1; have x2 := o7.cell 2; simp at x0 x1 x2
      have z0 := d7.cell 0; have z1 := d7.cell 1; have z2 := d7.cell 2; simp at z0 z1 z2
      have hl := o7.lt; have hl2 := d7.lt
      clear o7 d7
      go_wp2_with fail
      go_ret
      exact ⟨ret_bool (by simp), O7.out.2⟩
theorem walk {H : Type} {enc : TypeId × Value → H} {v0 v1 : Value} {d0 d1 : DataW H} {p0 p1 : List MemPlace} {base : Nat} (W : World)
    (o0 : Value.okWide Tryz.prog W .any base 24 v0) (h0 : DataW.Trod enc Tryz.prog W 0 (fun _ => true) true 24 v0 d0 p0)
    (o1 : Value.okWide Tryz.prog W .any base 3 v1) (h1 : DataW.Trod enc Tryz.prog W 0 (fun _ => true) true 3 v1 d1 p1)
    (hL : laidMet Tryz.prog Rows.reformDatesRow.laid W) (hsh : W.ShapedOpen Tryz.prog) :
    Calls Tryz.prog 3 #[v0, v1] W fun e w' => e = .returned (.bool true) ∧ Below W.heap.size W w' := by
  obtain ⟨s, a, n, c, xs, rfl, hs, hc, _, hP⟩ := open_Reform o0 h0
  obtain ⟨x, rfl, rfl, rfl, wx⟩ := open_int Tryz.underlying3 o1 h1
  obtain ⟨mx, hmx⟩ : ∃ m : Int, W.cell? ⟨0, 0, none⟩ = some (.int .i64 m) := Tryz.laysLaysMn146.s1_3 W hsh
  exact core W mx hmx (cat_lvl rfl hL.tail.tail.tail.tail.tail.tail) (cat_sgn rfl hL.tail.tail.tail.tail.tail.tail.tail) s a n c xs hs hc hP x
end Go.Proofs.YtlpbaljoanfogaaGreatDoor.reformDatesLaw
