import Derived.Test.YtlpbaljoanfogaaGreatDoorEraC
import Derived.Test.YtlpbaljoanfogaaGreatDoorMg4
import Derived.Deep.Cut
import Derived.Deep.CutRange
import Derived.BigQuiet
set_option linter.unusedSimpArgs false
namespace Go.Proofs.YtlpbaljoanfogaaGreatDoor
set_option linter.unusedVariables false
set_option maxRecDepth 100000
open Go.RowKit Go.ChangeShapes Go.WideShapes Go.Shelf
def sayV (s : ByteArray) (n e : Int) : Value := .tuple #[.string s, .int .i64 n, .int .i64 e]
set_option maxHeartbeats 4000000 in
theorem era_Say_bad (w : World) (mx : Int) (hmx : w.cell? ⟨0, 0, none⟩ = some (.int .i64 mx)) (hlv : Lvl w) (hsg : Sgn w) (a : Option Addr) (n c : Nat) (xs : List (ByteArray × Int)) (h : Reigns w w.heap.size a n xs) (nl : List UInt8) (mode x E : Int)
    (hE : (eraErr xs nl mode = E ∧ E ≠ 0) ∨ (eraErr xs nl mode = 0 ∧ inB (-4000000) 4000000 x = false ∧ E = 3) ∨ (eraErr xs nl mode = 0 ∧ inB (-4000000) 4000000 x = true ∧ PickE xs x n (-1) ∧ E = 6)) :
    Calls Tryz.prog 22 #[.slice a n c, .string ⟨nl.toArray⟩, .int .i64 mode, .int .i64 x] w fun e w' => e = .returned (sayV ⟨#[]⟩ 0 E) ∧ Below w.heap.size w w' := by
  unfold sayV
  rcases hE with ⟨he, hne⟩ | ⟨he, hx, rfl⟩ | ⟨he, hx, hp, rfl⟩
  · have CO := Lib.hid (era_open_bad w mx hmx hlv hsg a n c xs h nl mode E he hne)
    have hne' : (E != 0) = true := by simpa using hne
    clear h hmx hlv hsg he hne
    go_enter Tryz.func22, Tryz.ntmps22
    go_wp2_with fail
    refine CO.out.mono ?_
    rintro e w1 ⟨rfl, hb⟩
    have B1 := Lib.hid (below_new hb zCalO)
    clear hb
    go_upto_region 2 with fail
    generalize World.alloc w1 _ = W1 at B1 ⊢
    go_wp2_with fail
    go_ret3
    exact ⟨rfl, B1.out⟩
  · obtain ⟨_, ⟨row, hro⟩, _⟩ := eraErr_zero he
    have CO := Lib.hid (era_open_ok w mx hmx hlv hsg a n c xs h nl mode he row hro)
    clear h hmx hlv hsg he hro
    go_enter Tryz.func22, Tryz.ntmps22
    go_wp2_with fail
    refine CO.out.mono ?_
    rintro e w1 ⟨v, rfl, p1, q1, r1, p2, q2, r2, rfl, k1, k2, hcal, hb⟩
    have B1 := Lib.hid (below_new hb (calAO row p1 p2 q1 r1 q2 r2))
    clear hb hcal k1 k2
    go_upto_region 2 with fail
    generalize World.alloc w1 _ = W1 at B1 ⊢
    go_wp2_with (go_at_call 32; refine (line_Is _ _).mono ?_; rw [hx]; rintro e w2 ⟨rfl, rfl⟩)
    go_ret3
    exact ⟨rfl, B1.out⟩
  · obtain ⟨_, ⟨row, hro⟩, _⟩ := eraErr_zero he
    have CO := Lib.hid (era_open_ok w mx hmx hlv hsg a n c xs h nl mode he row hro)
    have H := Lib.hid h; have HP := Lib.hid hp; have L1 := Lib.hid h.1; have m1 := h.2.1
    clear h hmx hlv hsg he hro hp
    go_enter Tryz.func22, Tryz.ntmps22
    go_wp2_with fail
    refine CO.out.mono ?_
    rintro e w1 ⟨v, rfl, p1, q1, r1, p2, q2, r2, rfl, k1, k2, hcal, hb⟩
    have B1 := Lib.hid (below_new hb (calAO row p1 p2 q1 r1 q2 r2))
    clear hb hcal k1 k2
    go_upto_region 2 with fail
    generalize World.alloc w1 _ = W1 at B1 ⊢
    go_wp2_with (go_at_call 32; refine (line_Is _ _).mono ?_; rw [hx]; rintro e w2 ⟨rfl, rfl⟩)
    go_loopw [13, 14, 15, 33] (fun kv _ _ i wr => ∃ (k : Int) (j : Nat), kv = .int .i64 k ∧ i = .int .i64 j ∧ j ≤ n ∧ PickE xs x j k ∧ Below w.heap.size w wr) (fun _ _ _ i _ => n - (intOf i).toNat)
    case atStart => exact ⟨-1, 0, rfl, rfl, by omega, .zero xs x, B1.out⟩
    case round =>
      obtain ⟨k, j, rfl, rfl, hj, hpk, hB⟩ := hrel
      have HPK := Lib.hid hpk; have HB := Lib.hid hB
      clear hpk B1
      have hzs := hB.size
      by_cases hlt : j < n
      · obtain ⟨b, off, rfl, hbB, hcs⟩ := (H.out.below hB (Nat.le_refl _)).open_ (by omega)
        obtain ⟨s, f, hc1, hc2, hx', hs, f1, f2⟩ := hcs j hlt
        have HX := Lib.hid hx'
        have hbz : b < wr.heap.size := by omega
        clear hx' hcs hB
        by_cases hle : f ≤ x
        · have hde : decide (f ≤ x) = true := by simpa using hle
          go_wp2_with fail
          go_roundw
          case rel => exact ⟨j, j + 1, rfl, by go_num, by omega, HPK.out.take HX.out hle, below_new HB.out _⟩
          case measure => simp [intOf]; omega
        · have hde : decide (f ≤ x) = false := by simpa using hle
          go_wp2_with fail
          go_roundw
          case rel => exact ⟨k, j + 1, rfl, by go_num, by omega, HPK.out.skip HX.out hle, below_new HB.out _⟩
          case measure => simp [intOf]; omega
      · obtain rfl : j = n := by omega
        obtain rfl : k = -1 := PickE.unique (by rw [L1.out]; exact HPK.out) (by rw [L1.out]; exact HP.out)
        clear hB
        go_wp2_with fail
        go_ret3
        exact ⟨rfl, HB.out⟩
def sayOut (s : ByteArray) (mode y ee y' ee' : Int) : Value := if ee ≠ 0 then sayV ⟨#[]⟩ 0 ee else if ee' ≠ 0 then sayV ⟨#[]⟩ 0 ee' else sayV s (y - y' + moreE mode) 0
set_option maxHeartbeats 4000000 in
theorem era_Say_ok (w : World) (mx : Int) (hmx : w.cell? ⟨0, 0, none⟩ = some (.int .i64 mx)) (hlv : Lvl w) (hsg : Sgn w) (a : Option Addr) (n c : Nat) (xs : List (ByteArray × Int)) (h : Reigns w w.heap.size a n xs) (nl : List UInt8) (mode x : Int)
    (he : eraErr xs nl mode = 0) (hx : inB (-4000000) 4000000 x = true) (kk : Nat) (hp : PickE xs x n (kk : Int)) (s : ByteArray) (f : Int) (hkx : xs[kk]? = some (s, f)) (row : List UInt8) (hro : rowOf nl = some row)
    (y m d ee y' m' d' ee' : Int) (hf : FromC row x y m d ee) (hf' : FromC row f y' m' d' ee') (hy : ee = 0 → -10000 ≤ y ∧ y ≤ 10000) (hy' : ee' = 0 → -10000 ≤ y' ∧ y' ≤ 10000) :
    Calls Tryz.prog 22 #[.slice a n c, .string ⟨nl.toArray⟩, .int .i64 mode, .int .i64 x] w fun e w' => e = .returned (sayOut s mode y ee y' ee') ∧ Below w.heap.size w w' := by
  obtain ⟨OUT, hOUT⟩ : ∃ q, q = sayOut s mode y ee y' ee' := ⟨_, rfl⟩
  rw [← hOUT]
  have HOUT := Lib.hid hOUT
  clear hOUT
  obtain ⟨_, _, hmode⟩ := eraErr_zero he
  have CO := Lib.hid (era_open_ok w mx hmx hlv hsg a n c xs h nl mode he row hro)
  have CM := Lib.hid (fun W => era_more mode W hmode)
  have H := Lib.hid h; have HP := Lib.hid hp; have L1 := Lib.hid h.1; have m1 := h.2.1
  have HF := Lib.hid hf; have HF' := Lib.hid hf'; have HY := Lib.hid hy; have HY' := Lib.hid hy'; have HKX := Lib.hid hkx
  have hkn : kk < n := by rw [← L1.out]; exact (List.getElem?_eq_some_iff.1 hkx).1
  obtain ⟨b, off, rfl, hbB, hcs0⟩ := h.open_ (by omega)
  have CS0 := Lib.hid hcs0
  clear h hmx hlv hsg he hro hp hf hf' hy hy' hkx hcs0 hmode
  go_enter Tryz.func22, Tryz.ntmps22
  go_wp2_with fail
  refine CO.out.mono ?_
  rintro e w1 ⟨v, rfl, p1, q1, r1, p2, q2, r2, rfl, k1, k2, hcal, hb⟩
  have A1 := Lib.hid (At.new w1 (calAO row p1 p2 q1 r1 q2 r2))
  have HC1 := Lib.hid (hcal.alloc (calAO row p1 p2 q1 r1 q2 r2))
  have B1 := Lib.hid (below_new hb (calAO row p1 p2 q1 r1 q2 r2))
  have K1 := Lib.hid k1
  obtain ⟨T, hT⟩ : ∃ T, T = w1.heap.size := ⟨_, rfl⟩
  rw [← hT] at A1
  have HT := Lib.hid (show w.heap.size ≤ T from by rw [hT]; exact hb.size)
  clear hb hcal k1 k2 CO
  go_upto_region 2 with fail
  rw [← hT]
  generalize World.alloc w1 _ = W1 at A1 HC1 B1 ⊢
  clear hT
  go_wp2_with (go_at_call 32; refine (line_Is _ _).mono ?_; rw [hx]; rintro e w2 ⟨rfl, rfl⟩)
  go_loopw [13, 14, 15, 33] (fun kv _ _ i wr => ∃ (k : Int) (j : Nat), kv = .int .i64 k ∧ i = .int .i64 j ∧ j ≤ n ∧ PickE xs x j k ∧ At wr T (calAO row p1 p2 q1 r1 q2 r2) ∧ CalAt wr p1 p2 q1 q2 (msL row) (lsL row) ∧ Below w.heap.size w wr) (fun _ _ _ i _ => n - (intOf i).toNat)
  case atStart => exact ⟨-1, 0, rfl, rfl, by omega, .zero xs x, A1.out, HC1.out, B1.out⟩
  case round =>
    obtain ⟨k, j, rfl, rfl, hj, hpk, hA, hC, hB⟩ := hrel
    have HPK := Lib.hid hpk; have HB := Lib.hid hB; have HA := Lib.hid hA; have HC := Lib.hid hC
    clear hpk B1 A1 HC1 hC
    have hzs := hB.size
    have hbz : b < wr.heap.size := by omega
    by_cases hlt : j < n
    · obtain ⟨s', f', hc1, hc2, hx', hs, f1, f2⟩ := CS0.out j hlt
      have c1 := (hB.cell (p := ⟨b, off + j * 2, none⟩) hbB).trans hc1
      have c2 := (hB.cell (p := ⟨b, off + j * 2 + 1, none⟩) hbB).trans hc2
      have HX := Lib.hid hx'
      clear hx' hB hc1 hc2 hA
      by_cases hle : f' ≤ x
      · have hde : decide (f' ≤ x) = true := by simpa using hle
        go_wp2_with fail
        go_roundw
        case rel => exact ⟨j, j + 1, rfl, by go_num, by omega, HPK.out.take HX.out hle, HA.out.alloc _, HC.out.alloc _, below_new HB.out _⟩
        case measure => simp [intOf]; omega
      · have hde : decide (f' ≤ x) = false := by simpa using hle
        go_wp2_with fail
        go_roundw
        case rel => exact ⟨k, j + 1, rfl, by go_num, by omega, HPK.out.skip HX.out hle, HA.out.alloc _, HC.out.alloc _, below_new HB.out _⟩
        case measure => simp [intOf]; omega
    · obtain rfl : j = n := by omega
      obtain rfl : k = (kk : Int) := PickE.unique (by rw [L1.out]; exact HPK.out) (by rw [L1.out]; exact HP.out)
      obtain ⟨s', f', hc1, hc2, hx', hs, f1, f2⟩ := CS0.out kk hkn
      rw [HKX.out] at hx'
      cases hx'
      have HB1 := Lib.hid hc1; have HB2 := Lib.hid hc2; have HbB := Lib.hid hbB
      have hki : (kk : Int) < (j : Int) := by omega
      have hk0 : (0 : Int) ≤ (kk : Int) := by omega
      have hkl : decide ((kk : Int) < 0) = false := by simp
      have x0 := hA.cell 0; have x1 := hA.cell 1; have x2 := hA.cell 2; have x3 := hA.cell 3; have x4 := hA.cell 4; simp at x0 x1 x2 x3 x4
      have hl := hA.lt
      clear hB hA hc1 hc2 HPK HP CS0 HKX
      go_wp2_with fail
      refine (HF.out wr p1 p2 q1 r1 q2 r2 K1.out HC.out).mono ?_
      rintro e w4 ⟨rfl, hb⟩
      have o4 := At.new w4 (dateO y m d)
      have A4 := Lib.hid ((HA.out.then_ hb).alloc (dateO y m d))
      have C4 := Lib.hid ((HC.out.then_ hb).alloc (dateO y m d))
      have B4 := Lib.hid (below_new (below_then HB.out hb) (dateO y m d))
      obtain ⟨T4, hT⟩ : ∃ T, T = w4.heap.size := ⟨_, rfl⟩
      rw [← hT] at o4
      clear hb HA HC HB x0 x1 x2 x3 x4 hl hzs hbz
      go_upto_region 16 with fail
      rw [← hT]
      generalize World.alloc w4 _ = W4 at o4 A4 C4 B4 ⊢
      clear hT
      by_cases h1 : ee = 0
      case neg =>
        have hne : (ee != 0) = true := by simpa using h1
        have hout := Lib.hid (show OUT = sayV ⟨#[]⟩ 0 ee from by rw [HOUT.out, sayOut, if_pos h1])
        clear h1
        go_wp2_with fail
        go_ret3
        exact ⟨by rw [hout.out]; rfl, B4.out⟩
      subst h1
      have O4 := Lib.hid o4
      clear o4
      go_upto_region 18 with fail
      go_cut [17, 12] from 55 (fun t17 t12 wx => ∃ T5, t17 = .pointer (some ⟨T5, 0, none⟩) ∧ t12 = .int .i64 ee' ∧ At wx T5 (dateO y' m' d') ∧ At wx T4 (dateO y m d) ∧ Below w.heap.size w wx)
      case first =>
        have O1x := Lib.hid A4.out
        have CF2 := Lib.hid (fun (W : World) (hC : CalAt W p1 p2 q1 q2 (msL row) (lsL row)) => HF'.out W p1 p2 q1 r1 q2 r2 K1.out hC)
        refine wp_region_held_drew (S := fun wx => At wx T (calAO row p1 p2 q1 r1 q2 r2) ∧ At wx T4 (dateO y m d) ∧ Below w.heap.size w wx) (by kernel_rfl) ?_ (fun hHeld => ?_)
        · (try dsimp only); exact ⟨A4.out.drew, O4.out.drew, B4.out.drew⟩
        refine lex_take (i := 0) (v := ?_) rfl (by kernel_rfl) (by kernel_rfl) (by kernel_rfl) (fun _ _ _ h => h) (by rfl) ?_ (by assumption) ?_
        rotate_left
        · (intro w hSw; (try dsimp only at hSw); have x0 := hSw.1.cell 0; have x1 := hSw.1.cell 1; have x2 := hSw.1.cell 2; have x3 := hSw.1.cell 3; have x4 := hSw.1.cell 4; have c2 := (hSw.2.2.cell (p := ⟨b, off + kk * 2 + 1, none⟩) HbB.out).trans HB2.out; go_simp; try with_reducible rfl)
        try simp only [Act.put, List.setIfInBounds_toArray, List.set_cons_zero, List.set_cons_succ]
        refine lex_take (i := 1) (v := ?_) rfl (by kernel_rfl) (by kernel_rfl) (by kernel_rfl) (fun _ _ _ h => h) (by rfl) ?_ (by assumption) ?_
        rotate_left
        · (intro w hSw; (try dsimp only at hSw); have x0 := hSw.1.cell 0; have x1 := hSw.1.cell 1; have x2 := hSw.1.cell 2; have x3 := hSw.1.cell 3; have x4 := hSw.1.cell 4; have c2 := (hSw.2.2.cell (p := ⟨b, off + kk * 2 + 1, none⟩) HbB.out).trans HB2.out; go_simp; try with_reducible rfl)
        try simp only [Act.put, List.setIfInBounds_toArray, List.set_cons_zero, List.set_cons_succ]
        refine lex_take (i := 2) (v := ?_) rfl (by kernel_rfl) (by kernel_rfl) (by kernel_rfl) (fun _ _ _ h => h) (by rfl) ?_ (by assumption) ?_
        rotate_left
        · (intro w hSw; (try dsimp only at hSw); have x0 := hSw.1.cell 0; have x1 := hSw.1.cell 1; have x2 := hSw.1.cell 2; have x3 := hSw.1.cell 3; have x4 := hSw.1.cell 4; have c2 := (hSw.2.2.cell (p := ⟨b, off + kk * 2 + 1, none⟩) HbB.out).trans HB2.out; go_simp; try with_reducible rfl)
        try simp only [Act.put, List.setIfInBounds_toArray, List.set_cons_zero, List.set_cons_succ]
        refine lex_take (i := 3) (v := ?_) rfl (by kernel_rfl) (by kernel_rfl) (by kernel_rfl) (fun _ _ _ h => h) (by rfl) ?_ (by assumption) ?_
        rotate_left
        · (intro w hSw; (try dsimp only at hSw); have x0 := hSw.1.cell 0; have x1 := hSw.1.cell 1; have x2 := hSw.1.cell 2; have x3 := hSw.1.cell 3; have x4 := hSw.1.cell 4; have c2 := (hSw.2.2.cell (p := ⟨b, off + kk * 2 + 1, none⟩) HbB.out).trans HB2.out; go_simp; try with_reducible rfl)
        try simp only [Act.put, List.setIfInBounds_toArray, List.set_cons_zero, List.set_cons_succ]
        refine lex_take (i := 4) (v := ?_) rfl (by kernel_rfl) (by kernel_rfl) (by kernel_rfl) (fun _ _ _ h => h) (by rfl) ?_ (by assumption) ?_
        rotate_left
        · (intro w hSw; (try dsimp only at hSw); have x0 := hSw.1.cell 0; have x1 := hSw.1.cell 1; have x2 := hSw.1.cell 2; have x3 := hSw.1.cell 3; have x4 := hSw.1.cell 4; have c2 := (hSw.2.2.cell (p := ⟨b, off + kk * 2 + 1, none⟩) HbB.out).trans HB2.out; go_simp; try with_reducible rfl)
        try simp only [Act.put, List.setIfInBounds_toArray, List.set_cons_zero, List.set_cons_succ]
        refine lex_take (i := 5) (v := ?_) rfl (by kernel_rfl) (by kernel_rfl) (by kernel_rfl) (fun _ _ _ h => h) (by rfl) ?_ (by assumption) ?_
        rotate_left
        · (intro w hSw; (try dsimp only at hSw); have x0 := hSw.1.cell 0; have x1 := hSw.1.cell 1; have x2 := hSw.1.cell 2; have x3 := hSw.1.cell 3; have x4 := hSw.1.cell 4; have c2 := (hSw.2.2.cell (p := ⟨b, off + kk * 2 + 1, none⟩) HbB.out).trans HB2.out; go_simp; try with_reducible rfl)
        try simp only [Act.put, List.setIfInBounds_toArray, List.set_cons_zero, List.set_cons_succ]
        refine lex_step2 (i := 6) (j := 10) rfl rfl (by kernel_rfl) (by rfl) (by rfl) (fun Kx hKx => ?_) (fun Kx hKx => ?_)
        · (have hqC := C4.out.then_ (Below.refl _ _).drew; go_simp; go_at_call 29; (with_reducible refine (CF2.out _ hqC).mono ?_); rintro e w5 ⟨rfl, hb5⟩; try go_wp2_with fail)
          refine hKx.out _ _ ?_ (fun hHeld => ?_)
          · (try dsimp only); exact ⟨hHeld.1.then_ hb5, hHeld.2.1.then_ hb5, below_then hHeld.2.2 hb5⟩
          clear hKx Kx
          try simp only [Act.put, List.setIfInBounds_toArray, List.set_cons_zero, List.set_cons_succ]
          refine lex_take (i := 7) (v := ?_) rfl (by kernel_rfl) (by kernel_rfl) (by kernel_rfl) (fun _ _ _ h => h) (by rfl) ?_ (by assumption) ?_
          rotate_left
          · (intro w hSw; (try dsimp only at hSw); go_simp; try with_reducible rfl)
          try simp only [Act.put, List.setIfInBounds_toArray, List.set_cons_zero, List.set_cons_succ]
          refine lex_take (i := 8) (v := ?_) rfl (by kernel_rfl) (by kernel_rfl) (by kernel_rfl) (fun _ _ _ h => h) (by rfl) ?_ (by assumption) ?_
          rotate_left
          · (intro w hSw; (try dsimp only at hSw); go_simp; try with_reducible rfl)
          try simp only [Act.put, List.setIfInBounds_toArray, List.set_cons_zero, List.set_cons_succ]
          refine lex_take (i := 9) (v := ?_) rfl (by kernel_rfl) (by kernel_rfl) (by kernel_rfl) (fun _ _ _ h => h) (by rfl) ?_ (by assumption) ?_
          rotate_left
          · (intro w hSw; (try dsimp only at hSw); go_simp; try with_reducible rfl)
          try simp only [Act.put, List.setIfInBounds_toArray, List.set_cons_zero, List.set_cons_succ]
          have n1 := hHeld.1.lt; have n2 := hHeld.2.1.lt; have n3 := hHeld.2.2.size
          refine lex_step (i := 10) rfl (by kernel_rfl) (by rfl) (fun Kx hKx => ?_)
          go_simp
          refine hKx.out _ _ ?_ (fun hHeld => ?_)
          · (try dsimp only); exact ⟨hHeld.1.alloc _, hHeld.2.1.alloc _, below_new hHeld.2.2 _⟩
          clear hKx Kx
          try simp only [Act.put, List.setIfInBounds_toArray, List.set_cons_zero, List.set_cons_succ]
          have z5 := At.new w5 (dateO 0 0 0)
          obtain ⟨T5, hT5⟩ : ∃ T, T = w5.heap.size := ⟨_, rfl⟩
          rw [← hT5] at z5 n1 n2 n3
          rw [← hT5]
          replace n1 : T ≠ T5 := by omega
          replace n2 : T4 ≠ T5 := by omega
          generalize World.alloc w5 _ = Wa at z5 hHeld ⊢
          clear hT5
          have y0 := z5.cell 0; have y1 := z5.cell 1; have y2 := z5.cell 2; simp at y0 y1 y2
          have fz0 := z5.frozen 0; have fz1 := z5.frozen 1; have fz2 := z5.frozen 2
          have hly := z5.lt
          have HO := one_set3 Wa T5 (.int .i64 y') (.int .i64 m') (.int .i64 d')
          refine lex_step (i := 11) rfl (by kernel_rfl) (by rfl) (fun Kx hKx => ?_)
          go_simp
          try go_wp2_with fail
          refine hKx.out _ _ ?_ (fun hHeld => ?_)
          · (try dsimp only); exact ⟨At.oneKept hHeld.1 HO n1, At.oneKept hHeld.2.1 HO n2, HO.below_own hHeld.2.2 n3⟩
          clear hKx Kx
          try simp only [Act.put, List.setIfInBounds_toArray, List.set_cons_zero, List.set_cons_succ]
          have zz := z5.store3 (.int .i64 y') (.int .i64 m') (.int .i64 d')
          clear HO fz0 fz1 fz2 y0 y1 y2 hly z5
          generalize World.setCell (World.setCell _ _ _) _ _ = Wb at zz hHeld ⊢
          refine lex_take (i := 12) (v := ?_) rfl (by kernel_rfl) (by kernel_rfl) (by kernel_rfl) (fun _ _ _ h => h) (by rfl) ?_ (by assumption) ?_
          rotate_left
          · (intro w hSw; (try dsimp only at hSw); go_simp; try with_reducible rfl)
          try simp only [Act.put, List.setIfInBounds_toArray, List.set_cons_zero, List.set_cons_succ]
          refine wpAnyH_done (by kernel_rfl) ?_ _
          go_wp2_with fail
          go_meet
          case rel => exact ⟨T5, rfl, rfl, zz, hHeld.2.1, hHeld.2.2⟩
        · go_simp
          refine hKx.out _ _ ?_ (fun hHeld => ?_)
          · (try dsimp only); exact ⟨hHeld.1.alloc _, hHeld.2.1.alloc _, below_new hHeld.2.2 _⟩
          clear hKx Kx
          try simp only [Act.put, List.setIfInBounds_toArray, List.set_cons_zero, List.set_cons_succ]
          have z4 := (At.new W4 (dateO 0 0 0)).drew
          have n1 := O1x.out.lt; have n2 := O4.out.lt; have n3 := B4.out.size
          obtain ⟨T5, hT5⟩ : ∃ T, T = W4.heap.size := ⟨_, rfl⟩
          rw [← hT5] at z4 n1 n2 n3
          rw [← hT5]
          clear hT5
          replace n1 : T ≠ T5 := by omega
          replace n2 : T4 ≠ T5 := by omega
          have hC4 := (C4.out.alloc (dateO 0 0 0)).then_ (Below.refl _ _).drew
          generalize World.drew (World.alloc W4 _) = Wc at z4 hC4 hHeld ⊢
          refine lex_step (i := 6) rfl (by kernel_rfl) (by rfl) (fun Kx hKx => ?_)
          (have hqC := hC4; go_simp; go_at_call 29; (with_reducible refine (CF2.out _ hqC).mono ?_); rintro e w5 ⟨rfl, hb5⟩; try go_wp2_with fail)
          refine hKx.out _ _ ?_ (fun hHeld => ?_)
          · (try dsimp only); exact ⟨hHeld.1.then_ hb5, hHeld.2.1.then_ hb5, below_then hHeld.2.2 hb5⟩
          clear hKx Kx
          try simp only [Act.put, List.setIfInBounds_toArray, List.set_cons_zero, List.set_cons_succ]
          refine lex_take (i := 7) (v := ?_) rfl (by kernel_rfl) (by kernel_rfl) (by kernel_rfl) (fun _ _ _ h => h) (by rfl) ?_ (by assumption) ?_
          rotate_left
          · (intro w hSw; (try dsimp only at hSw); go_simp; try with_reducible rfl)
          try simp only [Act.put, List.setIfInBounds_toArray, List.set_cons_zero, List.set_cons_succ]
          refine lex_take (i := 8) (v := ?_) rfl (by kernel_rfl) (by kernel_rfl) (by kernel_rfl) (fun _ _ _ h => h) (by rfl) ?_ (by assumption) ?_
          rotate_left
          · (intro w hSw; (try dsimp only at hSw); go_simp; try with_reducible rfl)
          try simp only [Act.put, List.setIfInBounds_toArray, List.set_cons_zero, List.set_cons_succ]
          refine lex_take (i := 9) (v := ?_) rfl (by kernel_rfl) (by kernel_rfl) (by kernel_rfl) (fun _ _ _ h => h) (by rfl) ?_ (by assumption) ?_
          rotate_left
          · (intro w hSw; (try dsimp only at hSw); go_simp; try with_reducible rfl)
          try simp only [Act.put, List.setIfInBounds_toArray, List.set_cons_zero, List.set_cons_succ]
          have z5 := z4.then_ hb5
          clear z4
          generalize w5 = Wa at z5 hHeld ⊢
          have y0 := z5.cell 0; have y1 := z5.cell 1; have y2 := z5.cell 2; simp at y0 y1 y2
          have fz0 := z5.frozen 0; have fz1 := z5.frozen 1; have fz2 := z5.frozen 2
          have hly := z5.lt
          have HO := one_set3 Wa T5 (.int .i64 y') (.int .i64 m') (.int .i64 d')
          refine lex_step (i := 11) rfl (by kernel_rfl) (by rfl) (fun Kx hKx => ?_)
          go_simp
          try go_wp2_with fail
          refine hKx.out _ _ ?_ (fun hHeld => ?_)
          · (try dsimp only); exact ⟨At.oneKept hHeld.1 HO n1, At.oneKept hHeld.2.1 HO n2, HO.below_own hHeld.2.2 n3⟩
          clear hKx Kx
          try simp only [Act.put, List.setIfInBounds_toArray, List.set_cons_zero, List.set_cons_succ]
          have zz := z5.store3 (.int .i64 y') (.int .i64 m') (.int .i64 d')
          clear HO fz0 fz1 fz2 y0 y1 y2 hly z5
          generalize World.setCell (World.setCell _ _ _) _ _ = Wb at zz hHeld ⊢
          refine lex_take (i := 12) (v := ?_) rfl (by kernel_rfl) (by kernel_rfl) (by kernel_rfl) (fun _ _ _ h => h) (by rfl) ?_ (by assumption) ?_
          rotate_left
          · (intro w hSw; (try dsimp only at hSw); go_simp; try with_reducible rfl)
          try simp only [Act.put, List.setIfInBounds_toArray, List.set_cons_zero, List.set_cons_succ]
          refine wpAnyH_done (by kernel_rfl) ?_ _
          go_wp2_with fail
          go_meet
          case rel => exact ⟨T5, rfl, rfl, zz, hHeld.2.1, hHeld.2.2⟩
      case rest =>
        clear A4 C4 B4 O4
        obtain ⟨T5, rfl, rfl, o5, o4, hB5⟩ := hcut
        have B5 := Lib.hid hB5
        by_cases h2 : ee' = 0
        case neg =>
          have hne : (ee' != 0) = true := by simpa using h2
          have hout := Lib.hid (show OUT = sayV ⟨#[]⟩ 0 ee' from by rw [HOUT.out, sayOut, if_neg (by simp), if_pos h2])
          clear h2 hB5
          go_wp2_with fail
          go_ret3
          exact ⟨by rw [hout.out]; rfl, B5.out⟩
        subst h2
        obtain ⟨y1, y2⟩ := HY.out rfl
        obtain ⟨y3, y4⟩ := HY'.out rfl
        obtain ⟨M, hM⟩ : ∃ M, M = moreE mode := ⟨_, rfl⟩
        rw [← hM] at CM
        have hM0 : 0 ≤ M ∧ M ≤ 1 := by rw [hM]; unfold moreE; split <;> omega
        have hout := Lib.hid (show OUT = sayV s (y - y' + M) 0 from by rw [HOUT.out, sayOut, if_neg (by simp), if_neg (by simp), ← hM])
        clear hM
        have hw1 : IntKind.i64.wrap (y - y') = y - y' := IntWalk.i64_in _ (by omega)
        have hw2 : IntKind.i64.wrap (y - y' + M) = y - y' + M := IntWalk.i64_in _ (by omega)
        have c1 := (hB5.cell (p := ⟨b, off + kk * 2, none⟩) HbB.out).trans HB1.out
        have x0 := o4.cell 0
        have x1 := o5.cell 0
        simp at x0 x1
        have hl := o4.lt; have hl2 := o5.lt; have hz5 := hB5.size
        have hbz : b < wc.heap.size := by omega
        clear o4 o5 hB5
        go_wp2_with fail
        go_quiet ((go_at_call 45; first | exact quiet_left (CM.out _) | exact quiet_add_left (CM.out _)))
        go_wp2_with fail
        go_ret3
        refine ⟨by rw [hout.out]; rfl, ?_⟩
        have := B5.out
        (repeat' (first | exact bxR _ _ | assumption | refine bxD ?_ | refine bxN ?_ _ | refine bxA ?_ _ | refine bxS ?_ ?_ _ | refine bxT ?_ (by assumption) | refine bxW ?_ (by assumption) | exact Nat.le_refl _ | omega | (simp; done) | (simp; omega)))
end Go.Proofs.YtlpbaljoanfogaaGreatDoor
