import Derived.Test.YtlpbaljoanfogaaGreatDoorRows
import Derived.Test.YtlpbaljoanfogaaGreatDoorRefJ
import Derived.Test.YtlpbaljoanfogaaGreatDoorMg1
import Derived.Test.YtlpbaljoanfogaaGreatDoorMg8
import Derived.Test.YtlpbaljoanfogaaGreatDoorMgI
import Derived.Deep.Cut
import Derived.Deep.CutRange
set_option linter.unusedSimpArgs false
namespace Go.Proofs.YtlpbaljoanfogaaGreatDoor.reformJumpsLaw
set_option linter.unusedVariables false
set_option maxRecDepth 100000
open Go.RowKit Go.ChangeShapes Go.WideShapes Go.Shelf
def CalUn (w : World) (B : Nat) (a1 a2 : Option Addr) (n1 n2 : Nat) (ms : List Mon) (ls : List Int) : Prop := Months w B a1 n1 ms ∧ Ints w B a2 n2 ls
theorem CalUn.below {w w' : World} {B B' : Nat} {a1 a2 : Option Addr} {n1 n2 : Nat} {ms : List Mon} {ls : List Int} (h : CalUn w B a1 a2 n1 n2 ms ls) (hb : Below B' w w') (hB : B ≤ B') : CalUn w' B a1 a2 n1 n2 ms ls := ⟨h.1.below hb hB, h.2.below hb hB⟩
theorem CalUn.step {w w' : World} {B : Nat} {a1 a2 : Option Addr} {n1 n2 : Nat} {ms : List Mon} {ls : List Int} (h : CalUn w B a1 a2 n1 n2 ms ls) (hb : Below w.heap.size w w') (hB : B < w.heap.size) : CalUn w' B a1 a2 n1 n2 ms ls := h.below hb (Nat.le_of_lt hB)
theorem CalUn.at_ {w : World} {B : Nat} {a1 a2 : Option Addr} {n1 n2 : Nat} {ms : List Mon} {ls : List Int} (h : CalUn w B a1 a2 n1 n2 ms ls) (hB : B < w.heap.size) : CalAt w a1 a2 n1 n2 ms ls := ⟨h.1.more (Nat.le_of_lt hB), h.2.more (Nat.le_of_lt hB)⟩
theorem good_err : reformErr sChange chgParts = 0 := by decide +kernel
theorem greg_b : fromB [103, 114, 101, 103, 111, 114, 105, 97, 110] 577736 1582 9 14 = true := by decide +kernel
theorem jul_b : toB [106, 117, 108, 105, 97, 110] 1582 9 15 577746 = true := by decide +kernel
set_option maxHeartbeats 8000000 in
theorem core (w : World) (mx : Int) (hmx : w.cell? ⟨0, 0, none⟩ = some (.int .i64 mx)) (hlv : Lvl w) (hsg : Sgn w) (nm : ByteArray) (a : Option Addr) (n c : Nat) (xs : List Prt) (hs : nm.size ≤ 9223372036854775807) (hc : n ≤ c) (h : Parts w w.heap.size a n xs) (x : Int) :
    Calls Tryz.prog 5 #[.agg #[.string nm, .slice a n c], .int .i64 x] w fun e w' => e = .returned (.bool true) ∧ Below w.heap.size w w' := by
  have hgm := World.block_lt_of_cell? _ _ hmx
  have MX : ∀ W, Below w.heap.size w W → W.cell? ⟨0, 0, none⟩ = some (.int .i64 mx) := fun W hW => (hW.cell (p := ⟨0, 0, none⟩) hgm).trans hmx
  have PA : ∀ W, Below w.heap.size w W → Parts W W.heap.size a n xs := fun W hW => (h.below hW (Nat.le_refl _)).more hW.size
  have CG := Lib.hid (fun (W : World) (hW : Below w.heap.size w W) (G : Nat) (hG : At W G (chgO sGregorian)) => show Calls Tryz.prog 19 #[.agg #[.string sChange, .slice (some ⟨G, 0, none⟩) 2 2], .int .i64 1] W fun e w' => e = .returned (.tuple #[.int .i64 10, .int .i64 0]) ∧ Below W.heap.size W w' from by
    obtain ⟨r, hr, f1, _⟩ := from_rowR greg_b (by omega) (by omega) (by omega) (by omega)
    obtain ⟨r', hr', g1, _⟩ := to_row jul_b (by omega) (by omega) (by omega) (by omega)
    exact reform_Jump_ok W sChange (some ⟨G, 0, none⟩) 2 2 chgParts (by decide) (by omega) (parts_two hG (by decide)) good_err 1 0 rfl (by omega) 577736 (-4000000) sGregorian sJulian rfl rfl 1582 10 15 0 577746 0
      (fun V hV => date_at hr f1 V mx (MX V (below_then hW hV)) (hlv.below (below_then hW hV)) (hsg.below (below_then hW hV)))
      (fun V hV => day_at hr' g1 V mx (MX V (below_then hW hV)) (hlv.below (below_then hW hV)) (hsg.below (below_then hW hV))) (fun _ => ⟨by omega, by omega⟩))
  have CN := Lib.hid (fun (W : World) (hW : Below w.heap.size w W) (s : ByteArray) (row : List UInt8) (hro : rowOf s.data.toList = some row) => named_at hro W mx (MX W hW))
  have CE := Lib.hid (fun (W : World) (hW : Below w.heap.size w W) => ref_ReformError W mx (MX W hW) nm a n c xs hs hc (PA W hW))
  have LEN := Lib.hid h.len; have m1 := h.max
  have HH := Lib.hid h
  have hJ : (∃ E : Int, (∀ W, Below w.heap.size w W → Calls Tryz.prog 19 #[.agg #[.string nm, .slice a n c], .int .i64 x] W fun e w' => e = .returned (.tuple #[.int .i64 0, .int .i64 E]) ∧ Below W.heap.size W w') ∧
      ((reformErr nm xs ≠ 0 ∧ E = reformErr nm xs) ∨ (reformErr nm xs = 0 ∧ inB 1 ((n : Int) - 1) x = false ∧ 1 ≤ n ∧ E = 1))) ∨
      (reformErr nm xs = 0 ∧ ∃ K J : Nat, x = K ∧ K = J + 1 ∧ K < n ∧ inB 1 ((n : Int) - 1) x = true ∧ ∃ f s f' s' row row' da db dd ee nn e2, xs[K]? = some (f, s) ∧ xs[J]? = some (f', s') ∧ rowOf s.data.toList = some row ∧ rowOf s'.data.toList = some row' ∧ FromY row f da db dd ee ∧ ToY row' da db dd nn e2 ∧ (e2 = 0 → -4000000 ≤ nn ∧ nn ≤ 4000000) ∧ -4000000 ≤ f ∧ f ≤ 4000000 ∧
        ∀ W, Below w.heap.size w W → Calls Tryz.prog 19 #[.agg #[.string nm, .slice a n c], .int .i64 x] W fun e w' => e = .returned (.tuple #[.int .i64 (jumpN ee e2 nn f), .int .i64 (jumpE ee e2)]) ∧ Below W.heap.size W w') := by
    by_cases hE : reformErr nm xs = 0
    case neg => exact .inl ⟨_, fun W hW => reform_Jump_bad W nm a n c xs hs hc (PA W hW) x _ (.inl ⟨rfl, hE⟩), .inl ⟨hE, rfl⟩⟩
    obtain ⟨hn1, hn2, _, hall⟩ := reformErr_parts hE
    rw [LEN.out] at hn1
    rcases inB_cases 1 ((n : Int) - 1) x with ⟨hd, x1, x2⟩ | ⟨hd, hd'⟩
    case inr => exact .inl ⟨1, fun W hW => reform_Jump_bad W nm a n c xs hs hc (PA W hW) x 1 (.inr ⟨hE, by omega, rfl⟩), .inr ⟨hE, hd, hn1, rfl⟩⟩
    obtain ⟨J, hJx⟩ : ∃ J : Nat, x = ((J + 1 : Nat) : Int) := ⟨(x - 1).toNat, by omega⟩
    have hKn : J + 1 < n := by omega
    have hxK := List.getElem?_eq_getElem (show J + 1 < xs.length by rw [LEN.out]; exact hKn)
    have hxJ := List.getElem?_eq_getElem (show J < xs.length by rw [LEN.out]; omega)
    obtain ⟨⟨f, s⟩, hfs⟩ : ∃ p, p = xs[J + 1]'(by rw [LEN.out]; exact hKn) := ⟨_, rfl⟩
    obtain ⟨⟨f', s'⟩, hfs'⟩ : ∃ p, p = xs[J]'(by rw [LEN.out]; omega) := ⟨_, rfl⟩
    rw [← hfs] at hxK
    rw [← hfs'] at hxJ
    obtain ⟨hb1, fb⟩ := hall (f, s) (List.mem_of_getElem? hxK)
    obtain ⟨hb2, _⟩ := hall (f', s') (List.mem_of_getElem? hxJ)
    obtain ⟨row, hro⟩ := calB_row hb1
    obtain ⟨row', hro'⟩ := calB_row hb2
    obtain ⟨da, db, dd, ee, _, c1, c2⟩ := from_atR (List.mem_of_find?_eq_some hro) f
    obtain ⟨nn, e2, nb, d1, d2⟩ := to_atR (List.mem_of_find?_eq_some hro') da db dd
    refine .inr ⟨hE, J + 1, J, hJx, rfl, hKn, hd, f, s, f', s', row, row', da, db, dd, ee, nn, e2, hxK, hxJ, hro, hro', c2, d2, nb, fb.1, fb.2, fun W hW => ?_⟩
    rw [hJx]
    exact reform_Jump_ok W nm a n c xs hs hc (PA W hW) hE (J + 1) J rfl hKn f f' s s' hxK hxJ da db dd ee nn e2
      (fun V hV => date_at hro c1 V mx (MX V (below_then hW hV)) (hlv.below (below_then hW hV)) (hsg.below (below_then hW hV)))
      (fun V hV => day_at hro' d1 V mx (MX V (below_then hW hV)) (hlv.below (below_then hW hV)) (hsg.below (below_then hW hV))) nb
  obtain ⟨EE, hEE⟩ : ∃ E, E = reformErr nm xs := ⟨_, rfl⟩
  rw [← hEE] at CE hJ
  have HJ := Lib.hid hJ
  clear hEE hJ MX PA hmx hlv hsg hgm h
  go_enter Tryz.func5, Tryz.ntmps5
  go_wp2_with fail
  have o0 := At.new w (refO nm a n c)
  have b0 := below_new (Below.refl w.heap.size w) (refO nm a n c)
  generalize World.alloc w _ = W0 at o0 b0 ⊢
  refine (law_change _).mono ?_
  rintro e w1 ⟨G, rfl, hG, hgl, hb⟩
  have O1 := Lib.hid (o0.then_ hb)
  have B1 := Lib.hid (below_then b0 hb)
  have CF := Lib.hid (CG.out w1 B1.out G hG)
  clear o0 b0 hb hG hgl CG
  go_wp2_with fail
  refine CF.out.mono ?_
  rintro e w2 ⟨rfl, hb⟩
  have O2 := Lib.hid (O1.out.then_ hb)
  have B2 := Lib.hid (below_then B1.out hb)
  clear hb CF O1 B1
  have q2 := O2.out
  have u0 := q2.cell 0; have u1 := q2.cell 1; simp at u0 u1
  have hl := q2.lt
  clear q2
  rcases HJ.out with ⟨E, CJ, ⟨hne, rfl⟩ | ⟨rfl, hx, hn1, rfl⟩⟩ | ⟨rfl, K, J, hxK, hKJ, hKn, hx, f, s, f', s', row, row', da, db, dd, ee, nn, e2, hkx, hjx, hro, hro', hfy, hty, hnb, fb1, fb2, CJ⟩
  · have HC := Lib.hid CJ
    have hne' : (E != 0) = true := by simpa using hne
    clear HJ CJ hne
    go_wp2_with fail
    refine (HC.out _ B2.out).mono ?_
    rintro e w3 ⟨rfl, hb⟩
    have O3 := Lib.hid (O2.out.then_ hb)
    have B3 := Lib.hid (below_then B2.out hb)
    clear hb u0 u1 hl HC O2 B2
    have q3 := O3.out
    have u0 := q3.cell 0; have u1 := q3.cell 1; simp at u0 u1
    have hl := q3.lt
    clear q3
    go_wp2_with fail
    refine (CE.out _ B3.out).mono ?_
    rintro e w4 ⟨rfl, hb⟩
    have B4 := Lib.hid (below_then B3.out hb)
    clear hb u0 u1 hl
    go_wp2_with fail
    go_ret
    exact ⟨ret_bool (by simp), B4.out⟩
  · have HC := Lib.hid CJ
    have hwn : IntKind.i64.wrap ((n : Int) - 1) = (n : Int) - 1 := IntWalk.i64_in _ (by omega)
    clear HJ CJ
    go_wp2_with fail
    refine (HC.out _ B2.out).mono ?_
    rintro e w3 ⟨rfl, hb⟩
    have O3 := Lib.hid (O2.out.then_ hb)
    have B3 := Lib.hid (below_then B2.out hb)
    clear hb u0 u1 hl HC O2 B2
    have q3 := O3.out
    have u0 := q3.cell 0; have u1 := q3.cell 1; simp at u0 u1
    have hl := q3.lt
    clear q3
    go_wp2_with fail
    refine (CE.out _ B3.out).mono ?_
    rintro e w4 ⟨rfl, hb⟩
    have O4 := Lib.hid (O3.out.then_ hb)
    have B4 := Lib.hid (below_then B3.out hb)
    clear hb u0 u1 hl O3 B3
    have q4 := O4.out
    have u0 := q4.cell 0; have u1 := q4.cell 1; simp at u0 u1
    have hl := q4.lt
    clear q4
    go_wp2_with fail
    refine (ref_In _ _ _ _).mono ?_
    rw [hx]
    rintro e w5 ⟨rfl, rfl⟩
    go_wp2_with fail
    go_ret
    exact ⟨ret_bool (by simp), B4.out⟩
  · have HC := Lib.hid CJ
    subst hxK
    obtain ⟨b, off, rfl, hbB, hcs0⟩ := HH.out.open_ (by omega)
    obtain ⟨g1, t1, hc1, hc2, hx1, _, _, _⟩ := hcs0 K hKn
    rw [hkx] at hx1; cases hx1
    obtain ⟨g2, t2, _, hc4, hx2, _, _, _⟩ := hcs0 J (by omega)
    rw [hjx] at hx2; cases hx2
    have C1 := Lib.hid hc1; have C2 := Lib.hid hc2; have C4 := Lib.hid hc4; have HBB := Lib.hid hbB
    have HRO := Lib.hid hro; have HRO' := Lib.hid hro'; have HFY := Lib.hid hfy; have HTY := Lib.hid hty; have HNB := Lib.hid hnb
    have hwn : IntKind.i64.wrap ((n : Int) - 1) = (n : Int) - 1 := IntWalk.i64_in _ (by omega)
    have hwk : IntKind.i64.wrap ((K : Int) - 1) = (J : Int) := by rw [show (K : Int) - 1 = (J : Int) by omega]; exact IntWalk.i64_in _ (by omega)
    have hki : (K : Int) < (n : Int) := by omega
    have hk0 : (0 : Int) ≤ (K : Int) := by omega
    have hji : (J : Int) < (n : Int) := by omega
    have hj0 : (0 : Int) ≤ (J : Int) := by omega
    have hJn : J < n := by omega
    obtain ⟨JN, hJN⟩ : ∃ q, q = jumpN ee e2 nn f := ⟨_, rfl⟩
    obtain ⟨JE, hJE⟩ : ∃ q, q = jumpE ee e2 := ⟨_, rfl⟩
    rw [← hJN, ← hJE] at HC
    have HJN := Lib.hid hJN; have HJE := Lib.hid hJE
    clear HJ CJ hc1 hc2 hc4 hcs0 hkx hjx hro hro' hfy hty hnb HH hKJ hJN hJE
    go_wp2_with fail
    refine (HC.out _ B2.out).mono ?_
    rintro e w3 ⟨rfl, hb⟩
    have O3 := Lib.hid (O2.out.then_ hb)
    have B3 := Lib.hid (below_then B2.out hb)
    clear hb u0 u1 hl HC O2 B2
    have q3 := O3.out
    have u0 := q3.cell 0; have u1 := q3.cell 1; simp at u0 u1
    have hl := q3.lt
    clear q3
    go_wp2_with fail
    refine (CE.out _ B3.out).mono ?_
    rintro e w4 ⟨rfl, hb⟩
    have O4 := Lib.hid (O3.out.then_ hb)
    have B4 := Lib.hid (below_then B3.out hb)
    clear hb u0 u1 hl O3 B3 CE
    have q4 := O4.out
    have u0 := q4.cell 0; have u1 := q4.cell 1; simp at u0 u1
    have c2 := (B4.out.cell (p := ⟨b, off + K * 2 + 1, none⟩) hbB).trans C2.out
    have hbz : b < w4.heap.size := by have := B4.out.size; omega
    have hl := q4.lt
    clear q4
    go_wp2_with fail
    refine (ref_In _ _ _ _).mono ?_
    rw [hx]
    rintro e w5 ⟨rfl, rfl⟩
    go_wp2_with fail
    clear u0 u1 hl c2 hbz
    refine (CN.out _ B4.out s row HRO.out).mono ?_
    rintro e w5 ⟨v, rfl, p1, u1, r1, p2, u2, r2, g, rfl, k1, k2, hcal, hmk, hb⟩
    have y5 := At.new w5 (yrW row p1 p2 u1 r1 u2 r2 g)
    have O5 := Lib.hid ((O4.out.then_ hb).alloc (yrW row p1 p2 u1 r1 u2 r2 g))
    have B5 := Lib.hid (below_new (below_then B4.out hb) (yrW row p1 p2 u1 r1 u2 r2 g))
    have HC5 := Lib.hid (hcal.alloc (yrW row p1 p2 u1 r1 u2 r2 g))
    have HM5 := Lib.hid (hmk.then_ (below_new (Below.refl _ _) (yrW row p1 p2 u1 r1 u2 r2 g)))
    obtain ⟨T1, hT⟩ : ∃ T, T = w5.heap.size := ⟨_, rfl⟩
    rw [← hT] at y5
    clear hb O4 B4 hcal hmk k1 k2
    go_upto_region 11 with fail
    rw [← hT]
    generalize World.alloc w5 _ = W5 at y5 O5 B5 HC5 HM5 ⊢
    clear hT
    have Y5 := Lib.hid y5
    clear y5
    have q5 := O5.out
    have u0 := q5.cell 0; have u1 := q5.cell 1; simp at u0 u1
    have c4 := (B5.out.cell (p := ⟨b, off + J * 2 + 1, none⟩) hbB).trans C4.out
    have hbz : b < W5.heap.size := by have := B5.out.size; omega
    have hl := q5.lt
    clear q5
    go_wp2_with fail
    clear u0 u1 hl c4 hbz
    refine (CN.out _ B5.out s' row' HRO'.out).mono ?_
    rintro e w6 ⟨v, rfl, p3, u3, r3, p4, u4, r4, g', rfl, k1, k2, hcal, hmk, hb⟩
    have y6 := At.new w6 (yrW row' p3 p4 u3 r3 u4 r4 g')
    have Y6 := Lib.hid ((Y5.out.then_ hb).alloc (yrW row' p3 p4 u3 r3 u4 r4 g'))
    have O6 := Lib.hid ((O5.out.then_ hb).alloc (yrW row' p3 p4 u3 r3 u4 r4 g'))
    have B6 := Lib.hid (below_new (below_then B5.out hb) (yrW row' p3 p4 u3 r3 u4 r4 g'))
    have HC6 := Lib.hid ((HC5.out.then_ hb).alloc (yrW row' p3 p4 u3 r3 u4 r4 g'))
    have HM6 := Lib.hid ((HM5.out.then_ hb).then_ (below_new (Below.refl _ _) (yrW row' p3 p4 u3 r3 u4 r4 g')))
    have hc0 : CalUn w6 w6.heap.size p3 p4 u3 u4 (msL row') (lsL row') := hcal
    have HD6 := Lib.hid (hc0.below (below_new (Below.refl w6.heap.size w6) (yrW row' p3 p4 u3 r3 u4 r4 g')) (Nat.le_refl _))
    have HE6 := Lib.hid (hmk.then_ (below_new (Below.refl _ _) (yrW row' p3 p4 u3 r3 u4 r4 g')))
    obtain ⟨T2, hT⟩ : ∃ T, T = w6.heap.size := ⟨_, rfl⟩
    rw [← hT] at y6 HD6
    clear hb O5 B5 Y5 HC5 HM5 hcal hmk hc0 k1 k2 CN
    go_upto_region 12 with fail
    rw [← hT]
    generalize World.alloc w6 _ = W6 at y6 Y6 O6 B6 HC6 HM6 HD6 HE6 ⊢
    clear hT
    have Z6 := Lib.hid y6
    clear y6
    go_cut [14, 15] from 79 (fun t14 t15 wx => ∃ T5, t14 = .pointer (some ⟨T5, 0, none⟩) ∧ t15 = .int .i64 ee ∧ At wx T5 (dateO da db dd) ∧ At wx T2 (yrW row' p3 p4 u3 r3 u4 r4 g') ∧ At wx w.heap.size (refO nm (some ⟨b, off, none⟩) n c) ∧ CalUn wx T2 p3 p4 u3 u4 (msL row') (lsL row') ∧ MarksAt wx g' (calN row') (lsL row') ∧ Below w.heap.size w wx)
    case first =>
      have CF2 := Lib.hid (fun (W : World) (hC : MarksAt W g (calN row) (lsL row) ∧ CalAt W p1 p2 u1 u2 (msL row) (lsL row)) => HFY.out W g p1 p2 u1 r1 u2 r2 hC.1 hC.2)
      refine wp_region_held_drew (S := fun wx => At wx T1 (yrW row p1 p2 u1 r1 u2 r2 g) ∧ At wx T2 (yrW row' p3 p4 u3 r3 u4 r4 g') ∧ At wx w.heap.size (refO nm (some ⟨b, off, none⟩) n c) ∧ CalUn wx T2 p3 p4 u3 u4 (msL row') (lsL row') ∧ MarksAt wx g' (calN row') (lsL row') ∧ Below w.heap.size w wx) (by kernel_rfl) ?_ (fun hHeld => ?_)
      · (try dsimp only); exact ⟨Y6.out.drew, Z6.out.drew, O6.out.drew, HD6.out.step (Below.refl _ _).drew Z6.out.lt, HE6.out.then_ (Below.refl _ _).drew, B6.out.drew⟩
      refine lex_take (i := 0) (v := ?_) rfl (by kernel_rfl) (by kernel_rfl) (by kernel_rfl) (fun _ _ _ h => h) (by rfl) ?_ (by assumption) ?_
      rotate_left
      · (intro w hSw; (try dsimp only at hSw); have x0 := hSw.1.cell 0; have x1 := hSw.1.cell 1; have x2 := hSw.1.cell 2; have x3 := hSw.1.cell 3; have x4 := hSw.1.cell 4; have x5 := hSw.1.cell 5; have x6 := hSw.1.cell 6; have x7 := hSw.1.cell 7; have x8 := hSw.1.cell 8; have z0 := hSw.2.2.1.cell 0; have z1 := hSw.2.2.1.cell 1; have c1 := (hSw.2.2.2.2.2.cell (p := ⟨b, off + K * 2, none⟩) HBB.out).trans C1.out; go_simp; try with_reducible rfl)
      try simp only [Act.put, List.setIfInBounds_toArray, List.set_cons_zero, List.set_cons_succ]
      refine lex_take (i := 1) (v := ?_) rfl (by kernel_rfl) (by kernel_rfl) (by kernel_rfl) (fun _ _ _ h => h) (by rfl) ?_ (by assumption) ?_
      rotate_left
      · (intro w hSw; (try dsimp only at hSw); have x0 := hSw.1.cell 0; have x1 := hSw.1.cell 1; have x2 := hSw.1.cell 2; have x3 := hSw.1.cell 3; have x4 := hSw.1.cell 4; have x5 := hSw.1.cell 5; have x6 := hSw.1.cell 6; have x7 := hSw.1.cell 7; have x8 := hSw.1.cell 8; have z0 := hSw.2.2.1.cell 0; have z1 := hSw.2.2.1.cell 1; have c1 := (hSw.2.2.2.2.2.cell (p := ⟨b, off + K * 2, none⟩) HBB.out).trans C1.out; go_simp; try with_reducible rfl)
      try simp only [Act.put, List.setIfInBounds_toArray, List.set_cons_zero, List.set_cons_succ]
      refine lex_take (i := 2) (v := ?_) rfl (by kernel_rfl) (by kernel_rfl) (by kernel_rfl) (fun _ _ _ h => h) (by rfl) ?_ (by assumption) ?_
      rotate_left
      · (intro w hSw; (try dsimp only at hSw); have x0 := hSw.1.cell 0; have x1 := hSw.1.cell 1; have x2 := hSw.1.cell 2; have x3 := hSw.1.cell 3; have x4 := hSw.1.cell 4; have x5 := hSw.1.cell 5; have x6 := hSw.1.cell 6; have x7 := hSw.1.cell 7; have x8 := hSw.1.cell 8; have z0 := hSw.2.2.1.cell 0; have z1 := hSw.2.2.1.cell 1; have c1 := (hSw.2.2.2.2.2.cell (p := ⟨b, off + K * 2, none⟩) HBB.out).trans C1.out; go_simp; try with_reducible rfl)
      try simp only [Act.put, List.setIfInBounds_toArray, List.set_cons_zero, List.set_cons_succ]
      refine lex_take (i := 3) (v := ?_) rfl (by kernel_rfl) (by kernel_rfl) (by kernel_rfl) (fun _ _ _ h => h) (by rfl) ?_ (by assumption) ?_
      rotate_left
      · (intro w hSw; (try dsimp only at hSw); have x0 := hSw.1.cell 0; have x1 := hSw.1.cell 1; have x2 := hSw.1.cell 2; have x3 := hSw.1.cell 3; have x4 := hSw.1.cell 4; have x5 := hSw.1.cell 5; have x6 := hSw.1.cell 6; have x7 := hSw.1.cell 7; have x8 := hSw.1.cell 8; have z0 := hSw.2.2.1.cell 0; have z1 := hSw.2.2.1.cell 1; have c1 := (hSw.2.2.2.2.2.cell (p := ⟨b, off + K * 2, none⟩) HBB.out).trans C1.out; go_simp; try with_reducible rfl)
      try simp only [Act.put, List.setIfInBounds_toArray, List.set_cons_zero, List.set_cons_succ]
      refine lex_take (i := 4) (v := ?_) rfl (by kernel_rfl) (by kernel_rfl) (by kernel_rfl) (fun _ _ _ h => h) (by rfl) ?_ (by assumption) ?_
      rotate_left
      · (intro w hSw; (try dsimp only at hSw); have x0 := hSw.1.cell 0; have x1 := hSw.1.cell 1; have x2 := hSw.1.cell 2; have x3 := hSw.1.cell 3; have x4 := hSw.1.cell 4; have x5 := hSw.1.cell 5; have x6 := hSw.1.cell 6; have x7 := hSw.1.cell 7; have x8 := hSw.1.cell 8; have z0 := hSw.2.2.1.cell 0; have z1 := hSw.2.2.1.cell 1; have c1 := (hSw.2.2.2.2.2.cell (p := ⟨b, off + K * 2, none⟩) HBB.out).trans C1.out; go_simp; try with_reducible rfl)
      try simp only [Act.put, List.setIfInBounds_toArray, List.set_cons_zero, List.set_cons_succ]
      refine lex_take (i := 5) (v := ?_) rfl (by kernel_rfl) (by kernel_rfl) (by kernel_rfl) (fun _ _ _ h => h) (by rfl) ?_ (by assumption) ?_
      rotate_left
      · (intro w hSw; (try dsimp only at hSw); have x0 := hSw.1.cell 0; have x1 := hSw.1.cell 1; have x2 := hSw.1.cell 2; have x3 := hSw.1.cell 3; have x4 := hSw.1.cell 4; have x5 := hSw.1.cell 5; have x6 := hSw.1.cell 6; have x7 := hSw.1.cell 7; have x8 := hSw.1.cell 8; have z0 := hSw.2.2.1.cell 0; have z1 := hSw.2.2.1.cell 1; have c1 := (hSw.2.2.2.2.2.cell (p := ⟨b, off + K * 2, none⟩) HBB.out).trans C1.out; go_simp; try with_reducible rfl)
      try simp only [Act.put, List.setIfInBounds_toArray, List.set_cons_zero, List.set_cons_succ]
      refine lex_take (i := 6) (v := ?_) rfl (by kernel_rfl) (by kernel_rfl) (by kernel_rfl) (fun _ _ _ h => h) (by rfl) ?_ (by assumption) ?_
      rotate_left
      · (intro w hSw; (try dsimp only at hSw); have x0 := hSw.1.cell 0; have x1 := hSw.1.cell 1; have x2 := hSw.1.cell 2; have x3 := hSw.1.cell 3; have x4 := hSw.1.cell 4; have x5 := hSw.1.cell 5; have x6 := hSw.1.cell 6; have x7 := hSw.1.cell 7; have x8 := hSw.1.cell 8; have z0 := hSw.2.2.1.cell 0; have z1 := hSw.2.2.1.cell 1; have c1 := (hSw.2.2.2.2.2.cell (p := ⟨b, off + K * 2, none⟩) HBB.out).trans C1.out; go_simp; try with_reducible rfl)
      try simp only [Act.put, List.setIfInBounds_toArray, List.set_cons_zero, List.set_cons_succ]
      have n1 : T1 < W6.heap.size := hHeld.1.lt
      have n2 : T2 < W6.heap.size := hHeld.2.1.lt
      have n3 : w.heap.size < W6.heap.size := hHeld.2.2.1.lt
      have n4 : g' < W6.heap.size := (show At _ g' _ from hHeld.2.2.2.2.1).lt
      have n5 : T2 ≤ W6.heap.size := (Nat.le_of_lt hHeld.2.1.lt)
      have n6 : w.heap.size ≤ W6.heap.size := hHeld.2.2.2.2.2.size
      refine lex_step2 (i := 7) (j := 11) rfl rfl (by kernel_rfl) (by rfl) (by rfl) (fun Kx hKx => ?_) (fun Kx hKx => ?_)
      · (have hX := (⟨HM6.out.then_ (Below.refl _ _).drew, HC6.out.then_ (Below.refl _ _).drew⟩ : MarksAt _ g (calN row) (lsL row) ∧ CalAt _ p1 p2 u1 u2 (msL row) (lsL row)); (go_simp; go_at_call 15; (with_reducible refine (CF2.out _ hX).mono ?_); rintro e w5 ⟨rfl, hb5⟩; try go_wp2_with fail))
        refine hKx.out _ _ ?_ (fun hHeld => ?_)
        · (try dsimp only); exact ⟨hHeld.1.then_ hb5, hHeld.2.1.then_ hb5, hHeld.2.2.1.then_ hb5, hHeld.2.2.2.1.step hb5 hHeld.2.1.lt, hHeld.2.2.2.2.1.then_ hb5, below_then hHeld.2.2.2.2.2 hb5⟩
        clear hKx Kx
        try simp only [Act.put, List.setIfInBounds_toArray, List.set_cons_zero, List.set_cons_succ]
        refine lex_take (i := 8) (v := ?_) rfl (by kernel_rfl) (by kernel_rfl) (by kernel_rfl) (fun _ _ _ h => h) (by rfl) ?_ (by assumption) ?_
        rotate_left
        · (intro w hSw; (try dsimp only at hSw); go_simp; try with_reducible rfl)
        try simp only [Act.put, List.setIfInBounds_toArray, List.set_cons_zero, List.set_cons_succ]
        refine lex_take (i := 9) (v := ?_) rfl (by kernel_rfl) (by kernel_rfl) (by kernel_rfl) (fun _ _ _ h => h) (by rfl) ?_ (by assumption) ?_
        rotate_left
        · (intro w hSw; (try dsimp only at hSw); go_simp; try with_reducible rfl)
        try simp only [Act.put, List.setIfInBounds_toArray, List.set_cons_zero, List.set_cons_succ]
        refine lex_take (i := 10) (v := ?_) rfl (by kernel_rfl) (by kernel_rfl) (by kernel_rfl) (fun _ _ _ h => h) (by rfl) ?_ (by assumption) ?_
        rotate_left
        · (intro w hSw; (try dsimp only at hSw); go_simp; try with_reducible rfl)
        try simp only [Act.put, List.setIfInBounds_toArray, List.set_cons_zero, List.set_cons_succ]
        have n1 : T1 < w5.heap.size := hHeld.1.lt
        have n2 : T2 < w5.heap.size := hHeld.2.1.lt
        have n3 : w.heap.size < w5.heap.size := hHeld.2.2.1.lt
        have n4 : g' < w5.heap.size := (show At _ g' _ from hHeld.2.2.2.2.1).lt
        have n5 : T2 ≤ w5.heap.size := (Nat.le_of_lt hHeld.2.1.lt)
        have n6 : w.heap.size ≤ w5.heap.size := hHeld.2.2.2.2.2.size
        refine lex_step (i := 11) rfl (by kernel_rfl) (by rfl) (fun Kx hKx => ?_)
        go_simp
        refine hKx.out _ _ ?_ (fun hHeld => ?_)
        · (try dsimp only); exact ⟨hHeld.1.alloc _, hHeld.2.1.alloc _, hHeld.2.2.1.alloc _, hHeld.2.2.2.1.step (below_new (Below.refl _ _) (dateO 0 0 0)) hHeld.2.1.lt, hHeld.2.2.2.2.1.then_ (below_new (Below.refl _ _) (dateO 0 0 0)), below_then hHeld.2.2.2.2.2 (below_new (Below.refl _ _) (dateO 0 0 0))⟩
        clear hKx Kx
        try simp only [Act.put, List.setIfInBounds_toArray, List.set_cons_zero, List.set_cons_succ]
        have z5 := At.new w5 (dateO 0 0 0)
        obtain ⟨T5, hT5⟩ : ∃ T, T = w5.heap.size := ⟨_, rfl⟩
        rw [← hT5] at z5
        rw [← hT5] at n1 n2 n3 n4 n5 n6
        rw [← hT5]
        clear hT5
        replace n1 : T1 ≠ T5 := by omega
        replace n2 : T2 ≠ T5 := by omega
        replace n3 : w.heap.size ≠ T5 := by omega
        replace n4 : g' ≠ T5 := by omega
        generalize World.alloc w5 _ = Wa at z5 hHeld ⊢
        have y0 := z5.cell 0; have y1 := z5.cell 1; have y2 := z5.cell 2; simp at y0 y1 y2
        have fz0 := z5.frozen 0; have fz1 := z5.frozen 1; have fz2 := z5.frozen 2
        have hly := z5.lt
        have HO := one_set3 Wa T5 ((.int .i64 da)) ((.int .i64 db)) ((.int .i64 dd))
        refine lex_step (i := 12) rfl (by kernel_rfl) (by rfl) (fun Kx hKx => ?_)
        go_simp
        try go_wp2_with fail
        refine hKx.out _ _ ?_ (fun hHeld => ?_)
        · (try dsimp only); exact ⟨At.oneKept hHeld.1 HO n1, At.oneKept hHeld.2.1 HO n2, At.oneKept hHeld.2.2.1 HO n3, hHeld.2.2.2.1.below (HO.below (Below.refl T2 Wa) n5 (by omega)) (Nat.le_refl _), At.oneKept hHeld.2.2.2.2.1 HO n4, HO.below_own hHeld.2.2.2.2.2 n6⟩
        clear hKx Kx
        try simp only [Act.put, List.setIfInBounds_toArray, List.set_cons_zero, List.set_cons_succ]
        have zz := z5.store3 ((.int .i64 da)) ((.int .i64 db)) ((.int .i64 dd))
        clear HO hly z5 fz0 y0 fz1 y1 fz2 y2
        generalize World.setCell (World.setCell _ _ _) _ _ = Wb at zz hHeld ⊢
        refine lex_take (i := 13) (v := ?_) rfl (by kernel_rfl) (by kernel_rfl) (by kernel_rfl) (fun _ _ _ h => h) (by rfl) ?_ (by assumption) ?_
        rotate_left
        · (intro w hSw; (try dsimp only at hSw); go_simp; try with_reducible rfl)
        try simp only [Act.put, List.setIfInBounds_toArray, List.set_cons_zero, List.set_cons_succ]
        refine wpAnyH_done (by kernel_rfl) ?_ _
        go_wp2_with fail
        go_meet
        case rel => exact ⟨T5, rfl, rfl, zz, hHeld.2⟩
      · go_simp
        refine hKx.out _ _ ?_ (fun hHeld => ?_)
        · (try dsimp only); exact ⟨hHeld.1.alloc _, hHeld.2.1.alloc _, hHeld.2.2.1.alloc _, hHeld.2.2.2.1.step (below_new (Below.refl _ _) (dateO 0 0 0)) hHeld.2.1.lt, hHeld.2.2.2.2.1.then_ (below_new (Below.refl _ _) (dateO 0 0 0)), below_then hHeld.2.2.2.2.2 (below_new (Below.refl _ _) (dateO 0 0 0))⟩
        clear hKx Kx
        try simp only [Act.put, List.setIfInBounds_toArray, List.set_cons_zero, List.set_cons_succ]
        have z4 := (At.new W6 (dateO 0 0 0)).drew
        have hX := (⟨(HM6.out.then_ (below_new (Below.refl _ _) (dateO 0 0 0))).then_ (Below.refl _ _).drew, (HC6.out.alloc (dateO 0 0 0)).then_ (Below.refl _ _).drew⟩ : MarksAt _ g (calN row) (lsL row) ∧ CalAt _ p1 p2 u1 u2 (msL row) (lsL row))
        obtain ⟨T5, hT5⟩ : ∃ T, T = W6.heap.size := ⟨_, rfl⟩
        rw [← hT5] at z4
        rw [← hT5] at n1 n2 n3 n4 n5 n6
        rw [← hT5]
        clear hT5
        replace n1 : T1 ≠ T5 := by omega
        replace n2 : T2 ≠ T5 := by omega
        replace n3 : w.heap.size ≠ T5 := by omega
        replace n4 : g' ≠ T5 := by omega
        generalize World.drew (World.alloc W6 _) = Wc at z4 hX hHeld ⊢
        refine lex_step (i := 7) rfl (by kernel_rfl) (by rfl) (fun Kx hKx => ?_)
        (go_simp; go_at_call 15; (with_reducible refine (CF2.out _ hX).mono ?_); rintro e w5 ⟨rfl, hb5⟩; try go_wp2_with fail)
        refine hKx.out _ _ ?_ (fun hHeld => ?_)
        · (try dsimp only); exact ⟨hHeld.1.then_ hb5, hHeld.2.1.then_ hb5, hHeld.2.2.1.then_ hb5, hHeld.2.2.2.1.step hb5 hHeld.2.1.lt, hHeld.2.2.2.2.1.then_ hb5, below_then hHeld.2.2.2.2.2 hb5⟩
        clear hKx Kx
        try simp only [Act.put, List.setIfInBounds_toArray, List.set_cons_zero, List.set_cons_succ]
        refine lex_take (i := 8) (v := ?_) rfl (by kernel_rfl) (by kernel_rfl) (by kernel_rfl) (fun _ _ _ h => h) (by rfl) ?_ (by assumption) ?_
        rotate_left
        · (intro w hSw; (try dsimp only at hSw); go_simp; try with_reducible rfl)
        try simp only [Act.put, List.setIfInBounds_toArray, List.set_cons_zero, List.set_cons_succ]
        refine lex_take (i := 9) (v := ?_) rfl (by kernel_rfl) (by kernel_rfl) (by kernel_rfl) (fun _ _ _ h => h) (by rfl) ?_ (by assumption) ?_
        rotate_left
        · (intro w hSw; (try dsimp only at hSw); go_simp; try with_reducible rfl)
        try simp only [Act.put, List.setIfInBounds_toArray, List.set_cons_zero, List.set_cons_succ]
        refine lex_take (i := 10) (v := ?_) rfl (by kernel_rfl) (by kernel_rfl) (by kernel_rfl) (fun _ _ _ h => h) (by rfl) ?_ (by assumption) ?_
        rotate_left
        · (intro w hSw; (try dsimp only at hSw); go_simp; try with_reducible rfl)
        try simp only [Act.put, List.setIfInBounds_toArray, List.set_cons_zero, List.set_cons_succ]
        have z5 := z4.then_ hb5
        clear z4
        generalize w5 = Wa at z5 hHeld ⊢
        have y0 := z5.cell 0; have y1 := z5.cell 1; have y2 := z5.cell 2; simp at y0 y1 y2
        have fz0 := z5.frozen 0; have fz1 := z5.frozen 1; have fz2 := z5.frozen 2
        have hly := z5.lt
        have HO := one_set3 Wa T5 ((.int .i64 da)) ((.int .i64 db)) ((.int .i64 dd))
        refine lex_step (i := 12) rfl (by kernel_rfl) (by rfl) (fun Kx hKx => ?_)
        go_simp
        try go_wp2_with fail
        refine hKx.out _ _ ?_ (fun hHeld => ?_)
        · (try dsimp only); exact ⟨At.oneKept hHeld.1 HO n1, At.oneKept hHeld.2.1 HO n2, At.oneKept hHeld.2.2.1 HO n3, hHeld.2.2.2.1.below (HO.below (Below.refl T2 Wa) n5 (by omega)) (Nat.le_refl _), At.oneKept hHeld.2.2.2.2.1 HO n4, HO.below_own hHeld.2.2.2.2.2 n6⟩
        clear hKx Kx
        try simp only [Act.put, List.setIfInBounds_toArray, List.set_cons_zero, List.set_cons_succ]
        have zz := z5.store3 ((.int .i64 da)) ((.int .i64 db)) ((.int .i64 dd))
        clear HO hly z5 fz0 y0 fz1 y1 fz2 y2
        generalize World.setCell (World.setCell _ _ _) _ _ = Wb at zz hHeld ⊢
        refine lex_take (i := 13) (v := ?_) rfl (by kernel_rfl) (by kernel_rfl) (by kernel_rfl) (fun _ _ _ h => h) (by rfl) ?_ (by assumption) ?_
        rotate_left
        · (intro w hSw; (try dsimp only at hSw); go_simp; try with_reducible rfl)
        try simp only [Act.put, List.setIfInBounds_toArray, List.set_cons_zero, List.set_cons_succ]
        refine wpAnyH_done (by kernel_rfl) ?_ _
        go_wp2_with fail
        go_meet
        case rel => exact ⟨T5, rfl, rfl, zz, hHeld.2⟩
    case rest =>
      clear Y6 O6 B6 HC6 HM6 HD6 HE6 Z6
      obtain ⟨T5, rfl, rfl, o5, z5, q5, hcl, hmk, hB⟩ := hcut
      have O7 := Lib.hid o5; have Z7 := Lib.hid z5; have Q7 := Lib.hid q5; have C7 := Lib.hid hcl; have M7 := Lib.hid hmk; have B7 := Lib.hid hB
      clear o5 z5 q5 hcl hmk hB
      by_cases he : ee = 0
      case neg =>
        have hne : (ee != 0) = true := by simpa using he
        obtain rfl : JN = 0 := by rw [HJN.out, jumpN, if_pos he]
        obtain rfl : JE = ee := by rw [HJE.out, jumpE, if_pos he]
        clear he
        go_wp2_with fail
        go_ret
        exact ⟨ret_bool (by simp), B7.out⟩
      subst he
      have oo := O7.out; have zz := Z7.out
      have x0 := oo.cell 0; have x1 := oo.cell 1; have x2 := oo.cell 2; simp at x0 x1 x2
      have y0 := zz.cell 0; have y1 := zz.cell 1; have y2 := zz.cell 2; have y3 := zz.cell 3; have y4 := zz.cell 4; have y5 := zz.cell 5; have y6 := zz.cell 6; have y7 := zz.cell 7; have y8 := zz.cell 8; simp at y0 y1 y2 y3 y4 y5 y6 y7 y8
      have hl := oo.lt; have hl2 := zz.lt
      clear oo zz
      go_wp2_with fail
      clear x0 x1 x2 y0 y1 y2 y3 y4 y5 y6 y7 y8 hl hl2
      refine (HTY.out wc g' p3 p4 u3 r3 u4 r4 M7.out (C7.out.at_ Z7.out.lt)).mono ?_
      rintro e w8 ⟨rfl, hb⟩
      have Q8 := Lib.hid (Q7.out.then_ hb)
      have B8 := Lib.hid (below_then B7.out hb)
      clear hb O7 Z7 Q7 C7 M7 B7
      by_cases h2 : e2 = 0
      case neg =>
        have hne : (e2 != 0) = true := by simpa using h2
        obtain rfl : JN = 0 := by rw [HJN.out, jumpN, if_neg (by simp), if_pos h2]
        obtain rfl : JE = 6 := by rw [HJE.out, jumpE, if_neg (by simp), if_pos h2]
        clear h2
        go_wp2_with fail
        go_ret
        exact ⟨ret_bool (by simp), B8.out⟩
      subst h2
      obtain ⟨nb1, nb2⟩ := HNB.out rfl
      have hwf : IntKind.i64.wrap (nn - f) = nn - f := IntWalk.i64_in _ (by omega)
      obtain rfl : JN = nn - f := by rw [HJN.out, jumpN, if_neg (by simp), if_neg (by simp)]
      obtain rfl : JE = 0 := by rw [HJE.out, jumpE, if_neg (by simp), if_neg (by simp)]
      have q8 := Q8.out
      have x0 := q8.cell 0; have x1 := q8.cell 1; simp at x0 x1
      have c1 := (B8.out.cell (p := ⟨b, off + K * 2, none⟩) hbB).trans C1.out
      have hbz : b < w8.heap.size := by have := B8.out.size; omega
      have hl := q8.lt
      clear q8
      go_wp2_with fail
      go_ret
      exact ⟨ret_bool (by simp), B8.out⟩
theorem walk {H : Type} {enc : TypeId × Value → H} {v0 v1 : Value} {d0 d1 : DataW H} {p0 p1 : List MemPlace} {base : Nat} (W : World)
    (o0 : Value.okWide Tryz.prog W .any base 24 v0) (h0 : DataW.Trod enc Tryz.prog W 0 (fun _ => true) true 24 v0 d0 p0)
    (o1 : Value.okWide Tryz.prog W .any base 3 v1) (h1 : DataW.Trod enc Tryz.prog W 0 (fun _ => true) true 3 v1 d1 p1)
    (hL : laidMet Tryz.prog Rows.reformJumpsRow.laid W) (hsh : W.ShapedOpen Tryz.prog) :
    Calls Tryz.prog 5 #[v0, v1] W fun e w' => e = .returned (.bool true) ∧ Below W.heap.size W w' := by
  obtain ⟨s, a, n, c, xs, rfl, hs, hc, _, hP⟩ := open_Reform o0 h0
  obtain ⟨x, rfl, rfl, rfl, wx⟩ := open_int Tryz.underlying3 o1 h1
  obtain ⟨mx, hmx⟩ : ∃ m : Int, W.cell? ⟨0, 0, none⟩ = some (.int .i64 m) := Tryz.laysLaysMn146.s1_3 W hsh
  exact core W mx hmx (cat_lvl rfl hL.tail.tail.tail.tail.tail.tail) (cat_sgn rfl hL.tail.tail.tail.tail.tail.tail.tail) s a n c xs hs hc hP x
end Go.Proofs.YtlpbaljoanfogaaGreatDoor.reformJumpsLaw
