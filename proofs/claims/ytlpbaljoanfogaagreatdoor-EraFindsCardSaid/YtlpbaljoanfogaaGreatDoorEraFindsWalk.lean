import Derived.Test.YtlpbaljoanfogaaGreatDoorRows
import Derived.Test.YtlpbaljoanfogaaGreatDoorEraF
import Derived.Test.YtlpbaljoanfogaaGreatDoorMgI
import Derived.Test.YtlpbaljoanfogaaGreatDoorMg1
set_option linter.unusedSimpArgs false
namespace Go.Proofs.YtlpbaljoanfogaaGreatDoor.eraFindsLaw
set_option linter.unusedVariables false
set_option maxRecDepth 100000
open Go.RowKit Go.ChangeShapes Go.WideShapes Go.Shelf
abbrev sFirst : ByteArray := ⟨#[102, 105, 114, 115, 116]⟩
abbrev gregL : List UInt8 := [103, 114, 101, 103, 111, 114, 105, 97, 110]
def oneR : List (ByteArray × Int) := [(sFirst, 737180)]
abbrev oneO : Obj := .cells #[.string sFirst, .int .i64 737180] 59
theorem then2 {w w' : World} {a : Option Addr} {n : Nat} {xs : List Int} (h : Ints w w.heap.size a n xs) (hb : Below w.heap.size w w') : Ints w' w'.heap.size a n xs := (h.below hb (Nat.le_refl _)).more hb.size
theorem reigns_one {w : World} {G : Nat} (h : At w G oneO) : Reigns w w.heap.size (some ⟨G, 0, none⟩) 1 oneR := by
  refine ⟨rfl, by omega, fun x hx => ?_, fun _ => ⟨G, 0, rfl, h.lt, fun i x hx => ?_⟩⟩
  · simp [oneR] at hx; subst hx
    exact ⟨by decide, by unfold I64; omega⟩
  · have c0 := h.cell 0; have c1 := h.cell 1
    match i, hx with
    | 0, hx =>
      simp [oneR] at hx; subst hx
      exact ⟨by simpa using c0, by simpa using c1⟩
theorem good_err : eraErr oneR gregL 1 = 0 := by decide +kernel
theorem d2 : fromB gregL 737180 2019 4 0 = true := by decide +kernel
theorem e2 : toB gregL 2020 3 30 737545 = true := by decide +kernel
theorem good_ans : ∃ r, rowOf gregL = some r ∧ EraAns oneR r 1 2 4 30 (fun _ => 2019) (fun _ => 0) (fun _ => 737545) (fun _ => 0) := by
  obtain ⟨r, hr, f1, f2⟩ := from_rowR d2 (by omega) (by omega) (by omega) (by omega)
  obtain ⟨r', hr', g1, g2⟩ := to_row e2 (by omega) (by omega) (by omega) (by omega)
  obtain rfl : r = r' := by rw [hr] at hr'; exact Option.some.inj hr'
  refine ⟨r, hr, fun k s f hk => ?_⟩
  match k, hk with
  | 0, hk =>
    cases hk
    exact ⟨_, _, f1, f2, fun _ => ⟨by decide, by decide⟩, fun _ => ⟨g1, g2, fun _ => ⟨by decide, by decide⟩⟩⟩
theorem good_out : outTo (keepE oneR sFirst (fun _ => 0) (fun _ => 737545) (fun _ => 0)) (fun _ => 737545) 1 = [737545] := by decide +kernel
set_option maxHeartbeats 8000000 in
theorem core (w : World) (mx : Int) (hmx : w.cell? ⟨0, 0, none⟩ = some (.int .i64 mx)) (hlv : Lvl w) (hsg : Sgn w) (a : Option Addr) (n c : Nat) (xs : List (ByteArray × Int)) (h : Reigns w w.heap.size a n xs) (nl : List UInt8) (mode : Int) (name : ByteArray) (hns : name.size ≤ 9223372036854775807) (y mo d : Int) :
    Calls Tryz.prog 7 #[.slice a n c, .string ⟨nl.toArray⟩, .int .i64 mode, .string name, .agg #[.int .i64 y, .int .i64 mo, .int .i64 d]] w fun e w' => e = .returned (.bool true) ∧ Below w.heap.size w w' := by
  obtain ⟨i0, hi, hz0, hz1, hz2⟩ := info_parts infoIntR
  have hgm := World.block_lt_of_cell? _ _ hmx
  have MX : ∀ W, Below w.heap.size w W → W.cell? ⟨0, 0, none⟩ = some (.int .i64 mx) := fun W hW => (hW.cell (p := ⟨0, 0, none⟩) hgm).trans hmx
  have RA : ∀ W, Below w.heap.size w W → Reigns W W.heap.size a n xs := fun W hW => (h.below hW (Nat.le_refl _)).more hW.size
  have CG := Lib.hid (fun (W : World) (hW : Below w.heap.size w W) (G : Nat) (hG : At W G oneO) => show Calls Tryz.prog 25 #[.slice (some ⟨G, 0, none⟩) 1 1, .string ⟨gregL.toArray⟩, .int .i64 1, .string sFirst, .agg #[.int .i64 2, .int .i64 4, .int .i64 30]] W fun e w' => ∃ v, e = .returned (.tuple #[v, .int .i64 0]) ∧ DaysR [737545] W v w' from by
    obtain ⟨r, hr, hA⟩ := good_ans
    have h1 := era_Find_ok W mx (MX W hW) (hlv.below hW) (hsg.below hW) (some ⟨G, 0, none⟩) 1 1 oneR (reigns_one hG) gregL 1 sFirst (by decide) 2 4 30 good_err (by omega) (by omega) r hr _ _ _ _ hA
    rw [good_out] at h1
    exact h1)
  have CE := Lib.hid (fun (W : World) (hW : Below w.heap.size w W) => law_eraError W mx (MX W hW) a n c xs (RA W hW) nl mode)
  have CN := Lib.hid (fun (W : World) (hW : Below w.heap.size w W) (row : List UInt8) (hro : rowOf nl = some row) => named_at (s := ⟨nl.toArray⟩) (by simpa using hro) W mx (MX W hW))
  have CR := Lib.hid (fun (W : World) (hW : Below w.heap.size w W) (x kk : Int) (hpk : PickE xs x n kk) => ref_ReignOf W a n c xs (RA W hW) x kk hpk)
  have hS : (∃ E : Int, (∀ W, Below w.heap.size w W → Calls Tryz.prog 25 #[.slice a n c, .string ⟨nl.toArray⟩, .int .i64 mode, .string name, .agg #[.int .i64 y, .int .i64 mo, .int .i64 d]] W fun e w' => e = .returned (.tuple #[.slice none 0 0, .int .i64 E]) ∧ Below W.heap.size W w') ∧
      ((eraErr xs nl mode ≠ 0 ∧ E = eraErr xs nl mode) ∨ (eraErr xs nl mode = 0 ∧ inB (-10000) 10000 y = false ∧ E = 3))) ∨
      (eraErr xs nl mode = 0 ∧ inB (-10000) 10000 y = true ∧ ∃ row, rowOf nl = some row ∧ ∃ Y F N E, EraAns xs row mode y mo d Y F N E ∧
        ∀ W, Below w.heap.size w W → Calls Tryz.prog 25 #[.slice a n c, .string ⟨nl.toArray⟩, .int .i64 mode, .string name, .agg #[.int .i64 y, .int .i64 mo, .int .i64 d]] W fun e w' => ∃ v, e = .returned (.tuple #[v, .int .i64 0]) ∧ DaysR (outTo (keepE xs name F N E) N n) W v w') := by
    by_cases hE : eraErr xs nl mode = 0
    case neg => exact .inl ⟨_, fun W hW => era_Find_bad W mx (MX W hW) (hlv.below hW) (hsg.below hW) a n c xs (RA W hW) nl mode name y mo d _ (.inl ⟨rfl, hE⟩), .inl ⟨hE, rfl⟩⟩
    rcases inB_cases (-10000) 10000 y with ⟨hd, y1, y2⟩ | ⟨hd, hd'⟩
    case inr => exact .inl ⟨3, fun W hW => era_Find_bad W mx (MX W hW) (hlv.below hW) (hsg.below hW) a n c xs (RA W hW) nl mode name y mo d _ (.inr ⟨hE, hd', rfl⟩), .inr ⟨hE, hd, rfl⟩⟩
    obtain ⟨_, ⟨row, hro⟩, _⟩ := eraErr_zero hE
    obtain ⟨Y, F, N, E, hA⟩ := eraAns_exist (xs := xs) (List.mem_of_find?_eq_some hro) mode y mo d
    exact .inr ⟨hE, hd, row, hro, Y, F, N, E, hA, fun W hW => era_Find_ok W mx (MX W hW) (hlv.below hW) (hsg.below hW) a n c xs (RA W hW) nl mode name hns y mo d hE y1 y2 row hro Y F N E hA⟩
  have hmode : eraErr xs nl mode = 0 → (mode = 1 ∨ mode = 2) ∧ 1 ≤ n ∧ n ≤ 30 ∧ Inc (xs.map (·.2)) := fun hz => by
    obtain ⟨h1, _, h2⟩ := eraErr_zero hz
    obtain ⟨h3, h4, h5⟩ := reignsOut_zero h1
    exact ⟨h2, by rw [← h.1]; exact h3, by rw [← h.1]; exact h4, (reigns_inc xs none h5).1⟩
  obtain ⟨EE, hEE⟩ : ∃ q, q = eraErr xs nl mode := ⟨_, rfl⟩
  rw [← hEE] at CE hS hmode
  have HS := Lib.hid hS; have HMODE := Lib.hid hmode
  have HH := Lib.hid h; have L1 := Lib.hid h.1; have m1 := h.2.1
  clear hEE hmode MX RA hmx hlv hsg hgm h hS
  go_enter Tryz.func7, Tryz.ntmps7
  go_wp2_with fail
  have o0 := At.new1 w (dateO y mo d) oneO
  have a0 := (At.new w (dateO y mo d)).alloc oneO
  have b0 := below_new (below_new (Below.refl w.heap.size w) (dateO y mo d)) oneO
  generalize World.alloc (World.alloc w _) _ = W0 at o0 a0 b0 ⊢
  have CF := Lib.hid (CG.out W0 b0 _ o0)
  have A0 := Lib.hid a0; have B0 := Lib.hid b0
  clear o0 a0 b0 CG
  go_wp2_with fail
  refine CF.out.mono ?_
  rintro e w1 ⟨v, rfl, p, m, q, rfl, k1, k2, hI, hb⟩
  have A1 := Lib.hid (A0.out.then_ hb)
  have B1 := Lib.hid (below_then B0.out hb)
  obtain rfl : m = 1 := by have := hI.1; simpa using this.symm
  have HI := Lib.hid hI
  clear hb CF A0 B0 hI k1 k2
  go_wp2_with fail
  refine (ref_SameInts _ p (some ⟨w1.heap.size, 0, none⟩) 1 q 1 1 [737545] [737545] (then2 HI.out (below_new (Below.refl _ _) _)) (At.ints [737545] (At.new w1 _) (by unfold I64; simp) (by simp))).mono ?_
  rw [show (([737545] : List Int) == [737545]) = true from rfl]
  rintro e w2 ⟨rfl, hdr⟩
  have A2 := Lib.hid ((A1.out.alloc (.cells #[.int .i64 737545] 3)).drawn hdr)
  have B2 := Lib.hid (below_drawn (below_new B1.out (.cells #[.int .i64 737545] 3)) hdr)
  clear hdr HI A1 B1
  have q2 := A2.out
  have x0 := q2.cell 0; have x1 := q2.cell 1; have x2 := q2.cell 2; simp at x0 x1 x2
  have hl := q2.lt
  clear q2
  rcases HS.out with ⟨E, CD, ⟨hne, rfl⟩ | ⟨rfl, hy, rfl⟩⟩ | ⟨rfl, hy, row, hro, Y, F, N, E, hA, CD⟩
  · have HC := Lib.hid CD
    have hne' : (E != 0) = true := by simpa using hne
    have hne2 : (E == 0) = false := by simpa using hne
    clear HS CD hne
    go_wp2_with fail
    refine (HC.out _ B2.out).mono ?_
    rintro e w3 ⟨rfl, hb⟩
    have B3 := Lib.hid (below_then B2.out hb)
    clear hb x0 x1 x2 hl HC A2 B2
    go_wp2_with fail
    refine (CE.out _ B3.out).mono ?_
    rintro e w4 ⟨rfl, hb⟩
    have B4 := Lib.hid (below_then B3.out hb)
    clear hb
    go_wp2_with fail
    go_ret
    exact ⟨ret_bool (by simp), B4.out⟩
  · have HC := Lib.hid CD
    clear HS CD
    go_wp2_with fail
    refine (HC.out _ B2.out).mono ?_
    rintro e w3 ⟨rfl, hb⟩
    have A3 := Lib.hid (A2.out.then_ hb)
    have B3 := Lib.hid (below_then B2.out hb)
    clear hb x0 x1 x2 hl HC A2 B2
    go_wp2_with fail
    refine (CE.out _ B3.out).mono ?_
    rintro e w4 ⟨rfl, hb⟩
    have A4 := Lib.hid (A3.out.then_ hb)
    have B4 := Lib.hid (below_then B3.out hb)
    clear hb A3 B3
    have q4 := A4.out
    have x0 := q4.cell 0; have x1 := q4.cell 1; have x2 := q4.cell 2; simp at x0 x1 x2
    have hl := q4.lt
    clear q4
    go_wp2_with (go_at_call 20; refine (ref_In _ _ _ _).mono ?_; rw [hy]; rintro e w5 ⟨rfl, rfl⟩)
    go_ret
    exact ⟨ret_bool (by simp), B4.out⟩
  · have HC := Lib.hid CD
    obtain ⟨hm12, hn1, hn30, hinc⟩ := HMODE.out rfl
    obtain ⟨y1, y2⟩ := inB_iff.1 hy
    obtain ⟨M, hM⟩ : ∃ M, M = moreE mode := ⟨_, rfl⟩
    have hME : ∀ q : Int, y + q - M = q + y - 2 + mode := fun q => by rw [hM]; rcases hm12 with rfl | rfl <;> simp [moreE] <;> omega
    have hmb : 1 ≤ mode ∧ mode ≤ 2 := by omega
    obtain ⟨mb1, mb2⟩ := hmb
    unfold EraAns at hA
    rw [← hM] at hA
    have HME := Lib.hid hME
    have HA := Lib.hid hA; have INC := Lib.hid hinc; have HRO := Lib.hid hro
    have MEM := Lib.hid (fun (k : Nat) (hk : k ≤ n) => outTo_mem (keepE xs name F N E) N (n := n) (fun k hk hck => by
      have hx := List.getElem?_eq_getElem (show k < xs.length by rw [L1.out]; exact hk)
      obtain ⟨m', d', _, _, _, hr⟩ := hA k (xs[k]'(by rw [L1.out]; exact hk)).1 (xs[k]'(by rw [L1.out]; exact hk)).2 hx
      unfold keepE at hck
      rw [Bool.and_eq_true, Bool.and_eq_true, Bool.and_eq_true] at hck
      have h1 := of_decide_eq_true hck.1
      have h2 := of_decide_eq_true hck.2.2.1
      have := (hr h1).2.2 h2
      exact ⟨by omega, by omega⟩) k hk)
    obtain ⟨b, off, rfl, hbB, hcs0⟩ := HH.out.open_ (by omega)
    have CS0 := Lib.hid hcs0; have HBB := Lib.hid hbB
    obtain ⟨ZS, hZS⟩ : ∃ q, q = outTo (keepE xs name F N E) N n := ⟨_, rfl⟩
    rw [← hZS] at HC
    have HZS := Lib.hid hZS
    clear HS CD hA hinc hro hcs0 HH HMODE hM hm12 hME hZS
    go_wp2_with fail
    refine (HC.out _ B2.out).mono ?_
    rintro e w3 ⟨v, rfl, pa, pn, pc, rfl, k1, k2, hI, hb⟩
    have A3 := Lib.hid (A2.out.then_ hb)
    have B3 := Lib.hid (below_then B2.out hb)
    have I3 := Lib.hid hI
    clear hb x0 x1 x2 hl HC A2 B2 hI k1 k2
    go_wp2_with fail
    refine (CE.out _ B3.out).mono ?_
    rintro e w4 ⟨rfl, hb⟩
    have A4 := Lib.hid (A3.out.then_ hb)
    have B4 := Lib.hid (below_then B3.out hb)
    have I4 := Lib.hid (then2 I3.out hb)
    clear hb A3 B3 I3 CE
    have q4 := A4.out
    have x0 := q4.cell 0; have x1 := q4.cell 1; have x2 := q4.cell 2; simp at x0 x1 x2
    have hl := q4.lt
    clear q4
    go_wp2_with (go_at_call 20; refine (ref_In _ _ _ _).mono ?_; rw [hy]; rintro e w5 ⟨rfl, rfl⟩)
    refine (CN.out _ B4.out row HRO.out).mono ?_
    rintro e w5 ⟨v, rfl, p1, u1, r1, p2, u2, r2, g, rfl, k1, k2, hcal, hmk, hb⟩
    have y5 := At.new w5 (yrW row p1 p2 u1 r1 u2 r2 g)
    have A5 := Lib.hid ((A4.out.then_ hb).alloc (yrW row p1 p2 u1 r1 u2 r2 g))
    have B5 := Lib.hid (below_new (below_then B4.out hb) (yrW row p1 p2 u1 r1 u2 r2 g))
    have hc0 : CalIn w5 w5.heap.size p1 p2 u1 u2 (msL row) (lsL row) := hcal
    have HC5 := Lib.hid (hc0.below (below_new (Below.refl w5.heap.size w5) (yrW row p1 p2 u1 r1 u2 r2 g)) (Nat.le_refl _))
    have HM5 := Lib.hid (hmk.then_ (below_new (Below.refl _ _) (yrW row p1 p2 u1 r1 u2 r2 g)))
    have hgT := (show At w5 g _ from hmk).lt
    obtain ⟨T, hT⟩ : ∃ T, T = w5.heap.size := ⟨_, rfl⟩
    rw [← hT] at y5 HC5 hgT
    have HTW := Lib.hid (show w.heap.size < T from by rw [hT]; exact (A4.out.then_ hb).lt)
    have IT := Lib.hid (show Ints (World.alloc w5 (yrW row p1 p2 u1 r1 u2 r2 g)) T pa pn ZS from by rw [hT]; exact (then2 I4.out hb).below (below_new (Below.refl w5.heap.size w5) (yrW row p1 p2 u1 r1 u2 r2 g)) (Nat.le_refl _))
    clear hb A4 B4 I4 hcal hmk hc0 k1 k2 CN x0 x1 x2 hl
    go_upto_region 12 with fail
    rw [← hT]
    generalize World.alloc w5 _ = W5 at y5 A5 B5 HC5 HM5 IT ⊢
    clear hT
    have Y5 := Lib.hid y5
    clear y5
    have HGT := Lib.hid hgT; clear hgT
    go_wp2_with fail
    go_loopw [19, 20, 21, 22, 23, 78] (fun v _ _ _ _ i wr => ∃ (k : Nat) (V : Value) (W : World), W = wr ∧ V = v ∧ k ≤ n ∧ i = .int .i64 k ∧ wr.ownsRow (T + 1) 3 1 v (outTo (keepE xs name F N E) N k).length ((outTo (keepE xs name F N E) N k).map (Value.int .i64)) ∧ At wr w.heap.size (dateO y mo d) ∧ At wr T (yrW row p1 p2 u1 r1 u2 r2 g) ∧ CalIn wr T p1 p2 u1 u2 (msL row) (lsL row) ∧ MarksAt wr g (calN row) (lsL row) ∧ Ints wr T pa pn ZS ∧ Below w.heap.size w wr) (fun _ _ _ _ _ i _ => n - (intOf i).toNat)
    case atStart => exact ⟨0, _, _, rfl, rfl, by omega, rfl, World.ownsRow_nil _ _ _ _, A5.out, Y5.out, HC5.out, HM5.out, IT.out, B5.out⟩
    case round =>
      obtain ⟨k, V, W6, rfl, rfl, hk, rfl, hown, hd, ha, hcl, hmk, hin, hB⟩ := hrel
      have OWN := Lib.hid hown; have HAT := Lib.hid ha; have HDT := Lib.hid hd; have HB := Lib.hid hB; have HCL := Lib.hid hcl; have HMK := Lib.hid hmk; have HIN := Lib.hid hin
      clear hown hd A5 Y5 HC5 HM5 IT B5 hcl hmk hin
      have hzs := hB.size
      by_cases hlt : k < n
      · obtain ⟨s, f, hc1, hc2, hx, hsz, f1, f2⟩ := CS0.out k hlt
        obtain ⟨m', d', _, hF, hYb, hT⟩ := HA.out k s f hx
        have HC1 := Lib.hid hc1; have HC2 := Lib.hid hc2
        have HX := Lib.hid hx; have HYB := Lib.hid hYb; have HTO := Lib.hid hT; have HF := Lib.hid hF
        have hnA : nameAt xs k = s := by unfold nameAt; rw [hx]; rfl
        have HNA := Lib.hid hnA
        have hki : (k : Int) < (n : Int) := by omega
        have hk0 : (0 : Int) ≤ (k : Int) := by omega
        clear hc1 hc2 hx hF hYb hT hnA ha hB
        obtain ⟨Yk, hYk⟩ : ∃ q, q = Y k := ⟨_, rfl⟩
        obtain ⟨Fk, hFk⟩ : ∃ q, q = F k := ⟨_, rfl⟩
        obtain ⟨Nk, hNk⟩ : ∃ q, q = N k := ⟨_, rfl⟩
        obtain ⟨Ek, hEk⟩ : ∃ q, q = E k := ⟨_, rfl⟩
        rw [← hYk, ← hFk] at HYB HTO HF
        rw [← hNk, ← hEk] at HTO
        have HNK := Lib.hid hNk; have HEK := Lib.hid hEk; have HFK := Lib.hid hFk
        clear hNk hEk hYk hFk
        go_upto_region 16 with fail
        go_cut [21, 22] from 81 to 133 (fun t21 t22 wx => ∃ T5, t21 = .pointer (some ⟨T5, 0, none⟩) ∧ t22 = .int .i64 Fk ∧ At wx T5 (dateO Yk m' d') ∧ At wx T (yrW row p1 p2 u1 r1 u2 r2 g) ∧ At wx w.heap.size (dateO y mo d) ∧ CalIn wx T p1 p2 u1 u2 (msL row) (lsL row) ∧ MarksAt wx g (calN row) (lsL row) ∧ wx.ownsRow (T + 1) 3 1 V (outTo (keepE xs name F N E) N k).length ((outTo (keepE xs name F N E) N k).map (Value.int .i64)) ∧ Ints wx T pa pn ZS ∧ Below w.heap.size w wx)
        case first =>
          have CF2 := Lib.hid (fun (W : World) (hC : MarksAt W g (calN row) (lsL row) ∧ CalAt W p1 p2 u1 u2 (msL row) (lsL row)) => HF.out W g p1 p2 u1 r1 u2 r2 hC.1 hC.2)
          refine wp_region_held_drew (S := fun wx => At wx T (yrW row p1 p2 u1 r1 u2 r2 g) ∧ At wx w.heap.size (dateO y mo d) ∧ CalIn wx T p1 p2 u1 u2 (msL row) (lsL row) ∧ MarksAt wx g (calN row) (lsL row) ∧ wx.ownsRow (T + 1) 3 1 V (outTo (keepE xs name F N E) N k).length ((outTo (keepE xs name F N E) N k).map (Value.int .i64)) ∧ Ints wx T pa pn ZS ∧ Below w.heap.size w wx) (by kernel_rfl) ?_ (fun hHeld => ?_)
          · (try dsimp only); exact ⟨HAT.out.drew, HDT.out.drew, HCL.out.step (Below.refl _ _).drew HAT.out.lt, HMK.out.then_ (Below.refl _ _).drew, own_thenS OWN.out (Below.refl _ _).drew, HIN.out.below (Below.refl _ _).drew (Nat.le_of_lt HAT.out.lt), HB.out.drew⟩
          refine lex_take (i := 0) (v := ?_) rfl (by kernel_rfl) (by kernel_rfl) (by kernel_rfl) (fun _ _ _ h => h) (by rfl) ?_ (by assumption) ?_
          rotate_left
          · (intro w hSw; (try dsimp only at hSw); have x0 := hSw.1.cell 0; have x1 := hSw.1.cell 1; have x2 := hSw.1.cell 2; have x3 := hSw.1.cell 3; have x4 := hSw.1.cell 4; have x5 := hSw.1.cell 5; have x6 := hSw.1.cell 6; have x7 := hSw.1.cell 7; have x8 := hSw.1.cell 8; have c2 := (hSw.2.2.2.2.2.2.cell (p := ⟨b, off + k * 2 + 1, none⟩) HBB.out).trans HC2.out; go_simp; try with_reducible rfl)
          try simp only [Act.put, List.setIfInBounds_toArray, List.set_cons_zero, List.set_cons_succ]
          refine lex_take (i := 1) (v := ?_) rfl (by kernel_rfl) (by kernel_rfl) (by kernel_rfl) (fun _ _ _ h => h) (by rfl) ?_ (by assumption) ?_
          rotate_left
          · (intro w hSw; (try dsimp only at hSw); have x0 := hSw.1.cell 0; have x1 := hSw.1.cell 1; have x2 := hSw.1.cell 2; have x3 := hSw.1.cell 3; have x4 := hSw.1.cell 4; have x5 := hSw.1.cell 5; have x6 := hSw.1.cell 6; have x7 := hSw.1.cell 7; have x8 := hSw.1.cell 8; have c2 := (hSw.2.2.2.2.2.2.cell (p := ⟨b, off + k * 2 + 1, none⟩) HBB.out).trans HC2.out; go_simp; try with_reducible rfl)
          try simp only [Act.put, List.setIfInBounds_toArray, List.set_cons_zero, List.set_cons_succ]
          refine lex_take (i := 2) (v := ?_) rfl (by kernel_rfl) (by kernel_rfl) (by kernel_rfl) (fun _ _ _ h => h) (by rfl) ?_ (by assumption) ?_
          rotate_left
          · (intro w hSw; (try dsimp only at hSw); have x0 := hSw.1.cell 0; have x1 := hSw.1.cell 1; have x2 := hSw.1.cell 2; have x3 := hSw.1.cell 3; have x4 := hSw.1.cell 4; have x5 := hSw.1.cell 5; have x6 := hSw.1.cell 6; have x7 := hSw.1.cell 7; have x8 := hSw.1.cell 8; have c2 := (hSw.2.2.2.2.2.2.cell (p := ⟨b, off + k * 2 + 1, none⟩) HBB.out).trans HC2.out; go_simp; try with_reducible rfl)
          try simp only [Act.put, List.setIfInBounds_toArray, List.set_cons_zero, List.set_cons_succ]
          refine lex_take (i := 3) (v := ?_) rfl (by kernel_rfl) (by kernel_rfl) (by kernel_rfl) (fun _ _ _ h => h) (by rfl) ?_ (by assumption) ?_
          rotate_left
          · (intro w hSw; (try dsimp only at hSw); have x0 := hSw.1.cell 0; have x1 := hSw.1.cell 1; have x2 := hSw.1.cell 2; have x3 := hSw.1.cell 3; have x4 := hSw.1.cell 4; have x5 := hSw.1.cell 5; have x6 := hSw.1.cell 6; have x7 := hSw.1.cell 7; have x8 := hSw.1.cell 8; have c2 := (hSw.2.2.2.2.2.2.cell (p := ⟨b, off + k * 2 + 1, none⟩) HBB.out).trans HC2.out; go_simp; try with_reducible rfl)
          try simp only [Act.put, List.setIfInBounds_toArray, List.set_cons_zero, List.set_cons_succ]
          refine lex_take (i := 4) (v := ?_) rfl (by kernel_rfl) (by kernel_rfl) (by kernel_rfl) (fun _ _ _ h => h) (by rfl) ?_ (by assumption) ?_
          rotate_left
          · (intro w hSw; (try dsimp only at hSw); have x0 := hSw.1.cell 0; have x1 := hSw.1.cell 1; have x2 := hSw.1.cell 2; have x3 := hSw.1.cell 3; have x4 := hSw.1.cell 4; have x5 := hSw.1.cell 5; have x6 := hSw.1.cell 6; have x7 := hSw.1.cell 7; have x8 := hSw.1.cell 8; have c2 := (hSw.2.2.2.2.2.2.cell (p := ⟨b, off + k * 2 + 1, none⟩) HBB.out).trans HC2.out; go_simp; try with_reducible rfl)
          try simp only [Act.put, List.setIfInBounds_toArray, List.set_cons_zero, List.set_cons_succ]
          refine lex_take (i := 5) (v := ?_) rfl (by kernel_rfl) (by kernel_rfl) (by kernel_rfl) (fun _ _ _ h => h) (by rfl) ?_ (by assumption) ?_
          rotate_left
          · (intro w hSw; (try dsimp only at hSw); have x0 := hSw.1.cell 0; have x1 := hSw.1.cell 1; have x2 := hSw.1.cell 2; have x3 := hSw.1.cell 3; have x4 := hSw.1.cell 4; have x5 := hSw.1.cell 5; have x6 := hSw.1.cell 6; have x7 := hSw.1.cell 7; have x8 := hSw.1.cell 8; have c2 := (hSw.2.2.2.2.2.2.cell (p := ⟨b, off + k * 2 + 1, none⟩) HBB.out).trans HC2.out; go_simp; try with_reducible rfl)
          try simp only [Act.put, List.setIfInBounds_toArray, List.set_cons_zero, List.set_cons_succ]
          have n1 : T < W6.heap.size := hHeld.1.lt
          have n2 : w.heap.size < W6.heap.size := hHeld.2.1.lt
          have n3 : w.heap.size ≤ W6.heap.size := hHeld.2.2.2.2.2.2.size
          have n4 : g < W6.heap.size := (show At _ g _ from hHeld.2.2.2.1).lt
          have n5 : T ≤ W6.heap.size := (Nat.le_of_lt hHeld.1.lt)
          have n6 : ∀ q, V.ownBlock = some q → q < W6.heap.size := own_ltE hHeld.2.2.2.2.1
          refine lex_step2 (i := 6) (j := 10) rfl rfl (by kernel_rfl) (by rfl) (by rfl) (fun Kx hKx => ?_) (fun Kx hKx => ?_)
          · (have hX := (⟨HMK.out.then_ (Below.refl _ _).drew, (HCL.out.step (Below.refl _ _).drew HAT.out.lt).at_ HAT.out.drew.lt⟩ : MarksAt _ g (calN row) (lsL row) ∧ CalAt _ p1 p2 u1 u2 (msL row) (lsL row)); (go_simp; go_at_call 15; (with_reducible refine (CF2.out _ hX).mono ?_); rintro e w5 ⟨rfl, hb5⟩; try go_wp2_with fail))
            refine hKx.out _ _ ?_ (fun hHeld => ?_)
            · (try dsimp only); exact ⟨hHeld.1.then_ hb5, hHeld.2.1.then_ hb5, hHeld.2.2.1.step hb5 hHeld.1.lt, hHeld.2.2.2.1.then_ hb5, own_thenS hHeld.2.2.2.2.1 hb5, hHeld.2.2.2.2.2.1.below hb5 (Nat.le_of_lt hHeld.1.lt), below_then hHeld.2.2.2.2.2.2 hb5⟩
            clear hKx Kx
            try simp only [Act.put, List.setIfInBounds_toArray, List.set_cons_zero, List.set_cons_succ]
            refine lex_take (i := 7) (v := ?_) rfl (by kernel_rfl) (by kernel_rfl) (by kernel_rfl) (fun _ _ _ h => h) (by rfl) ?_ (by assumption) ?_
            rotate_left
            · (intro w hSw; (try dsimp only at hSw); go_simp; try with_reducible rfl)
            try simp only [Act.put, List.setIfInBounds_toArray, List.set_cons_zero, List.set_cons_succ]
            refine lex_take (i := 8) (v := ?_) rfl (by kernel_rfl) (by kernel_rfl) (by kernel_rfl) (fun _ _ _ h => h) (by rfl) ?_ (by assumption) ?_
            rotate_left
            · (intro w hSw; (try dsimp only at hSw); go_simp; try with_reducible rfl)
            try simp only [Act.put, List.setIfInBounds_toArray, List.set_cons_zero, List.set_cons_succ]
            refine lex_take (i := 9) (v := ?_) rfl (by kernel_rfl) (by kernel_rfl) (by kernel_rfl) (fun _ _ _ h => h) (by rfl) ?_ (by assumption) ?_
            rotate_left
            · (intro w hSw; (try dsimp only at hSw); go_simp; try with_reducible rfl)
            try simp only [Act.put, List.setIfInBounds_toArray, List.set_cons_zero, List.set_cons_succ]
            have n1 : T < w5.heap.size := hHeld.1.lt
            have n2 : w.heap.size < w5.heap.size := hHeld.2.1.lt
            have n3 : w.heap.size ≤ w5.heap.size := hHeld.2.2.2.2.2.2.size
            have n4 : g < w5.heap.size := (show At _ g _ from hHeld.2.2.2.1).lt
            have n5 : T ≤ w5.heap.size := (Nat.le_of_lt hHeld.1.lt)
            have n6 : ∀ q, V.ownBlock = some q → q < w5.heap.size := own_ltE hHeld.2.2.2.2.1
            refine lex_step (i := 10) rfl (by kernel_rfl) (by rfl) (fun Kx hKx => ?_)
            go_simp
            refine hKx.out _ _ ?_ (fun hHeld => ?_)
            · (try dsimp only); exact ⟨hHeld.1.alloc _, hHeld.2.1.alloc _, hHeld.2.2.1.step (below_new (Below.refl _ _) (dateO 0 0 0)) hHeld.1.lt, hHeld.2.2.2.1.then_ (below_new (Below.refl _ _) (dateO 0 0 0)), own_thenS hHeld.2.2.2.2.1 (below_new (Below.refl _ _) (dateO 0 0 0)), hHeld.2.2.2.2.2.1.below (below_new (Below.refl _ _) (dateO 0 0 0)) (Nat.le_of_lt hHeld.1.lt), below_then hHeld.2.2.2.2.2.2 (below_new (Below.refl _ _) (dateO 0 0 0))⟩
            clear hKx Kx
            try simp only [Act.put, List.setIfInBounds_toArray, List.set_cons_zero, List.set_cons_succ]
            have z5 := At.new w5 (dateO 0 0 0)
            obtain ⟨T5, hT5⟩ : ∃ T, T = w5.heap.size := ⟨_, rfl⟩
            rw [← hT5] at z5
            rw [← hT5] at n1 n2 n3 n4 n5 n6
            rw [← hT5]
            clear hT5
            replace n1 : T ≠ T5 := by omega
            replace n2 : w.heap.size ≠ T5 := by omega
            replace n4 : g ≠ T5 := by omega
            generalize World.alloc w5 _ = Wa at z5 hHeld ⊢
            have y0 := z5.cell 0; have y1 := z5.cell 1; have y2 := z5.cell 2; simp at y0 y1 y2
            have fz0 := z5.frozen 0; have fz1 := z5.frozen 1; have fz2 := z5.frozen 2
            have hly := z5.lt
            have HO := one_set3 Wa T5 ((.int .i64 Yk)) ((.int .i64 m')) ((.int .i64 d'))
            refine lex_step (i := 11) rfl (by kernel_rfl) (by rfl) (fun Kx hKx => ?_)
            go_simp
            try go_wp2_with fail
            refine hKx.out _ _ ?_ (fun hHeld => ?_)
            · (try dsimp only); exact ⟨At.oneKept hHeld.1 HO n1, At.oneKept hHeld.2.1 HO n2, hHeld.2.2.1.below (HO.below (Below.refl T Wa) (by omega) (by omega)) (Nat.le_refl _), At.oneKept hHeld.2.2.2.1 HO n4, own_oneE hHeld.2.2.2.2.1 HO (fun q hq => Nat.ne_of_lt (n6 q hq)), hHeld.2.2.2.2.2.1.below (HO.below (Below.refl T Wa) (by omega) (by omega)) (Nat.le_refl _), HO.below_own hHeld.2.2.2.2.2.2 n3⟩
            clear hKx Kx
            try simp only [Act.put, List.setIfInBounds_toArray, List.set_cons_zero, List.set_cons_succ]
            have zz := z5.store3 ((.int .i64 Yk)) ((.int .i64 m')) ((.int .i64 d'))
            clear HO hly z5 fz0 y0 fz1 y1 fz2 y2
            generalize World.setCell (World.setCell _ _ _) _ _ = Wb at zz hHeld ⊢
            refine lex_take (i := 12) (v := ?_) rfl (by kernel_rfl) (by kernel_rfl) (by kernel_rfl) (fun _ _ _ h => h) (by rfl) ?_ (by assumption) ?_
            rotate_left
            · (intro w hSw; (try dsimp only at hSw); go_simp; try with_reducible rfl)
            try simp only [Act.put, List.setIfInBounds_toArray, List.set_cons_zero, List.set_cons_succ]
            refine wpAnyH_done (by kernel_rfl) ?_ _
            go_wp2_with fail
            go_meet
            case rel => exact ⟨T5, rfl, rfl, zz, hHeld⟩
          · go_simp
            refine hKx.out _ _ ?_ (fun hHeld => ?_)
            · (try dsimp only); exact ⟨hHeld.1.alloc _, hHeld.2.1.alloc _, hHeld.2.2.1.step (below_new (Below.refl _ _) (dateO 0 0 0)) hHeld.1.lt, hHeld.2.2.2.1.then_ (below_new (Below.refl _ _) (dateO 0 0 0)), own_thenS hHeld.2.2.2.2.1 (below_new (Below.refl _ _) (dateO 0 0 0)), hHeld.2.2.2.2.2.1.below (below_new (Below.refl _ _) (dateO 0 0 0)) (Nat.le_of_lt hHeld.1.lt), below_then hHeld.2.2.2.2.2.2 (below_new (Below.refl _ _) (dateO 0 0 0))⟩
            clear hKx Kx
            try simp only [Act.put, List.setIfInBounds_toArray, List.set_cons_zero, List.set_cons_succ]
            have z4 := (At.new W6 (dateO 0 0 0)).drew
            have hX := (⟨(HMK.out.then_ (below_new (Below.refl _ _) (dateO 0 0 0))).then_ (Below.refl _ _).drew, ((HCL.out.step (below_new (Below.refl _ _) (dateO 0 0 0)) HAT.out.lt).step (Below.refl _ _).drew (HAT.out.alloc (dateO 0 0 0)).lt).at_ (HAT.out.alloc (dateO 0 0 0)).drew.lt⟩ : MarksAt _ g (calN row) (lsL row) ∧ CalAt _ p1 p2 u1 u2 (msL row) (lsL row))
            obtain ⟨T5, hT5⟩ : ∃ T, T = W6.heap.size := ⟨_, rfl⟩
            rw [← hT5] at z4
            rw [← hT5] at n1 n2 n3 n4 n5 n6
            rw [← hT5]
            clear hT5
            replace n1 : T ≠ T5 := by omega
            replace n2 : w.heap.size ≠ T5 := by omega
            replace n4 : g ≠ T5 := by omega
            generalize World.drew (World.alloc W6 _) = Wc at z4 hX hHeld ⊢
            refine lex_step (i := 6) rfl (by kernel_rfl) (by rfl) (fun Kx hKx => ?_)
            (go_simp; go_at_call 15; (with_reducible refine (CF2.out _ hX).mono ?_); rintro e w5 ⟨rfl, hb5⟩; try go_wp2_with fail)
            refine hKx.out _ _ ?_ (fun hHeld => ?_)
            · (try dsimp only); exact ⟨hHeld.1.then_ hb5, hHeld.2.1.then_ hb5, hHeld.2.2.1.step hb5 hHeld.1.lt, hHeld.2.2.2.1.then_ hb5, own_thenS hHeld.2.2.2.2.1 hb5, hHeld.2.2.2.2.2.1.below hb5 (Nat.le_of_lt hHeld.1.lt), below_then hHeld.2.2.2.2.2.2 hb5⟩
            clear hKx Kx
            try simp only [Act.put, List.setIfInBounds_toArray, List.set_cons_zero, List.set_cons_succ]
            refine lex_take (i := 7) (v := ?_) rfl (by kernel_rfl) (by kernel_rfl) (by kernel_rfl) (fun _ _ _ h => h) (by rfl) ?_ (by assumption) ?_
            rotate_left
            · (intro w hSw; (try dsimp only at hSw); go_simp; try with_reducible rfl)
            try simp only [Act.put, List.setIfInBounds_toArray, List.set_cons_zero, List.set_cons_succ]
            refine lex_take (i := 8) (v := ?_) rfl (by kernel_rfl) (by kernel_rfl) (by kernel_rfl) (fun _ _ _ h => h) (by rfl) ?_ (by assumption) ?_
            rotate_left
            · (intro w hSw; (try dsimp only at hSw); go_simp; try with_reducible rfl)
            try simp only [Act.put, List.setIfInBounds_toArray, List.set_cons_zero, List.set_cons_succ]
            refine lex_take (i := 9) (v := ?_) rfl (by kernel_rfl) (by kernel_rfl) (by kernel_rfl) (fun _ _ _ h => h) (by rfl) ?_ (by assumption) ?_
            rotate_left
            · (intro w hSw; (try dsimp only at hSw); go_simp; try with_reducible rfl)
            try simp only [Act.put, List.setIfInBounds_toArray, List.set_cons_zero, List.set_cons_succ]
            have z5 := z4.then_ hb5
            clear z4
            generalize w5 = Wa at z5 hHeld ⊢
            have y0 := z5.cell 0; have y1 := z5.cell 1; have y2 := z5.cell 2; simp at y0 y1 y2
            have fz0 := z5.frozen 0; have fz1 := z5.frozen 1; have fz2 := z5.frozen 2
            have hly := z5.lt
            have HO := one_set3 Wa T5 ((.int .i64 Yk)) ((.int .i64 m')) ((.int .i64 d'))
            refine lex_step (i := 11) rfl (by kernel_rfl) (by rfl) (fun Kx hKx => ?_)
            go_simp
            try go_wp2_with fail
            refine hKx.out _ _ ?_ (fun hHeld => ?_)
            · (try dsimp only); exact ⟨At.oneKept hHeld.1 HO n1, At.oneKept hHeld.2.1 HO n2, hHeld.2.2.1.below (HO.below (Below.refl T Wa) (by omega) (by omega)) (Nat.le_refl _), At.oneKept hHeld.2.2.2.1 HO n4, own_oneE hHeld.2.2.2.2.1 HO (fun q hq => Nat.ne_of_lt (n6 q hq)), hHeld.2.2.2.2.2.1.below (HO.below (Below.refl T Wa) (by omega) (by omega)) (Nat.le_refl _), HO.below_own hHeld.2.2.2.2.2.2 n3⟩
            clear hKx Kx
            try simp only [Act.put, List.setIfInBounds_toArray, List.set_cons_zero, List.set_cons_succ]
            have zz := z5.store3 ((.int .i64 Yk)) ((.int .i64 m')) ((.int .i64 d'))
            clear HO hly z5 fz0 y0 fz1 y1 fz2 y2
            generalize World.setCell (World.setCell _ _ _) _ _ = Wb at zz hHeld ⊢
            refine lex_take (i := 12) (v := ?_) rfl (by kernel_rfl) (by kernel_rfl) (by kernel_rfl) (fun _ _ _ h => h) (by rfl) ?_ (by assumption) ?_
            rotate_left
            · (intro w hSw; (try dsimp only at hSw); go_simp; try with_reducible rfl)
            try simp only [Act.put, List.setIfInBounds_toArray, List.set_cons_zero, List.set_cons_succ]
            refine wpAnyH_done (by kernel_rfl) ?_ _
            go_wp2_with fail
            go_meet
            case rel => exact ⟨T5, rfl, rfl, zz, hHeld⟩
        case rest =>
        obtain ⟨T5, rfl, rfl, o5, oT, oD, hcl, hmk, hown, hin, hB⟩ := hcut
        have O5 := Lib.hid o5; have AT := Lib.hid oT; have DT := Lib.hid oD; have CLC := Lib.hid hcl; have MKC := Lib.hid hmk; have OWC := Lib.hid hown; have INC2 := Lib.hid hin; have BC := Lib.hid hB
        have c1 := (hB.cell (p := ⟨b, off + k * 2, none⟩) HBB.out).trans HC1.out
        have hzc := hB.size
        have hbz : b < wc.heap.size := by have := HBB.out; omega
        clear OWN HAT HDT HB HCL HMK HIN o5 oT oD hcl hmk hown hin hB
        have NOREL := Lib.hid (fun (hc : keepE xs name F N E k = false) (W : World) (h : W.ownsRow (T + 1) 3 1 V (outTo (keepE xs name F N E) N k).length ((outTo (keepE xs name F N E) N k).map (Value.int .i64))) => show (W.ownsRow (T + 1) 3 1 V (outTo (keepE xs name F N E) N (k + 1)).length ((outTo (keepE xs name F N E) N (k + 1)).map (Value.int .i64))) from by rw [outTo_no hc]; exact h)
        by_cases hnm' : s = name
        case neg =>
          have hne : (s.toList != name.toList) = true := by
            rw [bne_iff_ne, Lib.toList_data, Lib.toList_data]
            intro e
            exact hnm' (by cases s; cases name; simp at e; rw [e])
          have hne1 : (s.toList == name.toList) = false := by rw [← Bool.not_eq_true]; intro e; rw [bne, e] at hne; cases hne
          have HC := Lib.hid (show keepE xs name F N E k = false from by unfold keepE; rw [HNA.out, decide_eq_false hnm']; simp)
          clear hnm'
          go_wp2_with fail
          go_roundw
          case rel => exact ⟨k + 1, _, _, rfl, rfl, by omega, by go_num, NOREL.out HC.out _ OWC.out, DT.out, AT.out, CLC.out, MKC.out, INC2.out, BC.out⟩
          case measure => simp [intOf]; omega
        subst hnm'
        have hsne : (s.toList != s.toList) = false := by simp
        have hsne1 : (s.toList == s.toList) = true := by simp
        by_cases hF0 : Fk = 0
        case neg =>
          have hfe : (Fk != 0) = true := by simpa using hF0
          have HC := Lib.hid (show keepE xs s F N E k = false from by unfold keepE; rw [← HFK.out, decide_eq_false hF0]; rfl)
          clear hF0
          go_wp2_with fail
          go_roundw
          case rel => exact ⟨k + 1, _, _, rfl, rfl, by omega, by go_num, NOREL.out HC.out _ OWC.out, DT.out, AT.out, CLC.out, MKC.out, INC2.out, BC.out⟩
          case measure => simp [intOf]; omega
        subst hF0
        obtain ⟨y3, y4⟩ := HYB.out rfl
        obtain ⟨_, hTY, hNb⟩ := HTO.out rfl
        rw [HME.out] at hTY
        have HTY := Lib.hid hTY; have HNB := Lib.hid hNb
        clear hTY hNb HYB HTO
        have hw1 : IntKind.i64.wrap (Yk + y) = Yk + y := IntWalk.i64_in _ (by omega)
        have hw2 : IntKind.i64.wrap (Yk + y - 2) = Yk + y - 2 := IntWalk.i64_in _ (by omega)
        have hw3 : IntKind.i64.wrap (Yk + y - 2 + mode) = Yk + y - 2 + mode := IntWalk.i64_in _ (by omega)
        have oo := O5.out; have ot := AT.out; have od := DT.out
        have x0 := ot.cell 0; have x1 := ot.cell 1; have x2 := ot.cell 2; have x3 := ot.cell 3; have x4 := ot.cell 4; have x5 := ot.cell 5; have x6 := ot.cell 6; have x7 := ot.cell 7; have x8 := ot.cell 8; simp at x0 x1 x2 x3 x4 x5 x6 x7 x8
        have z0 := od.cell 0; have z1 := od.cell 1; have z2 := od.cell 2; simp at z0 z1 z2
        have v0 : wc.cell? ⟨T5, 0, none⟩ = some (.int .i64 Yk) := oo.cell 0
        have hl := oo.lt; have hl2 := ot.lt; have hl3 := od.lt
        clear oo ot od
        go_wp2_with fail
        clear x0 x1 x2 x3 x4 x5 x6 x7 x8 z0 z1 z2 v0 hl hl2 hl3 c1 hzc hbz hw1 hw2 hw3
        refine (HTY.out wc g p1 p2 u1 r1 u2 r2 MKC.out (CLC.out.at_ AT.out.lt)).mono ?_
        rintro e w5 ⟨rfl, hb⟩
        have A6 := Lib.hid (AT.out.then_ hb)
        have D6 := Lib.hid (DT.out.then_ hb)
        have C6 := Lib.hid (CLC.out.step hb AT.out.lt)
        have M6 := Lib.hid (MKC.out.then_ hb)
        have OWN6 := Lib.hid (own_thenS OWC.out hb)
        have I6 := Lib.hid (INC2.out.below hb (Nat.le_of_lt AT.out.lt))
        have B6 := Lib.hid (below_then BC.out hb)
        clear hb AT DT CLC MKC OWC INC2 BC O5 HTY
        by_cases he : Ek = 0
        case neg =>
          have hee : (Ek == 0) = false := by simpa using he
          have HC := Lib.hid (show keepE xs s F N E k = false from by unfold keepE; rw [← HEK.out, decide_eq_false he]; simp)
          clear he
          go_wp2_with fail
          go_roundw
          case rel => exact ⟨k + 1, _, _, rfl, rfl, by omega, by go_num, NOREL.out HC.out _ OWN6.out, D6.out, A6.out, C6.out, M6.out, I6.out, B6.out⟩
          case measure => simp [intOf]; omega
        subst he
        obtain ⟨kk, hkk⟩ := PickE.exists xs Nk xs.length (Nat.le_refl _)
        have hkn : keepE xs s F N E k = true ↔ kk = k := by
          rw [keepE_iff INC.out HX.out HFK.out.symm rfl HEK.out.symm, ← HNK.out]
          exact ⟨fun hp => PickE.unique hkk hp, fun e => e ▸ hkk⟩
        have HKN := Lib.hid hkn
        have CK := Lib.hid (fun (W : World) (hW : Below w.heap.size w W) => CR.out W hW Nk kk (by rw [← L1.out]; exact hkk))
        have NB := Lib.hid (HNB.out rfl)
        clear hkn hkk
        by_cases hkk : kk = k
        · have HC := Lib.hid (HKN.out.2 hkk)
          have hke : (kk == (k : Int)) = true := by simpa using hkk
          clear HKN hkk
          have LEN := Lib.hid (outTo_len (keepE xs s F N E) N k)
          obtain ⟨m, hm⟩ : ∃ m, m = (outTo (keepE xs s F N E) N k).length := ⟨_, rfl⟩
          have hm30 : m ≤ 30 := by rw [hm]; have := LEN.out; omega
          have YESREL := Lib.hid (fun (v' : Value) (W : World) (h : W.ownsRow (T + 1) 3 1 v' (m + 1) ((outTo (keepE xs s F N E) N k).map (Value.int .i64) ++ [.int .i64 Nk])) => show (W.ownsRow (T + 1) 3 1 v' (outTo (keepE xs s F N E) N (k + 1)).length ((outTo (keepE xs s F N E) N (k + 1)).map (Value.int .i64))) from by
            rw [outTo_yes HC.out, List.length_append, ← hm, List.map_append, ← HNK.out]; exact h)
          have OWN7 := Lib.hid (show w5.ownsRow (T + 1) 3 1 V m ((outTo (keepE xs s F N E) N k).map (Value.int .i64)) from by rw [hm]; exact OWN6.out)
          clear OWN6 LEN hm
          go_wp2_with fail
          refine (CK.out w5 B6.out).mono ?_
          rintro e w6 ⟨rfl, hb⟩
          have A8 := Lib.hid (A6.out.then_ hb)
          have D8 := Lib.hid (D6.out.then_ hb)
          have C8 := Lib.hid (C6.out.step hb A6.out.lt)
          have M8 := Lib.hid (M6.out.then_ hb)
          have OWN8 := Lib.hid (own_thenS OWN7.out hb)
          have I8 := Lib.hid (I6.out.below hb (Nat.le_of_lt A6.out.lt))
          have B8 := Lib.hid (below_then B6.out hb)
          clear hb A6 D6 C6 M6 OWN7 I6 B6 CK
          have hs8 := A8.out.lt
          have hz8 := B8.out.size
          go_wp2_with (at_builtin; refine wpList_append_own _ rfl _ _ 34 rfl (T + 1) 3 i0 (.int .i64 0) 1 8 Tryz.underlying34 hi hz0 hz1 hz2 rfl (by decide) _ _ _ rfl (OWN8.out.alloc _) ⟨w6.heap.size, 0, none⟩ 1 1 [.int .i64 Nk] rfl rfl (World.news_of_block (cs := #[.int .i64 Nk]) (t := 3) (fr := (0, 0)) (heap_alloc_new w6 _)) (by simp [Value.oneCell']) (by unfold maxLen; omega) (by omega) (by first | omega | (simp; omega)) ?_; intro v' w4 hown' hgrow _)
          have hgb : ∀ bb, some bb = V.ownBlock → T + 1 ≤ bb := fun bb hbb => by
            rcases Nat.lt_or_ge bb (T + 1) with h | h
            · exact absurd hbb (own_aboveL OWN8.out h)
            · omega
          have hbt := ((Below.refl (T + 1) w6).alloc (by omega) (.cells #[.int .i64 Nk] 3)).grown hgrow (by simp; omega) (fun bb hbb => hgb bb hbb.symm)
          have OWN9 := Lib.hid (YESREL.out _ _ hown')
          have A9 := Lib.hid ((A8.out.alloc (.cells #[.int .i64 Nk] 3)).grown' hgrow (own_aboveL OWN8.out (by omega)))
          have D9 := Lib.hid ((D8.out.alloc (.cells #[.int .i64 Nk] 3)).grown' hgrow (own_aboveL OWN8.out (by have := HTW.out; omega)))
          have M9 := Lib.hid (show MarksAt w4 g (calN row) (lsL row) from At.grown' (At.alloc (show At w6 g _ from M8.out) (.cells #[.int .i64 Nk] 3)) hgrow (own_aboveL OWN8.out (by have := HGT.out; omega)))
          have C9 := Lib.hid (C8.out.below (B' := T + 1) hbt (by omega))
          have I9 := Lib.hid (I8.out.below (B' := T + 1) hbt (by omega))
          have B9 := Lib.hid ((below_new B8.out (.cells #[.int .i64 Nk] 3)).grown hgrow (by simp; omega) (fun bb hbb => by have := hgb bb hbb.symm; have := HTW.out; omega))
          clear hown' hgrow OWN8 hgb hbt
          go_wp2_with fail
          go_roundw
          case rel => exact ⟨k + 1, _, _, rfl, rfl, by omega, by go_num, OWN9.out, D9.out, A9.out, C9.out, M9.out, I9.out, B9.out⟩
          case measure => simp [intOf]; omega
        · have HC := Lib.hid (show keepE xs s F N E k = false from by
            cases hb : keepE xs s F N E k with
            | false => rfl
            | true => exact absurd (HKN.out.1 hb) hkk)
          have hke : (kk == (k : Int)) = false := by simpa using hkk
          clear HKN hkk
          go_wp2_with fail
          refine (CK.out w5 B6.out).mono ?_
          rintro e w6 ⟨rfl, hb⟩
          have A8 := Lib.hid (A6.out.then_ hb)
          have D8 := Lib.hid (D6.out.then_ hb)
          have C8 := Lib.hid (C6.out.step hb A6.out.lt)
          have M8 := Lib.hid (M6.out.then_ hb)
          have OWN8 := Lib.hid (own_thenS OWN6.out hb)
          have I8 := Lib.hid (I6.out.below hb (Nat.le_of_lt A6.out.lt))
          have B8 := Lib.hid (below_then B6.out hb)
          clear hb A6 D6 C6 M6 OWN6 I6 B6 CK
          go_wp2_with fail
          go_roundw
          case rel => exact ⟨k + 1, _, _, rfl, rfl, by omega, by go_num, NOREL.out HC.out _ OWN8.out, D8.out, A8.out, C8.out, M8.out, I8.out, B8.out⟩
          case measure => simp [intOf]; omega
      · obtain rfl : k = n := by omega
        obtain ⟨aa, cc, rfl, hcap1, hcap2, hI⟩ := own_ints OWN.out (MEM.out k (Nat.le_refl _)) rfl
        rw [← HZS.out] at hI
        have HI := Lib.hid hI
        have hTl := HAT.out.lt
        have HJ := Lib.hid (HIN.out.more (Nat.le_of_lt hTl))
        clear hI OWN ha hB hTl
        go_wp2_with fail
        rw [← HZS.out]
        refine (ref_SameInts _ pa aa pn pc _ cc ZS ZS HJ.out HI.out).mono ?_
        rw [show (ZS == ZS) = true from by simp]
        rintro e w7 ⟨rfl, hdr⟩
        have B7 := Lib.hid (below_drawn HB.out hdr)
        clear hdr
        go_wp2_with fail
        go_ret
        exact ⟨ret_bool (by simp), B7.out⟩
theorem walk {H : Type} {enc : TypeId × Value → H} {v0 v1 v2 v3 v4 : Value} {d0 d1 d2 d3 d4 : DataW H} {p0 p1 p2 p3 p4 : List MemPlace} {base : Nat} (W : World)
    (o0 : Value.okWide Tryz.prog W .any base 57 v0) (h0 : DataW.Trod enc Tryz.prog W 0 (fun _ => true) true 57 v0 d0 p0)
    (o1 : Value.okWide Tryz.prog W .any base 9 v1) (h1 : DataW.Trod enc Tryz.prog W 0 (fun _ => true) true 9 v1 d1 p1)
    (hsz : ∀ bytes, d1 = .lit (.string bytes) → bytes.length ≤ reachBytes)
    (o2 : Value.okWide Tryz.prog W .any base 3 v2) (h2 : DataW.Trod enc Tryz.prog W 0 (fun _ => true) true 3 v2 d2 p2)
    (o3 : Value.okWide Tryz.prog W .any base 9 v3) (h3 : DataW.Trod enc Tryz.prog W 0 (fun _ => true) true 9 v3 d3 p3)
    (hsz3 : ∀ bytes, d3 = .lit (.string bytes) → bytes.length ≤ reachBytes)
    (o4 : Value.okWide Tryz.prog W .any base 26 v4) (h4 : DataW.Trod enc Tryz.prog W 0 (fun _ => true) true 26 v4 d4 p4)
    (hL : laidMet Tryz.prog Rows.eraFindsRow.laid W) (hsh : W.ShapedOpen Tryz.prog) :
    Calls Tryz.prog 7 #[v0, v1, v2, v3, v4] W fun e w' => e = .returned (.bool true) ∧ Below W.heap.size W w' := by
  obtain ⟨a0, len0, cap0, rfl⟩ := okWide_slice Tryz.underlying57 o0
  obtain ⟨fuel, hf⟩ := h0
  obtain ⟨a, n, c, xs, e, hR⟩ := open_Reigns (by simpa [Value.cells] using hf)
  injection e with e1 e2 e3
  subst e1 e2 e3
  obtain ⟨s, rfl, rfl, rfl, hs⟩ := Go.ChangeMaps.open_string Tryz.underlying9 o1 h1
  obtain ⟨z2, rfl, rfl, rfl, hz2⟩ := open_int Tryz.underlying3 o2 h2
  obtain ⟨s3, rfl, rfl, rfl, hs3⟩ := Go.ChangeMaps.open_string Tryz.underlying9 o3 h3
  obtain ⟨cs, nn, rfl, hl, hf'⟩ := open_agg Tryz.underlying26 (by kernel_rfl) (by kernel_rfl) o4 h4
  obtain ⟨mx, hmx⟩ : ∃ m : Int, W.cell? ⟨0, 0, none⟩ = some (.int .i64 m) := Tryz.laysLaysMn146.s1_3 W hsh
  have hss : s3.size ≤ 9223372036854775807 := by
    have h9 : s3.size ≤ maxLen := by simpa using hs3
    unfold maxLen at h9
    omega
  match cs, hl with
  | [v0, v1, v2], _ =>
    obtain ⟨_, _, e0, t0⟩ := hf' 0 _ rfl
    obtain ⟨_, _, e1, t1⟩ := hf' 1 _ rfl
    obtain ⟨_, _, e2, t2⟩ := hf' 2 _ rfl
    obtain ⟨q0, rfl, hz0⟩ := open_num t0
    obtain ⟨q1, rfl, hz1⟩ := open_num t1
    obtain ⟨q2, rfl, hz2⟩ := open_num t2
    simp at e0 e1 e2
    subst e0 e1 e2
    have h := core W mx hmx (cat_lvl rfl hL.tail.tail.tail.tail.tail.tail) (cat_sgn rfl hL.tail.tail.tail.tail.tail.tail.tail) a0 len0 cap0 xs hR s.data.toList z2 s3 hss q0 q1 q2
    rw [show (⟨s.data.toList.toArray⟩ : ByteArray) = s from by simp] at h
    exact h
end Go.Proofs.YtlpbaljoanfogaaGreatDoor.eraFindsLaw
