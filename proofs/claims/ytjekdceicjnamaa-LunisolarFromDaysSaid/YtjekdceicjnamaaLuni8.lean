/- Contract of the reference's MoonFromDay. -/
import Derived.Test.YtjekdceicjnamaaLuni3
import Derived.Test.YtjekdceicjnamaaLuni6
import Derived.Test.YtjekdceicjnamaaLuni7
import Derived.Deep.Cut
namespace Go.Proofs.Ytjekdceicjnamaa
set_option linter.unusedVariables false
set_option maxRecDepth 100000
open Go.RowKit

theorem ref_MoonFromDay_out (w : World) (s : ByteArray) (f sn sd mn md ln ld c : Int) (a1 a2 : Option Addr) (n1 c1 n2 c2 : Nat) (ls vs : List Int) (x : Int) (hx : inB (-4000000) 4000000 x = false) :
    Calls Try.prog 22 #[.agg #[.string s, .int .i64 f, .int .i64 sn, .int .i64 sd, .int .i64 mn, .int .i64 md, .int .i64 ln, .int .i64 ld, .int .i64 c, .slice a1 n1 c1, .slice a2 n2 c2], .int .i64 x] w fun e w' => e = .returned noDate ∧ Below w.heap.size w w' := by
  go_enter Try.func22, Try.ntmps22
  go_wp2_with fail
  refine (ref_Day _ _).mono ?_; rw [hx]; rintro e w1 ⟨rfl, rfl⟩
  go_wp2_with fail
  exact bodyPost_ret (v := noDate) (by simp [noDate, results, Try.results22, go_sem]) rfl ⟨rfl, by (repeat' (first | exact Below.refl _ _ | assumption | refine Below.drew ?_ | refine below_drewN ?_ _ | refine below_new ?_ _ | refine below_set ?_ ?_ _ | refine below_then ?_ (by assumption) | refine below_drawn ?_ (by assumption) | exact Nat.le_refl _ | omega | (simp; done) | (simp; omega)))⟩
set_option maxHeartbeats 40000000 in
theorem ref_MoonFromDay_in (w : World) (s : ByteArray) (f sn sd mn md ln ld c : Int) (a1 a2 : Option Addr) (n1 c1 n2 c2 : Nat) (ls vs : List Int) (N x : Int) (res : Value) (h : MoonAt w a1 a2 n1 n2 ls vs) (ok : MoonOk s f sn sd mn md ln ld c ls vs N) (hx : inB (-4000000) 4000000 x = true) (hres : FromM f sn sd mn md ln ld c N ls vs x res) :
    Calls Try.prog 22 #[.agg #[.string s, .int .i64 f, .int .i64 sn, .int .i64 sd, .int .i64 mn, .int .i64 md, .int .i64 ln, .int .i64 ld, .int .i64 c, .slice a1 n1 c1, .slice a2 n2 c2], .int .i64 x] w fun e w' => e = .returned res ∧ Below w.heap.size w w' := by
  have H := Lib.hid h; clear h
  have OK := Lib.hid ok
  have hx2 := inB_iff.1 hx
  have f1 := ok.f1; have f2 := ok.f2
  have hg := yearD_succ ok
  have fy : ∀ (W : World) (y : Int), Below w.heap.size w W → -10000 ≤ y → y ≤ 10000 → Calls Try.prog 17 #[.agg #[.string s, .int .i64 f, .int .i64 sn, .int .i64 sd, .int .i64 mn, .int .i64 md, .int .i64 ln, .int .i64 ld, .int .i64 c, .slice a1 n1 c1, .slice a2 n2 c2], .int .i64 y, .int .i64 1] W fun e w' => e = .returned (.int .i64 (yearD f sn sd mn md ln ld c N ls vs y)) ∧ Below W.heap.size W w' := fun W y hW y1 y2 => ref_MoonBegin W s f sn sd mn md ln ld c a1 a2 n1 c1 n2 c2 ls vs N y 1 OK.out (by omega) (by omega) (by omega) (by omega) (H.out.then_ hW)
  obtain ⟨g, hgd⟩ : ∃ g : Int → Int, g = yearD f sn sd mn md ln ld c N ls vs := ⟨_, rfl⟩
  have hlow : x < g (-9999) → res = noDate := by rw [hgd]; exact hres.low
  have hhigh : g 10000 ≤ x → res = noDate := by rw [hgd]; exact hres.high
  have hmid : ∀ y, -9999 ≤ y → y ≤ 9999 → g y ≤ x → x < g (y + 1) → res = dateM f sn sd mn md ln ld c N ls vs x y := by
    rw [hgd]; exact fun y y1 y2 h1 h2 => hres.mid y y1 y2 ⟨h1, h2⟩
  rw [← hgd] at fy hg
  have FY := Lib.hid fy; have LOW := Lib.hid hlow; have HIGH := Lib.hid hhigh; have MID := Lib.hid hmid
  have HG := Lib.hid hg
  clear hgd fy hlow hhigh hmid hg hres ok
  go_enter Try.func22, Try.ntmps22
  go_wp2_with fail
  refine (ref_Day _ _).mono ?_; rw [hx]; rintro e w1 ⟨rfl, rfl⟩
  have tw := Two.new w (.cells #[.string s, .int .i64 f, .int .i64 sn, .int .i64 sd, .int .i64 mn, .int .i64 md, .int .i64 ln, .int .i64 ld, .int .i64 c, .slice a1 n1 c1, .slice a2 n2 c2] 26) (.cells #[.int .i64 0, .int .i64 0, .int .i64 0] 39)
  generalize World.alloc (World.alloc w _) _ = W1 at tw ⊢
  obtain ⟨x0, x1, x2, x3, x4, x5, x6, x7, x8, x9, x10⟩ := tw.moon
  have t0 : IntKind.i64.wrap (x - f) = x - f := IntWalk.i64_in _ (by omega)
  have t1 : IntKind.i64.wrap (1 + (x - f) / 370) = 1 + (x - f) / 370 := IntWalk.i64_in _ (by omega)
  have t2 : IntKind.i64.wrap (1 + (x - f) / 354) = 1 + (x - f) / 354 := IntWalk.i64_in _ (by omega)
  go_upto_if 21 with (refine (ref_Floor _ _ _ (by omega) (by omega) (by omega) (by omega)).mono ?_; rintro e w2 ⟨rfl, rfl⟩)
  go_cut [6] from 18 (fun y wx => ∃ Y : Int, y = .int .i64 Y ∧ -30000 ≤ Y ∧ Y ≤ 30000 ∧ wx = W1)
  case first =>
    go_wp2_with (refine (ref_Floor _ _ _ (by omega) (by omega) (by omega) (by omega)).mono ?_; rintro e w2 ⟨rfl, rfl⟩)
    all_goals
      go_meet
      case rel => exact ⟨_, rfl, by omega, by omega, rfl⟩
  case rest =>
    obtain ⟨Y0, rfl, y01, y02, rfl⟩ := hcut
    clear t0 t1 t2
    go_upto_region 6 with fail
    go_cut [6] from 28 (fun y wx => ∃ Y : Int, y = .int .i64 Y ∧ -9999 ≤ Y ∧ Y ≤ 9999 ∧ wx = wc)
    case first =>
      go_wp2_with fail
      all_goals
        go_meet
        case rel => exact ⟨_, rfl, by omega, by omega, rfl⟩
    case rest =>
    obtain ⟨Y0, rfl, y01, y02, rfl⟩ := hcut
    go_wp2_with fail
    clear x0 x1 x2 x3 x4 x5 x6 x7 x8 x9 x10
    go_loopw [6] (fun t wr => ∃ Y : Int, t = .int .i64 Y ∧ -9999 ≤ Y ∧ Y ≤ 9999 ∧ Two w (.cells #[.string s, .int .i64 f, .int .i64 sn, .int .i64 sd, .int .i64 mn, .int .i64 md, .int .i64 ln, .int .i64 ld, .int .i64 c, .slice a1 n1 c1, .slice a2 n2 c2] 26) (.cells #[.int .i64 0, .int .i64 0, .int .i64 0] 39) wr) (fun t _ => (intOf t + 9999).toNat)
    case atStart => exact ⟨_, rfl, by omega, by omega, tw⟩
    case round =>
      clear tw
      obtain ⟨Y, rfl, Y1, Y2, tw⟩ := hrel
      have t3 : IntKind.i64.wrap (Y - 1) = Y - 1 := IntWalk.i64_in _ (by omega)
      obtain ⟨GY, hGY⟩ : ∃ G, G = g Y := ⟨_, rfl⟩
      have HGY := Lib.hid hGY; clear hGY
      obtain ⟨x0, x1, x2, x3, x4, x5, x6, x7, x8, x9, x10⟩ := tw.moon
      by_cases hgt : x < GY
      · by_cases hY : -9999 < Y
        · go_wp2_with fail
          refine (FY.out _ Y tw.2.2 (by omega) (by omega)).mono ?_
          rw [← HGY.out]
          rintro e w3 ⟨rfl, hb⟩
          replace tw := tw.step hb
          clear hb x0 x1 x2 x3 x4 x5 x6 x7 x8 x9 x10
          go_wp2_with fail
          go_roundw
          case rel => exact ⟨Y - 1, by go_num, by omega, by omega, tw⟩
          case measure => simp [intOf]; omega
        · have HNO := Lib.hid (LOW.out (by rw [show (-9999 : Int) = Y by omega, ← HGY.out]; exact hgt))
          go_wp2_with fail
          refine (FY.out _ Y tw.2.2 (by omega) (by omega)).mono ?_
          rw [← HGY.out]
          rintro e w3 ⟨rfl, hb⟩
          replace tw := tw.step hb
          clear hb x0 x1 x2 x3 x4 x5 x6 x7 x8 x9 x10
          have ar := tw.2.1
          have e0 := ar.cell 0; have e1 := ar.cell 1; have e2 := ar.cell 2; simp at e0 e1 e2
          have z0 := ar.frozen 0; have z1 := ar.frozen 1; have z2 := ar.frozen 2
          go_wp2_with fail
          have ar3 := ar.store3 (.int .i64 0) (.int .i64 0) (.int .i64 0)
          have b3 := below_set3 tw.2.2 (p := w.heap.size + 1) (by omega) (.int .i64 0) (.int .i64 0) (.int .i64 0)
          clear e0 e1 e2 z0 z1 z2
          generalize World.setCell (World.setCell _ _ _) _ _ = W9 at ar3 b3 ⊢
          have e0 := ar3.cell 0; have e1 := ar3.cell 1; have e2 := ar3.cell 2; simp at e0 e1 e2
          exact bodyPost_ret (v := noDate) (by simp [noDate, results, Try.results22, go_sem, e0, e1, e2]) rfl ⟨congrArg Ending.returned (HNO.out).symm, b3⟩
      · by_cases hY : -9999 < Y
        · go_wp2_with fail
          refine (FY.out _ Y tw.2.2 (by omega) (by omega)).mono ?_
          rw [← HGY.out]
          rintro e w3 ⟨rfl, hb⟩
          replace tw := tw.step hb
          clear hb x0 x1 x2 x3 x4 x5 x6 x7 x8 x9 x10
          obtain ⟨x0, x1, x2, x3, x4, x5, x6, x7, x8, x9, x10⟩ := tw.moon
          go_wp2_with fail
          refine (FY.out _ Y tw.2.2 (by omega) (by omega)).mono ?_
          rw [← HGY.out]
          rintro e w4 ⟨rfl, hb⟩
          replace tw := tw.step hb
          clear hb x0 x1 x2 x3 x4 x5 x6 x7 x8 x9 x10
          go_wp2_with fail
          go_loopw [6] (fun t wr => ∃ Z : Int, t = .int .i64 Z ∧ -9999 ≤ Z ∧ Z ≤ 9999 ∧ g Z ≤ x ∧ Two w (.cells #[.string s, .int .i64 f, .int .i64 sn, .int .i64 sd, .int .i64 mn, .int .i64 md, .int .i64 ln, .int .i64 ld, .int .i64 c, .slice a1 n1 c1, .slice a2 n2 c2] 26) (.cells #[.int .i64 0, .int .i64 0, .int .i64 0] 39) wr) (fun t _ => (10000 - intOf t).toNat)
          case atStart => exact ⟨Y, rfl, Y1, Y2, by rw [← HGY.out]; omega, tw⟩
          case round =>
            clear tw HGY hgt hY
            obtain ⟨Z, rfl, Z1, Z2, hZ, tw⟩ := hrel
            have t4 : IntKind.i64.wrap (Z + 1) = Z + 1 := IntWalk.i64_in _ (by omega)
            obtain ⟨G2, hG2⟩ : ∃ G, G = g (Z + 1) := ⟨_, rfl⟩
            have HG2 := Lib.hid hG2; clear hG2
            by_cases hle : G2 ≤ x
            · obtain ⟨x0, x1, x2, x3, x4, x5, x6, x7, x8, x9, x10⟩ := tw.moon
              by_cases hT : Z + 1 = 10000
              · have hTb : (Z + 1 == 10000) = true := by simpa using hT
                have HNO := Lib.hid (HIGH.out (by rw [← hT, ← HG2.out]; exact hle))
                clear hT
                go_wp2_with fail
                refine (FY.out _ (Z + 1) tw.2.2 (by omega) (by omega)).mono ?_
                rw [← HG2.out]
                rintro e w6 ⟨rfl, hb⟩
                replace tw := tw.step hb
                clear hb x0 x1 x2 x3 x4 x5 x6 x7 x8 x9 x10
                have ar := tw.2.1
                have e0 := ar.cell 0; have e1 := ar.cell 1; have e2 := ar.cell 2; simp at e0 e1 e2
                have z0 := ar.frozen 0; have z1 := ar.frozen 1; have z2 := ar.frozen 2
                go_wp2_with fail
                have ar3 := ar.store3 (.int .i64 0) (.int .i64 0) (.int .i64 0)
                have b3 := below_set3 tw.2.2 (p := w.heap.size + 1) (by omega) (.int .i64 0) (.int .i64 0) (.int .i64 0)
                clear e0 e1 e2 z0 z1 z2
                generalize World.setCell (World.setCell _ _ _) _ _ = W9 at ar3 b3 ⊢
                have e0 := ar3.cell 0; have e1 := ar3.cell 1; have e2 := ar3.cell 2; simp at e0 e1 e2
                exact bodyPost_ret (v := noDate) (by simp [noDate, results, Try.results22, go_sem, e0, e1, e2]) rfl ⟨congrArg Ending.returned (HNO.out).symm, b3⟩
              · have hTb : (Z + 1 == 10000) = false := by simpa using hT
                go_wp2_with fail
                refine (FY.out _ (Z + 1) tw.2.2 (by omega) (by omega)).mono ?_
                rw [← HG2.out]
                rintro e w6 ⟨rfl, hb⟩
                replace tw := tw.step hb
                clear hb x0 x1 x2 x3 x4 x5 x6 x7 x8 x9 x10
                go_wp2_with fail
                go_roundw
                case rel => exact ⟨Z + 1, by go_num, by omega, by omega, by rw [← HG2.out]; exact hle, tw⟩
                case measure => simp [intOf]; omega
            · skip
              have hmm := mths_in c ls Z
              obtain ⟨MM, hMM⟩ : ∃ MM : Nat, (MM : Int) = mths c ls Z := ⟨(mths c ls Z).toNat, by omega⟩
              have hk : monK f sn sd mn md ln ld c N ls vs x Z = monF (fun m => begD f sn sd mn md ln ld c N ls vs Z m) x MM := by
                unfold monK; rw [← hMM]; rfl
              rw [← hMM] at hmm
              have HMM := Lib.hid hMM
              have fb : ∀ (W : World) (m : Nat), Below w.heap.size w W → 1 ≤ m → m ≤ MM → Calls Try.prog 17 #[.agg #[.string s, .int .i64 f, .int .i64 sn, .int .i64 sd, .int .i64 mn, .int .i64 md, .int .i64 ln, .int .i64 ld, .int .i64 c, .slice a1 n1 c1, .slice a2 n2 c2], .int .i64 Z, .int .i64 (m : Int)] W fun e w' => e = .returned (.int .i64 (begD f sn sd mn md ln ld c N ls vs Z (m : Int))) ∧ Below W.heap.size W w' := fun W m hW m1 m2 => ref_MoonBegin W s f sn sd mn md ln ld c a1 a2 n1 c1 n2 c2 ls vs N Z m OK.out (by omega) (by omega) (by omega) (by omega) (H.out.then_ hW)
              have hbin : ∀ m : Nat, 1 ≤ m → m ≤ MM → -16000000 ≤ begD f sn sd mn md ln ld c N ls vs Z (m : Int) ∧ begD f sn sd mn md ln ld c N ls vs Z (m : Int) ≤ 16000000 := fun m m1 m2 => begD_in OK.out Z m (by omega) (by omega) (by omega) (by omega)
              have hre := MID.out Z Z1 Z2 hZ (by rw [← HG2.out]; omega)
              unfold dateM at hre
              obtain ⟨k, hkd⟩ : ∃ k : Int → Int, k = fun m => begD f sn sd mn md ln ld c N ls vs Z m := ⟨_, rfl⟩
              have hgm : ∀ m : Int, begD f sn sd mn md ln ld c N ls vs Z m = k m := fun m => by rw [hkd]
              rw [← hkd] at hk
              rw [hgm, hk] at hre
              simp only [hgm] at fb hbin
              have FB := Lib.hid fb; have HBI := Lib.hid hbin; have HRE := Lib.hid hre
              clear fb hbin hk hgm hkd hMM hre
              obtain ⟨x0, x1, x2, x3, x4, x5, x6, x7, x8, x9, x10⟩ := tw.moon
              go_wp2_with fail
              refine (FY.out _ (Z + 1) tw.2.2 (by omega) (by omega)).mono ?_
              rw [← HG2.out]
              rintro e w6 ⟨rfl, hb⟩
              replace tw := tw.step hb
              clear hb x0 x1 x2 x3 x4 x5 x6 x7 x8 x9 x10
              obtain ⟨x0, x1, x2, x3, x4, x5, x6, x7, x8, x9, x10⟩ := tw.moon
              go_wp2_with fail
              refine (ref_MoonMonths _ s f sn sd mn md ln ld c a1 a2 n1 c1 n2 c2 ls vs N Z OK.out (by omega) (by omega) (H.out.then_ tw.2.2)).mono ?_
              rw [← HMM.out]
              rintro e w7 ⟨rfl, hb⟩
              replace tw := tw.step hb
              clear hb x0 x1 x2 x3 x4 x5 x6 x7 x8 x9 x10
              go_wp2_with fail
              go_loopw [7] (fun t wr => ∃ (j : Nat), t = .int .i64 (j : Int) ∧ 1 ≤ j ∧ j ≤ MM ∧ monF k x j = monF k x MM ∧ Two w (.cells #[.string s, .int .i64 f, .int .i64 sn, .int .i64 sd, .int .i64 mn, .int .i64 md, .int .i64 ln, .int .i64 ld, .int .i64 c, .slice a1 n1 c1, .slice a2 n2 c2] 26) (.cells #[.int .i64 0, .int .i64 0, .int .i64 0] 39) wr) (fun t _ => (intOf t).toNat)
              case atStart => exact ⟨MM, rfl, by omega, by omega, rfl, tw⟩
              case round =>
                clear tw
                obtain ⟨j, rfl, j1, j2, hj, tw⟩ := hrel
                have HJ := Lib.hid hj; clear hj
                obtain ⟨bi1, bi2⟩ := HBI.out j j1 j2
                obtain ⟨G3, hG3⟩ : ∃ G, G = k (j : Int) := ⟨_, rfl⟩
                rw [← hG3] at bi1 bi2
                have HG3 := Lib.hid hG3; clear hG3
                have t5 : IntKind.i64.wrap ((j : Int) - 1) = (j : Int) - 1 := IntWalk.i64_in _ (by omega)
                have t6 : IntKind.i64.wrap (x - G3) = x - G3 := IntWalk.i64_in _ (by omega)
                have t7 : IntKind.i64.wrap (x - G3 + 1) = x - G3 + 1 := IntWalk.i64_in _ (by omega)
                obtain ⟨x0, x1, x2, x3, x4, x5, x6, x7, x8, x9, x10⟩ := tw.moon
                by_cases hj1 : 1 < (j : Int)
                · by_cases hlt : x < G3
                  · have hnx := Lib.hid (monF_next (g := k) (x := x) (show 2 ≤ j by omega) (by rw [← HG3.out]; exact hlt))
                    go_wp2_with fail
                    refine (FB.out _ j tw.2.2 j1 j2).mono ?_
                    rw [← HG3.out]
                    rintro e w8 ⟨rfl, hb⟩
                    replace tw := tw.step hb
                    clear hb x0 x1 x2 x3 x4 x5 x6 x7 x8 x9 x10
                    go_wp2_with fail
                    go_roundw
                    case rel => exact ⟨j - 1, by go_num, by omega, by omega, by rw [hnx.out, HJ.out], tw⟩
                    case measure => simp [intOf]; omega
                  · have hst := monF_stop (g := k) (x := x) j1 (by rw [← HG3.out]; omega)
                    have hfin := HRE.out
                    rw [← HJ.out, hst, ← HG3.out] at hfin
                    have HFIN := Lib.hid hfin
                    clear hst hfin
                    go_wp2_with fail
                    refine (FB.out _ j tw.2.2 j1 j2).mono ?_
                    rw [← HG3.out]
                    rintro e w8 ⟨rfl, hb⟩
                    replace tw := tw.step hb
                    clear hb x0 x1 x2 x3 x4 x5 x6 x7 x8 x9 x10
                    obtain ⟨x0, x1, x2, x3, x4, x5, x6, x7, x8, x9, x10⟩ := tw.moon
                    go_wp2_with fail
                    refine (FB.out _ j tw.2.2 j1 j2).mono ?_
                    rw [← HG3.out]
                    rintro e w9 ⟨rfl, hb⟩
                    replace tw := tw.step hb
                    clear hb x0 x1 x2 x3 x4 x5 x6 x7 x8 x9 x10
                    have ar := tw.2.1
                    have e0 := ar.cell 0; have e1 := ar.cell 1; have e2 := ar.cell 2; simp at e0 e1 e2
                    have z0 := ar.frozen 0; have z1 := ar.frozen 1; have z2 := ar.frozen 2
                    go_wp2_with fail
                    have ar3 := ar.store3 (.int .i64 Z) (.int .i64 (j : Int)) (.int .i64 (x - G3 + 1))
                    have b3 := below_set3 tw.2.2 (p := w.heap.size + 1) (by omega) (.int .i64 Z) (.int .i64 (j : Int)) (.int .i64 (x - G3 + 1))
                    clear e0 e1 e2 z0 z1 z2
                    generalize World.setCell (World.setCell _ _ _) _ _ = W9 at ar3 b3 ⊢
                    have e0 := ar3.cell 0; have e1 := ar3.cell 1; have e2 := ar3.cell 2; simp at e0 e1 e2
                    exact bodyPost_ret (v := .tuple #[.agg #[.int .i64 Z, .int .i64 (j : Int), .int .i64 (x - G3 + 1)], .int .i64 0]) (by simp [noDate, results, Try.results22, go_sem, e0, e1, e2]) rfl ⟨congrArg Ending.returned (HFIN.out).symm, b3⟩
                · have hje : j = 1 := by omega
                  subst hje
                  have hfin := HRE.out
                  rw [← HJ.out, monF_one, ← HG3.out] at hfin
                  have HFIN := Lib.hid hfin
                  clear hfin
                  go_wp2_with fail
                  refine (FB.out _ 1 tw.2.2 j1 j2).mono ?_
                  rw [← HG3.out]
                  rintro e w9 ⟨rfl, hb⟩
                  replace tw := tw.step hb
                  clear hb x0 x1 x2 x3 x4 x5 x6 x7 x8 x9 x10
                  have ar := tw.2.1
                  have e0 := ar.cell 0; have e1 := ar.cell 1; have e2 := ar.cell 2; simp at e0 e1 e2
                  have z0 := ar.frozen 0; have z1 := ar.frozen 1; have z2 := ar.frozen 2
                  go_wp2_with fail
                  have ar3 := ar.store3 (.int .i64 Z) (.int .i64 ((1 : Nat) : Int)) (.int .i64 (x - G3 + 1))
                  have b3 := below_set3 tw.2.2 (p := w.heap.size + 1) (by omega) (.int .i64 Z) (.int .i64 ((1 : Nat) : Int)) (.int .i64 (x - G3 + 1))
                  clear e0 e1 e2 z0 z1 z2
                  generalize World.setCell (World.setCell _ _ _) _ _ = W9 at ar3 b3 ⊢
                  have e0 := ar3.cell 0; have e1 := ar3.cell 1; have e2 := ar3.cell 2; simp at e0 e1 e2
                  exact bodyPost_ret (v := .tuple #[.agg #[.int .i64 Z, .int .i64 ((1 : Nat) : Int), .int .i64 (x - G3 + 1)], .int .i64 0]) (by simp [noDate, results, Try.results22, go_sem, e0, e1, e2]) rfl ⟨congrArg Ending.returned (HFIN.out).symm, b3⟩
        · go_wp2_with fail
          refine (FY.out _ Y tw.2.2 (by omega) (by omega)).mono ?_
          rw [← HGY.out]
          rintro e w3 ⟨rfl, hb⟩
          replace tw := tw.step hb
          clear hb x0 x1 x2 x3 x4 x5 x6 x7 x8 x9 x10
          go_wp2_with fail
          go_loopw [6] (fun t wr => ∃ Z : Int, t = .int .i64 Z ∧ -9999 ≤ Z ∧ Z ≤ 9999 ∧ g Z ≤ x ∧ Two w (.cells #[.string s, .int .i64 f, .int .i64 sn, .int .i64 sd, .int .i64 mn, .int .i64 md, .int .i64 ln, .int .i64 ld, .int .i64 c, .slice a1 n1 c1, .slice a2 n2 c2] 26) (.cells #[.int .i64 0, .int .i64 0, .int .i64 0] 39) wr) (fun t _ => (10000 - intOf t).toNat)
          case atStart => exact ⟨Y, rfl, Y1, Y2, by rw [← HGY.out]; omega, tw⟩
          case round =>
            clear tw HGY hgt hY
            obtain ⟨Z, rfl, Z1, Z2, hZ, tw⟩ := hrel
            have t4 : IntKind.i64.wrap (Z + 1) = Z + 1 := IntWalk.i64_in _ (by omega)
            obtain ⟨G2, hG2⟩ : ∃ G, G = g (Z + 1) := ⟨_, rfl⟩
            have HG2 := Lib.hid hG2; clear hG2
            by_cases hle : G2 ≤ x
            · obtain ⟨x0, x1, x2, x3, x4, x5, x6, x7, x8, x9, x10⟩ := tw.moon
              by_cases hT : Z + 1 = 10000
              · have hTb : (Z + 1 == 10000) = true := by simpa using hT
                have HNO := Lib.hid (HIGH.out (by rw [← hT, ← HG2.out]; exact hle))
                clear hT
                go_wp2_with fail
                refine (FY.out _ (Z + 1) tw.2.2 (by omega) (by omega)).mono ?_
                rw [← HG2.out]
                rintro e w6 ⟨rfl, hb⟩
                replace tw := tw.step hb
                clear hb x0 x1 x2 x3 x4 x5 x6 x7 x8 x9 x10
                have ar := tw.2.1
                have e0 := ar.cell 0; have e1 := ar.cell 1; have e2 := ar.cell 2; simp at e0 e1 e2
                have z0 := ar.frozen 0; have z1 := ar.frozen 1; have z2 := ar.frozen 2
                go_wp2_with fail
                have ar3 := ar.store3 (.int .i64 0) (.int .i64 0) (.int .i64 0)
                have b3 := below_set3 tw.2.2 (p := w.heap.size + 1) (by omega) (.int .i64 0) (.int .i64 0) (.int .i64 0)
                clear e0 e1 e2 z0 z1 z2
                generalize World.setCell (World.setCell _ _ _) _ _ = W9 at ar3 b3 ⊢
                have e0 := ar3.cell 0; have e1 := ar3.cell 1; have e2 := ar3.cell 2; simp at e0 e1 e2
                exact bodyPost_ret (v := noDate) (by simp [noDate, results, Try.results22, go_sem, e0, e1, e2]) rfl ⟨congrArg Ending.returned (HNO.out).symm, b3⟩
              · have hTb : (Z + 1 == 10000) = false := by simpa using hT
                go_wp2_with fail
                refine (FY.out _ (Z + 1) tw.2.2 (by omega) (by omega)).mono ?_
                rw [← HG2.out]
                rintro e w6 ⟨rfl, hb⟩
                replace tw := tw.step hb
                clear hb x0 x1 x2 x3 x4 x5 x6 x7 x8 x9 x10
                go_wp2_with fail
                go_roundw
                case rel => exact ⟨Z + 1, by go_num, by omega, by omega, by rw [← HG2.out]; exact hle, tw⟩
                case measure => simp [intOf]; omega
            · skip
              have hmm := mths_in c ls Z
              obtain ⟨MM, hMM⟩ : ∃ MM : Nat, (MM : Int) = mths c ls Z := ⟨(mths c ls Z).toNat, by omega⟩
              have hk : monK f sn sd mn md ln ld c N ls vs x Z = monF (fun m => begD f sn sd mn md ln ld c N ls vs Z m) x MM := by
                unfold monK; rw [← hMM]; rfl
              rw [← hMM] at hmm
              have HMM := Lib.hid hMM
              have fb : ∀ (W : World) (m : Nat), Below w.heap.size w W → 1 ≤ m → m ≤ MM → Calls Try.prog 17 #[.agg #[.string s, .int .i64 f, .int .i64 sn, .int .i64 sd, .int .i64 mn, .int .i64 md, .int .i64 ln, .int .i64 ld, .int .i64 c, .slice a1 n1 c1, .slice a2 n2 c2], .int .i64 Z, .int .i64 (m : Int)] W fun e w' => e = .returned (.int .i64 (begD f sn sd mn md ln ld c N ls vs Z (m : Int))) ∧ Below W.heap.size W w' := fun W m hW m1 m2 => ref_MoonBegin W s f sn sd mn md ln ld c a1 a2 n1 c1 n2 c2 ls vs N Z m OK.out (by omega) (by omega) (by omega) (by omega) (H.out.then_ hW)
              have hbin : ∀ m : Nat, 1 ≤ m → m ≤ MM → -16000000 ≤ begD f sn sd mn md ln ld c N ls vs Z (m : Int) ∧ begD f sn sd mn md ln ld c N ls vs Z (m : Int) ≤ 16000000 := fun m m1 m2 => begD_in OK.out Z m (by omega) (by omega) (by omega) (by omega)
              have hre := MID.out Z Z1 Z2 hZ (by rw [← HG2.out]; omega)
              unfold dateM at hre
              obtain ⟨k, hkd⟩ : ∃ k : Int → Int, k = fun m => begD f sn sd mn md ln ld c N ls vs Z m := ⟨_, rfl⟩
              have hgm : ∀ m : Int, begD f sn sd mn md ln ld c N ls vs Z m = k m := fun m => by rw [hkd]
              rw [← hkd] at hk
              rw [hgm, hk] at hre
              simp only [hgm] at fb hbin
              have FB := Lib.hid fb; have HBI := Lib.hid hbin; have HRE := Lib.hid hre
              clear fb hbin hk hgm hkd hMM hre
              obtain ⟨x0, x1, x2, x3, x4, x5, x6, x7, x8, x9, x10⟩ := tw.moon
              go_wp2_with fail
              refine (FY.out _ (Z + 1) tw.2.2 (by omega) (by omega)).mono ?_
              rw [← HG2.out]
              rintro e w6 ⟨rfl, hb⟩
              replace tw := tw.step hb
              clear hb x0 x1 x2 x3 x4 x5 x6 x7 x8 x9 x10
              obtain ⟨x0, x1, x2, x3, x4, x5, x6, x7, x8, x9, x10⟩ := tw.moon
              go_wp2_with fail
              refine (ref_MoonMonths _ s f sn sd mn md ln ld c a1 a2 n1 c1 n2 c2 ls vs N Z OK.out (by omega) (by omega) (H.out.then_ tw.2.2)).mono ?_
              rw [← HMM.out]
              rintro e w7 ⟨rfl, hb⟩
              replace tw := tw.step hb
              clear hb x0 x1 x2 x3 x4 x5 x6 x7 x8 x9 x10
              go_wp2_with fail
              go_loopw [7] (fun t wr => ∃ (j : Nat), t = .int .i64 (j : Int) ∧ 1 ≤ j ∧ j ≤ MM ∧ monF k x j = monF k x MM ∧ Two w (.cells #[.string s, .int .i64 f, .int .i64 sn, .int .i64 sd, .int .i64 mn, .int .i64 md, .int .i64 ln, .int .i64 ld, .int .i64 c, .slice a1 n1 c1, .slice a2 n2 c2] 26) (.cells #[.int .i64 0, .int .i64 0, .int .i64 0] 39) wr) (fun t _ => (intOf t).toNat)
              case atStart => exact ⟨MM, rfl, by omega, by omega, rfl, tw⟩
              case round =>
                clear tw
                obtain ⟨j, rfl, j1, j2, hj, tw⟩ := hrel
                have HJ := Lib.hid hj; clear hj
                obtain ⟨bi1, bi2⟩ := HBI.out j j1 j2
                obtain ⟨G3, hG3⟩ : ∃ G, G = k (j : Int) := ⟨_, rfl⟩
                rw [← hG3] at bi1 bi2
                have HG3 := Lib.hid hG3; clear hG3
                have t5 : IntKind.i64.wrap ((j : Int) - 1) = (j : Int) - 1 := IntWalk.i64_in _ (by omega)
                have t6 : IntKind.i64.wrap (x - G3) = x - G3 := IntWalk.i64_in _ (by omega)
                have t7 : IntKind.i64.wrap (x - G3 + 1) = x - G3 + 1 := IntWalk.i64_in _ (by omega)
                obtain ⟨x0, x1, x2, x3, x4, x5, x6, x7, x8, x9, x10⟩ := tw.moon
                by_cases hj1 : 1 < (j : Int)
                · by_cases hlt : x < G3
                  · have hnx := Lib.hid (monF_next (g := k) (x := x) (show 2 ≤ j by omega) (by rw [← HG3.out]; exact hlt))
                    go_wp2_with fail
                    refine (FB.out _ j tw.2.2 j1 j2).mono ?_
                    rw [← HG3.out]
                    rintro e w8 ⟨rfl, hb⟩
                    replace tw := tw.step hb
                    clear hb x0 x1 x2 x3 x4 x5 x6 x7 x8 x9 x10
                    go_wp2_with fail
                    go_roundw
                    case rel => exact ⟨j - 1, by go_num, by omega, by omega, by rw [hnx.out, HJ.out], tw⟩
                    case measure => simp [intOf]; omega
                  · have hst := monF_stop (g := k) (x := x) j1 (by rw [← HG3.out]; omega)
                    have hfin := HRE.out
                    rw [← HJ.out, hst, ← HG3.out] at hfin
                    have HFIN := Lib.hid hfin
                    clear hst hfin
                    go_wp2_with fail
                    refine (FB.out _ j tw.2.2 j1 j2).mono ?_
                    rw [← HG3.out]
                    rintro e w8 ⟨rfl, hb⟩
                    replace tw := tw.step hb
                    clear hb x0 x1 x2 x3 x4 x5 x6 x7 x8 x9 x10
                    obtain ⟨x0, x1, x2, x3, x4, x5, x6, x7, x8, x9, x10⟩ := tw.moon
                    go_wp2_with fail
                    refine (FB.out _ j tw.2.2 j1 j2).mono ?_
                    rw [← HG3.out]
                    rintro e w9 ⟨rfl, hb⟩
                    replace tw := tw.step hb
                    clear hb x0 x1 x2 x3 x4 x5 x6 x7 x8 x9 x10
                    have ar := tw.2.1
                    have e0 := ar.cell 0; have e1 := ar.cell 1; have e2 := ar.cell 2; simp at e0 e1 e2
                    have z0 := ar.frozen 0; have z1 := ar.frozen 1; have z2 := ar.frozen 2
                    go_wp2_with fail
                    have ar3 := ar.store3 (.int .i64 Z) (.int .i64 (j : Int)) (.int .i64 (x - G3 + 1))
                    have b3 := below_set3 tw.2.2 (p := w.heap.size + 1) (by omega) (.int .i64 Z) (.int .i64 (j : Int)) (.int .i64 (x - G3 + 1))
                    clear e0 e1 e2 z0 z1 z2
                    generalize World.setCell (World.setCell _ _ _) _ _ = W9 at ar3 b3 ⊢
                    have e0 := ar3.cell 0; have e1 := ar3.cell 1; have e2 := ar3.cell 2; simp at e0 e1 e2
                    exact bodyPost_ret (v := .tuple #[.agg #[.int .i64 Z, .int .i64 (j : Int), .int .i64 (x - G3 + 1)], .int .i64 0]) (by simp [noDate, results, Try.results22, go_sem, e0, e1, e2]) rfl ⟨congrArg Ending.returned (HFIN.out).symm, b3⟩
                · have hje : j = 1 := by omega
                  subst hje
                  have hfin := HRE.out
                  rw [← HJ.out, monF_one, ← HG3.out] at hfin
                  have HFIN := Lib.hid hfin
                  clear hfin
                  go_wp2_with fail
                  refine (FB.out _ 1 tw.2.2 j1 j2).mono ?_
                  rw [← HG3.out]
                  rintro e w9 ⟨rfl, hb⟩
                  replace tw := tw.step hb
                  clear hb x0 x1 x2 x3 x4 x5 x6 x7 x8 x9 x10
                  have ar := tw.2.1
                  have e0 := ar.cell 0; have e1 := ar.cell 1; have e2 := ar.cell 2; simp at e0 e1 e2
                  have z0 := ar.frozen 0; have z1 := ar.frozen 1; have z2 := ar.frozen 2
                  go_wp2_with fail
                  have ar3 := ar.store3 (.int .i64 Z) (.int .i64 ((1 : Nat) : Int)) (.int .i64 (x - G3 + 1))
                  have b3 := below_set3 tw.2.2 (p := w.heap.size + 1) (by omega) (.int .i64 Z) (.int .i64 ((1 : Nat) : Int)) (.int .i64 (x - G3 + 1))
                  clear e0 e1 e2 z0 z1 z2
                  generalize World.setCell (World.setCell _ _ _) _ _ = W9 at ar3 b3 ⊢
                  have e0 := ar3.cell 0; have e1 := ar3.cell 1; have e2 := ar3.cell 2; simp at e0 e1 e2
                  exact bodyPost_ret (v := .tuple #[.agg #[.int .i64 Z, .int .i64 ((1 : Nat) : Int), .int .i64 (x - G3 + 1)], .int .i64 0]) (by simp [noDate, results, Try.results22, go_sem, e0, e1, e2]) rfl ⟨congrArg Ending.returned (HFIN.out).symm, b3⟩
end Go.Proofs.Ytjekdceicjnamaa
