/- CompileTotals: the Go text returns true at every input, and writes nothing that was there. -/
import Derived.Test.YtghecclgaaklaaaFour
import Derived.Test.YtghecclgaaklaaaYears
namespace Go.Proofs.Ytghecclgaaklaaa.compileTotalsLaw
set_option linter.unusedVariables false
set_option maxRecDepth 100000
open Go.RowKit Go.ChangeShapes Go.WideShapes

theorem lit0 : calErr ⟨#[115, 109, 97, 108, 108]⟩ 1 4 smallMonths [4] = 0 := by decide +kernel
theorem lit1 : totalOut ⟨#[115, 109, 97, 108, 108]⟩ 1 4 smallMonths [4] = .tuple #[.int .i64 237, .int .i64 0] := by
  rw [totalOut, if_neg (by rw [lit0]; omega), show daysTo (shortOf smallMonths) (longOf smallMonths) [4] 4 = 237 by decide +kernel]
theorem place_k (C i : Nat) (h : i < C) : placeOf C ((i : Int) + 1) = (i : Int) := by
  have := place_at C 0 i h
  rw [show 1 + 0 * (C : Int) + (i : Int) = (i : Int) + 1 by omega] at this
  exact this
set_option maxHeartbeats 1000000 in
theorem core (w : World) (s : ByteArray) (f c : Int) (a1 a2 : Option Addr) (n1 c1 n2 c2 : Nat) (ms : List Mon) (ls : List Int) (hs : s.size ≤ 9223372036854775807) (k1 : n1 ≤ c1) (h : CalAt w a1 a2 n1 n2 ms ls) :
    Calls Try.prog 8 #[.agg #[.string s, .int .i64 f, .int .i64 c, .slice a1 n1 c1, .slice a2 n2 c2]] w fun e w' => e = .returned (.bool true) ∧ Below w.heap.size w w' := by
  have H := Lib.hid h; clear h
  go_enter Try.func8, Try.ntmps8
  go_wp2_with fail
  refine (law_small _).mono ?_
  rintro e w1 ⟨rfl, _, _, atm, hb⟩
  have a0 := (At.new w (.cells #[.string s, .int .i64 f, .int .i64 c, .slice a1 n1 c1, .slice a2 n2 c2] 37)).then_ hb
  have b0 : Below w.heap.size w w1 := by (repeat' (first | exact Below.refl _ _ | assumption | refine Below.drew ?_ | refine below_drewN ?_ _ | refine below_new ?_ _ | refine below_set ?_ ?_ _ | refine below_then ?_ (by assumption) | refine below_drawn ?_ (by assumption) | exact Nat.le_refl _ | omega | (simp; done) | (simp; omega)))
  clear hb
  simp only [World.size_alloc] at atm
  have ATM := Lib.hid atm; clear atm
  have hfd := fun W => small_field W (w.heap.size + 1)
  go_wp2_with fail
  clear hfd
  refine (compile_Total _ ⟨#[115, 109, 97, 108, 108]⟩ 1 4 _ _ 2 2 1 1 smallMonths [4] (by decide) (by omega) (four_at (ATM.out.alloc _) (At.new w1 _) (by unfold I64; omega))).mono ?_
  rw [lit1]
  rintro e w2 ⟨rfl, hb⟩
  replace a0 := (a0.alloc _).then_ hb
  replace b0 := below_then (below_new b0 _) hb
  clear hb
  have d0 := a0.cell 0; have d1 := a0.cell 1; have d2 := a0.cell 2; have d3 := a0.cell 3; have d4 := a0.cell 4; simp at d0 d1 d2 d3 d4
  go_wp2_with fail
  refine (compile_Total _ _ _ _ _ _ _ _ _ _ ms ls hs k1 (H.out.then_ b0)).mono ?_
  by_cases q : calErr s f c ms ls = 0
  case neg =>
    have q' : (calErr s f c ms ls != 0) = true := by simpa using q
    rw [totalOut, if_pos q]
    rintro e w3 ⟨rfl, hb⟩
    (replace a0 := a0.then_ hb); (replace b0 := below_then b0 hb); clear hb d0 d1 d2 d3 d4; have d0 := a0.cell 0; have d1 := a0.cell 1; have d2 := a0.cell 2; have d3 := a0.cell 3; have d4 := a0.cell 4; simp at d0 d1 d2 d3 d4
    clear q
    go_wp2_with fail
    refine (ref_CalendarError _ _ _ _ _ _ _ _ _ _ ms ls hs (H.out.then_ b0).1 (H.out.then_ b0).2).mono ?_
    rintro e w4 ⟨rfl, hb⟩
    go_wp2_with fail
    go_ret
    exact ⟨rfl, by (repeat' (first | exact Below.refl _ _ | assumption | refine Below.drew ?_ | refine below_drewN ?_ _ | refine below_new ?_ _ | refine below_set ?_ ?_ _ | refine below_then ?_ (by assumption) | refine below_drawn ?_ (by assumption) | exact Nat.le_refl _ | omega | (simp; done) | (simp; omega)))⟩
  rw [totalOut, if_neg (by simpa using q)]
  have ok := calOk_of q
  obtain ⟨C, rfl⟩ : ∃ C : Nat, c = (C : Int) := ⟨c.toNat, by have := ok.cy1; omega⟩
  have cy1 : 1 ≤ C := by have := ok.cy1; omega
  have cy2 : C ≤ 3000 := by have := ok.cy2; omega
  have HQ := Lib.hid q; have OK := Lib.hid ok; clear q ok
  rintro e w3 ⟨rfl, hb⟩
  (replace a0 := a0.then_ hb); (replace b0 := below_then b0 hb); clear hb d0 d1 d2 d3 d4; have d0 := a0.cell 0; have d1 := a0.cell 1; have d2 := a0.cell 2; have d3 := a0.cell 3; have d4 := a0.cell 4; simp at d0 d1 d2 d3 d4
  go_wp2_with fail
  refine (ref_CalendarError _ _ _ _ _ _ _ _ _ _ ms ls hs (H.out.then_ b0).1 (H.out.then_ b0).2).mono ?_
  rw [HQ.out]
  rintro e w4 ⟨rfl, hb⟩
  (replace a0 := a0.then_ hb); (replace b0 := below_then b0 hb); clear hb d0 d1 d2 d3 d4; have d0 := a0.cell 0; have d1 := a0.cell 1; have d2 := a0.cell 2; have d3 := a0.cell 3; have d4 := a0.cell 4; simp at d0 d1 d2 d3 d4
  go_wp2_with fail
  refine (ref_Apart _ s f C a1 a2 n1 c1 n2 c2 ms ls OK.out (H.out.then_ b0)).mono ?_
  rintro e w5 ⟨g, rfl, hmk, hb⟩
  replace a0 := a0.then_ hb
  replace b0 := below_then b0 hb
  clear hb d0 d1 d2 d3 d4
  have HM := Lib.hid (show MarksAt w5 g C ls from hmk); clear hmk
  go_wp2_with fail
  have ay := At.new w5 (.cells #[.string s, .int .i64 f, .int .i64 (C : Int), .slice a1 n1 c1, .slice a2 n2 c2, .slice (some ⟨g, 0, none⟩) C C, .int .i64 (shortOf ms), .int .i64 (longOf ms), .int .i64 (daysTo (shortOf ms) (longOf ms) ls (C : Int))] 68)
  have a0' := a0.alloc (.cells #[.string s, .int .i64 f, .int .i64 (C : Int), .slice a1 n1 c1, .slice a2 n2 c2, .slice (some ⟨g, 0, none⟩) C C, .int .i64 (shortOf ms), .int .i64 (longOf ms), .int .i64 (daysTo (shortOf ms) (longOf ms) ls (C : Int))] 68)
  have b0' := below_new b0 (.cells #[.string s, .int .i64 f, .int .i64 (C : Int), .slice a1 n1 c1, .slice a2 n2 c2, .slice (some ⟨g, 0, none⟩) C C, .int .i64 (shortOf ms), .int .i64 (longOf ms), .int .i64 (daysTo (shortOf ms) (longOf ms) ls (C : Int))] 68)
  have HM' := Lib.hid (HM.out.then_ (below_of_new w5 (.cells #[.string s, .int .i64 f, .int .i64 (C : Int), .slice a1 n1 c1, .slice a2 n2 c2, .slice (some ⟨g, 0, none⟩) C C, .int .i64 (shortOf ms), .int .i64 (longOf ms), .int .i64 (daysTo (shortOf ms) (longOf ms) ls (C : Int))] 68)))
  clear a0 b0 HM
  generalize World.alloc w5 _ = W5 at ay a0' b0' HM' ⊢
  have HD0 := Lib.hid (daysTo_zero (shortOf ms) (longOf ms) ls (fun z hz => (OK.out.leaps z hz).1))
  go_loopw [9, 10] (fun t k wr => ∃ i : Nat, i ≤ C ∧ k = .int .i64 ((i : Int) + 1) ∧ t = .int .i64 (daysTo (shortOf ms) (longOf ms) ls (i : Int)) ∧ At wr w.heap.size (.cells #[.string s, .int .i64 f, .int .i64 (C : Int), .slice a1 n1 c1, .slice a2 n2 c2] 37) ∧ At wr w5.heap.size (.cells #[.string s, .int .i64 f, .int .i64 (C : Int), .slice a1 n1 c1, .slice a2 n2 c2, .slice (some ⟨g, 0, none⟩) C C, .int .i64 (shortOf ms), .int .i64 (longOf ms), .int .i64 (daysTo (shortOf ms) (longOf ms) ls (C : Int))] 68) ∧ MarksAt wr g C ls ∧ Below w.heap.size w wr) (fun _ k _ => C + 1 - (intOf k).toNat)
  case atStart => exact ⟨0, by omega, rfl, by rw [show ((0 : Nat) : Int) = 0 from rfl, HD0.out], a0', ay, HM'.out, b0'⟩
  case round =>
    clear ay a0' b0' HM'
    obtain ⟨i, hi, rfl, rfl, a0, ay, hM, b0⟩ := hrel
    have hdb := daysTo_bound (shortOf ms) (longOf ms) ls (i : Int) (by omega) (by omega) OK.out.sh1 OK.out.sh2 OK.out.lo1 OK.out.lo2 OK.out.sorted (fun z hz => (OK.out.leaps z hz).1)
    obtain ⟨db1, db2⟩ := hdb
    have d2 := a0.cell 2
    simp at d2
    have HM := Lib.hid hM; clear hM
    by_cases hlt : i < C
    · have hds := Lib.hid (daysTo_succ (shortOf ms) (longOf ms) ls (i : Int) OK.out.sorted)
      have hpl := Lib.hid (place_k C i hlt)
      have f0 := ay.cell 0; have f1 := ay.cell 1; have f2 := ay.cell 2; have f3 := ay.cell 3; have f4 := ay.cell 4; have f5 := ay.cell 5; have f6 := ay.cell 6; have f7 := ay.cell 7; have f8 := ay.cell 8; simp at f0 f1 f2 f3 f4 f5 f6 f7 f8
      generalize hDi : daysTo (shortOf ms) (longOf ms) ls (i : Int) = D at db1 db2 hds ⊢
      clear hDi
      go_wp2_with fail
      refine (years_Length _ s f C a1 a2 n1 c1 n2 c2 ms ls g _ _ _ _ cy1 cy2 (by omega) (by omega) HM.out).mono ?_
      rw [hpl.out]
      rintro e w6 ⟨rfl, hb⟩
      clear f0 f1 f2 f3 f4 f5 f6 f7 f8
      have sh1 := OK.out.sh1; have sh2 := OK.out.sh2; have lo1 := OK.out.lo1; have lo2 := OK.out.lo2
      have hlb : 0 ≤ lenY (shortOf ms) (longOf ms) (flag ls (i : Int)) ∧ lenY (shortOf ms) (longOf ms) (flag ls (i : Int)) ≤ 8000 := by
        unfold lenY; cases flag ls (i : Int) <;> simp only [cond_true, cond_false] <;> omega
      obtain ⟨lb1, lb2⟩ := hlb
      generalize lenY (shortOf ms) (longOf ms) (flag ls (i : Int)) = Z at *
      go_wp2_with fail
      go_roundw
      case rel => exact ⟨i + 1, by omega, by go_num, by rw [show ((i + 1 : Nat) : Int) = (i : Int) + 1 by omega, hds.out], a0.then_ hb, ay.then_ hb, HM.out.then_ hb, below_then b0 hb⟩
      case measure => simp [intOf]; omega
    · obtain rfl : C = i := by omega
      go_wp2_with fail
      go_ret
      exact ⟨rfl, b0⟩
theorem walk {H : Type} {enc : TypeId × Value → H} {v0 : Value} {d0 : DataW H} {p0 : List MemPlace} {base : Nat} (W : World)
    (o0 : Value.okWide Try.prog W .any base 37 v0) (h0 : DataW.Trod enc Try.prog W 0 (fun _ => true) true 37 v0 d0 p0) :
    Calls Try.prog 8 #[v0] W fun e w' => e = .returned (.bool true) ∧ Below W.heap.size W w' := by
  obtain ⟨s, f, c, a1, a2, n1, c1, n2, c2, ms, ls, rfl, hs, hf, hc, k1, k2, m1, m2, h1', h2'⟩ := open_Calendar o0 h0
  exact core W s f c a1 a2 n1 c1 n2 c2 ms ls hs k1 ⟨h1', h2'⟩
end Go.Proofs.Ytghecclgaaklaaa.compileTotalsLaw
