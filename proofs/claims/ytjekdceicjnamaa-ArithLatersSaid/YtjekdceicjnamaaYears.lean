/- Contracts of the methods IsLeap, Length, Month, NewYear of the reference's Years. -/
import Derived.Test.YtjekdceicjnamaaApart
namespace Go.Proofs.Ytjekdceicjnamaa
set_option linter.unusedVariables false
set_option maxRecDepth 100000
open Go.RowKit

/-- The marks of the leap years in memory. -/
def MarksAt (w : World) (g C : Nat) (ls : List Int) : Prop := At w g (.cells (boolCells (marks C ls)) 4)
theorem MarksAt.then_ {w w' : World} {g C : Nat} {ls : List Int} (h : MarksAt w g C ls) (k : Below w.heap.size w w') : MarksAt w' g C ls := At.then_ h k
theorem ref_Mod_at (a b p : Int) (hp : a % b = p) (w : World) (h1 : -9223372036854775808 ≤ a) (h2 : a ≤ 9223372036854775807) (h3 : 1 ≤ b) (h4 : b ≤ 9223372036854775807) :
    Calls Try.prog 69 #[.int .i64 a, .int .i64 b] w fun e w' => e = .returned (.int .i64 p) ∧ w = w' := by
  subst hp; exact ref_Mod a b w h1 h2 h3 h4
theorem years_IsLeap (w : World) (s : ByteArray) (f : Int) (C : Nat) (a1 a2 : Option Addr) (n1 c1 n2 c2 : Nat) (ms : List Mon) (ls : List Int) (g : Nat) (y : Int) (S L T : Int) (cy1 : 1 ≤ C) (cy2 : C ≤ 3000) (y1 : -100000000 ≤ y) (y2 : y ≤ 100000000) (hg : MarksAt w g C ls) :
    Calls Try.prog 34 #[.agg #[.string s, .int .i64 f, .int .i64 (C : Int), .slice a1 n1 c1, .slice a2 n2 c2, .slice (some ⟨g, 0, none⟩) C C, .int .i64 S, .int .i64 L, .int .i64 T], .int .i64 y] w fun e w' => e = .returned (.bool (flag ls (placeOf C y))) ∧ Below w.heap.size w w' := by
  obtain ⟨p1, p2⟩ := placeOf_in C y (by omega)
  obtain ⟨p, hp⟩ : ∃ p : Nat, placeOf C y = (p : Int) := ⟨(placeOf C y).toNat, by omega⟩
  rw [hp] at p1 p2 ⊢
  have hpC : p < C := by omega
  have hcg := (At.cell hg p).trans (marks_at C ls p hpC)
  have hgl := At.lt hg
  have HP := Lib.hid (show (y - 1) % (C : Int) = (p : Int) from hp)
  clear hp hg
  have t0 : IntKind.i64.wrap (y - 1) = y - 1 := IntWalk.i64_in _ (by omega)
  have t1 : -9223372036854775808 ≤ y - 1 := by omega
  have t2 : y - 1 ≤ 9223372036854775807 := by omega
  have t3 : 1 ≤ (C : Int) := by omega
  have t4 : (C : Int) ≤ 9223372036854775807 := by omega
  generalize flag ls (p : Int) = bb at hcg ⊢
  go_enter Try.func34, Try.ntmps34
  go_wp2_with fail
  go_quiet ((go_at_call 69; exact quiet_left (ref_Mod_at _ _ (p : Int) HP.out _ t1 t2 t3 t4)))
  clear t0
  go_wp2_with fail
  go_ret
  exact ⟨rfl, by (repeat' (first | exact Below.refl _ _ | assumption | refine Below.drew ?_ | refine below_drewN ?_ _ | refine below_new ?_ _ | refine below_set ?_ ?_ _ | refine below_then ?_ (by assumption) | refine below_drawn ?_ (by assumption) | exact Nat.le_refl _ | omega | (simp; done) | (simp; omega)))⟩
theorem years_Length (w : World) (s : ByteArray) (f : Int) (C : Nat) (a1 a2 : Option Addr) (n1 c1 n2 c2 : Nat) (ms : List Mon) (ls : List Int) (g : Nat) (y : Int) (S L T : Int) (cy1 : 1 ≤ C) (cy2 : C ≤ 3000) (y1 : -100000000 ≤ y) (y2 : y ≤ 100000000) (hg : MarksAt w g C ls) :
    Calls Try.prog 91 #[.agg #[.string s, .int .i64 f, .int .i64 (C : Int), .slice a1 n1 c1, .slice a2 n2 c2, .slice (some ⟨g, 0, none⟩) C C, .int .i64 S, .int .i64 L, .int .i64 T], .int .i64 y] w fun e w' => e = .returned (.int .i64 (lenY S L (flag ls (placeOf C y)))) ∧ Below w.heap.size w w' := by
  have HG := Lib.hid hg; clear hg
  obtain ⟨bb, hbb⟩ : ∃ bb, bb = flag ls (placeOf C y) := ⟨_, rfl⟩
  rw [← hbb]
  have HBB := Lib.hid hbb; clear hbb
  go_enter Try.func91, Try.ntmps91
  go_wp2_with fail
  refine (years_IsLeap _ s f C a1 a2 n1 c1 n2 c2 ms ls g y S L T cy1 cy2 y1 y2 (HG.out.then_ (below_new (Below.refl _ _) _))).mono ?_
  rw [← HBB.out]
  rintro e w1 ⟨rfl, hb⟩
  have a0 := (At.new w (.cells #[.string s, .int .i64 f, .int .i64 (C : Int), .slice a1 n1 c1, .slice a2 n2 c2, .slice (some ⟨g, 0, none⟩) C C, .int .i64 S, .int .i64 L, .int .i64 T] 54)).then_ hb
  have b0 : Below w.heap.size w w1 := by (repeat' (first | exact Below.refl _ _ | assumption | refine Below.drew ?_ | refine below_drewN ?_ _ | refine below_new ?_ _ | refine below_set ?_ ?_ _ | refine below_then ?_ (by assumption) | refine below_drawn ?_ (by assumption) | exact Nat.le_refl _ | omega | (simp; done) | (simp; omega)))
  clear hb HBB
  have d6 := a0.cell 6; have d7 := a0.cell 7
  simp at d6 d7
  cases bb
  all_goals
    go_wp2_with fail
    refine (ref_yes _ _).mono ?_; simp only [cond_true, cond_false]; rintro e w2 ⟨rfl, rfl⟩
    go_wp2_with fail
    go_ret
    exact ⟨rfl, b0⟩
theorem years_Month (w : World) (s : ByteArray) (f : Int) (C : Nat) (a1 a2 : Option Addr) (n1 c1 n2 c2 : Nat) (ms : List Mon) (ls : List Int) (g : Nat) (y : Int) (S L T : Int) (k : Nat) (x : Mon) (cy1 : 1 ≤ C) (cy2 : C ≤ 3000) (y1 : -100000000 ≤ y) (y2 : y ≤ 100000000) (hg : MarksAt w g C ls) (h : CalAt w a1 a2 n1 n2 ms ls) (hn1 : n1 ≤ 20) (hx : ms[k]? = some x) :
    Calls Try.prog 63 #[.agg #[.string s, .int .i64 f, .int .i64 (C : Int), .slice a1 n1 c1, .slice a2 n2 c2, .slice (some ⟨g, 0, none⟩) C C, .int .i64 S, .int .i64 L, .int .i64 T], .int .i64 y, .int .i64 ((k : Int) + 1)] w fun e w' => e = .returned (.int .i64 (mlenOf x (flag ls (placeOf C y)))) ∧ Below w.heap.size w w' := by
  have HG := Lib.hid hg; clear hg
  have hk : k < n1 := by have := (List.getElem?_eq_some_iff.1 hx).1; have := h.1.len; omega
  have H := Lib.hid h; clear h
  have HX := Lib.hid hx; clear hx
  obtain ⟨bb, hbb⟩ : ∃ bb, bb = flag ls (placeOf C y) := ⟨_, rfl⟩
  rw [← hbb]
  have HBB := Lib.hid hbb; clear hbb
  have tk : ((k : Int) + 1 - 1) = (k : Int) := by omega
  go_enter Try.func63, Try.ntmps63
  go_wp2_with fail
  refine (years_IsLeap _ s f C a1 a2 n1 c1 n2 c2 ms ls g y S L T cy1 cy2 y1 y2 (HG.out.then_ (below_new (Below.refl _ _) _))).mono ?_
  rw [← HBB.out]
  rintro e w1 ⟨rfl, hb⟩
  have a0 := (At.new w (.cells #[.string s, .int .i64 f, .int .i64 (C : Int), .slice a1 n1 c1, .slice a2 n2 c2, .slice (some ⟨g, 0, none⟩) C C, .int .i64 S, .int .i64 L, .int .i64 T] 54)).then_ hb
  have b0 : Below w.heap.size w w1 := by (repeat' (first | exact Below.refl _ _ | assumption | refine Below.drew ?_ | refine below_drewN ?_ _ | refine below_new ?_ _ | refine below_set ?_ ?_ _ | refine below_then ?_ (by assumption) | refine below_drawn ?_ (by assumption) | exact Nat.le_refl _ | omega | (simp; done) | (simp; omega)))
  clear hb HBB
  have d3 := a0.cell 3
  simp at d3
  obtain ⟨b, off, rfl, hbB, hcs⟩ := (H.out.then_ b0).1.open_ (by omega)
  obtain ⟨t, p, q, c0, c3, c4, hx', hs, f1, f2, g1, g2⟩ := hcs k hk
  obtain rfl : x = (t, p, q) := by have := HX.out.symm.trans hx'; injection this
  clear hcs hx' a0
  cases bb
  all_goals
    go_wp2_with fail
    go_ret
    exact ⟨rfl, b0⟩
theorem place_at (C : Nat) (q : Int) (i : Nat) (h : i < C) : placeOf C (1 + q * (C : Int) + (i : Int)) = (i : Int) := by
  unfold placeOf
  rw [show 1 + q * (C : Int) + (i : Int) - 1 = (i : Int) + (C : Int) * q by rw [Int.mul_comm]; omega, Int.add_mul_emod_self_left]
  exact Int.emod_eq_of_lt (by omega) (by omega)
set_option maxHeartbeats 1000000 in
theorem years_NewYear (w : World) (s : ByteArray) (f : Int) (C : Nat) (a1 a2 : Option Addr) (n1 c1 n2 c2 : Nat) (ms : List Mon) (ls : List Int) (g : Nat) (y : Int) (ok : CalOk s f C ms ls) (y1 : -20000 ≤ y) (y2 : y ≤ 20000) (hg : MarksAt w g C ls) :
    Calls Try.prog 92 #[.agg #[.string s, .int .i64 f, .int .i64 (C : Int), .slice a1 n1 c1, .slice a2 n2 c2, .slice (some ⟨g, 0, none⟩) C C, .int .i64 (shortOf ms), .int .i64 (longOf ms), .int .i64 (daysTo (shortOf ms) (longOf ms) ls (C : Int))], .int .i64 y] w fun e w' => e = .returned (.int .i64 (nyOf (shortOf ms) (longOf ms) f C ls y)) ∧ Below w.heap.size w w' := by
  have cy1 : 1 ≤ C := by have := ok.cy1; omega
  have cy2 : C ≤ 3000 := by have := ok.cy2; omega
  obtain ⟨p1, p2⟩ := placeOf_in C y (by omega)
  obtain ⟨p, hp⟩ : ∃ p : Nat, placeOf C y = (p : Int) := ⟨(placeOf C y).toNat, by omega⟩
  have hpC : p < C := by omega
  obtain ⟨q, hq⟩ : ∃ q, q = (y - 1) / (C : Int) := ⟨_, rfl⟩
  have hqb : -20001 ≤ q ∧ q ≤ 20001 := by
    rw [hq]
    constructor
    · rw [Int.le_ediv_iff_mul_le (by omega)]
      have h3 : -20001 * (C : Int) ≤ -20001 * 1 := by omega
      omega
    · refine Int.ediv_le_of_le_mul (by omega) ?_
      have h3 : 20001 * 1 ≤ 20001 * (C : Int) := by omega
      omega
  have hyq : y = 1 + q * (C : Int) + (p : Int) := by
    have h1 : (C : Int) * ((y - 1) / (C : Int)) + (y - 1) % (C : Int) = y - 1 := Int.mul_ediv_add_emod _ _
    rw [← hq] at h1
    have h2 : (y - 1) % (C : Int) = (p : Int) := hp
    rw [h2, Int.mul_comm] at h1
    omega
  have hny : nyOf (shortOf ms) (longOf ms) f C ls y = f + q * daysTo (shortOf ms) (longOf ms) ls C + daysTo (shortOf ms) (longOf ms) ls p := by
    unfold nyOf; rw [← hq]
    have h2 : (y - 1) % (C : Int) = (p : Int) := hp
    rw [h2]
  obtain ⟨T, hT⟩ : ∃ T, T = daysTo (shortOf ms) (longOf ms) ls C := ⟨_, rfl⟩
  have hTb := daysTo_bound (shortOf ms) (longOf ms) ls (C : Int) (by omega) (by omega) ok.sh1 ok.sh2 ok.lo1 ok.lo2 ok.sorted (fun z hz => (ok.leaps z hz).1)
  rw [← hT] at hny hTb ⊢
  have m1 := mul_in q T 20001 24000000 (by omega) (by omega) (by omega) (by omega)
  have m2 : -30000 ≤ q * (C : Int) ∧ q * (C : Int) ≤ 30000 := by omega
  have ep1 := ok.ep1; have ep2 := ok.ep2
  rw [hny]
  have hqf := Lib.hid hq.symm
  have HYQ := Lib.hid hyq
  have OK := Lib.hid ok; have HG := Lib.hid hg
  clear hny hq hp hg hT ok hyq
  obtain ⟨m1, m1'⟩ := m1
  obtain ⟨m2, m2'⟩ := m2
  obtain ⟨hT1, hT2⟩ := hTb
  obtain ⟨q1, q2⟩ := hqb
  have HD0 := Lib.hid (daysTo_zero (shortOf ms) (longOf ms) ls (fun z hz => (OK.out.leaps z hz).1))
  go_enter Try.func92, Try.ntmps92
  go_wp2_with fail
  refine (ref_Floor _ _ _ (by omega) (by omega) (by omega) (by omega)).mono ?_; rw [hqf.out]; rintro e w1 ⟨rfl, rfl⟩
  have a0 := At.new w (.cells #[.string s, .int .i64 f, .int .i64 (C : Int), .slice a1 n1 c1, .slice a2 n2 c2, .slice (some ⟨g, 0, none⟩) C C, .int .i64 (shortOf ms), .int .i64 (longOf ms), .int .i64 T] 54)
  have b0 := below_new (Below.refl w.heap.size w) (.cells #[.string s, .int .i64 f, .int .i64 (C : Int), .slice a1 n1 c1, .slice a2 n2 c2, .slice (some ⟨g, 0, none⟩) C C, .int .i64 (shortOf ms), .int .i64 (longOf ms), .int .i64 T] 54)
  generalize World.alloc w _ = W1 at a0 b0 ⊢
  have d1 := a0.cell 1; have d2 := a0.cell 2; have d8 := a0.cell 8
  simp at d1 d2 d8
  go_wp2_with fail
  clear d1 d2 d8
  go_loopw [6, 7] (fun t k wr => ∃ i : Nat, i ≤ p ∧ k = .int .i64 (1 + q * (C : Int) + (i : Int)) ∧ t = .int .i64 (f + q * T + daysTo (shortOf ms) (longOf ms) ls (i : Int)) ∧ At wr w.heap.size (.cells #[.string s, .int .i64 f, .int .i64 (C : Int), .slice a1 n1 c1, .slice a2 n2 c2, .slice (some ⟨g, 0, none⟩) C C, .int .i64 (shortOf ms), .int .i64 (longOf ms), .int .i64 T] 54) ∧ Below w.heap.size w wr) (fun _ k _ => (y - intOf k).toNat)
  case atStart => exact ⟨0, by omega, by simp, by rw [show ((0 : Nat) : Int) = 0 from rfl, HD0.out]; simp, a0, b0⟩
  case round =>
    clear a0 b0
    obtain ⟨i, hi, rfl, rfl, a0, b0⟩ := hrel
    have hdb := daysTo_bound (shortOf ms) (longOf ms) ls (i : Int) (by omega) (by omega) OK.out.sh1 OK.out.sh2 OK.out.lo1 OK.out.lo2 OK.out.sorted (fun z hz => (OK.out.leaps z hz).1)
    obtain ⟨db1, db2⟩ := hdb
    by_cases hlt : i < p
    · have hds := Lib.hid (daysTo_succ (shortOf ms) (longOf ms) ls (i : Int) OK.out.sorted)
      have hpl := Lib.hid (place_at C q i (by omega))
      have hky : 1 + q * (C : Int) + (i : Int) < y := by have := HYQ.out; omega
      have d0 := a0.cell 0; have d1 := a0.cell 1; have d2 := a0.cell 2; have d3 := a0.cell 3; have d4 := a0.cell 4; have d5 := a0.cell 5; have d6 := a0.cell 6; have d7 := a0.cell 7; have d8 := a0.cell 8; simp at d0 d1 d2 d3 d4 d5 d6 d7 d8
      generalize daysTo (shortOf ms) (longOf ms) ls (i : Int) = D at *
      go_wp2_with fail
      refine (years_Length _ s f C a1 a2 n1 c1 n2 c2 ms ls g _ _ _ _ cy1 cy2 (by omega) (by omega) (HG.out.then_ b0)).mono ?_
      rw [hpl.out]
      rintro e w2 ⟨rfl, hb⟩
      replace a0 := a0.then_ hb
      replace b0 := below_then b0 hb
      clear hb d0 d1 d2 d3 d4 d5 d6 d7 d8
      have sh1 := OK.out.sh1; have sh2 := OK.out.sh2; have lo1 := OK.out.lo1; have lo2 := OK.out.lo2
      have hlb : 0 ≤ lenY (shortOf ms) (longOf ms) (flag ls (i : Int)) ∧ lenY (shortOf ms) (longOf ms) (flag ls (i : Int)) ≤ 8000 := by
        unfold lenY; cases flag ls (i : Int) <;> simp only [cond_true, cond_false] <;> omega
      obtain ⟨lb1, lb2⟩ := hlb
      generalize lenY (shortOf ms) (longOf ms) (flag ls (i : Int)) = Z at *
      go_wp2_with fail
      go_roundw
      case rel => exact ⟨i + 1, by omega, by go_num, by rw [show ((i + 1 : Nat) : Int) = (i : Int) + 1 by omega, hds.out]; go_num, a0, b0⟩
      case measure => simp [intOf]; omega
    · obtain rfl : p = i := by omega
      have hky : ¬ 1 + q * (C : Int) + (p : Int) < y := by have := HYQ.out; omega
      go_wp2_with fail
      go_ret
      exact ⟨rfl, b0⟩
end Go.Proofs.Ytjekdceicjnamaa
