/- Contracts of arith.ToDay. -/
import Derived.Test.YtghecclgaaklaaaToDay
namespace Go.Proofs.Ytghecclgaaklaaa
set_option linter.unusedVariables false
set_option maxRecDepth 100000
open Go.RowKit

theorem arith_ToDay_err (w : World) (s : ByteArray) (f c : Int) (a1 a2 : Option Addr) (n1 c1 n2 c2 : Nat) (ms : List Mon) (ls : List Int) (y m d : Int) (hs : s.size ≤ 9223372036854775807) (k1 : n1 ≤ c1) (h : CalAt w a1 a2 n1 n2 ms ls) (q : ayErr (calErr s f c ms ls) y ≠ 0) :
    Calls Try.prog 65 #[.agg #[.string s, .int .i64 f, .int .i64 c, .slice a1 n1 c1, .slice a2 n2 c2], .agg #[.int .i64 y, .int .i64 m, .int .i64 d]] w fun e w' => e = .returned (.tuple #[.int .i64 0, .int .i64 (ayErr (calErr s f c ms ls) y)]) ∧ Below w.heap.size w w' := by
  have H := Lib.hid h; clear h
  obtain ⟨E, hE⟩ : ∃ E, E = ayErr (calErr s f c ms ls) y := ⟨_, rfl⟩
  rw [← hE] at q ⊢
  have HE := Lib.hid hE; clear hE
  have q' : (E != 0) = true := by simpa using q
  clear q
  go_enter Try.func65, Try.ntmps65
  go_wp2_with fail
  refine (arith_check _ _ _ _ _ _ _ _ _ _ ms ls y hs k1 ((H.out.alloc _).alloc _)).mono ?_; rw [← HE.out]; rintro e w1 ⟨rfl, hb⟩
  go_wp2_with fail
  go_ret2
  exact ⟨rfl, by (repeat' (first | exact Below.refl _ _ | assumption | refine Below.drew ?_ | refine below_drewN ?_ _ | refine below_new ?_ _ | refine below_set ?_ ?_ _ | refine below_then ?_ (by assumption) | refine below_drawn ?_ (by assumption) | exact Nat.le_refl _ | omega | (simp; done) | (simp; omega)))⟩
set_option maxHeartbeats 1000000 in
theorem arith_ToDay_month (w : World) (s : ByteArray) (f c : Int) (a1 a2 : Option Addr) (n1 c1 n2 c2 : Nat) (ms : List Mon) (ls : List Int) (y m d : Int) (hs : s.size ≤ 9223372036854775807) (k1 : n1 ≤ c1) (h : CalAt w a1 a2 n1 n2 ms ls) (q : calErr s f c ms ls = 0) (y1 : -10000 ≤ y) (y2 : y ≤ 10000) (hm : inB 1 (n1 : Int) m = false) :
    Calls Try.prog 65 #[.agg #[.string s, .int .i64 f, .int .i64 c, .slice a1 n1 c1, .slice a2 n2 c2], .agg #[.int .i64 y, .int .i64 m, .int .i64 d]] w fun e w' => e = .returned (.tuple #[.int .i64 0, .int .i64 1]) ∧ Below w.heap.size w w' := by
  have H := Lib.hid h; clear h
  have HE := Lib.hid (show ayErr (calErr s f c ms ls) y = 0 by rw [q, ayErr_ok y1 y2])
  clear q
  have hq : m < 1 ∨ (1 ≤ m ∧ (n1 : Int) < m) := by
    rcases inB_cases 1 (n1 : Int) m with ⟨h1, _⟩ | ⟨_, h2⟩
    · rw [hm] at h1; cases h1
    · omega
  clear hm
  rcases hq with q | ⟨q, q'⟩
  · have g1 : decide (m < 1) = true := by simpa using q
    go_enter Try.func65, Try.ntmps65
    go_wp2_with fail
    refine (arith_check _ _ _ _ _ _ _ _ _ _ ms ls y hs k1 ((H.out.alloc _).alloc _)).mono ?_; rw [HE.out]; rintro e w1 ⟨rfl, hb⟩
    have tw := (Two.new w (.cells #[.string s, .int .i64 f, .int .i64 c, .slice a1 n1 c1, .slice a2 n2 c2] 37) (.cells #[.int .i64 y, .int .i64 m, .int .i64 d] 23)).step hb
    clear hb
    obtain ⟨e0, e1, e2⟩ := tw.date
    obtain ⟨x0, x1, x2, x3, x4⟩ := tw.cal
    go_wp2_with fail
    go_quiet (fail)
    go_wp2_with fail
    go_ret2
    exact ⟨rfl, below_drewN tw.2.2 _⟩
  · have g1 : decide (m < 1) = false := by simp; omega
    have g2 : decide ((n1 : Int) < m) = true := by simpa using q'
    go_enter Try.func65, Try.ntmps65
    go_wp2_with fail
    refine (arith_check _ _ _ _ _ _ _ _ _ _ ms ls y hs k1 ((H.out.alloc _).alloc _)).mono ?_; rw [HE.out]; rintro e w1 ⟨rfl, hb⟩
    have tw := (Two.new w (.cells #[.string s, .int .i64 f, .int .i64 c, .slice a1 n1 c1, .slice a2 n2 c2] 37) (.cells #[.int .i64 y, .int .i64 m, .int .i64 d] 23)).step hb
    clear hb
    obtain ⟨e0, e1, e2⟩ := tw.date
    obtain ⟨x0, x1, x2, x3, x4⟩ := tw.cal
    go_wp2_with fail
    go_quiet (fail)
    go_wp2_with fail
    go_ret2
    exact ⟨rfl, below_drewN tw.2.2 _⟩
set_option maxHeartbeats 1000000 in
theorem arith_ToDay_day (w : World) (s : ByteArray) (f c : Int) (a1 a2 : Option Addr) (n1 c1 n2 c2 : Nat) (ms : List Mon) (ls : List Int) (y : Int) (k : Nat) (d : Int) (x : Mon) (hs : s.size ≤ 9223372036854775807) (k1 : n1 ≤ c1) (h : CalAt w a1 a2 n1 n2 ms ls) (q : calErr s f c ms ls = 0) (y1 : -10000 ≤ y) (y2 : y ≤ 10000) (hx : ms[k]? = some x) (hd : inB 1 (mlenOf x (flag ls (placeOf c y))) d = false) :
    Calls Try.prog 65 #[.agg #[.string s, .int .i64 f, .int .i64 c, .slice a1 n1 c1, .slice a2 n2 c2], .agg #[.int .i64 y, .int .i64 ((k : Int) + 1), .int .i64 d]] w fun e w' => e = .returned (.tuple #[.int .i64 0, .int .i64 1]) ∧ Below w.heap.size w w' := by
  have ok := calOk_of q
  obtain ⟨r1, r2, r3, r4⟩ := ok_n1 h ok
  have L1 := Lib.hid h.1.len
  have H := Lib.hid h; have OK := Lib.hid ok; have HX := Lib.hid hx
  have hk : k < n1 := by have := (List.getElem?_eq_some_iff.1 hx).1; have := L1.out; omega
  have HE := Lib.hid (show ayErr (calErr s f c ms ls) y = 0 by rw [q, ayErr_ok y1 y2])
  clear h ok hx q
  obtain ⟨ML, hML⟩ : ∃ ML, ML = mlenOf x (flag ls (placeOf c y)) := ⟨_, rfl⟩
  rw [← hML] at hd
  have HML := Lib.hid hML; clear hML
  have hq : d < 1 ∨ (1 ≤ d ∧ ML < d) := by
    rcases inB_cases 1 ML d with ⟨h1, _⟩ | ⟨_, h2⟩
    · rw [hd] at h1; cases h1
    · omega
  clear hd
  have g1 : decide ((k : Int) + 1 < 1) = false := by simp; omega
  have g2 : decide ((n1 : Int) < (k : Int) + 1) = false := by simp; omega
  rcases hq with q | ⟨q, q'⟩
  · have g3 : decide (d < 1) = true := by simpa using q
    go_enter Try.func65, Try.ntmps65
    go_wp2_with fail
    refine (arith_check _ _ _ _ _ _ _ _ _ _ ms ls y hs k1 ((H.out.alloc _).alloc _)).mono ?_; rw [HE.out]; rintro e w1 ⟨rfl, hb⟩
    have tw := (Two.new w (.cells #[.string s, .int .i64 f, .int .i64 c, .slice a1 n1 c1, .slice a2 n2 c2] 37) (.cells #[.int .i64 y, .int .i64 ((k : Int) + 1), .int .i64 d] 23)).step hb
    clear hb
    go_wp2_with fail
    obtain ⟨e0, e1, e2⟩ := tw.date
    obtain ⟨x0, x1, x2, x3, x4⟩ := tw.cal
    go_quiet (fail)
    go_wp2_with fail
    go_ret2
    exact ⟨rfl, below_drewN tw.2.2 _⟩
  · have g3 : decide (d < 1) = false := by simp; omega
    have g4 : decide (ML < d) = true := by simpa using q'
    go_enter Try.func65, Try.ntmps65
    go_wp2_with fail
    refine (arith_check _ _ _ _ _ _ _ _ _ _ ms ls y hs k1 ((H.out.alloc _).alloc _)).mono ?_; rw [HE.out]; rintro e w1 ⟨rfl, hb⟩
    have tw := (Two.new w (.cells #[.string s, .int .i64 f, .int .i64 c, .slice a1 n1 c1, .slice a2 n2 c2] 37) (.cells #[.int .i64 y, .int .i64 ((k : Int) + 1), .int .i64 d] 23)).step hb
    clear hb
    go_wp2_with fail
    (refine region_class (Two w (.cells #[.string s, .int .i64 f, .int .i64 c, .slice a1 n1 c1, .slice a2 n2 c2] 37) (.cells #[.int .i64 y, .int .i64 ((k : Int) + 1), .int .i64 d] 23)) (by kernel_rfl) (by kernel_rfl) (tw.drew) ?_; repeat ((first | (refine class_take ?_ (by rfl) ?_ ?_; rotate_left; focus (intro wq hq; ((obtain ⟨e0, e1, e2⟩ := hq.date; obtain ⟨x0, x1, x2, x3, x4⟩ := hq.cal)); go_simp; first | done | with_reducible rfl | (first | (go_at_call 107; refine (arith_length _ _ _ _ _ _ _ _ _ _ ms ls y k x OK.out.cy1 OK.out.cy2 OK.out.sorted r3 (by omega) (by omega) (H.out.then_ hq.2.2) r2 HX.out).mono ?_; rw [← HML.out]; rintro e w' ⟨rfl, hb⟩; refine ⟨?_, hq.step hb⟩; with_reducible rfl)))) | refine class_skip (by rfl) ?_); try simp only [Act.put, List.setIfInBounds_toArray, List.set_cons_zero, List.set_cons_succ]))
    refine wpQuiet_nil ?_
    intro W2 tw2
    go_wp2_with fail
    go_ret2
    exact ⟨rfl, tw2.2.2⟩
set_option maxHeartbeats 1000000 in
theorem arith_ToDay_ok (w : World) (s : ByteArray) (f c : Int) (a1 a2 : Option Addr) (n1 c1 n2 c2 : Nat) (ms : List Mon) (ls : List Int) (y : Int) (k : Nat) (d : Int) (x : Mon) (hs : s.size ≤ 9223372036854775807) (k1 : n1 ≤ c1) (h : CalAt w a1 a2 n1 n2 ms ls) (q : calErr s f c ms ls = 0) (y1 : -10000 ≤ y) (y2 : y ≤ 10000) (hx : ms[k]? = some x) (hd : inB 1 (mlenOf x (flag ls (placeOf c y))) d = true) :
    Calls Try.prog 65 #[.agg #[.string s, .int .i64 f, .int .i64 c, .slice a1 n1 c1, .slice a2 n2 c2], .agg #[.int .i64 y, .int .i64 ((k : Int) + 1), .int .i64 d]] w fun e w' => e = .returned (dayOr (dnum ms ls f c y k d)) ∧ Below w.heap.size w w' := by
  have hdb : 1 ≤ d ∧ d ≤ 400 := by
    have h1 := inB_iff.1 hd
    have h2 := mlenOf_bound (calOk_of q).lens hx (flag ls (placeOf c y))
    omega
  obtain ⟨d1, d2⟩ := hdb
  have ok := calOk_of q
  obtain ⟨r1, r2, r3, r4⟩ := ok_n1 h ok
  have L1 := Lib.hid h.1.len
  have H := Lib.hid h; have OK := Lib.hid ok; have HX := Lib.hid hx
  have hk : k < n1 := by have := (List.getElem?_eq_some_iff.1 hx).1; have := L1.out; omega
  have HE := Lib.hid (show ayErr (calErr s f c ms ls) y = 0 by rw [q, ayErr_ok y1 y2])
  clear h ok hx q
  obtain ⟨ML, hML⟩ : ∃ ML, ML = mlenOf x (flag ls (placeOf c y)) := ⟨_, rfl⟩
  rw [← hML] at hd
  have HML := Lib.hid hML; clear hML
  have hd' := inB_iff.1 hd
  clear hd
  have g1 : decide ((k : Int) + 1 < 1) = false := by simp; omega
  have g2 : decide ((n1 : Int) < (k : Int) + 1) = false := by simp; omega
  have g3 : decide (d < 1) = false := by simp; omega
  have g4 : decide (ML < d) = false := by simp; omega
  clear hd'
  go_enter Try.func65, Try.ntmps65
  go_wp2_with fail
  refine (arith_check _ _ _ _ _ _ _ _ _ _ ms ls y hs k1 ((H.out.alloc _).alloc _)).mono ?_; rw [HE.out]; rintro e w1 ⟨rfl, hb⟩
  have tw := (Two.new w (.cells #[.string s, .int .i64 f, .int .i64 c, .slice a1 n1 c1, .slice a2 n2 c2] 37) (.cells #[.int .i64 y, .int .i64 ((k : Int) + 1), .int .i64 d] 23)).step hb
  clear hb
  go_wp2_with fail
  (refine region_class (Two w (.cells #[.string s, .int .i64 f, .int .i64 c, .slice a1 n1 c1, .slice a2 n2 c2] 37) (.cells #[.int .i64 y, .int .i64 ((k : Int) + 1), .int .i64 d] 23)) (by kernel_rfl) (by kernel_rfl) (tw.drew) ?_; repeat ((first | (refine class_take ?_ (by rfl) ?_ ?_; rotate_left; focus (intro wq hq; ((obtain ⟨e0, e1, e2⟩ := hq.date; obtain ⟨x0, x1, x2, x3, x4⟩ := hq.cal)); go_simp; first | done | with_reducible rfl | (first | (go_at_call 107; refine (arith_length _ _ _ _ _ _ _ _ _ _ ms ls y k x OK.out.cy1 OK.out.cy2 OK.out.sorted r3 (by omega) (by omega) (H.out.then_ hq.2.2) r2 HX.out).mono ?_; rw [← HML.out]; rintro e w' ⟨rfl, hb⟩; refine ⟨?_, hq.step hb⟩; with_reducible rfl)))) | refine class_skip (by rfl) ?_); try simp only [Act.put, List.setIfInBounds_toArray, List.set_cons_zero, List.set_cons_succ]))
  refine wpQuiet_nil ?_
  intro W2 tw2
  clear tw g1 g2 g3 g4
  obtain ⟨e0, e1, e2⟩ := tw2.date
  obtain ⟨x0, x1, x2, x3, x4⟩ := tw2.cal
  go_wp2_with fail
  refine (arith_toDay _ _ _ _ _ _ _ _ _ _ ms ls y k d OK.out y1 y2 hk d1 d2 (H.out.then_ tw2.2.2)).mono ?_
  obtain ⟨u, v, huv⟩ : ∃ u v, dayOr (dnum ms ls f c y k d) = .tuple #[.int .i64 u, .int .i64 v] := by
    unfold dayOr; split
    · exact ⟨_, _, rfl⟩
    · exact ⟨_, _, rfl⟩
  rw [huv]
  have HUV := Lib.hid huv; clear huv
  rintro e w3 ⟨rfl, hb⟩
  have b3 := below_then tw2.2.2 hb
  go_wp2_with fail
  go_ret2
  exact ⟨by rw [HUV.out]; rfl, b3⟩
end Go.Proofs.Ytghecclgaaklaaa
