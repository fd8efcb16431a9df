/- Contracts of arith's inner functions isYear, check, place, leap, length, newYear. -/
import Derived.Test.YtjekdceicjnamaaArith1
namespace Go.Proofs.Ytjekdceicjnamaa
set_option linter.unusedVariables false
set_option maxRecDepth 100000
open Go.RowKit

theorem quiet_drawn {P : Program} {f : FuncId} {args : Array Value} {w : World} {n : Nat} {v : Value}
    (h : Calls P f args (w.drewN n) fun e w' => e = .returned v ∧ Drawn (w.drewN n) w') : Calls P f args (w.drewN n) fun e w'' => e = .returned v ∧ ∃ m, w'' = w.drewN m :=
  h.mono fun _ _ ⟨he, m, hm⟩ => ⟨he, n + m, by rw [hm, World.drewN_drewN]⟩
theorem mul_in (a b A B : Int) (h1 : -A ≤ a) (h2 : a ≤ A) (h3 : -B ≤ b) (h4 : b ≤ B) : -(A * B) ≤ a * b ∧ a * b ≤ A * B := by
  have e1 : (a * b).natAbs = a.natAbs * b.natAbs := Int.natAbs_mul a b
  have e2 : a.natAbs * b.natAbs ≤ A.natAbs * B.natAbs := Nat.mul_le_mul (by omega) (by omega)
  have e3 : (A * B).natAbs = A.natAbs * B.natAbs := Int.natAbs_mul A B
  have e4 : 0 ≤ A * B := Int.mul_nonneg (by omega) (by omega)
  omega
theorem cnt_index (k : Int) : ∀ (l : List Int), l.Pairwise (· < ·) → ∀ (j : Nat) (y : Int), l[j]? = some y → (j < cnt l k ↔ y ≤ k)
  | [], _, j, y, h => by simp at h
  | y0 :: l, hp, j, y, h => by
    obtain ⟨h1, h2⟩ := List.pairwise_cons.1 hp
    rw [cnt_cons]
    by_cases hy : y0 ≤ k
    · rw [if_pos hy]
      cases j with
      | zero => simp at h; subst h; omega
      | succ j =>
        simp at h
        have := cnt_index k l h2 j y h
        omega
    · rw [if_neg hy, cnt_zero fun z hz => by have := h1 z hz; omega]
      have : y0 ≤ y := by
        rcases List.mem_cons.1 (List.mem_of_getElem? h) with q | q
        · omega
        · have := h1 y q; omega
      omega
theorem leap_at {l : List Int} (hp : l.Pairwise (· < ·)) (r : Int) : (∀ y, l[cnt l (r - 1)]? = some y → (y == r) = decide (r ∈ l)) ∧ (l.length ≤ cnt l (r - 1) → decide (r ∈ l) = false) := by
  have hg := List.pairwise_iff_getElem.1 hp
  have key : r ∈ l → l[cnt l (r - 1)]? = some r := by
    intro hr
    obtain ⟨j, hj, rfl⟩ := List.getElem_of_mem hr
    have c1 := cnt_index (l[j] - 1) l hp j l[j] (List.getElem?_eq_getElem hj)
    rcases Nat.lt_or_ge (cnt l (l[j] - 1)) j with q | q
    · have c2 := cnt_index (l[j] - 1) l hp _ _ (List.getElem?_eq_getElem (show cnt l (l[j] - 1) < l.length by omega))
      have := hg _ _ (by omega) hj q
      omega
    · have : cnt l (l[j] - 1) = j := by omega
      rw [this]; exact List.getElem?_eq_getElem hj
  constructor
  · intro y hy
    by_cases hr : r ∈ l
    · rw [decide_eq_true hr]
      have := (key hr).symm.trans hy
      injection this with this
      simp [this]
    · rw [decide_eq_false hr]
      have hm := List.mem_of_getElem? hy
      simp; rintro rfl; exact hr hm
  · intro h
    refine decide_eq_false fun hr => ?_
    have := (List.getElem?_eq_some_iff.1 (key hr)).1
    omega
/-- The days before a year, of any size. -/
def nyOf (S L f c : Int) (ls : List Int) (y : Int) : Int := f + (y - 1) / c * daysTo S L ls c + daysTo S L ls ((y - 1) % c)
/-- The place of a year in its cycle, from 0 on. -/
def placeOf (c y : Int) : Int := (y - 1) % c
theorem placeOf_in (c y : Int) (h : 1 ≤ c) : 0 ≤ placeOf c y ∧ placeOf c y < c := ⟨Int.emod_nonneg _ (by omega), Int.emod_lt_of_pos _ (by omega)⟩

theorem arith_isYear (x : Int) (w : World) : Calls Try.prog 56 #[.int .i64 x] w fun e w' => e = .returned (.bool (inB (-10000) 10000 x)) ∧ w = w' := by
  by_cases h1 : -10000 ≤ x
  · by_cases h2 : x ≤ 10000
    · have ho := Lib.hid (inB_yes h1 h2)
      go_enter Try.func56, Try.ntmps56
      go_wp2_with fail
      go_ret
      exact ⟨ret_bool (by rw [ho.out]), rfl⟩
    · have ho := Lib.hid (inB_no (l := -10000) (h := 10000) (x := x) (by omega))
      go_enter Try.func56, Try.ntmps56
      go_wp2_with fail
      go_ret
      exact ⟨ret_bool (by rw [ho.out]), rfl⟩
  · have ho := Lib.hid (inB_no (l := -10000) (h := 10000) (x := x) (by omega))
    go_enter Try.func56, Try.ntmps56
    go_wp2_with fail
    go_ret
    exact ⟨ret_bool (by rw [ho.out]), rfl⟩
/-- The error of a calendar and a year. -/
def ayErr (e : Int) (y : Int) : Int := if e ≠ 0 then e else if inB (-10000) 10000 y then 0 else 3
theorem arith_place (w : World) (s : ByteArray) (f c : Int) (a1 a2 : Option Addr) (n1 c1 n2 c2 : Nat) (y : Int) (cy1 : 1 ≤ c) (cy2 : c ≤ 3000) (y1 : -1000000 ≤ y) (y2 : y ≤ 1000000) :
    Calls Try.prog 104 #[.agg #[.string s, .int .i64 f, .int .i64 c, .slice a1 n1 c1, .slice a2 n2 c2], .int .i64 y] w fun e w' => e = .returned (.int .i64 (placeOf c y + 1)) ∧ Below w.heap.size w w' := by
  obtain ⟨p1, p2⟩ := placeOf_in c y cy1
  have hp := Lib.hid (show (y - 1) % c = placeOf c y from rfl)
  go_enter Try.func104, Try.ntmps104
  go_wp2_with fail
  refine (whole_Mod _ _ _ (by omega) (by omega) (by omega) (by omega)).mono ?_; rw [hp.out]; rintro e w1 ⟨rfl, hd⟩
  go_wp2_with fail
  go_ret
  exact ⟨rfl, by (repeat' (first | exact Below.refl _ _ | assumption | refine Below.drew ?_ | refine below_drewN ?_ _ | refine below_new ?_ _ | refine below_set ?_ ?_ _ | refine below_then ?_ (by assumption) | refine below_drawn ?_ (by assumption) | exact Nat.le_refl _ | omega | (simp; done) | (simp; omega)))⟩
set_option maxHeartbeats 1000000 in
theorem arith_leap (w : World) (s : ByteArray) (f c : Int) (a1 a2 : Option Addr) (n1 c1 n2 c2 : Nat) (ms : List Mon) (ls : List Int) (y : Int) (cy1 : 1 ≤ c) (cy2 : c ≤ 3000) (hl : ls.Pairwise (· < ·)) (hn2 : n2 ≤ 3000) (y1 : -1000000 ≤ y) (y2 : y ≤ 1000000) (h : CalAt w a1 a2 n1 n2 ms ls) :
    Calls Try.prog 90 #[.agg #[.string s, .int .i64 f, .int .i64 c, .slice a1 n1 c1, .slice a2 n2 c2], .int .i64 y] w fun e w' => e = .returned (.bool (flag ls (placeOf c y))) ∧ Below w.heap.size w w' := by
  obtain ⟨p1, p2⟩ := placeOf_in c y cy1
  have H := Lib.hid h; have HL := Lib.hid hl
  have L2 := Lib.hid h.2.1
  clear h hl
  go_enter Try.func90, Try.ntmps90
  go_wp2_with fail
  refine (arith_place _ s f c a1 a2 n1 c1 n2 c2 y cy1 cy2 y1 y2).mono ?_; rintro e w1 ⟨rfl, hb⟩
  have a0 := (At.new w (.cells #[.string s, .int .i64 f, .int .i64 c, .slice a1 n1 c1, .slice a2 n2 c2] 47)).then_ hb
  have b0 : Below w.heap.size w w1 := by (repeat' (first | exact Below.refl _ _ | assumption | refine Below.drew ?_ | refine below_drewN ?_ _ | refine below_new ?_ _ | refine below_set ?_ ?_ _ | refine below_then ?_ (by assumption) | refine below_drawn ?_ (by assumption) | exact Nat.le_refl _ | omega | (simp; done) | (simp; omega)))
  clear hb
  have d0 := a0.cell 0; have d1 := a0.cell 1; have d2 := a0.cell 2; have d3 := a0.cell 3; have d4 := a0.cell 4; simp at d0 d1 d2 d3 d4
  go_wp2_with fail
  refine (sort_SearchInts _ _ _ _ ls _ (H.out.then_ b0).2 HL.out (by omega)).mono ?_; rintro e w2 ⟨rfl, hb⟩
  replace a0 := a0.then_ hb
  replace b0 := below_then b0 hb
  clear hb d0 d1 d2 d3 d4
  have d0 := a0.cell 0; have d1 := a0.cell 1; have d2 := a0.cell 2; have d3 := a0.cell 3; have d4 := a0.cell 4; simp at d0 d1 d2 d3 d4
  have hla := leap_at HL.out (placeOf c y + 1)
  obtain ⟨i, hi⟩ : ∃ i, i = cnt ls (placeOf c y + 1 - 1) := ⟨_, rfl⟩
  rw [← hi] at hla ⊢
  have HLA := Lib.hid hla
  clear hla hi
  have hfl := Lib.hid (show flag ls (placeOf c y) = decide (placeOf c y + 1 ∈ ls) from rfl)
  by_cases hlt : i < n2
  · obtain ⟨b, off, y', rfl, hbB, cy, hx, y3, y4⟩ := (H.out.then_ b0).2.at_ hlt
    have hval := Lib.hid (HLA.out.1 y' hx)
    have hlt' : decide ((i : Int) < (n2 : Int)) = true := by simpa using hlt
    clear hx
    go_wp2_with fail
    go_ret
    exact ⟨ret_bool (by rw [hfl.out, ← hval.out]), b0⟩
  · have hval := Lib.hid (HLA.out.2 (by have := L2.out; omega))
    go_wp2_with fail
    go_ret
    exact ⟨ret_bool (by rw [hfl.out, hval.out]), b0⟩
/-- The length of a month of a year. -/
def mlenOf (x : Mon) (b : Bool) : Int := bif b then x.2.2 else x.2.1
set_option maxHeartbeats 1000000 in
theorem arith_length (w : World) (s : ByteArray) (f c : Int) (a1 a2 : Option Addr) (n1 c1 n2 c2 : Nat) (ms : List Mon) (ls : List Int) (y : Int) (k : Nat) (x : Mon) (cy1 : 1 ≤ c) (cy2 : c ≤ 3000) (hl : ls.Pairwise (· < ·)) (hn2 : n2 ≤ 3000) (y1 : -1000000 ≤ y) (y2 : y ≤ 1000000) (h : CalAt w a1 a2 n1 n2 ms ls) (hn1 : n1 ≤ 20) (hx : ms[k]? = some x) :
    Calls Try.prog 57 #[.agg #[.string s, .int .i64 f, .int .i64 c, .slice a1 n1 c1, .slice a2 n2 c2], .int .i64 y, .int .i64 ((k : Int) + 1)] w fun e w' => e = .returned (.int .i64 (mlenOf x (flag ls (placeOf c y)))) ∧ Below w.heap.size w w' := by
  have hk : k < n1 := by have := (List.getElem?_eq_some_iff.1 hx).1; have := h.1.len; omega
  obtain ⟨b, off, rfl, hbB, hcs⟩ := h.1.open_ (by omega)
  obtain ⟨t, p, q, c0, c3, c4, hx', hs, f1, f2, g1, g2⟩ := hcs k hk
  obtain rfl : x = (t, p, q) := by rw [hx] at hx'; injection hx'
  clear hcs hx hx'
  have H := Lib.hid h; have HL := Lib.hid hl
  clear h hl
  have tk : ((k : Int) + 1 - 1) = (k : Int) := by omega
  obtain ⟨bb, hbb⟩ : ∃ bb, bb = flag ls (placeOf c y) := ⟨_, rfl⟩
  rw [← hbb]
  have HBB := Lib.hid hbb; clear hbb
  go_enter Try.func57, Try.ntmps57
  go_wp2_with fail
  refine (arith_leap _ s f c _ a2 n1 c1 n2 c2 ms ls y cy1 cy2 HL.out hn2 y1 y2 ((H.out.alloc _).alloc _)).mono ?_; rw [← HBB.out]; rintro e w1 ⟨rfl, hb⟩
  have a0 := (At.new1 w (.cells #[.string s, .int .i64 f, .int .i64 c, .slice (some ⟨b, off, none⟩) n1 c1, .slice a2 n2 c2] 47) (.cells #[.string t, .int .i64 p, .int .i64 q] 91)).then_ hb
  have b0 : Below w.heap.size w w1 := by (repeat' (first | exact Below.refl _ _ | assumption | refine Below.drew ?_ | refine below_drewN ?_ _ | refine below_new ?_ _ | refine below_set ?_ ?_ _ | refine below_then ?_ (by assumption) | refine below_drawn ?_ (by assumption) | exact Nat.le_refl _ | omega | (simp; done) | (simp; omega)))
  clear hb
  have d0 := a0.cell 0; have d1 := a0.cell 1; have d2 := a0.cell 2; simp at d0 d1 d2
  clear HBB
  cases bb
  all_goals
    go_wp2_with fail
    go_ret
    exact ⟨rfl, b0⟩
theorem daysTo_bound (S L : Int) (ls : List Int) (i : Int) (h1 : 0 ≤ i) (h2 : i ≤ 3000) (s1 : 1 ≤ S) (s2 : S ≤ 8000) (l1 : 1 ≤ L) (l2 : L ≤ 8000) (hp : ls.Pairwise (· < ·)) (hl : ∀ y ∈ ls, 1 ≤ y) : i ≤ daysTo S L ls i ∧ daysTo S L ls i ≤ 8000 * i := by
  have key : ∀ k : Nat, k ≤ 3000 → (k : Int) ≤ daysTo S L ls k ∧ daysTo S L ls k ≤ 8000 * k := by
    intro k
    induction k with
    | zero => intro _; have := daysTo_zero S L ls hl; simp [this]
    | succ k ih =>
      intro hk
      have h := daysTo_succ S L ls k hp
      have := ih (by omega)
      have e : ((k + 1 : Nat) : Int) = (k : Int) + 1 := by omega
      rw [e, h]
      cases flag ls k <;> simp only [lenY, cond_true, cond_false] <;> omega
  have := key i.toNat (by omega)
  rwa [show ((i.toNat : Nat) : Int) = i by omega] at this
set_option maxHeartbeats 2000000 in
theorem arith_newYear (w : World) (s : ByteArray) (f c : Int) (a1 a2 : Option Addr) (n1 c1 n2 c2 : Nat) (ms : List Mon) (ls : List Int) (y : Int) (ok : CalOk s f c ms ls) (y1 : -20000 ≤ y) (y2 : y ≤ 20000) (h : CalAt w a1 a2 n1 n2 ms ls) :
    Calls Try.prog 89 #[.agg #[.string s, .int .i64 f, .int .i64 c, .slice a1 n1 c1, .slice a2 n2 c2], .int .i64 y] w fun e w' => e = .returned (.int .i64 (nyOf (shortOf ms) (longOf ms) f c ls y)) ∧ Below w.heap.size w w' := by
  have L1 := Lib.hid h.1.len; have L2 := Lib.hid h.2.1
  have H := Lib.hid h; have OK := Lib.hid ok; clear h
  have cy1 := ok.cy1; have cy2 := ok.cy2; have ep1 := ok.ep1; have ep2 := ok.ep2
  obtain ⟨p1, p2⟩ := placeOf_in c y cy1
  have hct := ok.count
  rw [L2.out] at hct
  have hcn := cnt_le ls ok.sorted (fun z hz => (ok.leaps z hz).1) (placeOf c y).toNat
  rw [show (((placeOf c y).toNat : Nat) : Int) = placeOf c y by omega] at hcn
  have sh1 := ok.sh1; have sh2 := ok.sh2; have lo1 := ok.lo1; have lo2 := ok.lo2
  have hq : -20001 ≤ (y - 1) / c ∧ (y - 1) / c ≤ 20001 := by
    constructor
    · rw [Int.le_ediv_iff_mul_le (by omega)]
      have := mul_in (-20001) c 20001 3000 (by omega) (by omega) (by omega) (by omega)
      have h3 : -20001 * c ≤ -20001 * 1 := by omega
      omega
    · refine Int.ediv_le_of_le_mul (by omega) ?_
      have h3 : 20001 * 1 ≤ 20001 * c := by omega
      omega
  have hny : nyOf (shortOf ms) (longOf ms) f c ls y = f + (y - 1) / c * (c * shortOf ms + (n2 : Int) * (longOf ms - shortOf ms)) + placeOf c y * shortOf ms + (cnt ls (placeOf c y) : Int) * (longOf ms - shortOf ms) := by
    unfold nyOf daysTo
    rw [hct.1]
    show _ + _ + (placeOf c y * _ + _) = _
    unfold placeOf
    omega
  obtain ⟨NN, hNN⟩ : ∃ N, N = nyOf (shortOf ms) (longOf ms) f c ls y := ⟨_, rfl⟩
  rw [← hNN] at hny ⊢
  have HN := Lib.hid hny; clear hny hNN
  have t0 : IntKind.i64.wrap (y - 1) = y - 1 := IntWalk.i64_in _ (by omega)
  have t1 : -9223372036854775808 ≤ y - 1 := by omega
  have t2 : y - 1 ≤ 9223372036854775807 := by omega
  have t3 : c ≤ 9223372036854775807 := by omega
  have HP := Lib.hid (show (y - 1) % c = placeOf c y from rfl)
  have hn2 : (n2 : Int) ≤ 3000 := by omega
  go_enter Try.func89, Try.ntmps89
  go_wp2_with fail
  refine (compile_Lengths _ _ _ _ _ _ _ _ _ _ ms ls (by have := ok.ml2; have := L1.out; omega) ok.lens (H.out.alloc _)).mono ?_
  rintro e w1 ⟨rfl, hb⟩
  clear ok
  have a0 := (At.new w (.cells #[.string s, .int .i64 f, .int .i64 c, .slice a1 n1 c1, .slice a2 n2 c2] 47)).then_ hb
  have b0 : Below w.heap.size w w1 := by (repeat' (first | exact Below.refl _ _ | assumption | refine Below.drew ?_ | refine below_drewN ?_ _ | refine below_new ?_ _ | refine below_set ?_ ?_ _ | refine below_then ?_ (by assumption) | refine below_drawn ?_ (by assumption) | exact Nat.le_refl _ | omega | (simp; done) | (simp; omega)))
  clear hb
  have d0 := a0.cell 0; have d1 := a0.cell 1; have d2 := a0.cell 2; have d3 := a0.cell 3; have d4 := a0.cell 4; simp at d0 d1 d2 d3 d4
  go_wp2_with fail
  go_quiet (first | (go_at_call 81; exact quiet_drawn (whole_Down _ _ _ t1 t2 cy1 t3)) | (go_at_call 82; exact quiet_drawn (whole_Mod _ _ _ t1 t2 cy1 t3)))
  clear t0 t1 t2 t3
  rw [HP.out]
  have b1 : Below w.heap.size w (w1.drewN nq) := by (repeat' (first | exact Below.refl _ _ | assumption | refine Below.drew ?_ | refine below_drewN ?_ _ | refine below_new ?_ _ | refine below_set ?_ ?_ _ | refine below_then ?_ (by assumption) | refine below_drawn ?_ (by assumption) | exact Nat.le_refl _ | omega | (simp; done) | (simp; omega)))
  go_wp2_with fail
  refine (sort_SearchInts _ _ _ _ ls _ (H.out.then_ b1).2 OK.out.sorted (by omega)).mono ?_; rintro e w2 ⟨rfl, hb⟩
  replace a0 := (a0.drewN nq).then_ hb
  replace b0 := below_then b1 hb
  clear hb d0 d1 d2 d3 d4
  have d0 := a0.cell 0; have d1 := a0.cell 1; have d2 := a0.cell 2; have d3 := a0.cell 3; have d4 := a0.cell 4; simp at d0 d1 d2 d3 d4
  rw [show placeOf c y + 1 - 1 = placeOf c y by omega]
  generalize hSS : shortOf ms = SS at *
  generalize hLL : longOf ms = LL at *
  generalize (y - 1) / c = Q at *
  generalize placeOf c y = R at *
  have m1 := mul_in c SS 3000 8000 (by omega) (by omega) (by omega) (by omega)
  have m2 := mul_in (n2 : Int) (LL - SS) 3000 8000 (by omega) (by omega) (by omega) (by omega)
  have m3 := mul_in Q (c * SS + (n2 : Int) * (LL - SS)) 20001 48000000 (by omega) (by omega) (by omega) (by omega)
  have m4 := mul_in R SS 3000 8000 (by omega) (by omega) (by omega) (by omega)
  generalize hC : cnt ls R = C at *
  have m5 := mul_in (C : Int) (LL - SS) 3000 8000 (by omega) (by omega) (by omega) (by omega)
  clear hSS hLL hC hct
  obtain ⟨m1, m1'⟩ := m1
  obtain ⟨m2, m2'⟩ := m2
  obtain ⟨m3, m3'⟩ := m3
  obtain ⟨m4, m4'⟩ := m4
  obtain ⟨m5, m5'⟩ := m5
  obtain ⟨hq1, hq2⟩ := hq
  go_wp2_with fail
  go_ret
  exact ⟨ret_int (by rw [HN.out]), b0⟩
end Go.Proofs.Ytjekdceicjnamaa
