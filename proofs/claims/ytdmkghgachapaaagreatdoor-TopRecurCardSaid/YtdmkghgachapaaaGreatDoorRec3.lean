/- Contracts of recur.checkRange and recur.days. -/
import Derived.Test.YtdmkghgachapaaaGreatDoorRec2
import Derived.Test.YtdmkghgachapaaaGreatDoorCycle2
namespace Go.Proofs.YtdmkghgachapaaaGreatDoor
set_option linter.unusedVariables false
set_option maxRecDepth 100000
open Go.RowKit greg

/-- The error of a range of days. -/
def rangeErr (f a b : Int) : Int :=
  if inB (-4000000) 4000000 a = false ∨ inB (-4000000) 4000000 b = false then 3 else if b < a then 9 else if f + 40000 < b ∨ 3000 < b - a then 2 else 0
theorem recur_checkRange (w : World) (u ev f cn un : Int) (a1 a2 a3 : Option Addr) (n1 n2 n3 c1 c2 c3 : Nat) (a b : Int) (f1 : -4000000 ≤ f) (f2 : f ≤ 4000000) :
    Calls Tryz.prog 21 #[.agg #[.int .i64 u, .int .i64 ev, .int .i64 f, .int .i64 cn, .int .i64 un, .slice a1 n1 c1, .slice a2 n2 c2, .slice a3 n3 c3], .int .i64 a, .int .i64 b] w fun e w' => e = .returned (.int .i64 (rangeErr f a b)) ∧ Below w.heap.size w w' := by
  by_cases q : inB (-4000000) 4000000 a = false ∨ inB (-4000000) 4000000 b = false
  · have HR := Lib.hid (show rangeErr f a b = 3 by rw [rangeErr, if_pos q])
    have hq : inB (-4000000) 4000000 a = false ∨ (inB (-4000000) 4000000 a = true ∧ inB (-4000000) 4000000 b = false) := by
      cases h : inB (-4000000) 4000000 a
      · exact .inl rfl
      · exact .inr ⟨rfl, q.resolve_left (by rw [h]; simp)⟩
    clear q
    rcases hq with h | ⟨h, h'⟩
    all_goals
      go_enter Tryz.func21, Tryz.ntmps21
      go_wp2_with (go_at_call 30; refine (line_Is _ _).mono ?_; rintro e w1 ⟨rfl, rfl⟩)
      go_ret
      exact ⟨ret_int (by rw [HR.out]), by (repeat' (first | exact Below.refl _ _ | assumption | refine Below.drew ?_ | refine below_drewN ?_ _ | refine below_new ?_ _ | refine below_set ?_ ?_ _ | refine below_then ?_ (by assumption) | refine below_drawn ?_ (by assumption) | exact Nat.le_refl _ | omega | (simp; done) | (simp; omega)))⟩
  have qa : inB (-4000000) 4000000 a = true := by cases h : inB (-4000000) 4000000 a <;> simp [h] at q ⊢
  have qb : inB (-4000000) 4000000 b = true := by cases h : inB (-4000000) 4000000 b <;> simp [h] at q ⊢
  have ra : -4000000 ≤ a ∧ a ≤ 4000000 := by rcases inB_cases (-4000000) 4000000 a with ⟨_, h⟩ | ⟨h, _⟩; exact h; rw [h] at qa; cases qa
  have rb : -4000000 ≤ b ∧ b ≤ 4000000 := by rcases inB_cases (-4000000) 4000000 b with ⟨_, h⟩ | ⟨h, _⟩; exact h; rw [h] at qb; cases qb
  obtain ⟨ra1, ra2⟩ := ra
  obtain ⟨rb1, rb2⟩ := rb
  by_cases q2 : b < a
  · have HR := Lib.hid (show rangeErr f a b = 9 by rw [rangeErr, if_neg q, if_pos q2])
    clear q
    go_enter Tryz.func21, Tryz.ntmps21
    go_wp2_with (go_at_call 30; refine (line_Is _ _).mono ?_; rintro e w1 ⟨rfl, rfl⟩)
    go_ret
    exact ⟨ret_int (by rw [HR.out]), by (repeat' (first | exact Below.refl _ _ | assumption | refine Below.drew ?_ | refine below_drewN ?_ _ | refine below_new ?_ _ | refine below_set ?_ ?_ _ | refine below_then ?_ (by assumption) | refine below_drawn ?_ (by assumption) | exact Nat.le_refl _ | omega | (simp; done) | (simp; omega)))⟩
  by_cases q3 : f + 40000 < b
  · have HR := Lib.hid (show rangeErr f a b = 2 by rw [rangeErr, if_neg q, if_neg q2, if_pos (.inl q3)])
    clear q
    go_enter Tryz.func21, Tryz.ntmps21
    go_wp2_with (go_at_call 30; refine (line_Is _ _).mono ?_; rintro e w1 ⟨rfl, rfl⟩)
    go_ret
    exact ⟨ret_int (by rw [HR.out]), by (repeat' (first | exact Below.refl _ _ | assumption | refine Below.drew ?_ | refine below_drewN ?_ _ | refine below_new ?_ _ | refine below_set ?_ ?_ _ | refine below_then ?_ (by assumption) | refine below_drawn ?_ (by assumption) | exact Nat.le_refl _ | omega | (simp; done) | (simp; omega)))⟩
  by_cases q4 : 3000 < b - a
  · have HR := Lib.hid (show rangeErr f a b = 2 by rw [rangeErr, if_neg q, if_neg q2, if_pos (.inr q4)])
    clear q
    go_enter Tryz.func21, Tryz.ntmps21
    go_wp2_with (go_at_call 30; refine (line_Is _ _).mono ?_; rintro e w1 ⟨rfl, rfl⟩)
    go_ret
    exact ⟨ret_int (by rw [HR.out]), by (repeat' (first | exact Below.refl _ _ | assumption | refine Below.drew ?_ | refine below_drewN ?_ _ | refine below_new ?_ _ | refine below_set ?_ ?_ _ | refine below_then ?_ (by assumption) | refine below_drawn ?_ (by assumption) | exact Nat.le_refl _ | omega | (simp; done) | (simp; omega)))⟩
  have HR := Lib.hid (show rangeErr f a b = 0 by rw [rangeErr, if_neg q, if_neg q2, if_neg (by omega)])
  clear q
  go_enter Tryz.func21, Tryz.ntmps21
  go_wp2_with (go_at_call 30; refine (line_Is _ _).mono ?_; rintro e w1 ⟨rfl, rfl⟩)
  go_ret
  exact ⟨ret_int (by rw [HR.out]), by (repeat' (first | exact Below.refl _ _ | assumption | refine Below.drew ?_ | refine below_drewN ?_ _ | refine below_new ?_ _ | refine below_set ?_ ?_ _ | refine below_then ?_ (by assumption) | refine below_drawn ?_ (by assumption) | exact Nat.le_refl _ | omega | (simp; done) | (simp; omega)))⟩
/-- Whether day x fits the recurrence, apart from its range. -/
def fitR (u ev f : Int) (ws ms ns : List Int) (x : Int) : Bool := fitsB u ev ws ms ns f ((f - 1) % 7) (gY f) (gM f) (gD f) x ((x - 1) % 7) (gY x) (gM x) (gD x) (mlen x)
/-- n days from x on, c found before. -/
def listP (fit : Int → Bool) (cn a : Int) : Nat → Int → Int → List Int
  | 0, _, _ => []
  | n + 1, x, c => if fit x = false then listP fit cn a n (x + 1) c else if 0 < cn ∧ cn < c + 1 then [] else (if a ≤ x then [x] else []) ++ listP fit cn a n (x + 1) (c + 1)
theorem listP_in (fit : Int → Bool) (cn a : Int) : ∀ (n : Nat) (x c : Int), ∀ z ∈ listP fit cn a n x c, x ≤ z ∧ z < x + n
  | 0, _, _, z, h => by simp [listP] at h
  | n + 1, x, c, z, h => by
    rw [listP] at h
    split at h
    · have := listP_in fit cn a n (x + 1) c z h; omega
    · split at h
      · simp at h
      · rw [List.mem_append] at h
        rcases h with h | h
        · split at h
          · simp at h; omega
          · simp at h
        · have := listP_in fit cn a n (x + 1) (c + 1) z h; omega
theorem own_thenR {w w' : World} {base : Nat} {e : TypeId} {size : Nat} {v : Value} {n : Nat} {xs : List Value} (h : w.ownsRow base e size v n xs) (hb : Below w.heap.size w w') : w'.ownsRow base e size v n xs := by
  refine ⟨h.1, ?_⟩
  rcases h.2 with h0 | ⟨g, cap, cur, rfl, hg, hcur, r⟩
  · exact Or.inl h0
  · have hat : At w g (.cells cur e) := hcur
    exact Or.inr ⟨g, cap, cur, rfl, hg, hat.then_ hb, r⟩
def lowOf (f cn a : Int) : Int := if cn = 0 then (if a ≤ f then f else a) else f
def minI (a b : Int) : Int := if a ≤ b then a else b
def daysL (u ev f cn un : Int) (ws ms ns : List Int) (a b : Int) : List Int :=
  listP (fitR u ev f ws ms ns) cn a (minI b un + 1 - lowOf f cn a).toNat (lowOf f cn a) 0
def DaysPost (zs : List Int) (w : World) (e : Ending) (w' : World) : Prop := ∃ p n c, e = .returned (.slice p n c) ∧ n ≤ c ∧ c ≤ 9223372036854775807 ∧ Ints w' w'.heap.size p n zs ∧ Below w.heap.size w w'
theorem lastN_def {P0 P1 P2 P3 P4 P5 P6 P7 P8 P9 P10 P11 P12 P13 R : Prop} (h : P0 ∧ P1 ∧ P2 ∧ P3 ∧ P4 ∧ P5 ∧ P6 ∧ P7 ∧ P8 ∧ P9 ∧ P10 ∧ P11 ∧ P12 ∧ P13 ∧ R) : R := h.2.2.2.2.2.2.2.2.2.2.2.2.2.2
theorem mlen_in (x : Int) (h1 : 1 ≤ gM x) (h2 : gM x ≤ 12) : 28 ≤ mlen x ∧ mlen x ≤ 31 := by
  unfold mlen lenN
  cases leapI (gY x) <;> cases (gM x).toNat.beq 2 <;> cases ((gM x).toNat.beq 4 || (gM x).toNat.beq 6 || (gM x).toNat.beq 9 || (gM x).toNat.beq 11) <;> simp
set_option maxHeartbeats 8000000 in
theorem recur_days (w : World) (u ev f cn un : Int) (a1 a2 a3 : Option Addr) (n1 n2 n3 c1 c2 c3 : Nat) (ws ms ns : List Int)
    (h1 : Ints w w.heap.size a1 n1 ws) (h2 : Ints w w.heap.size a2 n2 ms) (h3 : Ints w w.heap.size a3 n3 ns) (L1 : n1 ≤ 31) (L2 : n2 ≤ 31) (L3 : n3 ≤ 31) (e1 : 1 ≤ ev) (e2 : ev ≤ 1000)
    (f1 : -4000000 ≤ f) (f2 : f ≤ 4000000) (g1 : -4000000 ≤ un) (g2 : un ≤ 4000000) (k1 : 0 ≤ cn) (k2 : cn ≤ 1000) (a b : Int) (r1 : -4000000 ≤ a) (r2 : a ≤ 4000000) (r3 : -4000000 ≤ b) (r4 : b ≤ 4000000) :
    Calls Tryz.prog 22 #[.agg #[.int .i64 u, .int .i64 ev, .int .i64 f, .int .i64 cn, .int .i64 un, .slice a1 n1 c1, .slice a2 n2 c2, .slice a3 n3 c3], .int .i64 a, .int .i64 b] w (DaysPost (daysL u ev f cn un ws ms ns a b) w) := by
  obtain ⟨i0, hi, hz0, hz1, hz2⟩ := info_parts Tryz.infoInt'
  have H1 := Lib.hid h1; have H2 := Lib.hid h2; have H3 := Lib.hid h3; clear h1 h2 h3
  obtain ⟨fy1, fy2, fm1, fm2⟩ := gY_in f f1 f2
  have hv := (greg_spec f).1
  obtain ⟨LOW, hLOW⟩ : ∃ L, L = lowOf f cn a := ⟨_, rfl⟩
  have hl1 : -4000000 ≤ LOW ∧ LOW ≤ 4000000 := by rw [hLOW]; unfold lowOf; split <;> (try split) <;> omega
  obtain ⟨hl1, hl2⟩ := hl1
  obtain ⟨M, hM⟩ : ∃ M, M = minI b un := ⟨_, rfl⟩
  have hm1 : -4000000 ≤ M ∧ M ≤ 4000000 := by rw [hM]; unfold minI; split <;> omega
  obtain ⟨hm1, hm2⟩ := hm1
  obtain ⟨ZS, hZ⟩ : ∃ ZS, ZS = daysL u ev f cn un ws ms ns a b := ⟨_, rfl⟩
  rw [← hZ]
  have hZ' : ZS = listP (fitR u ev f ws ms ns) cn a (M + 1 - LOW).toNat LOW 0 := by rw [hZ, hM, hLOW]; rfl
  have HZ := Lib.hid hZ'
  have HL := Lib.hid hLOW; have HM := Lib.hid hM
  have hZin : ∀ z ∈ ZS, I64 z := by
    intro z hz
    rw [hZ'] at hz
    have := listP_in _ _ _ _ _ _ z hz
    unfold I64; omega
  have ZIN := Lib.hid hZin
  clear hZ hZ' hLOW hM hZin hv
  go_enter Tryz.func22, Tryz.ntmps22
  go_wp2_with fail
  have tt0 := At.new w (.cells #[.int .i64 u, .int .i64 ev, .int .i64 f, .int .i64 cn, .int .i64 un, .slice a1 n1 c1, .slice a2 n2 c2, .slice a3 n3 c3] 24)
  have b0 := below_new (Below.refl w.heap.size w) (.cells #[.int .i64 u, .int .i64 ev, .int .i64 f, .int .i64 cn, .int .i64 un, .slice a1 n1 c1, .slice a2 n2 c2, .slice a3 n3 c3] 24)
  generalize World.alloc w _ = W0 at tt0 b0 ⊢
  refine (recur_at _ f f1 f2).mono ?_
  rintro e w1 ⟨rfl, hb⟩
  replace tt0 := tt0.then_ hb
  replace b0 := below_then b0 hb
  clear hb
  go_upto_region 2 with fail
  have hmb := tt0.lt
  have tt1 := At.new w1 (.cells #[.int .i64 f, .int .i64 ((f - 1) % 7), .int .i64 (gY f), .int .i64 (gM f), .int .i64 (gD f), .int .i64 (mlen f)] 54)
  replace tt0 := tt0.alloc (.cells #[.int .i64 f, .int .i64 ((f - 1) % 7), .int .i64 (gY f), .int .i64 (gM f), .int .i64 (gD f), .int .i64 (mlen f)] 54)
  replace b0 := below_new b0 (.cells #[.int .i64 f, .int .i64 ((f - 1) % 7), .int .i64 (gY f), .int .i64 (gM f), .int .i64 (gD f), .int .i64 (mlen f)] 54)
  generalize World.alloc w1 _ = W2 at tt0 tt1 b0 ⊢
  generalize w1.heap.size = mb at *
  have hlt0 := tt0.lt
  have hlt1 := tt1.lt
  have cc0 : W2.cell? ⟨w.heap.size, 0, none⟩ = some (.int .i64 u) := tt0.cell 0
  have cc1 : W2.cell? ⟨w.heap.size, 1, none⟩ = some (.int .i64 ev) := tt0.cell 1
  have cc2 : W2.cell? ⟨w.heap.size, 2, none⟩ = some (.int .i64 f) := tt0.cell 2
  have cc3 : W2.cell? ⟨w.heap.size, 3, none⟩ = some (.int .i64 cn) := tt0.cell 3
  have cc4 : W2.cell? ⟨w.heap.size, 4, none⟩ = some (.int .i64 un) := tt0.cell 4
  have cc5 : W2.cell? ⟨w.heap.size, 5, none⟩ = some (.slice a1 n1 c1) := tt0.cell 5
  have cc6 : W2.cell? ⟨w.heap.size, 6, none⟩ = some (.slice a2 n2 c2) := tt0.cell 6
  have cc7 : W2.cell? ⟨w.heap.size, 7, none⟩ = some (.slice a3 n3 c3) := tt0.cell 7
  go_upto_if 19 with fail
  go_cut [9] from 17 (fun v wx => v = .int .i64 LOW ∧ W2 = wx)
  case first =>
    by_cases hc : cn = 0
    · have hL := HL.out
      rw [lowOf, if_pos hc] at hL
      subst hc
      by_cases hq : a ≤ f
      · rw [if_pos hq] at hL
        have hq' : ¬ f < a := by omega
        have HLL := Lib.hid hL
        clear hL
        go_wp2_with fail
        go_meet
        case rel => exact ⟨by rw [HLL.out], rfl⟩
      · rw [if_neg hq] at hL
        have hq' : f < a := by omega
        have HLL := Lib.hid hL
        clear hL
        go_wp2_with fail
        go_meet
        case rel => exact ⟨by rw [HLL.out], rfl⟩
    · have hL := HL.out
      rw [lowOf, if_neg hc] at hL
      have hc' : (cn == 0) = false := by simpa using hc
      have HLL := Lib.hid hL
      clear hL hc
      go_wp2_with fail
      go_meet
      case rel => exact ⟨by rw [HLL.out], rfl⟩
  case rest =>
  obtain ⟨rfl, rfl⟩ := hcut
  clear cc0 cc1 cc2 cc3 cc4 cc5 cc6 cc7
  have B0 := Lib.hid b0
  have A0 := Lib.hid tt0; have A1 := Lib.hid tt1
  clear tt0 tt1 b0
  go_wp2_with fail
  go_loopw [8, 10, 11] (fun v cv dv wr => ∃ (x c : Int) (m : Nat) (zs : List Int), dv = .int .i64 x ∧ cv = .int .i64 c ∧ LOW ≤ x ∧ (x ≤ M + 1 ∨ x = LOW) ∧ 0 ≤ c ∧ c ≤ x - LOW ∧ (m : Int) ≤ x - LOW ∧ zs.length = m ∧ wr.ownsRow W2.heap.size 3 1 v m (zs.map (Value.int .i64)) ∧ zs ++ listP (fitR u ev f ws ms ns) cn a (M + 1 - x).toNat x c = ZS ∧ Below W2.heap.size W2 wr) (fun _ _ dv _ => (M + 1 - intOf dv).toNat)
  case atStart => exact ⟨LOW, 0, 0, [], rfl, rfl, by omega, .inr rfl, by omega, by omega, by omega, rfl, World.ownsRow_nil _ _ _ _, HZ.out.symm, Below.refl _ _⟩
  case round =>
    obtain ⟨x, c, m, zs, rfl, rfl, hx1, hx2, hc1, hc2, hmx, hlen, hown, hgo, bw⟩ := hrel
    have OWN := Lib.hid hown; have LEN := Lib.hid hlen; clear hown hlen
    have tt0 := A0.out.then_ bw; have tt1 := A1.out.then_ bw
    have ck0 : wr.cell? ⟨w.heap.size, 0, none⟩ = some (.int .i64 u) := tt0.cell 0
    have ck1 : wr.cell? ⟨w.heap.size, 1, none⟩ = some (.int .i64 ev) := tt0.cell 1
    have ck2 : wr.cell? ⟨w.heap.size, 2, none⟩ = some (.int .i64 f) := tt0.cell 2
    have ck3 : wr.cell? ⟨w.heap.size, 3, none⟩ = some (.int .i64 cn) := tt0.cell 3
    have ck4 : wr.cell? ⟨w.heap.size, 4, none⟩ = some (.int .i64 un) := tt0.cell 4
    have ck5 : wr.cell? ⟨w.heap.size, 5, none⟩ = some (.slice a1 n1 c1) := tt0.cell 5
    have ck6 : wr.cell? ⟨w.heap.size, 6, none⟩ = some (.slice a2 n2 c2) := tt0.cell 6
    have ck7 : wr.cell? ⟨w.heap.size, 7, none⟩ = some (.slice a3 n3 c3) := tt0.cell 7
    have hs0 : W2.heap.size ≤ wr.heap.size := bw.size
    by_cases hx : x ≤ M
    · have hx3 : -4000000 ≤ x ∧ x ≤ 4000000 := by omega
      obtain ⟨hx3, hx4⟩ := hx3
      obtain ⟨y1, y2, y3, y4⟩ := gY_in x hx3 hx4
      obtain ⟨v1, v2, v3, v4⟩ := (greg_spec x).1
      obtain ⟨l1, l2⟩ := mlen_in x y3 y4
      have hml : (lenN (leapI (gY x)) (gM x).toNat : Int) ≤ 31 := l2
      have KS : ∀ W : World, Below wr.heap.size wr W → W.cell? ⟨w.heap.size, 0, none⟩ = some (.int .i64 u) ∧ W.cell? ⟨w.heap.size, 1, none⟩ = some (.int .i64 ev) ∧ W.cell? ⟨w.heap.size, 2, none⟩ = some (.int .i64 f) ∧ W.cell? ⟨w.heap.size, 3, none⟩ = some (.int .i64 cn) ∧ W.cell? ⟨w.heap.size, 4, none⟩ = some (.int .i64 un) ∧ W.cell? ⟨w.heap.size, 5, none⟩ = some (.slice a1 n1 c1) ∧ W.cell? ⟨w.heap.size, 6, none⟩ = some (.slice a2 n2 c2) ∧ W.cell? ⟨w.heap.size, 7, none⟩ = some (.slice a3 n3 c3) ∧ W.cell? ⟨mb, 0, none⟩ = some (.int .i64 f) ∧ W.cell? ⟨mb, 1, none⟩ = some (.int .i64 ((f - 1) % 7)) ∧ W.cell? ⟨mb, 2, none⟩ = some (.int .i64 (gY f)) ∧ W.cell? ⟨mb, 3, none⟩ = some (.int .i64 (gM f)) ∧ W.cell? ⟨mb, 4, none⟩ = some (.int .i64 (gD f)) ∧ W.cell? ⟨mb, 5, none⟩ = some (.int .i64 (mlen f)) ∧ Below wr.heap.size wr W := fun W hb => ⟨(tt0.then_ hb).cell 0, (tt0.then_ hb).cell 1, (tt0.then_ hb).cell 2, (tt0.then_ hb).cell 3, (tt0.then_ hb).cell 4, (tt0.then_ hb).cell 5, (tt0.then_ hb).cell 6, (tt0.then_ hb).cell 7, (tt1.then_ hb).cell 0, (tt1.then_ hb).cell 1, (tt1.then_ hb).cell 2, (tt1.then_ hb).cell 3, (tt1.then_ hb).cell 4, (tt1.then_ hb).cell 5, hb⟩
      have KW := Lib.hid KS; clear KS
      have hft : ∀ W : World, Below wr.heap.size wr W → Calls Tryz.prog 40 #[.agg #[.int .i64 u, .int .i64 ev, .int .i64 f, .int .i64 cn, .int .i64 un, .slice a1 n1 c1, .slice a2 n2 c2, .slice a3 n3 c3], .agg #[.int .i64 f, .int .i64 ((f - 1) % 7), .int .i64 (gY f), .int .i64 (gM f), .int .i64 (gD f), .int .i64 (mlen f)], .agg #[.int .i64 x, .int .i64 ((x - 1) % 7), .int .i64 (gY x), .int .i64 (gM x), .int .i64 (gD x), .int .i64 (mlen x)]] W fun e w' => e = .returned (.bool (fitR u ev f ws ms ns x)) ∧ Below W.heap.size W w' := fun W hW =>
        recur_fits W u ev f cn un a1 a2 a3 n1 n2 n3 c1 c2 c3 ws ms ns (H1.out.far (below_then B0.out bw) hW) (H2.out.far (below_then B0.out bw) hW) (H3.out.far (below_then B0.out bw) hW) L1 L2 L3 e1 e2 f ((f - 1) % 7) (gY f) (gM f) (gD f) (mlen f) x ((x - 1) % 7) (gY x) (gM x) (gD x) (mlen x) f1 f2 fy1 fy2 fm1 fm2 hx3 hx4 y1 y2 y3 y4 v3 (by omega) l1 l2 (by omega) (by omega)
      have hgo2 : (M + 1 - x).toNat = (M + 1 - (x + 1)).toNat + 1 := by omega
      rw [hgo2, listP] at hgo
      generalize hFB : fitR u ev f ws ms ns x = FB at hft hgo
      clear hFB hgo2 v1 v2 v3 v4 l1 l2 hml y1 y2 y3 y4
      have FT := Lib.hid hft
      have HG := Lib.hid hgo
      clear hft hgo
      have hmin : (b ≤ un ∧ x ≤ b) ∨ (¬ b ≤ un ∧ un < b ∧ x ≤ un) := by
        have h := HM.out
        unfold minI at h
        split at h <;> omega
      have PREPH : ∀ W : World, Below wr.heap.size wr W → At W (w.heap.size) (.cells #[.int .i64 u, .int .i64 ev, .int .i64 f, .int .i64 cn, .int .i64 un, .slice a1 n1 c1, .slice a2 n2 c2, .slice a3 n3 c3] 24) ∧ At W mb (.cells #[.int .i64 f, .int .i64 ((f - 1) % 7), .int .i64 (gY f), .int .i64 (gM f), .int .i64 (gD f), .int .i64 (mlen f)] 54) := fun W hb => ⟨tt0.then_ hb, tt1.then_ hb⟩
      have PW := Lib.hid PREPH; clear PREPH
      clear KW
      rcases hmin with ⟨m1, m2⟩ | ⟨m1, m1', m2⟩
      all_goals
        go_upto_region 10 with fail
        (refine region_class (Below wr.heap.size wr) (by kernel_rfl) (by kernel_rfl) ((Below.refl _ _).drew) ?_; repeat ((first | (refine class_take ?_ (by rfl) ?_ ?_; rotate_left; focus (intro wq hq; ((obtain ⟨q0, q1⟩ := PW.out _ hq; have e0 : wq.cell? ⟨w.heap.size, 0, none⟩ = some (.int .i64 u) := q0.cell 0; have e1 : wq.cell? ⟨w.heap.size, 1, none⟩ = some (.int .i64 ev) := q0.cell 1; have e2 : wq.cell? ⟨w.heap.size, 2, none⟩ = some (.int .i64 f) := q0.cell 2; have e3 : wq.cell? ⟨w.heap.size, 3, none⟩ = some (.int .i64 cn) := q0.cell 3; have e4 : wq.cell? ⟨w.heap.size, 4, none⟩ = some (.int .i64 un) := q0.cell 4; have e5 : wq.cell? ⟨w.heap.size, 5, none⟩ = some (.slice a1 n1 c1) := q0.cell 5; have e6 : wq.cell? ⟨w.heap.size, 6, none⟩ = some (.slice a2 n2 c2) := q0.cell 6; have e7 : wq.cell? ⟨w.heap.size, 7, none⟩ = some (.slice a3 n3 c3) := q0.cell 7; have g0 : wq.cell? ⟨mb, 0, none⟩ = some (.int .i64 f) := q1.cell 0; have g1 : wq.cell? ⟨mb, 1, none⟩ = some (.int .i64 ((f - 1) % 7)) := q1.cell 1; have g2 : wq.cell? ⟨mb, 2, none⟩ = some (.int .i64 (gY f)) := q1.cell 2; have g3 : wq.cell? ⟨mb, 3, none⟩ = some (.int .i64 (gM f)) := q1.cell 3; have g4 : wq.cell? ⟨mb, 4, none⟩ = some (.int .i64 (gD f)) := q1.cell 4; have g5 : wq.cell? ⟨mb, 5, none⟩ = some (.int .i64 (mlen f)) := q1.cell 5)); go_simp; first | done | with_reducible rfl | ((first | (go_at_call 17; (with_reducible refine (recur_at _ _ hx3 hx4).mono ?_); rintro e w5 ⟨rfl, hb⟩; refine ⟨?_, below_then hq hb⟩; with_reducible rfl) | (go_at_call 40; (with_reducible refine (FT.out _ hq).mono ?_); rintro e w5 ⟨rfl, hb⟩; refine ⟨?_, below_then hq hb⟩; with_reducible rfl))))) | refine class_skip (by rfl) ?_); try simp only [Act.put, List.setIfInBounds_toArray, List.set_cons_zero, List.set_cons_succ]))
        refine wpQuiet_nil ?_
        intro W4 hb4
        have own4 := own_thenR OWN.out hb4
        have bw4 := bw.trans (hb4.mono hs0)
        have t40 := A0.out.then_ bw4
        have CL0 := Lib.hid t40
        have e43 : W4.cell? ⟨w.heap.size, 3, none⟩ = some (.int .i64 cn) := t40.cell 3
        have hs4 : W2.heap.size ≤ W4.heap.size := bw4.size
        have OWN4 := Lib.hid own4
        clear own4 OWN hb4 ck0 ck1 ck2 ck3 ck4 ck5 ck6 ck7 tt0 tt1 t40
        cases FB with
        | false =>
          have HG2 := Lib.hid (show zs ++ listP (fitR u ev f ws ms ns) cn a (M + 1 - (x + 1)).toNat (x + 1) c = ZS by have h := HG.out; rw [if_pos rfl] at h; exact h)
          go_wp2_with fail
          go_roundw
          case rel => exact ⟨x + 1, c, m, zs, rfl, rfl, by omega, .inl (by omega), by omega, by omega, by omega, LEN.out, OWN4.out, HG2.out, bw4⟩
          case measure => simp [intOf]; omega
        | true =>
          have hwc : IntKind.i64.wrap (c + 1) = c + 1 := IntWalk.i64_in _ (by omega)
          have hg := HG.out
          rw [if_neg (by simp)] at hg
          by_cases hcc : 0 < cn ∧ cn < c + 1
          · rw [if_pos hcc, List.append_nil] at hg
            have HG2 := Lib.hid hg
            obtain ⟨hc3, hc4⟩ := hcc
            clear hg
            have HI := Lib.hid (own_ints OWN4.out (fun z hz => ZIN.out z (by rw [← HG2.out]; exact hz)) LEN.out)
            obtain ⟨aa, cc, rfl, hcap1, hcap2, hI⟩ := HI.out
            rw [HG2.out] at hI
            have HJ := Lib.hid hI
            clear hI HI OWN4
            go_wp2_with fail
            go_ret
            exact ⟨aa, m, cc, rfl, hcap1, hcap2, HJ.out, below_then B0.out bw4⟩
          · rw [if_neg hcc] at hg
            have hcd : (decide (0 < cn) = false) ∨ (decide (0 < cn) = true ∧ decide (cn < c + 1) = false) := by simp; omega
            have HG1 := Lib.hid hg
            clear hg hcc
            rcases hcd with k1 | ⟨k1, k2⟩
            all_goals
              have hg := HG1.out
              clear HG1
              by_cases ha : a ≤ x
              · rw [if_pos ha] at hg
                have HG2 := Lib.hid hg
                clear hg
                go_wp2_with (at_builtin; refine wpList_append_own _ rfl _ _ 22 rfl (W2.heap.size) 3 i0 (.int .i64 0) 1 8 Tryz.underlying22 hi hz0 hz1 hz2 rfl (by decide) _ _ _ rfl (OWN4.out.alloc _) ⟨W4.heap.size, 0, none⟩ 1 1 [.int .i64 x] rfl rfl (World.news_of_block (cs := #[.int .i64 x]) (t := 3) (fr := (0, 0)) (heap_alloc_new W4 _)) (by simp [Value.oneCell']) (by unfold maxLen; omega) (by omega) (by first | omega | (simp; omega)) ?_; intro v' w4 hown' hgrow _)
                have bw4 : Below W2.heap.size W2 w4 := ((bw4.alloc hs4 (.cells #[.int .i64 x] 3))).grown hgrow (by simp; omega) (fun bb hbb => by
                  rcases Nat.lt_or_ge bb W2.heap.size with h | h
                  · exact absurd hbb.symm (own_above OWN4.out h)
                  · omega)
                have OWN' := Lib.hid hown'
                clear hown' hgrow OWN4
                go_wp2_with fail
                go_roundw
                case rel => exact ⟨x + 1, c + 1, m + 1, zs ++ [x], rfl, rfl, by omega, .inl (by omega), by omega, by omega, by omega, by rw [List.length_append, LEN.out]; rfl, by rw [List.map_append]; exact OWN'.out, by rw [List.append_assoc]; exact HG2.out, bw4⟩
                case measure => simp [intOf]; omega
              · rw [if_neg ha, List.nil_append] at hg
                have HG2 := Lib.hid hg
                clear hg
                go_wp2_with fail
                go_roundw
                case rel => exact ⟨x + 1, c + 1, m, zs, rfl, rfl, by omega, .inl (by omega), by omega, by omega, by omega, LEN.out, OWN4.out, HG2.out, bw4⟩
                case measure => simp [intOf]; omega
    · have hn0 : (M + 1 - x).toNat = 0 := by omega
      rw [hn0] at hgo
      rw [show listP (fitR u ev f ws ms ns) cn a 0 x c = [] from rfl, List.append_nil] at hgo
      have HG2 := Lib.hid hgo
      have hmin : (b ≤ un ∧ ¬ x ≤ b) ∨ (¬ b ≤ un ∧ un < b ∧ ¬ x ≤ un) := by
        have h := HM.out
        unfold minI at h
        split at h <;> omega
      have HI := Lib.hid (own_ints OWN.out (fun z hz => ZIN.out z (by rw [← HG2.out]; exact hz)) LEN.out)
      obtain ⟨aa, cc, rfl, hcap1, hcap2, hI⟩ := HI.out
      rw [HG2.out] at hI
      have HJ := Lib.hid hI
      clear hI HI OWN hgo hn0 hx
      rcases hmin with ⟨m1, m2⟩ | ⟨m1, m1', m2⟩
      all_goals
        go_wp2_with fail
        go_ret
        exact ⟨aa, m, cc, rfl, hcap1, hcap2, HJ.out, below_then B0.out bw⟩
end Go.Proofs.YtdmkghgachapaaaGreatDoor
