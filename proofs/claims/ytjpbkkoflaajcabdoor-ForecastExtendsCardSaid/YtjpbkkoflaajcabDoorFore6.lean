/- Contracts of forecast.isYear, forecast.Year and of the reference's SameZone at two zones that read alike. -/
import Derived.Test.YtjpbkkoflaajcabDoorFore5
import Derived.Test.YtjpbkkoflaajcabDoorQuiet
namespace Go.Proofs.YtjpbkkoflaajcabDoor
set_option linter.unusedVariables false
set_option maxRecDepth 100000
open Go.RowKit greg

theorem forecast_isYear (x : Int) (w : World) :
    Calls Tryd.prog 30 #[.int .i64 x] w fun e w' => e = .returned (.bool (inB (-10000) 10000 x)) ∧ w = w' := by
  rcases inB_cases (-10000) 10000 x with ⟨hi, i1, i2⟩ | ⟨hi, hi'⟩
  · rw [hi]
    go_enter Tryd.func30, Tryd.ntmps30
    go_wp2_with fail
    go_ret
    exact ⟨by simp, rfl⟩
  · rw [hi]
    have hq : x < -10000 ∨ (-10000 ≤ x ∧ 10000 < x) := by omega
    clear hi hi'
    rcases hq with q | ⟨q, q'⟩
    all_goals
      go_enter Tryd.func30, Tryd.ntmps30
      go_wp2_with fail
      go_ret
      exact ⟨by first | (simp; done) | (simp; omega), rfl⟩
def yearErr (xs : List Rul) (b y : Int) : Int := if rulesErr xs ≠ 0 then rulesErr xs else if offB b = false then 3 else if inB (-10000) 10000 y = false then 3 else 0
def yearList (xs : List Rul) (b y : Int) : List Chg := if yearErr xs b y ≠ 0 then [] else yearTo y b xs xs.length
def FYPost (xs : List Rul) (b y : Int) (w : World) (e : Ending) (w' : World) : Prop :=
  ∃ a n c, e = .returned (.tuple #[.slice a n c, .int .i64 (yearErr xs b y)]) ∧ Changes w' w'.heap.size a n (yearList xs b y) ∧ Below w.heap.size w w'
theorem changes_none (w : World) (B : Nat) : Changes w B none 0 [] := ⟨⟨rfl, by omega, fun h => absurd h (by omega)⟩, by simp⟩
theorem fyPost_err {xs : List Rul} {b y E : Int} {w w' : World} (h : yearErr xs b y = E) (h0 : E ≠ 0) (hb : Below w.heap.size w w') : FYPost xs b y w (.returned (.tuple #[.slice none 0 0, .int .i64 E])) w' := by
  subst h
  refine ⟨none, 0, 0, rfl, ?_, hb⟩
  rw [yearList, if_pos h0]; exact changes_none _ _
theorem rules_lab {w : World} {B : Nat} {a : Option Addr} {n : Nat} {xs : List Rul} (h : Rules w B a n xs) : ∀ x ∈ xs, x.2.2.2.2.2.size ≤ 9223372036854775807 := fun x hx => (h.2 x hx).2.2.2.2.2
set_option maxHeartbeats 4000000 in
theorem forecast_Year (w : World) (a : Option Addr) (n c : Nat) (xs : List Rul) (b y : Int) (b1 : -9223372036854775808 ≤ b) (b2 : b ≤ 9223372036854775807) (h : Rules w w.heap.size a n xs) :
    Calls Tryd.prog 14 #[.slice a n c, .int .i64 b, .int .i64 y] w (FYPost xs b y w) := by
  have HLB := Lib.hid (rules_lab h)
  have H := Lib.hid h; clear h
  have HO := Lib.hid (show yearErr xs b y = if rulesErr xs ≠ 0 then rulesErr xs else if offB b = false then 3 else if inB (-10000) 10000 y = false then 3 else 0 from rfl)
  go_enter Tryd.func14, Tryd.ntmps14
  go_wp2_with fail
  refine (forecast_Check _ _ _ _ xs H.out).mono ?_
  by_cases q : rulesErr xs = 0
  case neg =>
    have hf := Lib.hid (HO.out.trans (if_pos q))
    have q' : (rulesErr xs != 0) = true := by simpa using q
    have Q := Lib.hid q
    generalize rulesErr xs = E at hf q' Q ⊢
    rintro e w1 ⟨rfl, hb⟩
    clear q HO
    go_wp2_with fail
    go_ret2
    exact fyPost_err hf.out Q.out hb
  have Q := Lib.hid q
  have hf := Lib.hid (HO.out.trans (if_neg (by omega)))
  rw [q]
  clear q HO
  rintro e w1 ⟨rfl, hb⟩
  rcases Bool.eq_false_or_eq_true (offB b) with ho | ho
  case inr =>
    have hf2 := Lib.hid (hf.out.trans (if_pos ho))
    go_wp2_with fail
    refine (zone_IsOffset _ _ b1 b2).mono ?_; rw [ho]; rintro e w2 ⟨rfl, rfl⟩
    go_wp2_with fail
    go_ret2
    exact fyPost_err hf2.out (by omega) hb
  have hf2 := Lib.hid (hf.out.trans (if_neg (by rw [ho]; simp)))
  obtain ⟨o1, o2⟩ := offB_bound ho
  rcases inB_cases (-10000) 10000 y with ⟨hi, i1, i2⟩ | ⟨hi, hi'⟩
  case inr =>
    have hf3 := Lib.hid (hf2.out.trans (if_pos hi))
    clear hi'
    go_wp2_with fail
    refine (zone_IsOffset _ _ b1 b2).mono ?_; rw [ho]; rintro e w2 ⟨rfl, rfl⟩
    go_wp2_with fail
    refine (forecast_isYear _ _).mono ?_; rw [hi]; rintro e w2 ⟨rfl, rfl⟩
    go_wp2_with fail
    go_ret2
    exact fyPost_err hf3.out (by omega) hb
  have HE := Lib.hid (hf2.out.trans (if_neg (by rw [hi]; simp)))
  have HY := Lib.hid (show yearList xs b y = yearTo y b xs xs.length by rw [yearList, if_neg (by rw [HE.out]; omega)])
  have HOK := Lib.hid (yearTo_ok (rules_each Q.out) HLB.out o1 o2 i1 i2 xs.length)
  have HYL := Lib.hid (yearTo_len (y := y) (b := b) (xs := xs) xs.length (Nat.le_refl _))
  go_wp2_with fail
  refine (zone_IsOffset _ _ b1 b2).mono ?_; rw [ho]; rintro e w2 ⟨rfl, rfl⟩
  go_wp2_with fail
  refine (forecast_isYear _ _).mono ?_; rw [hi]; rintro e w2 ⟨rfl, rfl⟩
  clear ho hi
  go_wp2_with fail
  refine (forecast_changes _ a n c xs b y Q.out o1 o2 i1 i2 (H.out.then_ hb)).mono ?_
  rintro e w3 ⟨v, rfl, hown, hb3⟩
  obtain ⟨aa, cc, rfl, _, _, hch⟩ := own_changes hown HYL.out HOK.out
  have HCH := Lib.hid hch
  have b3 := below_then hb hb3
  clear hown hch hb hb3
  go_wp2_with fail
  go_ret2
  exact ⟨aa, xs.length, cc, by rw [HE.out]; rfl, by rw [HY.out]; exact HCH.out, b3⟩
set_option maxHeartbeats 4000000 in
theorem ref_SameZone (w : World) (s : ByteArray) (f : Int) (p1 p2 : Option Addr) (n c1 c2 : Nat) (xs : List Chg)
    (h1 : Changes w w.heap.size p1 n xs) (h2 : Changes w w.heap.size p2 n xs) :
    Calls Tryd.prog 19 #[.agg #[.string s, .int .i64 f, .slice p1 n c1], .agg #[.string s, .int .i64 f, .slice p2 n c2]] w fun e w' => e = .returned (.bool true) ∧ Below w.heap.size w w' := by
  have mx := h1.max
  have H1 := Lib.hid h1; have H2 := Lib.hid h2; clear h1 h2
  go_enter Tryd.func19, Tryd.ntmps19
  go_wp2_with fail
  have ha := (At.new w (.cells #[.string s, .int .i64 f, .slice p1 n c1] 24)).alloc (.cells #[.string s, .int .i64 f, .slice p2 n c2] 24)
  have hc := At.new1 w (.cells #[.string s, .int .i64 f, .slice p1 n c1] 24) (.cells #[.string s, .int .i64 f, .slice p2 n c2] 24)
  have hb : Below w.heap.size w ((w.alloc (.cells #[.string s, .int .i64 f, .slice p1 n c1] 24)).alloc (.cells #[.string s, .int .i64 f, .slice p2 n c2] 24)) := by (repeat' (first | exact Below.refl _ _ | assumption | refine Below.drew ?_ | refine below_drewN ?_ _ | refine below_new ?_ _ | refine below_set ?_ ?_ _ | refine below_then ?_ (by assumption) | refine below_drawn ?_ (by assumption) | exact Nat.le_refl _ | omega | (simp; done) | (simp; omega)))
  generalize World.alloc (World.alloc w _) _ = W1 at ha hc hb ⊢
  have x0 : W1.cell? ⟨w.heap.size, 0, none⟩ = some (.string s) := ha.cell 0
  have x1 : W1.cell? ⟨w.heap.size, 1, none⟩ = some (.int .i64 f) := ha.cell 1
  have x2 : W1.cell? ⟨w.heap.size, 2, none⟩ = some (.slice p1 n c1) := ha.cell 2
  have y0 : W1.cell? ⟨w.heap.size + 1, 0, none⟩ = some (.string s) := hc.cell 0
  have y1 : W1.cell? ⟨w.heap.size + 1, 1, none⟩ = some (.int .i64 f) := hc.cell 1
  have y2 : W1.cell? ⟨w.heap.size + 1, 2, none⟩ = some (.slice p2 n c2) := hc.cell 2
  go_wp2_with fail
  go_loopw [5, 30] (fun _ vi wr => ∃ k : Nat, k ≤ n ∧ vi = .int .i64 k ∧ Drawn W1 wr) (fun _ vi _ => n - (intOf vi).toNat)
  case atStart => exact ⟨0, by omega, rfl, Drawn.refl _⟩
  case round =>
    obtain ⟨k, hk, rfl, hd⟩ := hrel
    obtain ⟨W2, rfl⟩ : ∃ W2, W2 = wr := ⟨_, rfl⟩
    obtain ⟨ha2, hc2, hb2⟩ : At W2 w.heap.size (.cells #[.string s, .int .i64 f, .slice p1 n c1] 24) ∧ At W2 (w.heap.size + 1) (.cells #[.string s, .int .i64 f, .slice p2 n c2] 24) ∧ Below w.heap.size w W2 := by
      obtain ⟨nd2, rfl⟩ := hd
      exact ⟨ha.drewN nd2, hc.drewN nd2, below_drewN hb nd2⟩
    have HDR := Lib.hid hd
    clear ha hc hb x0 x1 x2 y0 y1 y2 hd
    by_cases hlt : k < n
    · obtain ⟨b1, o1, rfl, hbB, hcs⟩ := (H1.out.below hb2 (Nat.le_refl _)).open_ (by omega)
      obtain ⟨b3, o3, rfl, hbB3, hcs3⟩ := (H2.out.below hb2 (Nat.le_refl _)).open_ (by omega)
      obtain ⟨sa, fa, ga, k0, k1, k2, hx, _⟩ := hcs k hlt
      obtain ⟨sb, fb, gb, l0, l1, l2, hy, _⟩ := hcs3 k hlt
      rw [hx] at hy
      simp only [Option.some.injEq, Prod.mk.injEq] at hy
      obtain ⟨rfl, rfl, rfl⟩ := hy
      clear hcs hcs3 hx
      have x2 : W2.cell? ⟨w.heap.size, 2, none⟩ = some (.slice (some ⟨b1, o1, none⟩) n c1) := ha2.cell 2
      have y2 : W2.cell? ⟨w.heap.size + 1, 2, none⟩ = some (.slice (some ⟨b3, o3, none⟩) n c2) := hc2.cell 2
      go_wp2_with fail
      go_quiet (fail)
      go_wp2_with fail
      go_roundw
      case rel => exact ⟨k + 1, by omega, by go_num, by first | exact HDR.out.drewN _ | exact HDR.out⟩
      case measure => first | (simp [intOf]; done) | (simp [intOf]; omega)
    · go_wp2_with fail
      go_ret
      exact ⟨by simp, hb2⟩
end Go.Proofs.YtjpbkkoflaajcabDoor
