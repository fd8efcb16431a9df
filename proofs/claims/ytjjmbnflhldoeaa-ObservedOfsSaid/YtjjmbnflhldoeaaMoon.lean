/- Contracts of lunisolar.parts, lunisolar.increasing and of the reference's Parts; the error of a rule of mean months, plain. -/
import Derived.Test.YtjjmbnflhldoeaaCal
import Derived.Test.YtjjmbnflhldoeaaFrac
namespace Go.Proofs.Ytjjmbnflhldoeaa
set_option linter.unusedVariables false
set_option maxRecDepth 100000
open Go.RowKit

/-- The least common multiple, as it is computed. -/
def lcmI (a b : Int) : Int := a * (b / (Int.gcd a b : Int))
theorem gcd_pos (a b : Int) (ha : 1 ≤ a) : 1 ≤ (Int.gcd a b : Int) := by
  have : 0 < Int.gcd a b := Int.gcd_pos_of_ne_zero_left b (by omega)
  omega
theorem lcmI_eq (a b : Int) (ha : 1 ≤ a) (hb : 1 ≤ b) : lcmI a b = a / (Int.gcd a b : Int) * b := by
  unfold lcmI
  have h1 : (Int.gcd a b : Int) ∣ a := Int.gcd_dvd_left a b
  have h2 : (Int.gcd a b : Int) ∣ b := Int.gcd_dvd_right a b
  have hg := gcd_pos a b ha
  obtain ⟨x, hx⟩ := h1
  obtain ⟨y, hy⟩ := h2
  generalize (Int.gcd a b : Int) = g at *
  subst hx hy
  rw [Int.mul_ediv_cancel_left _ (by omega), Int.mul_ediv_cancel_left _ (by omega), Int.mul_comm g x, Int.mul_assoc]
theorem quot_pos (a b : Int) (ha : 1 ≤ a) (hb : 1 ≤ b) : 1 ≤ b / (Int.gcd a b : Int) ∧ b / (Int.gcd a b : Int) ≤ b ∧ 1 ≤ a / (Int.gcd a b : Int) ∧ a / (Int.gcd a b : Int) ≤ a := by
  have hg := gcd_pos a b ha
  have h1 : (Int.gcd a b : Int) ∣ a := Int.gcd_dvd_left a b
  have h2 : (Int.gcd a b : Int) ∣ b := Int.gcd_dvd_right a b
  have l1 := Int.le_of_dvd (by omega) h1
  have l2 := Int.le_of_dvd (by omega) h2
  refine ⟨?_, Int.ediv_le_self _ (by omega), ?_, Int.ediv_le_self _ (by omega)⟩
  · rw [Int.le_ediv_iff_mul_le (by omega)]; omega
  · rw [Int.le_ediv_iff_mul_le (by omega)]; omega
theorem lcmI_ge (a b : Int) (ha : 1 ≤ a) (hb : 1 ≤ b) : a ≤ lcmI a b ∧ b ≤ lcmI a b := by
  obtain ⟨q1, q2, q3, q4⟩ := quot_pos a b ha hb
  constructor
  · unfold lcmI
    have := Int.mul_le_mul_of_nonneg_left q1 (show 0 ≤ a by omega); omega
  · rw [lcmI_eq a b ha hb]
    have := Int.mul_le_mul_of_nonneg_right q3 (show 0 ≤ b by omega); omega
theorem lcmI_one (b : Int) : lcmI 1 b = b := by unfold lcmI; simp
/-- The number of parts of a day. -/
def partsOf (d1 d2 d3 : Int) : Int := if lcmI (lcmI d1 d2) d3 ≤ 1000000 then lcmI (lcmI d1 d2) d3 else 0
theorem partsOf_big1 {d1 d2 d3 : Int} (h1 : 1 ≤ d1) (h2 : 1 ≤ d2) (h3 : 1 ≤ d3) (h : 1000000 < d1 ∨ 1000000 < d2 ∨ 1000000 < lcmI d1 d2 ∨ 1000000 < d3) : partsOf d1 d2 d3 = 0 := by
  have a := lcmI_ge d1 d2 h1 h2
  have b := lcmI_ge (lcmI d1 d2) d3 (by omega) h3
  unfold partsOf; rw [if_neg (by omega)]
theorem lcmI_bound (a b : Int) (h1 : 1 ≤ a) (h2 : a ≤ 1000000) (h3 : 1 ≤ b) (h4 : b ≤ 2147483647) : 1 ≤ lcmI a b ∧ lcmI a b ≤ 2147483647000000 := by
  obtain ⟨q1, q2, q3, q4⟩ := quot_pos a b h1 h3
  have g := lcmI_ge a b h1 h3
  refine ⟨by omega, ?_⟩
  unfold lcmI
  have := Int.mul_le_mul h2 (show b / (Int.gcd a b : Int) ≤ 2147483647 by omega) (by omega) (by omega)
  omega

theorem index3 (W : World) (x y z : Int) : (∀ W : World, (Instr.index 114 (.agg #[.int .i64 x, .int .i64 y, .int .i64 z]) (.int .i64 0)).run Try.prog W = .ok (.int .i64 x) W) ∧ (∀ W : World, (Instr.index 114 (.agg #[.int .i64 x, .int .i64 y, .int .i64 z]) (.int .i64 1)).run Try.prog W = .ok (.int .i64 y) W) ∧ (∀ W : World, (Instr.index 114 (.agg #[.int .i64 x, .int .i64 y, .int .i64 z]) (.int .i64 2)).run Try.prog W = .ok (.int .i64 z) W) :=
  ⟨fun _ => by kernel_rfl, fun _ => by kernel_rfl, fun _ => by kernel_rfl⟩
set_option maxHeartbeats 2000000 in
theorem lunisolar_parts (w : World) (s : ByteArray) (f sn sd mn md ln ld c : Int) (a1 a2 : Option Addr) (n1 c1 n2 c2 : Nat) (ls vs : List Int) (s1 : 1 ≤ sd) (s2 : sd ≤ 2147483647) (m1 : 1 ≤ md) (m2 : md ≤ 2147483647) (l1 : 1 ≤ ld) (l2 : ld ≤ 2147483647) :
    Calls Try.prog 64 #[.agg #[.string s, .int .i64 f, .int .i64 sn, .int .i64 sd, .int .i64 mn, .int .i64 md, .int .i64 ln, .int .i64 ld, .int .i64 c, .slice a1 n1 c1, .slice a2 n2 c2]] w fun e w' => e = .returned (.int .i64 (partsOf sd md ld)) ∧ Below w.heap.size w w' := by
  have HI := Lib.hid (index3 w sd md ld)
  have step : ∀ (a d : Int) (W : World), 1 ≤ a → a ≤ 1000000 → 1 ≤ d → d ≤ 2147483647 → Calls Try.prog 85 #[.int .i64 a, .int .i64 d] W fun e w' => e = .returned (.tuple #[.int .i64 (Int.gcd a d : Int), .int .i64 0]) ∧ Drawn W w' := fun a d W p1 p2 p3 p4 => by
    have := whole_Gcd a d W (by omega) (by omega) (by omega) (by omega)
    rwa [gcdOut_den a d p3 p4] at this
  have ST := Lib.hid step; clear step
  go_enter Try.func64, Try.ntmps64
  go_wp2_with fail
  go_loopw [3, 5, 6, 7, 18] (fun t _ _ _ i wr => ((i = .int .i64 0 ∧ t = .int .i64 1) ∨ (i = .int .i64 1 ∧ t = .int .i64 sd ∧ sd ≤ 1000000) ∨ (i = .int .i64 2 ∧ t = .int .i64 (lcmI sd md) ∧ lcmI sd md ≤ 1000000) ∨ (i = .int .i64 3 ∧ t = .int .i64 (lcmI (lcmI sd md) ld) ∧ lcmI (lcmI sd md) ld ≤ 1000000)) ∧ Below w.heap.size w wr) (fun _ _ _ _ i _ => 3 - (intOf i).toNat)
  case atStart => exact ⟨.inl ⟨rfl, rfl⟩, by (repeat' (first | exact Below.refl _ _ | assumption | refine Below.drew ?_ | refine below_drewN ?_ _ | refine below_new ?_ _ | refine below_set ?_ ?_ _ | refine below_then ?_ (by assumption) | refine below_drawn ?_ (by assumption) | exact Nat.le_refl _ | omega | (simp; done) | (simp; omega)))⟩
  case round =>
    obtain ⟨hr, b0⟩ := hrel
    rcases hr with ⟨rfl, rfl⟩ | ⟨rfl, rfl, hle⟩ | ⟨rfl, rfl, hle⟩ | ⟨rfl, rfl, hle⟩
    · have hix := HI.out.1
      have A1 : (1 : Int) ≤ 1 := by omega
      have A2 : (1 : Int) ≤ 1000000 := by omega
      obtain ⟨G, hG⟩ : ∃ G, G = (Int.gcd 1 sd : Int) := ⟨_, rfl⟩
      have hq := quot_pos 1 sd A1 s1
      have hg := gcd_pos 1 sd A1
      have hlb := lcmI_bound 1 sd A1 A2 s1 s2
      have hl : lcmI 1 sd = 1 * (sd / G) := by rw [hG]; rfl
      rw [← hG] at hq hg
      rw [hl] at hlb
      obtain ⟨q1, q2, _, _⟩ := hq
      obtain ⟨lb1, lb2⟩ := hlb
      have hT := Lib.hid (ST.out 1 sd wr A1 A2 s1 s2)
      rw [← hG] at hT
      have HL := Lib.hid hl; clear hl hG
      by_cases hbig : 1 * (sd / G) ≤ 1000000
      · go_wp2_with fail
        refine (hT.out).mono ?_; rintro e w1 ⟨rfl, hd⟩
        go_wp2_with fail
        go_roundw
        case rel => exact ⟨.inr (.inl ⟨rfl, by have h := HL.out; rw [lcmI_one] at h; rw [show sd / G = sd by omega], by have h := HL.out; rw [lcmI_one] at h; omega⟩), below_drawn b0 hd⟩
        case measure => simp [intOf]
      · have hz := Lib.hid (show partsOf sd md ld = 0 by
          have h := HL.out; rw [lcmI_one] at h; exact partsOf_big1 s1 m1 l1 (.inl (by omega)))
        go_wp2_with fail
        refine (hT.out).mono ?_; rintro e w1 ⟨rfl, hd⟩
        go_wp2_with fail
        go_ret
        exact ⟨ret_int (by rw [hz.out]), below_drawn b0 hd⟩
    · have hix := HI.out.2.1
      have A1 : 1 ≤ sd := s1
      have A2 : sd ≤ 1000000 := hle
      obtain ⟨G, hG⟩ : ∃ G, G = (Int.gcd sd md : Int) := ⟨_, rfl⟩
      have hq := quot_pos sd md A1 m1
      have hg := gcd_pos sd md A1
      have hlb := lcmI_bound sd md A1 A2 m1 m2
      have hl : lcmI sd md = sd * (md / G) := by rw [hG]; rfl
      rw [← hG] at hq hg
      rw [hl] at hlb
      obtain ⟨q1, q2, _, _⟩ := hq
      obtain ⟨lb1, lb2⟩ := hlb
      have hT := Lib.hid (ST.out sd md wr A1 A2 m1 m2)
      rw [← hG] at hT
      have HL := Lib.hid hl; clear hl hG
      by_cases hbig : sd * (md / G) ≤ 1000000
      · go_wp2_with fail
        refine (hT.out).mono ?_; rintro e w1 ⟨rfl, hd⟩
        go_wp2_with fail
        go_roundw
        case rel => exact ⟨.inr (.inr (.inl ⟨rfl, by rw [← HL.out], by rw [HL.out]; exact hbig⟩)), below_drawn b0 hd⟩
        case measure => simp [intOf]
      · have hz := Lib.hid (show partsOf sd md ld = 0 by
          have h := HL.out; exact partsOf_big1 s1 m1 l1 (.inr (.inr (.inl (by omega)))))
        go_wp2_with fail
        refine (hT.out).mono ?_; rintro e w1 ⟨rfl, hd⟩
        go_wp2_with fail
        go_ret
        exact ⟨ret_int (by rw [hz.out]), below_drawn b0 hd⟩
    · have hix := HI.out.2.2
      have A1 : 1 ≤ (lcmI sd md) := (by have := lcmI_ge sd md s1 m1; omega)
      have A2 : (lcmI sd md) ≤ 1000000 := hle
      obtain ⟨G, hG⟩ : ∃ G, G = (Int.gcd (lcmI sd md) ld : Int) := ⟨_, rfl⟩
      have hq := quot_pos (lcmI sd md) ld A1 l1
      have hg := gcd_pos (lcmI sd md) ld A1
      have hlb := lcmI_bound (lcmI sd md) ld A1 A2 l1 l2
      have hl : lcmI (lcmI sd md) ld = (lcmI sd md) * (ld / G) := by rw [hG]; rfl
      rw [← hG] at hq hg
      rw [hl] at hlb
      obtain ⟨q1, q2, _, _⟩ := hq
      obtain ⟨lb1, lb2⟩ := hlb
      have hT := Lib.hid (ST.out (lcmI sd md) ld wr A1 A2 l1 l2)
      rw [← hG] at hT
      have HL := Lib.hid hl; clear hl hG
      by_cases hbig : (lcmI sd md) * (ld / G) ≤ 1000000
      · go_wp2_with fail
        refine (hT.out).mono ?_; rintro e w1 ⟨rfl, hd⟩
        go_wp2_with fail
        go_roundw
        case rel => exact ⟨.inr (.inr (.inr ⟨rfl, by rw [← HL.out], by rw [HL.out]; exact hbig⟩)), below_drawn b0 hd⟩
        case measure => simp [intOf]
      · have hz := Lib.hid (show partsOf sd md ld = 0 by
          have h := HL.out; unfold partsOf; rw [if_neg (by omega)])
        go_wp2_with fail
        refine (hT.out).mono ?_; rintro e w1 ⟨rfl, hd⟩
        go_wp2_with fail
        go_ret
        exact ⟨ret_int (by rw [hz.out]), below_drawn b0 hd⟩
    · have hz := Lib.hid (show partsOf sd md ld = lcmI (lcmI sd md) ld by unfold partsOf; rw [if_pos hle])
      go_wp2_with fail
      go_ret
      exact ⟨ret_int (by rw [hz.out]), b0⟩
theorem lunisolar_increasing (w : World) (a : Option Addr) (n c : Nat) (xs : List Int) (lo hi : Int) (h : Ints w w.heap.size a n xs) :
    Calls Try.prog 65 #[.slice a n c, .int .i64 lo, .int .i64 hi] w fun e w' => e = .returned (.int .i64 (incErr lo hi none xs)) ∧ w = w' := by
  have H2 := Lib.hid h
  have L2 := Lib.hid h.1
  have m2 := h.2.1
  clear h
  go_enter Try.func65, Try.ntmps65
  go_wp2_with fail
  go_loop [7, 8, 11] (fun _ _ i => ∃ k : Nat, k ≤ n ∧ i = .int .i64 k ∧ IncTo lo hi xs k) (fun _ _ i => n - (intOf i).toNat)
  case atStart => exact ⟨0, by omega, rfl, IncTo.start _ _ _⟩
  case round =>
    obtain ⟨k, hk, rfl, hI⟩ := hrel
    have HI := Lib.hid hI; clear hI
    by_cases hlt : k < n
    · obtain ⟨b, off, y, rfl, hbB, cy, hx, y1, y2⟩ := H2.out.at_ hlt
      have HX := Lib.hid hx; clear hx
      rcases inB_cases lo hi y with ⟨hy, e1, e2⟩ | ⟨hy, hy'⟩
      · by_cases hk0 : k = 0
        · subst hk0
          have hnx := Lib.hid (HI.out.first HX.out hy)
          simp only [Nat.add_zero] at cy
          go_wp2_with fail
          go_round
          case rel => exact ⟨1, by omega, rfl, hnx.out⟩
          case measure => simp [intOf]; omega
        · obtain ⟨m, rfl⟩ : ∃ m, k = m + 1 := ⟨k - 1, by omega⟩
          obtain ⟨b', off', q, e', _, cq, hq, qq1, qq2⟩ := H2.out.at_ (show m < n by omega)
          injection e' with e'
          injection e' with x1 x2
          subst x1 x2
          have HQ := Lib.hid hq; clear hq
          have hmn : m < n := by omega
          by_cases hle : y ≤ q
          · have hf2 := Lib.hid (HI.out.order HX.out HQ.out hy hle)
            go_wp2_with fail
            go_ret
            exact ⟨ret_int (by rw [hf2.out]), rfl⟩
          · have hnx := Lib.hid (HI.out.next HX.out HQ.out hy hle)
            go_wp2_with fail
            go_round
            case rel => exact ⟨m + 1 + 1, by omega, by go_num, hnx.out⟩
            case measure => simp [intOf]; omega
      · have hf2 := Lib.hid (HI.out.range HX.out hy)
        have hq : y < lo ∨ (lo ≤ y ∧ hi < y) := by omega
        clear hy'
        rcases hq with q | ⟨q, q'⟩
        all_goals
          go_wp2_with fail
          go_ret
          exact ⟨ret_int (by rw [hf2.out]), rfl⟩
    · have hf2 := Lib.hid (HI.out.last (by have := L2.out; omega))
      go_wp2_with fail
      go_ret
      exact ⟨ret_int (by rw [hf2.out]), rfl⟩
theorem lcmI_up (a b : Int) (h1 : 1 ≤ a) (h2 : a ≤ 1000000) (h3 : 1 ≤ b) (h4 : b ≤ 1000000) : lcmI a b ≤ 2147483647000000 := (lcmI_bound a b h1 h2 h3 (by omega)).2
set_option maxHeartbeats 2000000 in
theorem ref_Parts (w : World) (s : ByteArray) (f sn sd mn md ln ld c : Int) (a1 a2 : Option Addr) (n1 c1 n2 c2 : Nat) (ls vs : List Int) (s1 : 1 ≤ sd) (s2 : sd ≤ 2147483647) (m1 : 1 ≤ md) (m2 : md ≤ 2147483647) (l1 : 1 ≤ ld) (l2 : ld ≤ 2147483647) :
    Calls Try.prog 40 #[.agg #[.string s, .int .i64 f, .int .i64 sn, .int .i64 sd, .int .i64 mn, .int .i64 md, .int .i64 ln, .int .i64 ld, .int .i64 c, .slice a1 n1 c1, .slice a2 n2 c2]] w fun e w' => e = .returned (.int .i64 (partsOf sd md ld)) ∧ Below w.heap.size w w' := by
  go_enter Try.func40, Try.ntmps40
  go_wp2_with fail
  have AG := Lib.hid (At.new1 w (.cells #[.string s, .int .i64 f, .int .i64 sn, .int .i64 sd, .int .i64 mn, .int .i64 md, .int .i64 ln, .int .i64 ld, .int .i64 c, .slice a1 n1 c1, .slice a2 n2 c2] 42) (.cells #[.int .i64 md, .int .i64 ld] 3))
  have bW : Below w.heap.size w ((w.alloc (.cells #[.string s, .int .i64 f, .int .i64 sn, .int .i64 sd, .int .i64 mn, .int .i64 md, .int .i64 ln, .int .i64 ld, .int .i64 c, .slice a1 n1 c1, .slice a2 n2 c2] 42)).alloc (.cells #[.int .i64 md, .int .i64 ld] 3)) := by (repeat' (first | exact Below.refl _ _ | assumption | refine Below.drew ?_ | refine below_drewN ?_ _ | refine below_new ?_ _ | refine below_set ?_ ?_ _ | refine below_then ?_ (by assumption) | refine below_drawn ?_ (by assumption) | exact Nat.le_refl _ | omega | (simp; done) | (simp; omega)))
  generalize World.alloc (World.alloc w _) _ = W1 at AG bW ⊢
  go_loopw [3, 5, 6, 18] (fun t _ _ i wr => ((i = .int .i64 0 ∧ t = .int .i64 sd) ∨ (i = .int .i64 1 ∧ t = .int .i64 (lcmI sd md) ∧ lcmI sd md ≤ 2147483647000000) ∨ (i = .int .i64 2 ∧ t = .int .i64 (lcmI (lcmI sd md) ld))) ∧ Below W1.heap.size W1 wr) (fun _ _ _ i _ => 2 - (intOf i).toNat)
  case atStart => exact ⟨.inl ⟨rfl, rfl⟩, Below.refl _ _⟩
  case round =>
    obtain ⟨hr, b0'⟩ := hrel
    rcases hr with ⟨rfl, rfl⟩ | ⟨rfl, rfl, hup⟩ | ⟨rfl, rfl⟩
    · have A1 : 1 ≤ sd := s1
      have A3 : sd ≤ 2147483647000000 := by omega
      have cd := (AG.out.then_ b0').cell 0
      simp at cd
      by_cases hbad : 1000000 < sd ∨ 1000000 < md
      · have hz := Lib.hid (show partsOf sd md ld = 0 from partsOf_big1 s1 m1 l1 (by omega))
        have hq : 1000000 < sd ∨ (¬ 1000000 < sd ∧ 1000000 < md) := by omega
        clear hbad
        rcases hq with q | ⟨q, q'⟩
        all_goals
          go_wp2_with fail
          go_ret
          exact ⟨ret_int (by rw [hz.out]), below_then bW b0'⟩
      · have A2 : sd ≤ 1000000 := by omega
        have D2 : md ≤ 1000000 := by omega
        clear hbad
        obtain ⟨G, hG⟩ : ∃ G, G = (Int.gcd sd md : Int) := ⟨_, rfl⟩
        have hq := quot_pos sd md A1 m1
        have hg := gcd_pos sd md A1
        have hgl : (Int.gcd sd md : Int) ≤ sd := Int.le_of_dvd (by omega) (Int.gcd_dvd_left _ _)
        have hlb := lcmI_bound sd md A1 A2 m1 m2
        have hl : lcmI sd md = sd / G * md := by rw [hG]; exact lcmI_eq _ _ A1 m1
        rw [← hG] at hq hg hgl
        rw [hl] at hlb
        obtain ⟨_, _, q1, q2⟩ := hq
        obtain ⟨lb1, lb2⟩ := hlb
        have hT := Lib.hid (ref_Gcd sd md wr (by omega) (by omega) (by omega) (by omega))
        rw [← hG] at hT
        have HL := Lib.hid hl; clear hl hG
        go_wp2_with fail
        refine (hT.out).mono ?_; rintro e w1 ⟨rfl, rfl⟩
        go_wp2_with fail
        go_roundw
        case rel => exact ⟨.inr (.inl ⟨rfl, by rw [← HL.out], lcmI_up _ _ s1 A2 m1 D2⟩), b0'⟩
        case measure => simp [intOf]
    · have A1 : 1 ≤ (lcmI sd md) := (by have := lcmI_ge sd md s1 m1; omega)
      have A3 : (lcmI sd md) ≤ 2147483647000000 := (by have := hup; omega)
      have cd := (AG.out.then_ b0').cell 1
      simp at cd
      by_cases hbad : 1000000 < (lcmI sd md) ∨ 1000000 < ld
      · have hz := Lib.hid (show partsOf sd md ld = 0 from partsOf_big1 s1 m1 l1 (by omega))
        have hq : 1000000 < (lcmI sd md) ∨ (¬ 1000000 < (lcmI sd md) ∧ 1000000 < ld) := by omega
        clear hbad
        rcases hq with q | ⟨q, q'⟩
        all_goals
          go_wp2_with fail
          go_ret
          exact ⟨ret_int (by rw [hz.out]), below_then bW b0'⟩
      · have A2 : (lcmI sd md) ≤ 1000000 := by omega
        have D2 : ld ≤ 1000000 := by omega
        clear hbad
        obtain ⟨G, hG⟩ : ∃ G, G = (Int.gcd (lcmI sd md) ld : Int) := ⟨_, rfl⟩
        have hq := quot_pos (lcmI sd md) ld A1 l1
        have hg := gcd_pos (lcmI sd md) ld A1
        have hgl : (Int.gcd (lcmI sd md) ld : Int) ≤ (lcmI sd md) := Int.le_of_dvd (by omega) (Int.gcd_dvd_left _ _)
        have hlb := lcmI_bound (lcmI sd md) ld A1 A2 l1 l2
        have hl : lcmI (lcmI sd md) ld = (lcmI sd md) / G * ld := by rw [hG]; exact lcmI_eq _ _ A1 l1
        rw [← hG] at hq hg hgl
        rw [hl] at hlb
        obtain ⟨_, _, q1, q2⟩ := hq
        obtain ⟨lb1, lb2⟩ := hlb
        have hT := Lib.hid (ref_Gcd (lcmI sd md) ld wr (by omega) (by omega) (by omega) (by omega))
        rw [← hG] at hT
        have HL := Lib.hid hl; clear hl hG
        go_wp2_with fail
        refine (hT.out).mono ?_; rintro e w1 ⟨rfl, rfl⟩
        go_wp2_with fail
        go_roundw
        case rel => exact ⟨.inr (.inr ⟨rfl, by rw [← HL.out]⟩), b0'⟩
        case measure => simp [intOf]
    · by_cases hle : lcmI (lcmI sd md) ld ≤ 1000000
      · have hz := Lib.hid (show partsOf sd md ld = lcmI (lcmI sd md) ld by unfold partsOf; rw [if_pos hle])
        go_wp2_with fail
        go_ret
        exact ⟨ret_int (by rw [hz.out]), below_then bW b0'⟩
      · have hz := Lib.hid (show partsOf sd md ld = 0 by unfold partsOf; rw [if_neg hle])
        go_wp2_with fail
        go_ret
        exact ⟨ret_int (by rw [hz.out]), below_then bW b0'⟩
end Go.Proofs.Ytjjmbnflhldoeaa
