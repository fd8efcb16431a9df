/- CompileLeasts: the Go text returns true at every input, and writes nothing that was there. -/
import Derived.Test.YtjpbkkoflaajcaaLeast2
import Derived.Test.YtjpbkkoflaajcaaComp4
import Derived.Test.YtjpbkkoflaajcaaOne
import Derived.Test.YtjpbkkoflaajcaaSmall
namespace Go.Proofs.Ytjpbkkoflaajcaa.compileLeastsLaw
set_option linter.unusedVariables false
set_option maxRecDepth 100000
open Go.RowKit Go.ChangeShapes Go.WideShapes

theorem lit4 (k : Nat) (h1 : (k : Int) + 1 ≤ 8) (h2 : perB (8 : Int).toNat [4, 8] (k + 1) = true) (h3 : ∀ m, 1 ≤ m → m < k + 1 → perB (8 : Int).toNat [4, 8] m = false) : k = 3 := by
  have h4 : perB (8 : Int).toNat [4, 8] 4 = true := by decide +kernel
  rcases Nat.lt_or_ge k 3 with h | h
  · have hk : k = 0 ∨ k = 1 ∨ k = 2 := by omega
    rcases hk with rfl | rfl | rfl
    · exact absurd h2 (by decide +kernel)
    · exact absurd h2 (by decide +kernel)
    · exact absurd h2 (by decide +kernel)
  · rcases Nat.lt_or_ge 3 k with h' | h'
    · have := h3 4 (by omega) (by omega); rw [h4] at this; cases this
    · omega
theorem lit0 : calErr ⟨#[115, 109, 97, 108, 108]⟩ 1 8 smallMonths [4, 8] = 0 := by decide +kernel
theorem none5 (w : World) (B : Nat) : Months w B none 0 [] ∧ Ints w B none 0 [] := ⟨⟨⟨rfl, by omega, fun h => absurd h (by omega)⟩, by simp⟩, ⟨rfl, by omega, by simp, fun h => absurd h (by omega)⟩⟩
set_option maxHeartbeats 8000000 in
theorem core (w : World) (s : ByteArray) (f c : Int) (a1 a2 : Option Addr) (n1 c1 n2 c2 : Nat) (ms : List Mon) (ls : List Int) (hs : s.size ≤ 9223372036854775807) (k1 : n1 ≤ c1) (h : CalAt w a1 a2 n1 n2 ms ls) :
    Calls Try.prog 4 #[.agg #[.string s, .int .i64 f, .int .i64 c, .slice a1 n1 c1, .slice a2 n2 c2]] w fun e w' => e = .returned (.bool true) ∧ Below w.heap.size w w' := by
  obtain ⟨i0, hi, hz0, hz1, hz2⟩ := info_parts Try.infoIntL
  have L1 := Lib.hid h.1.len; have L2 := Lib.hid h.2.len
  have H := Lib.hid h; clear h
  go_enter Try.func4, Try.ntmps4
  go_wp2_with fail
  refine (law_small _).mono ?_
  rintro e w1 ⟨rfl, _, _, atm, hb⟩
  have o0 := (One.new w (.cells #[.string s, .int .i64 f, .int .i64 c, .slice a1 n1 c1, .slice a2 n2 c2] 30)).step hb
  clear hb
  simp only [World.size_alloc] at atm
  have ATM := Lib.hid (small_months atm); clear atm
  have hfd := fun W => small_field W (w.heap.size + 1)
  go_wp2_with fail
  clear hfd
  refine (compile_Least _ ⟨#[115, 109, 97, 108, 108]⟩ 1 8 _ _ 2 2 2 2 smallMonths [4, 8] (by decide) (by omega) (ATM.out.far (Below.refl _ _) (below_new (Below.refl _ _) _)) (At.ints [4, 8] (At.new w1 _) (by unfold I64; simp) (by simp))).mono ?_
  rintro e w2 hcp
  rcases hcp with ⟨h0, _⟩ | ⟨_, k, hk1, hk2, hk3, p1, q1, r1, p2, q2, r2, rfl, _, hI, hb⟩
  · exact absurd lit0 h0
  obtain rfl := lit4 k hk1 hk2 hk3
  rw [show List.filter (fun y => decide (y ≤ ((3 : Nat) : Int) + 1)) [4, 8] = [4] by decide] at hI
  simp only [show (((3 : Nat) : Int) + 1) = 4 by decide]
  replace o0 := (o0.alloc _).step hb
  have HI := Lib.hid hI
  clear hb hI hk1 hk2 hk3
  go_wp2_with fail
  have o1 := (o0.alloc (.cells #[.string ⟨#[115, 109, 97, 108, 108]⟩, .int .i64 1, .int .i64 4, .slice p1 q1 r1, .slice p2 q2 r2] 30)).alloc (.cells #[.int .i64 4] 3)
  have ai := At.new1 w2 (.cells #[.string ⟨#[115, 109, 97, 108, 108]⟩, .int .i64 1, .int .i64 4, .slice p1 q1 r1, .slice p2 q2 r2] 30) (.cells #[.int .i64 4] 3)
  have bi := below_new (below_new (Below.refl w2.heap.size w2) (.cells #[.string ⟨#[115, 109, 97, 108, 108]⟩, .int .i64 1, .int .i64 4, .slice p1 q1 r1, .slice p2 q2 r2] 30)) (.cells #[.int .i64 4] 3)
  generalize World.alloc (World.alloc w2 _) _ = W3 at o1 ai bi ⊢
  refine (ref_SameInts _ p2 (some ⟨w2.heap.size + 1, 0, none⟩) q2 r2 1 1 [4] [4] (ints_then4 HI.out bi) (At.ints [4] ai (by unfold I64; simp) (by simp))).mono ?_
  rw [show (([4] : List Int) == [4]) = true by decide]
  rintro e w4 ⟨rfl, ⟨nd, rfl⟩⟩
  replace o1 := o1.drewN nd
  clear ai bi HI o0
  generalize W3.drewN nd = W4 at o1 ⊢
  have ob := o1.1
  have d0 := ob.cell 0; have d1 := ob.cell 1; have d2 := ob.cell 2; have d3 := ob.cell 3; have d4 := ob.cell 4; simp at d0 d1 d2 d3 d4
  go_wp2_with fail
  clear d0 d1 d2 d3 d4 ob
  refine (compile_Least _ s f c a1 a2 n1 c1 n2 c2 ms ls hs k1 (H.out.1.far (Below.refl _ _) o1.2) (ints_then4 H.out.2 o1.2)).mono ?_
  intro e w5 hcp
  by_cases q : calErr s f c ms ls = 0
  case neg =>
    rcases hcp with ⟨_, rfl, hb⟩ | ⟨h0, _⟩
    case inr => exact absurd h0 q
    obtain ⟨E, hE⟩ : ∃ E, E = calErr s f c ms ls := ⟨_, rfl⟩
    rw [← hE] at q ⊢
    have q' : (E != 0) = true := by simpa using q
    have HE := Lib.hid hE; clear hE q
    replace o1 := o1.step hb
    clear hb
    have ob := o1.1
    have d0 := ob.cell 0; have d1 := ob.cell 1; have d2 := ob.cell 2; have d3 := ob.cell 3; have d4 := ob.cell 4; simp at d0 d1 d2 d3 d4
    have hl5 := ob.lt
    go_wp2_with fail
    have o2 := o1.alloc (.cells #[.string ⟨#[]⟩, .int .i64 0, .int .i64 0, .slice none 0 0, .slice none 0 0] 30)
    have ax := At.new w5 (.cells #[.string ⟨#[]⟩, .int .i64 0, .int .i64 0, .slice none 0 0, .slice none 0 0] 30)
    clear d0 d1 d2 d3 d4 ob o1
    generalize World.alloc w5 _ = W6 at o2 ax ⊢
    refine (ref_CalendarError _ s f c a1 a2 n1 c1 n2 c2 ms ls hs (H.out.1.far (Below.refl _ _) o2.2) (ints_then4 H.out.2 o2.2)).mono ?_
    rw [← HE.out]
    rintro e w7 ⟨rfl, hb⟩
    replace o2 := o2.step hb
    replace ax := ax.then_ hb
    clear hb
    have d0 := ax.cell 0; have d1 := ax.cell 1; have d2 := ax.cell 2; have d3 := ax.cell 3; have d4 := ax.cell 4; simp at d0 d1 d2 d3 d4
    go_wp2_with fail
    refine (ref_SameCalendar _ ⟨#[]⟩ 0 0 none none none none 0 0 0 0 0 0 [] [] (none5 _ _).1 (none5 _ _).2 (none5 _ _).1 (none5 _ _).2).mono ?_
    rintro e w8 ⟨rfl, hb⟩
    go_wp2_with fail
    go_ret
    exact ⟨by simp, below_then o2.2 hb⟩
  rcases hcp with ⟨h0, _⟩ | ⟨_, k, hkc, hper, hmin, p3, q3, r3, p4, q4, r4, rfl, hM, hL, hb⟩
  · exact absurd q h0
  have ok := calOk_of q
  obtain ⟨C, rfl⟩ : ∃ C : Nat, c = (C : Int) := ⟨c.toNat, by have := ok.cy1; omega⟩
  rw [show ((C : Int)).toNat = C by omega] at hper hmin
  have cy1 : 1 ≤ C := by have := ok.cy1; omega
  have cy2 : C ≤ 3000 := by have := ok.cy2; omega
  have OK := Lib.hid ok; have HQ := Lib.hid q
  have HPER := Lib.hid hper; have HMIN := Lib.hid hmin
  have hself := Lib.hid (perB_self C ls)
  obtain rfl : q3 = n1 := by rw [← hM.len]; exact L1.out
  have HM := Lib.hid hM; have HL := Lib.hid hL; have HLL := Lib.hid hL.len
  replace o1 := o1.step hb
  clear ok q hper hmin hM hL hb
  have ob := o1.1
  have d0 := ob.cell 0; have d1 := ob.cell 1; have d2 := ob.cell 2; have d3 := ob.cell 3; have d4 := ob.cell 4; simp at d0 d1 d2 d3 d4
  have hl5 := ob.lt
  go_wp2_with fail
  have o2 := o1.alloc (.cells #[.string s, .int .i64 f, .int .i64 ((k : Int) + 1), .slice p3 q3 r3, .slice p4 q4 r4] 30)
  have ax := At.new w5 (.cells #[.string s, .int .i64 f, .int .i64 ((k : Int) + 1), .slice p3 q3 r3, .slice p4 q4 r4] 30)
  have b5 := below_new (Below.refl w5.heap.size w5) (.cells #[.string s, .int .i64 f, .int .i64 ((k : Int) + 1), .slice p3 q3 r3, .slice p4 q4 r4] 30)
  clear d0 d1 d2 d3 d4 ob o1
  generalize World.alloc w5 _ = W6 at o2 ax b5 ⊢
  refine (ref_CalendarError _ s f (C : Int) a1 a2 q3 c1 n2 c2 ms ls hs (H.out.1.far (Below.refl _ _) o2.2) (ints_then4 H.out.2 o2.2)).mono ?_
  rw [HQ.out]
  rintro e w7 ⟨rfl, hb⟩
  replace o2 := o2.step hb
  replace ax := ax.then_ hb
  replace b5 := below_then b5 hb
  clear hb
  have ob := o2.1
  have d0 := ob.cell 0; have d1 := ob.cell 1; have d2 := ob.cell 2; have d3 := ob.cell 3; have d4 := ob.cell 4; simp at d0 d1 d2 d3 d4
  go_wp2_with fail
  clear d0 d1 d2 d3 d4 ob
  refine (ref_Apart _ s f C a1 a2 q3 c1 n2 c2 ms ls OK.out ⟨H.out.1.far (Below.refl _ _) o2.2, ints_then4 H.out.2 o2.2⟩).mono ?_
  rintro e w8 ⟨g, rfl, hmk, hb⟩
  replace o2 := o2.step hb
  replace ax := ax.then_ hb
  replace b5 := below_then b5 hb
  clear hb
  go_upto_region 9 with fail
  have ay := At.new w8 (.cells #[.string s, .int .i64 f, .int .i64 (C : Int), .slice a1 q3 c1, .slice a2 n2 c2, .slice (some ⟨g, 0, none⟩) C C, .int .i64 (shortOf ms), .int .i64 (longOf ms), .int .i64 (daysTo (shortOf ms) (longOf ms) ls (C : Int))] 43)
  replace o2 := o2.alloc (.cells #[.string s, .int .i64 f, .int .i64 (C : Int), .slice a1 q3 c1, .slice a2 n2 c2, .slice (some ⟨g, 0, none⟩) C C, .int .i64 (shortOf ms), .int .i64 (longOf ms), .int .i64 (daysTo (shortOf ms) (longOf ms) ls (C : Int))] 43)
  replace ax := ax.alloc (.cells #[.string s, .int .i64 f, .int .i64 (C : Int), .slice a1 q3 c1, .slice a2 n2 c2, .slice (some ⟨g, 0, none⟩) C C, .int .i64 (shortOf ms), .int .i64 (longOf ms), .int .i64 (daysTo (shortOf ms) (longOf ms) ls (C : Int))] 43)
  replace b5 := below_new b5 (.cells #[.string s, .int .i64 f, .int .i64 (C : Int), .slice a1 q3 c1, .slice a2 n2 c2, .slice (some ⟨g, 0, none⟩) C C, .int .i64 (shortOf ms), .int .i64 (longOf ms), .int .i64 (daysTo (shortOf ms) (longOf ms) ls (C : Int))] 43)
  have mg : MarksAt (w8.alloc (.cells #[.string s, .int .i64 f, .int .i64 (C : Int), .slice a1 q3 c1, .slice a2 n2 c2, .slice (some ⟨g, 0, none⟩) C C, .int .i64 (shortOf ms), .int .i64 (longOf ms), .int .i64 (daysTo (shortOf ms) (longOf ms) ls (C : Int))] 43)) g C ls := At.alloc hmk (.cells #[.string s, .int .i64 f, .int .i64 (C : Int), .slice a1 q3 c1, .slice a2 n2 c2, .slice (some ⟨g, 0, none⟩) C C, .int .i64 (shortOf ms), .int .i64 (longOf ms), .int .i64 (daysTo (shortOf ms) (longOf ms) ls (C : Int))] 43)
  clear hmk
  generalize World.alloc w8 _ = W8 at o2 ax b5 ay mg ⊢
  generalize hyb : w8.heap.size = yb at *
  generalize hdb : w5.heap.size = db at *
  have AO := Lib.hid o2.1; have B8 := Lib.hid o2.2; have AD := Lib.hid ax; have B5 := Lib.hid b5; have AY := Lib.hid ay; have MG := Lib.hid mg
  have hlo := o2.1.lt; have hld := ax.lt; have hly := ay.lt
  clear o2 ax b5 ay mg
  go_wp2_with fail
  go_loopw [9, 10, 11, 12, 13] (fun vn _ _ _ _ wr => ∃ n0 : Nat, n0 ≤ C ∧ vn = .int .i64 ((n0 : Int) + 1) ∧ (∀ m, 1 ≤ m → m < n0 + 1 → perB C ls m = false) ∧ Below W8.heap.size W8 wr) (fun vn _ _ _ _ _ => C + 2 - (intOf vn).toNat)
  case atStart => exact ⟨0, by omega, rfl, fun m h1 h2 => by omega, Below.refl _ _⟩
  case round =>
    obtain ⟨n0, hn0, rfl, hno, bw⟩ := hrel
    obtain ⟨W9, rfl⟩ : ∃ W9, W9 = wr := ⟨_, rfl⟩
    have HNO := Lib.hid hno; clear hno
    have hnC : n0 < C := by
      rcases Nat.lt_or_ge n0 C with h | h
      · exact h
      · have := HNO.out C cy1 (by omega); rw [hself.out] at this; cases this
    have hnC2 : (n0 : Int) + 1 ≤ (C : Int) := by omega
    have a9 := AO.out.then_ bw
    have x2 : W9.cell? ⟨w.heap.size, 2, none⟩ = some (.int .i64 (C : Int)) := a9.cell 2
    have hbs := bw.size
    obtain ⟨hrem, hrem2⟩ := rem_nat C n0
    have hk0 : ((n0 : Int) + 1 == 0) = false := by simp; omega
    have hk0' : (n0 : Int) + 1 ≠ 0 := by omega
    have hrl : C % (n0 + 1) ≤ 3000 := Nat.le_trans (Nat.mod_le _ _) cy2
    have BW := Lib.hid bw
    by_cases hdv : C % (n0 + 1) = 0
    case neg =>
      have hper := Lib.hid (show perB C ls (n0 + 1) = false by unfold perB; rw [decide_eq_false hdv]; rfl)
      have hrz : (((C % (n0 + 1) : Nat) : Int) == 0) = false := by rw [beq_eq_false_iff_ne]; intro e; exact hdv (Int.natCast_eq_zero.1 e)
      have hrz4 : (((C % (n0 + 1) : Nat) : Int) != 0) = true := by rw [bne, hrz]; rfl
      generalize C % (n0 + 1) = r at *
      clear hrz
      go_wp2_with fail
      go_roundw
      case rel => exact ⟨n0 + 1, by omega, by go_num, fun m hm1 hm2 => by
        rcases Nat.lt_or_ge m (n0 + 1) with h | h
        · exact HNO.out m hm1 h
        · obtain rfl : m = n0 + 1 := by omega
          exact hper.out, BW.out⟩
      case measure => first | (simp [intOf]; done) | (simp [intOf]; omega)
    have HLP := Lib.hid (law_per (C := C) (n := n0 + 1) (ls := ls) (by omega) hnC hdv)
    have HPB := Lib.hid (show perB C ls (n0 + 1) = perTo ls (n0 + 1) (C - (n0 + 1)) by unfold perB; rw [decide_eq_true hdv]; rfl)
    rw [hdv] at hrem hrem2
    clear bw hrl
    go_wp2_with fail
    clear hrem hrem2 x2 a9
    go_loopw [10, 11] (fun vs vk wr => ∃ j : Nat, j ≤ C ∧ vk = .int .i64 ((j : Int) + 1) ∧ vs = .bool (lawTo C ls (n0 + 1) j) ∧ Below W8.heap.size W8 wr) (fun _ vk _ => C + 2 - (intOf vk).toNat)
    case atStart => exact ⟨0, by omega, rfl, rfl, BW.out⟩
    case round =>
      obtain ⟨j, hj, rfl, rfl, bw⟩ := hrel
      obtain ⟨Wa, rfl⟩ : ∃ Wa, Wa = wr := ⟨_, rfl⟩
      have a9 := AO.out.then_ bw
      have x2 : Wa.cell? ⟨w.heap.size, 2, none⟩ = some (.int .i64 (C : Int)) := a9.cell 2
      have BWa := Lib.hid bw
      have hbs2 := bw.size
      cases hlaw : lawTo C ls (n0 + 1) j with
      | false =>
        have hper := Lib.hid (show perB C ls (n0 + 1) = false by rw [HPB.out, ← HLP.out]; exact lawTo_false hlaw C hj)
        clear hlaw bw a9
        rcases Nat.lt_or_ge j C with hjC | hjC
        · have hjC2 : (j : Int) + 1 ≤ (C : Int) := by omega
          go_wp2_with fail
          go_roundw
          case rel => exact ⟨n0 + 1, by omega, by go_num, fun m hm1 hm2 => by
            rcases Nat.lt_or_ge m (n0 + 1) with h | h
            · exact HNO.out m hm1 h
            · obtain rfl : m = n0 + 1 := by omega
              exact hper.out, BWa.out⟩
          case measure => first | (simp [intOf]; done) | (simp [intOf]; omega)
        · have hjC2 : (C : Int) < (j : Int) + 1 := by omega
          go_wp2_with fail
          go_roundw
          case rel => exact ⟨n0 + 1, by omega, by go_num, fun m hm1 hm2 => by
            rcases Nat.lt_or_ge m (n0 + 1) with h | h
            · exact HNO.out m hm1 h
            · obtain rfl : m = n0 + 1 := by omega
              exact hper.out, BWa.out⟩
          case measure => first | (simp [intOf]; done) | (simp [intOf]; omega)
      | true =>
        have HLAW := Lib.hid hlaw; clear hlaw
        rcases Nat.lt_or_ge j C with hjC | hjC
        · have hjC2 : (j : Int) + 1 ≤ (C : Int) := by omega
          have IS1 := Lib.hid (show ∀ W, MarksAt W g C ls → _ from fun W hm => by
            have h := years_IsLeap W s f C a1 a2 q3 c1 n2 c2 ms ls g ((j : Int) + 1) (shortOf ms) (longOf ms) (daysTo (shortOf ms) (longOf ms) ls (C : Int)) cy1 cy2 (by omega) (by omega) hm
            rw [place_kL C j hjC] at h; exact h)
          have IS2 := Lib.hid (show ∀ W, MarksAt W g C ls → _ from fun W hm => by
            have h := years_IsLeap W s f C a1 a2 q3 c1 n2 c2 ms ls g ((j : Int) + 1 + ((n0 : Int) + 1)) (shortOf ms) (longOf ms) (daysTo (shortOf ms) (longOf ms) ls (C : Int)) cy1 cy2 (by omega) (by omega) hm
            rw [show (j : Int) + 1 + ((n0 : Int) + 1) = (j : Int) + 1 + ((n0 + 1 : Nat) : Int) by omega, place_nL C j (n0 + 1), ← show (j : Int) + 1 + ((n0 : Int) + 1) = (j : Int) + 1 + ((n0 + 1 : Nat) : Int) by omega] at h; exact h)
          have hwk : IntKind.i64.wrap ((j : Int) + 1 + ((n0 : Int) + 1)) = (j : Int) + 1 + ((n0 : Int) + 1) := IntWalk.i64_in _ (by omega)
          have HS := Lib.hid (show lawTo C ls (n0 + 1) (j + 1) = (flag ls (j : Int) == flag ls (((n0 + 1 + j) % C : Nat) : Int)) by rw [lawTo_succ, HLAW.out]; rfl)
          generalize flag ls (j : Int) = bA at *
          generalize flag ls (((n0 + 1 + j) % C : Nat) : Int) = bB at *
          clear bw a9
          go_upto_region 17 with fail
          (refine region_class (Below Wa.heap.size Wa) (by kernel_rfl) (by kernel_rfl) ((Below.refl _ _).drew) ?_; repeat ((first | (refine class_take ?_ (by rfl) ?_ ?_; rotate_left; focus (intro wq hq; ((have ay4 := (AY.out.then_ BWa.out).then_ hq; have mg4 := (MG.out.then_ BWa.out).then_ hq; have yy0 : wq.cell? ⟨yb, 0, none⟩ = some (.string s) := ay4.cell 0; have yy1 : wq.cell? ⟨yb, 1, none⟩ = some (.int .i64 f) := ay4.cell 1; have yy2 : wq.cell? ⟨yb, 2, none⟩ = some (.int .i64 (C : Int)) := ay4.cell 2; have yy3 : wq.cell? ⟨yb, 3, none⟩ = some (.slice a1 q3 c1) := ay4.cell 3; have yy4 : wq.cell? ⟨yb, 4, none⟩ = some (.slice a2 n2 c2) := ay4.cell 4; have yy5 : wq.cell? ⟨yb, 5, none⟩ = some (.slice (some ⟨g, 0, none⟩) C C) := ay4.cell 5; have yy6 : wq.cell? ⟨yb, 6, none⟩ = some (.int .i64 (shortOf ms)) := ay4.cell 6; have yy7 : wq.cell? ⟨yb, 7, none⟩ = some (.int .i64 (longOf ms)) := ay4.cell 7; have yy8 : wq.cell? ⟨yb, 8, none⟩ = some (.int .i64 (daysTo (shortOf ms) (longOf ms) ls (C : Int))) := ay4.cell 8)); go_simp; first | done | with_reducible rfl | ((go_at_call 14; (first | (with_reducible refine (IS1.out _ mg4).mono ?_) | (with_reducible refine (IS2.out _ mg4).mono ?_)); rintro e w' ⟨rfl, hb⟩; refine ⟨?_, below_then hq hb⟩; with_reducible rfl)))) | refine class_skip (by rfl) ?_); try simp only [Act.put, List.setIfInBounds_toArray, List.set_cons_zero, List.set_cons_succ]))
          refine wpQuiet_nil ?_
          intro Wb hb2
          clear x2
          go_wp2_with fail
          go_roundw
          case rel => exact ⟨j + 1, by omega, by go_num, by rw [HS.out], below_then BWa.out hb2⟩
          case measure => first | (simp [intOf]; done) | (simp [intOf]; omega)
        · obtain rfl : C = j := by omega
          have hjC2 : (C : Int) < (C : Int) + 1 := by omega
          have hpN : perB C ls (n0 + 1) = true := by rw [HPB.out, ← HLP.out]; exact HLAW.out
          obtain rfl : k = n0 := by
            rcases Nat.lt_trichotomy k n0 with h | h | h
            · have := HNO.out (k + 1) (by omega) (by omega); rw [HPER.out] at this; cases this
            · exact h
            · have := HMIN.out (n0 + 1) (by omega) (by omega); rw [hpN] at this; cases this
          have x0 : Wa.cell? ⟨w.heap.size, 0, none⟩ = some (.string s) := a9.cell 0
          have x1 : Wa.cell? ⟨w.heap.size, 1, none⟩ = some (.int .i64 f) := a9.cell 1
          have x3 : Wa.cell? ⟨w.heap.size, 3, none⟩ = some (.slice a1 q3 c1) := a9.cell 3
          clear hpN a9 bw HLP HPB
          go_upto_region 20 with fail
          have ac := At.new Wa (.cells #[.string s, .int .i64 f, .int .i64 ((k : Int) + 1), .slice a1 q3 c1, .slice none 0 0] 30)
          have bc := below_new (Below.refl Wa.heap.size Wa) (.cells #[.string s, .int .i64 f, .int .i64 ((k : Int) + 1), .slice a1 q3 c1, .slice none 0 0] 30)
          clear x0 x1 x2 x3
          generalize World.alloc Wa _ = Wc at ac bc ⊢
          generalize hG : Wa.heap.size = G at *
          go_wp2_with fail
          try simp only [Bool.not_true]
          go_loopw [13] (fun vk wr => ∃ (j : Nat) (v : Value), j ≤ k + 1 ∧ vk = .int .i64 ((j : Int) + 1) ∧ wr.ownsRow (G + 1) 3 1 v ((ls.filter fun y => decide (y ≤ (j : Int)))).length (((ls.filter fun y => decide (y ≤ (j : Int)))).map (Value.int .i64)) ∧ At wr G (.cells #[.string s, .int .i64 f, .int .i64 ((k : Int) + 1), .slice a1 q3 c1, v] 30) ∧ Below G Wa wr) (fun vk _ => k + 3 - (intOf vk).toNat)
          case atStart => exact ⟨0, .slice none 0 0, by omega, rfl, by rw [filt_zero (fun y hy => (OK.out.leaps y hy).1)]; exact World.ownsRow_nil _ _ _ _, ac, bc⟩
          case round =>
            clear ac bc
            obtain ⟨j, v, hj2, rfl, hown, ac, bw⟩ := hrel
            obtain ⟨Wd, rfl⟩ : ∃ Wd, Wd = wr := ⟨_, rfl⟩
            have OWN := Lib.hid hown; have AC := Lib.hid ac; have BW2 := Lib.hid bw
            have bwa : Below Wa.heap.size Wa Wd := by rw [hG]; exact bw
            have bw8 := below_then BWa.out bwa
            have hgl := ac.lt
            have hfl : ((ls.filter fun y => decide (y ≤ (j : Int)))).length ≤ 3000 := Nat.le_trans (List.length_filter_le _ _) (by have := OK.out.count.2; omega)
            clear hown
            rcases Nat.lt_or_ge j (k + 1) with hjk | hjk
            · have hjk2 : (j : Int) + 1 ≤ (k : Int) + 1 := by omega
              have ay4 := AY.out.then_ bw8
              have mg4 := MG.out.then_ bw8
              have yy0 : Wd.cell? ⟨yb, 0, none⟩ = some (.string s) := ay4.cell 0
              have yy1 : Wd.cell? ⟨yb, 1, none⟩ = some (.int .i64 f) := ay4.cell 1
              have yy2 : Wd.cell? ⟨yb, 2, none⟩ = some (.int .i64 (C : Int)) := ay4.cell 2
              have yy3 : Wd.cell? ⟨yb, 3, none⟩ = some (.slice a1 q3 c1) := ay4.cell 3
              have yy4 : Wd.cell? ⟨yb, 4, none⟩ = some (.slice a2 n2 c2) := ay4.cell 4
              have yy5 : Wd.cell? ⟨yb, 5, none⟩ = some (.slice (some ⟨g, 0, none⟩) C C) := ay4.cell 5
              have yy6 : Wd.cell? ⟨yb, 6, none⟩ = some (.int .i64 (shortOf ms)) := ay4.cell 6
              have yy7 : Wd.cell? ⟨yb, 7, none⟩ = some (.int .i64 (longOf ms)) := ay4.cell 7
              have yy8 : Wd.cell? ⟨yb, 8, none⟩ = some (.int .i64 (daysTo (shortOf ms) (longOf ms) ls (C : Int))) := ay4.cell 8
              have IS := years_IsLeap Wd s f C a1 a2 q3 c1 n2 c2 ms ls g ((j : Int) + 1) (shortOf ms) (longOf ms) (daysTo (shortOf ms) (longOf ms) ls (C : Int)) cy1 cy2 (by omega) (by omega) mg4
              rw [place_kL C j (by omega)] at IS
              have hyes := fun h => filt_yesL (ls := ls) (k := j) OK.out.sorted h
              have hnoo := fun h => filt_noL (ls := ls) (k := j) OK.out.sorted h
              have HYES := Lib.hid hyes; have HNOO := Lib.hid hnoo
              clear hyes hnoo bw ay4 mg4 bw8 bwa
              cases hfg : flag ls (j : Int) with
              | false =>
                rw [hfg] at IS
                have HF := Lib.hid (HNOO.out hfg)
                clear hfg
                go_wp2_with fail
                refine IS.mono ?_
                rintro e w9 ⟨rfl, hb⟩
                go_wp2_with fail
                go_roundw
                case rel => exact ⟨j + 1, v, by omega, by go_num, by rw [HF.out]; exact own_thenL OWN.out hb, AC.out.then_ hb, BW2.out.trans (hb.mono (by omega))⟩
                case measure => first | (simp [intOf]; done) | (simp [intOf]; omega)
              | true =>
                rw [hfg] at IS
                have HF := Lib.hid (HYES.out hfg)
                clear hfg
                go_wp2_with fail
                refine IS.mono ?_
                rintro e w9 ⟨rfl, hb⟩
                have ac9 := AC.out.then_ hb
                have OWN9 := Lib.hid (own_thenL OWN.out hb)
                have BW9 := Lib.hid (BW2.out.trans (hb.mono (by omega)))
                have hg9 := ac9.lt
                have x4 : w9.cell? ⟨G, 4, none⟩ = some v := ac9.cell 4
                have AC9 := Lib.hid ac9
                obtain ⟨zs, hzs⟩ : ∃ zs, zs = ((ls.filter fun y => decide (y ≤ (j : Int)))) := ⟨_, rfl⟩
                rw [← hzs] at OWN9 hfl HF
                clear hzs hb ac9 ac yy0 yy1 yy2 yy3 yy4 yy5 yy6 yy7 yy8
                obtain ⟨T, hT⟩ : ∃ T, T = (j : Int) + 1 := ⟨_, rfl⟩
                rw [← hT] at HF
                have HTT := Lib.hid hT
                obtain ⟨hT1, hT2⟩ : 1 ≤ T ∧ T ≤ 3001 := by omega
                rw [← hT]
                clear hT
                go_wp2_with (at_builtin; refine wpList_append_own _ rfl _ _ 28 rfl (G + 1) 3 i0 (.int .i64 0) 1 8 Try.underlying28 hi hz0 hz1 hz2 rfl (by decide) _ _ _ rfl (OWN9.out.alloc _) ⟨w9.heap.size, 0, none⟩ 1 1 [.int .i64 T] rfl rfl (World.news_of_block (cs := #[.int .i64 T]) (t := 3) (fr := (0, 0)) (heap_alloc_new w9 _)) (by simp [Value.oneCell']) (by unfold maxLen; omega) (by omega) (by first | omega | (simp; omega)) ?_; intro v' w4 hown' hgrow _; (obtain ⟨gg, cap, hv, hg4, hl4⟩ := hown'.form (by omega)); subst hv; have ac4 := (AC9.out.alloc (.cells #[.int .i64 T] 3)).grownL hgrow (own_nearL OWN9.out (by omega)); have y4 : w4.cell? ⟨G, 4, none⟩ = some v := ac4.cell 4; have y5 : w4.frozen? ⟨G, 4, none⟩ = false := ac4.frozen 4)
                have bw4 : Below G Wa w4 := ((BW9.out).alloc (by omega) (.cells #[.int .i64 T] 3)).grown hgrow (by simp; omega) (fun b hb => by
                  rcases Nat.lt_or_ge b (G + 1) with h | h
                  · exact absurd hb.symm (own_nearL OWN9.out h)
                  · omega)
                have ow4 := Lib.hid (own_setL hown' (p := ⟨G, 4, none⟩) (by simp only; omega) (.slice (some ⟨gg, 0, none⟩) (zs.length + 1) cap))
                have AC4 := Lib.hid (ac4.store 4 (.slice (some ⟨gg, 0, none⟩) (zs.length + 1) cap))
                have BW4 := Lib.hid (below_set bw4 (p := ⟨G, 4, none⟩) (Nat.le_refl _) (.slice (some ⟨gg, 0, none⟩) (zs.length + 1) cap))
                clear hown' hgrow ac4 bw4
                go_wp2_with fail
                go_roundw
                case rel => exact ⟨j + 1, _, by omega, by have := HTT.out; first | go_num | (rw [this]; go_num), by rw [HF.out, List.length_append, List.map_append]; exact ow4.out, AC4.out, BW4.out⟩
                case measure => have := HTT.out; first | (simp [intOf]; done) | (simp [intOf]; omega)
            · obtain rfl : j = k + 1 := by omega
              have hjk2 : (k : Int) + 1 < ((k + 1 : Nat) : Int) + 1 := by omega
              have hc : ((k + 1 : Nat) : Int) = (k : Int) + 1 := by omega
              rw [hc] at OWN
              have HI0 := Lib.hid (show ∀ z ∈ ls.filter (fun y => decide (y ≤ (k : Int) + 1)), I64 z from fun z hz => by have := OK.out.leaps z (List.mem_filter.1 hz).1; unfold I64; omega)
              obtain ⟨aa, ca, rfl, hc1, hc2, hI⟩ := own_ints OWN.out HI0.out rfl
              have HII := Lib.hid hI
              have ad := AD.out.then_ bw8
              have bd := below_then (show Below w5.heap.size w5 W8 from by rw [hdb]; exact B5.out) bw8
              have bo := below_then B8.out bw8
              generalize hzl : (ls.filter (fun y => decide (y ≤ (k : Int) + 1))).length = zl at *
              obtain rfl : q4 = zl := by have := HLL.out; omega
              have z0 : Wd.cell? ⟨db, 0, none⟩ = some (.string s) := ad.cell 0
              have z1 : Wd.cell? ⟨db, 1, none⟩ = some (.int .i64 f) := ad.cell 1
              have z2 : Wd.cell? ⟨db, 2, none⟩ = some (.int .i64 ((k : Int) + 1)) := ad.cell 2
              have z3 : Wd.cell? ⟨db, 3, none⟩ = some (.slice p3 q3 r3) := ad.cell 3
              have z4 : Wd.cell? ⟨db, 4, none⟩ = some (.slice p4 q4 r4) := ad.cell 4
              have y0 : Wd.cell? ⟨G, 0, none⟩ = some (.string s) := ac.cell 0
              have y1 : Wd.cell? ⟨G, 1, none⟩ = some (.int .i64 f) := ac.cell 1
              have y2 : Wd.cell? ⟨G, 2, none⟩ = some (.int .i64 ((k : Int) + 1)) := ac.cell 2
              have y3 : Wd.cell? ⟨G, 3, none⟩ = some (.slice a1 q3 c1) := ac.cell 3
              have y4 : Wd.cell? ⟨G, 4, none⟩ = some (.slice aa q4 ca) := ac.cell 4
              have HBO := Lib.hid bo; have HBD := Lib.hid bd
              clear hI ad ac bw bw8 bwa bo bd hc hzl hjk
              go_wp2_with fail
              refine (ref_SameCalendar _ s f ((k : Int) + 1) p3 p4 a1 aa q3 r3 q4 r4 c1 ca ms (ls.filter (fun y => decide (y ≤ (k : Int) + 1))) (Months.far (show Months w5 w5.heap.size p3 q3 ms from by rw [hdb]; exact HM.out) (Below.refl _ _) (show Below w5.heap.size w5 _ from by first | exact HBD.out | (rw [hdb]; exact HBD.out))) (ints_then4 (show Ints w5 w5.heap.size p4 q4 (ls.filter (fun y => decide (y ≤ (k : Int) + 1))) from by rw [hdb]; exact HL.out) (show Below w5.heap.size w5 _ from by first | exact HBD.out | (rw [hdb]; exact HBD.out))) (H.out.1.far (Below.refl _ _) HBO.out) HII.out).mono ?_
              rintro e w11 ⟨rfl, hb⟩
              go_wp2_with fail
              go_ret
              exact ⟨by simp, below_then HBO.out hb⟩
theorem walk {H : Type} {enc : TypeId × Value → H} {v0 : Value} {d0 : DataW H} {p0 : List MemPlace} {base : Nat} (W : World)
    (o0 : Value.okWide Try.prog W .any base 30 v0) (h0 : DataW.Trod enc Try.prog W 0 (fun _ => true) true 30 v0 d0 p0) :
    Calls Try.prog 4 #[v0] W fun e w' => e = .returned (.bool true) ∧ Below W.heap.size W w' := by
  obtain ⟨s, f, c, a1, a2, n1, c1, n2, c2, ms, ls, rfl, hs, hf, hc, k1, k2, m1, m2, h1', h2'⟩ := open_Calendar o0 h0
  exact core W s f c a1 a2 n1 c1 n2 c2 ms ls hs k1 ⟨h1', h2'⟩
end Go.Proofs.Ytjpbkkoflaajcaa.compileLeastsLaw
