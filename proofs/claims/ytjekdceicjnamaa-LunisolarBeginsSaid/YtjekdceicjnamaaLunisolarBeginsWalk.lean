/- LunisolarBegins: the Go text returns true at every input, and writes nothing that was there. -/
import Derived.Test.YtjekdceicjnamaaLuni3
import Derived.Test.YtjekdceicjnamaaLuni5
import Derived.Test.YtjekdceicjnamaaMoonOpen
import Derived.Test.YtjekdceicjnamaaPlainMoon
namespace Go.Proofs.Ytjekdceicjnamaa.lunisolarBeginsLaw
set_option linter.unusedVariables false
set_option maxRecDepth 100000
open Go.RowKit Go.ChangeShapes Go.WideShapes

theorem lit1 : begD 1 0 1 59 2 1 1 1 2 [] [] 1 2 = 30 := by decide +kernel
theorem lit2 : mths 1 [] 1 = 12 := by decide +kernel
theorem beg2 (w : World) : Calls Try.prog 11 #[.agg #[.string ⟨#[112, 108, 97, 105, 110]⟩, .int .i64 1, .int .i64 0, .int .i64 1, .int .i64 59, .int .i64 2, .int .i64 1, .int .i64 1, .int .i64 1, .slice none 0 0, .slice none 0 0], .int .i64 1, .int .i64 2] w fun e w' => e = .returned (.tuple #[.int .i64 30, .int .i64 0]) ∧ Below w.heap.size w w' := by
  have := lunisolar_Begin_ok w ⟨#[112, 108, 97, 105, 110]⟩ 1 0 1 59 2 1 1 1 none none 0 0 0 0 [] [] 2 1 2 (by decide) plain_ints (plain_at w) plain_err plain_ok (by decide +kernel)
  rw [lit2, if_pos (by decide +kernel), lit1] at this
  exact this
set_option maxHeartbeats 2000000 in
theorem core (w : World) (s : ByteArray) (f sn sd mn md ln ld c : Int) (a1 a2 : Option Addr) (n1 c1 n2 c2 : Nat) (ls vs : List Int) (y m : Int) (hs : s.size ≤ 9223372036854775807) (hi : MoonI sn sd mn md ln ld) (h : MoonAt w a1 a2 n1 n2 ls vs) :
    Calls Try.prog 3 #[.agg #[.string s, .int .i64 f, .int .i64 sn, .int .i64 sd, .int .i64 mn, .int .i64 md, .int .i64 ln, .int .i64 ld, .int .i64 c, .slice a1 n1 c1, .slice a2 n2 c2], .int .i64 y, .int .i64 m] w fun e w' => e = .returned (.bool true) ∧ Below w.heap.size w w' := by
  have H := Lib.hid h; clear h
  have HI := Lib.hid hi; clear hi
  go_enter Try.func3, Try.ntmps3
  go_wp2_with fail
  refine (law_plainMoon _).mono ?_
  rintro e w1 ⟨rfl, hb⟩
  have on := (OneM.new w (.cells #[.string s, .int .i64 f, .int .i64 sn, .int .i64 sd, .int .i64 mn, .int .i64 md, .int .i64 ln, .int .i64 ld, .int .i64 c, .slice a1 n1 c1, .slice a2 n2 c2] 26)).step hb
  clear hb
  go_wp2_with fail
  refine (beg2 _).mono ?_
  rintro e w2 ⟨rfl, hb⟩
  replace on := on.step hb
  clear hb
  obtain ⟨x0, x1, x2, x3, x4, x5, x6, x7, x8, x9, x10⟩ := on.cells
  go_wp2_with fail
  by_cases q : moonErrY (moonErr s f sn sd mn md ln ld c ls vs) y = 0
  case neg =>
    refine (lunisolar_Months_err _ s f sn sd mn md ln ld c a1 a2 n1 c1 n2 c2 ls vs y hs HI.out (H.out.then_ on.below) q).mono ?_
    obtain ⟨F, hF⟩ : ∃ F, F = moonErr s f sn sd mn md ln ld c ls vs := ⟨_, rfl⟩
    have HF := Lib.hid hF
    have HQ := Lib.hid q
    have hcase : (F ≠ 0 ∧ moonErrY (moonErr s f sn sd mn md ln ld c ls vs) y = F) ∨ (F = 0 ∧ inB (-10000) 10000 y = false ∧ moonErrY (moonErr s f sn sd mn md ln ld c ls vs) y = 3) := by
      by_cases hz : F = 0
      · rw [← hF, hz] at q ⊢
        cases hy : inB (-10000) 10000 y
        · exact .inr ⟨rfl, rfl, moonErrY_range hy⟩
        · exact absurd (moonErrY_ok hy) q
      · rw [← hF]; exact .inl ⟨hz, moonErrY_err hz⟩
    clear hF q
    rcases hcase with ⟨hz, he⟩ | ⟨hz, hy, he⟩
    · have hzb : (F == 0) = false := by simpa using hz
      have hzn : (F != 0) = true := by simpa using hz
      rw [he]
      have HE := Lib.hid he; clear he hz
      rintro e w3 ⟨rfl, hb⟩
      replace on := on.step hb
      clear hb x0 x1 x2 x3 x4 x5 x6 x7 x8 x9 x10
      obtain ⟨x0, x1, x2, x3, x4, x5, x6, x7, x8, x9, x10⟩ := on.cells
      go_wp2_with fail
      refine (lunisolar_Begin_err _ s f sn sd mn md ln ld c a1 a2 n1 c1 n2 c2 ls vs y m hs HI.out (H.out.then_ on.below) HQ.out).mono ?_
      rw [HE.out]
      rintro e w4 ⟨rfl, hb⟩
      replace on := on.step hb
      clear hb x0 x1 x2 x3 x4 x5 x6 x7 x8 x9 x10
      obtain ⟨x0, x1, x2, x3, x4, x5, x6, x7, x8, x9, x10⟩ := on.cells
      go_wp2_with fail
      refine (ref_MoonError _ s f sn sd mn md ln ld c a1 a2 n1 c1 n2 c2 ls vs hs HI.out (H.out.then_ on.below)).mono ?_
      rw [← HF.out]
      rintro e w5 ⟨rfl, hb⟩
      replace on := on.step hb
      clear hb x0 x1 x2 x3 x4 x5 x6 x7 x8 x9 x10
      go_wp2_with fail
      go_ret
      exact ⟨by simp, on.below⟩
    · rw [he]
      have HE := Lib.hid he; clear he
      subst hz
      rintro e w3 ⟨rfl, hb⟩
      replace on := on.step hb
      clear hb x0 x1 x2 x3 x4 x5 x6 x7 x8 x9 x10
      obtain ⟨x0, x1, x2, x3, x4, x5, x6, x7, x8, x9, x10⟩ := on.cells
      go_wp2_with fail
      refine (lunisolar_Begin_err _ s f sn sd mn md ln ld c a1 a2 n1 c1 n2 c2 ls vs y m hs HI.out (H.out.then_ on.below) HQ.out).mono ?_
      rw [HE.out]
      rintro e w4 ⟨rfl, hb⟩
      replace on := on.step hb
      clear hb x0 x1 x2 x3 x4 x5 x6 x7 x8 x9 x10
      obtain ⟨x0, x1, x2, x3, x4, x5, x6, x7, x8, x9, x10⟩ := on.cells
      go_wp2_with fail
      refine (ref_MoonError _ s f sn sd mn md ln ld c a1 a2 n1 c1 n2 c2 ls vs hs HI.out (H.out.then_ on.below)).mono ?_
      rw [← HF.out]
      rintro e w5 ⟨rfl, hb⟩
      replace on := on.step hb
      clear hb x0 x1 x2 x3 x4 x5 x6 x7 x8 x9 x10
      go_wp2_with fail
      refine (ref_In _ _ _ _).mono ?_; rw [hy]; rintro e w6 ⟨rfl, rfl⟩
      go_wp2_with fail
      go_ret
      exact ⟨by simp, on.below⟩
  case pos =>
    obtain ⟨q1, hy⟩ : moonErr s f sn sd mn md ln ld c ls vs = 0 ∧ inB (-10000) 10000 y = true := by
      by_cases hz : moonErr s f sn sd mn md ln ld c ls vs = 0
      · rw [hz] at q
        cases hy : inB (-10000) 10000 y
        · rw [moonErrY_range hy] at q; omega
        · exact ⟨hz, rfl⟩
      · rw [moonErrY_err hz] at q; exact absurd q hz
    obtain ⟨N, ok⟩ := moonOk_of q1
    have OK := Lib.hid ok; have HQ := Lib.hid q1
    have hy2 := inB_iff.1 hy
    have hmm := mths_in c ls y
    obtain ⟨MM, hMM⟩ : ∃ MM, MM = mths c ls y := ⟨_, rfl⟩
    rw [← hMM] at hmm
    have HMM := Lib.hid hMM
    clear ok q q1 hMM
    refine (lunisolar_Months_ok _ s f sn sd mn md ln ld c a1 a2 n1 c1 n2 c2 ls vs N y hs HI.out (H.out.then_ on.below) HQ.out OK.out hy).mono ?_
    rw [← HMM.out]
    rintro e w3 ⟨rfl, hb⟩
    replace on := on.step hb
    clear hb x0 x1 x2 x3 x4 x5 x6 x7 x8 x9 x10
    obtain ⟨x0, x1, x2, x3, x4, x5, x6, x7, x8, x9, x10⟩ := on.cells
    go_wp2_with fail
    refine (lunisolar_Begin_ok _ s f sn sd mn md ln ld c a1 a2 n1 c1 n2 c2 ls vs N y m hs HI.out (H.out.then_ on.below) HQ.out OK.out hy).mono ?_
    rw [← HMM.out]
    obtain ⟨D, hD⟩ : ∃ D, D = begD f sn sd mn md ln ld c N ls vs y m := ⟨_, rfl⟩
    rw [← hD]
    have HD := Lib.hid hD; clear hD
    rcases inB_cases 1 MM m with ⟨hm, m1, m2⟩ | ⟨hm, hm'⟩
    · rw [if_pos hm]
      unfold dayOr
      rcases inB_cases (-4000000) 4000000 D with ⟨hd, hd'⟩ | ⟨hd, hd'⟩
      all_goals
        rw [hd]
        first | rw [if_pos rfl] | rw [if_neg (by simp)]
        clear hd'
        rintro e w4 ⟨rfl, hb⟩
        replace on := on.step hb
        clear hb x0 x1 x2 x3 x4 x5 x6 x7 x8 x9 x10
        obtain ⟨x0, x1, x2, x3, x4, x5, x6, x7, x8, x9, x10⟩ := on.cells
        go_wp2_with fail
        refine (ref_MoonError _ s f sn sd mn md ln ld c a1 a2 n1 c1 n2 c2 ls vs hs HI.out (H.out.then_ on.below)).mono ?_
        rw [HQ.out]
        rintro e w5 ⟨rfl, hb⟩
        replace on := on.step hb
        clear hb x0 x1 x2 x3 x4 x5 x6 x7 x8 x9 x10
        obtain ⟨x0, x1, x2, x3, x4, x5, x6, x7, x8, x9, x10⟩ := on.cells
        go_wp2_with fail
        refine (ref_In _ _ _ _).mono ?_; rw [hy]; rintro e w6 ⟨rfl, rfl⟩
        go_wp2_with fail
        refine (ref_MoonMonths _ s f sn sd mn md ln ld c a1 a2 n1 c1 n2 c2 ls vs N y OK.out (by omega) (by omega) (H.out.then_ on.below)).mono ?_
        rw [← HMM.out]
        rintro e w7 ⟨rfl, hb⟩
        replace on := on.step hb
        clear hb x0 x1 x2 x3 x4 x5 x6 x7 x8 x9 x10
        obtain ⟨x0, x1, x2, x3, x4, x5, x6, x7, x8, x9, x10⟩ := on.cells
        go_wp2_with fail
        refine (ref_In _ _ _ _).mono ?_; rw [hm]; rintro e w8 ⟨rfl, rfl⟩
        go_wp2_with fail
        refine (ref_MoonBegin _ s f sn sd mn md ln ld c a1 a2 n1 c1 n2 c2 ls vs N y m OK.out (by omega) (by omega) (by omega) (by omega) (H.out.then_ on.below)).mono ?_
        rw [← HD.out]
        rintro e w9 ⟨rfl, hb⟩
        replace on := on.step hb
        clear hb x0 x1 x2 x3 x4 x5 x6 x7 x8 x9 x10
        go_wp2_with fail
        refine (ref_Day _ _).mono ?_; rw [hd]; rintro e w10 ⟨rfl, rfl⟩
        go_wp2_with fail
        go_ret
        exact ⟨by simp, on.below⟩
    · rw [if_neg (by rw [hm]; simp)]
      rintro e w4 ⟨rfl, hb⟩
      replace on := on.step hb
      clear hb x0 x1 x2 x3 x4 x5 x6 x7 x8 x9 x10
      obtain ⟨x0, x1, x2, x3, x4, x5, x6, x7, x8, x9, x10⟩ := on.cells
      go_wp2_with fail
      refine (ref_MoonError _ s f sn sd mn md ln ld c a1 a2 n1 c1 n2 c2 ls vs hs HI.out (H.out.then_ on.below)).mono ?_
      rw [HQ.out]
      rintro e w5 ⟨rfl, hb⟩
      replace on := on.step hb
      clear hb x0 x1 x2 x3 x4 x5 x6 x7 x8 x9 x10
      obtain ⟨x0, x1, x2, x3, x4, x5, x6, x7, x8, x9, x10⟩ := on.cells
      go_wp2_with fail
      refine (ref_In _ _ _ _).mono ?_; rw [hy]; rintro e w6 ⟨rfl, rfl⟩
      go_wp2_with fail
      refine (ref_MoonMonths _ s f sn sd mn md ln ld c a1 a2 n1 c1 n2 c2 ls vs N y OK.out (by omega) (by omega) (H.out.then_ on.below)).mono ?_
      rw [← HMM.out]
      rintro e w7 ⟨rfl, hb⟩
      replace on := on.step hb
      clear hb x0 x1 x2 x3 x4 x5 x6 x7 x8 x9 x10
      go_wp2_with fail
      refine (ref_In _ _ _ _).mono ?_; rw [hm]; rintro e w8 ⟨rfl, rfl⟩
      go_wp2_with fail
      go_ret
      exact ⟨by simp, on.below⟩
theorem walk {H : Type} {enc : TypeId × Value → H} {v0 v1 v2 : Value} {d0 d1 d2 : DataW H} {p0 p1 p2 : List MemPlace} {base : Nat} (W : World)
    (o0 : Value.okWide Try.prog W .any base 26 v0) (h0 : DataW.Trod enc Try.prog W 0 (fun _ => true) true 26 v0 d0 p0)
    (o1 : Value.okWide Try.prog W .any base 3 v1) (h1 : DataW.Trod enc Try.prog W 0 (fun _ => true) true 3 v1 d1 p1)
    (o2 : Value.okWide Try.prog W .any base 3 v2) (h2 : DataW.Trod enc Try.prog W 0 (fun _ => true) true 3 v2 d2 p2) :
    Calls Try.prog 3 #[v0, v1, v2] W fun e w' => e = .returned (.bool true) ∧ Below W.heap.size W w' := by
  obtain ⟨s, f, sn, sd, mn, md, ln, ld, c, a1, a2, n1, c1, n2, c2, ls, vs, rfl, hs, hf, hI, hc, k1, k2, h⟩ := open_MoonRule o0 h0
  obtain ⟨y, rfl, rfl, rfl, wy⟩ := open_int Try.underlying3 o1 h1
  obtain ⟨m, rfl, rfl, rfl, wm⟩ := open_int Try.underlying3 o2 h2
  exact core W s f sn sd mn md ln ld c a1 a2 n1 c1 n2 c2 ls vs y m hs hI h
end Go.Proofs.Ytjekdceicjnamaa.lunisolarBeginsLaw
