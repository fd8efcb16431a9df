/- LunisolarToDays: the Go text returns true at every input, and writes nothing that was there. -/
import Derived.Test.YtjekdceicjnamaaLuni6
import Derived.Test.YtjekdceicjnamaaMoonOpen
import Derived.Test.YtjekdceicjnamaaPlainMoon
namespace Go.Proofs.Ytjekdceicjnamaa.lunisolarToDaysLaw
set_option linter.unusedVariables false
set_option maxRecDepth 100000
open Go.RowKit Go.ChangeShapes Go.WideShapes

theorem lit1 : begD 1 0 1 59 2 1 1 1 2 [] [] 1 3 = 60 := by decide +kernel
theorem lit2 : beginD 1 0 1 59 2 1 1 1 2 [] [] 1 (3 + 1) = 89 := by decide +kernel
theorem lit3 : mths 1 [] 1 = 12 := by decide +kernel
theorem day60 (w : World) : Calls Try.prog 19 #[.agg #[.string ⟨#[112, 108, 97, 105, 110]⟩, .int .i64 1, .int .i64 0, .int .i64 1, .int .i64 59, .int .i64 2, .int .i64 1, .int .i64 1, .int .i64 1, .slice none 0 0, .slice none 0 0], .agg #[.int .i64 1, .int .i64 3, .int .i64 1]] w fun e w' => e = .returned (.tuple #[.int .i64 60, .int .i64 0]) ∧ Below w.heap.size w w' := by
  have := lunisolar_ToDay_ok w ⟨#[112, 108, 97, 105, 110]⟩ 1 0 1 59 2 1 1 1 none none 0 0 0 0 [] [] 2 1 3 1 (by decide) plain_ints (plain_at w) plain_err plain_ok (by decide +kernel)
  rw [lit3, if_pos (by decide +kernel), lit1, lit2] at this
  exact this
set_option maxHeartbeats 2000000 in
theorem core (w : World) (s : ByteArray) (f sn sd mn md ln ld c : Int) (a1 a2 : Option Addr) (n1 c1 n2 c2 : Nat) (ls vs : List Int) (y m d : Int) (hs : s.size ≤ 9223372036854775807) (hi : MoonI sn sd mn md ln ld) (h : MoonAt w a1 a2 n1 n2 ls vs) :
    Calls Try.prog 4 #[.agg #[.string s, .int .i64 f, .int .i64 sn, .int .i64 sd, .int .i64 mn, .int .i64 md, .int .i64 ln, .int .i64 ld, .int .i64 c, .slice a1 n1 c1, .slice a2 n2 c2], .agg #[.int .i64 y, .int .i64 m, .int .i64 d]] w fun e w' => e = .returned (.bool true) ∧ Below w.heap.size w w' := by
  have H := Lib.hid h; clear h
  have HI := Lib.hid hi; clear hi
  go_enter Try.func4, Try.ntmps4
  go_wp2_with fail
  refine (law_plainMoon _).mono ?_
  rintro e w1 ⟨rfl, hb⟩
  have tw := (Two.new w (.cells #[.string s, .int .i64 f, .int .i64 sn, .int .i64 sd, .int .i64 mn, .int .i64 md, .int .i64 ln, .int .i64 ld, .int .i64 c, .slice a1 n1 c1, .slice a2 n2 c2] 26) (.cells #[.int .i64 y, .int .i64 m, .int .i64 d] 39)).step hb
  clear hb
  go_wp2_with fail
  refine (day60 _).mono ?_
  rintro e w2 ⟨rfl, hb⟩
  replace tw := tw.step hb
  clear hb
  obtain ⟨e0, e1, e2⟩ := tw.date
  obtain ⟨x0, x1, x2, x3, x4, x5, x6, x7, x8, x9, x10⟩ := tw.moon
  go_wp2_with fail
  by_cases q : moonErr s f sn sd mn md ln ld c ls vs = 0
  case neg =>
    refine (lunisolar_ToDay_err _ s f sn sd mn md ln ld c a1 a2 n1 c1 n2 c2 ls vs y m d hs HI.out (H.out.then_ tw.2.2) (by rw [moonErrY_err q]; exact q)).mono ?_
    rw [moonErrY_err q]
    obtain ⟨F, hF⟩ : ∃ F, F = moonErr s f sn sd mn md ln ld c ls vs := ⟨_, rfl⟩
    rw [← hF] at q ⊢
    have HF := Lib.hid hF; clear hF
    have hzn : (F != 0) = true := by simpa using q
    clear q
    rintro e w3 ⟨rfl, hb⟩
    replace tw := tw.step hb
    clear hb e0 e1 e2 x0 x1 x2 x3 x4 x5 x6 x7 x8 x9 x10
    obtain ⟨x0, x1, x2, x3, x4, x5, x6, x7, x8, x9, x10⟩ := tw.moon
    go_wp2_with fail
    refine (ref_MoonError _ s f sn sd mn md ln ld c a1 a2 n1 c1 n2 c2 ls vs hs HI.out (H.out.then_ tw.2.2)).mono ?_
    rw [← HF.out]
    rintro e w4 ⟨rfl, hb⟩
    replace tw := tw.step hb
    clear hb x0 x1 x2 x3 x4 x5 x6 x7 x8 x9 x10
    go_wp2_with fail
    go_ret
    exact ⟨by simp, tw.2.2⟩
  case pos =>
    obtain ⟨N, ok⟩ := moonOk_of q
    have OK := Lib.hid ok; have HQ := Lib.hid q
    clear ok q
    cases hy : inB (-10000) 10000 y
    · refine (lunisolar_ToDay_err _ s f sn sd mn md ln ld c a1 a2 n1 c1 n2 c2 ls vs y m d hs HI.out (H.out.then_ tw.2.2) (by rw [HQ.out, moonErrY_range hy]; omega)).mono ?_
      rw [HQ.out, moonErrY_range hy]
      rintro e w3 ⟨rfl, hb⟩
      replace tw := tw.step hb
      clear hb e0 e1 e2 x0 x1 x2 x3 x4 x5 x6 x7 x8 x9 x10
      obtain ⟨x0, x1, x2, x3, x4, x5, x6, x7, x8, x9, x10⟩ := tw.moon
      go_wp2_with fail
      refine (ref_MoonError _ s f sn sd mn md ln ld c a1 a2 n1 c1 n2 c2 ls vs hs HI.out (H.out.then_ tw.2.2)).mono ?_
      rw [HQ.out]
      rintro e w4 ⟨rfl, hb⟩
      replace tw := tw.step hb
      clear hb x0 x1 x2 x3 x4 x5 x6 x7 x8 x9 x10
      obtain ⟨e0, e1, e2⟩ := tw.date
      obtain ⟨x0, x1, x2, x3, x4, x5, x6, x7, x8, x9, x10⟩ := tw.moon
      go_wp2_with fail
      refine (ref_MoonToDay_range _ s f sn sd mn md ln ld c a1 a2 n1 c1 n2 c2 ls vs y m d hy).mono ?_
      rintro e w5 ⟨rfl, hb⟩
      replace tw := tw.step hb
      clear hb e0 e1 e2 x0 x1 x2 x3 x4 x5 x6 x7 x8 x9 x10
      go_wp2_with fail
      go_ret
      exact ⟨by simp, tw.2.2⟩
    · obtain ⟨u, v, huv⟩ : ∃ u v, (if inB 1 (mths c ls y) m = true then toDayOut (begD f sn sd mn md ln ld c N ls vs y m) (beginD f sn sd mn md ln ld c N ls vs y (m + 1)) d else .tuple #[.int .i64 0, .int .i64 1]) = .tuple #[.int .i64 u, .int .i64 v] := by
        split
        · obtain ⟨u, v, h, _⟩ := toDayOut_form (begD f sn sd mn md ln ld c N ls vs y m) (beginD f sn sd mn md ln ld c N ls vs y (m + 1)) d
          exact ⟨u, v, h⟩
        · exact ⟨_, _, rfl⟩
      have HUV := Lib.hid huv; clear huv
      refine (lunisolar_ToDay_ok _ s f sn sd mn md ln ld c a1 a2 n1 c1 n2 c2 ls vs N y m d hs HI.out (H.out.then_ tw.2.2) HQ.out OK.out hy).mono ?_
      rw [HUV.out]
      rintro e w3 ⟨rfl, hb⟩
      replace tw := tw.step hb
      clear hb e0 e1 e2 x0 x1 x2 x3 x4 x5 x6 x7 x8 x9 x10
      obtain ⟨x0, x1, x2, x3, x4, x5, x6, x7, x8, x9, x10⟩ := tw.moon
      go_wp2_with fail
      refine (ref_MoonError _ s f sn sd mn md ln ld c a1 a2 n1 c1 n2 c2 ls vs hs HI.out (H.out.then_ tw.2.2)).mono ?_
      rw [HQ.out]
      rintro e w4 ⟨rfl, hb⟩
      replace tw := tw.step hb
      clear hb x0 x1 x2 x3 x4 x5 x6 x7 x8 x9 x10
      obtain ⟨e0, e1, e2⟩ := tw.date
      obtain ⟨x0, x1, x2, x3, x4, x5, x6, x7, x8, x9, x10⟩ := tw.moon
      go_wp2_with fail
      refine (ref_MoonToDay_ok _ s f sn sd mn md ln ld c a1 a2 n1 c1 n2 c2 ls vs N y m d OK.out (H.out.then_ tw.2.2) hy).mono ?_
      rw [HUV.out]
      rintro e w5 ⟨rfl, hb⟩
      replace tw := tw.step hb
      clear hb e0 e1 e2 x0 x1 x2 x3 x4 x5 x6 x7 x8 x9 x10
      go_wp2_with fail
      go_ret
      exact ⟨by simp, tw.2.2⟩
theorem walk {H : Type} {enc : TypeId × Value → H} {v0 v1 : Value} {d0 d1 : DataW H} {p0 p1 : List MemPlace} {base : Nat} (W : World)
    (o0 : Value.okWide Try.prog W .any base 26 v0) (h0 : DataW.Trod enc Try.prog W 0 (fun _ => true) true 26 v0 d0 p0)
    (o1 : Value.okWide Try.prog W .any base 39 v1) (h1 : DataW.Trod enc Try.prog W 0 (fun _ => true) true 39 v1 d1 p1) :
    Calls Try.prog 4 #[v0, v1] W fun e w' => e = .returned (.bool true) ∧ Below W.heap.size W w' := by
  obtain ⟨s, f, sn, sd, mn, md, ln, ld, c, a1, a2, n1, c1, n2, c2, ls, vs, rfl, hs, hf, hI, hc, k1, k2, h⟩ := open_MoonRule o0 h0
  obtain ⟨cs, n, rfl, hl, hf'⟩ := open_agg Try.underlying39 (by kernel_rfl) (by kernel_rfl) o1 h1
  match cs, hl with
  | [v0, v1, v2], _ =>
    obtain ⟨_, _, e0, t0⟩ := hf' 0 _ rfl
    obtain ⟨_, _, e1, t1⟩ := hf' 1 _ rfl
    obtain ⟨_, _, e2, t2⟩ := hf' 2 _ rfl
    obtain ⟨z0, rfl, hz0⟩ := open_num t0
    obtain ⟨z1, rfl, hz1⟩ := open_num t1
    obtain ⟨z2, rfl, hz2⟩ := open_num t2
    simp at e0 e1 e2
    subst e0 e1 e2
    exact core W s f sn sd mn md ln ld c a1 a2 n1 c1 n2 c2 ls vs z0 z1 z2 hs hI h
end Go.Proofs.Ytjekdceicjnamaa.lunisolarToDaysLaw
