/- CycleLists: the Go text returns true at every input, and writes nothing that was there. -/
import Derived.Test.YtkeicdimkmmnfaaNext7
import Derived.ProofKit
import Derived.OpenShut
namespace Go.Proofs.Ytkeicdimkmmnfaa.cycleListsLaw
set_option linter.unusedVariables false
set_option maxRecDepth 100000
open Go.RowKit Go.ChangeShapes Go.WideShapes Go.Joins

theorem lit0 : argErr [5, 7] [0, 0] [2, 5] 13 = 0 := by decide
theorem fits2 (d : Int) : Fits [5, 7] [0, 0] [2, 5] 2 d ↔ d % 5 = 2 ∧ d % 7 = 5 := by
  constructor
  · intro hf
    have e1 := hf 0 5 0 2 (by omega) rfl rfl rfl
    have e2 := hf 1 7 0 5 (by omega) rfl rfl rfl
    omega
  · rintro ⟨e1, e2⟩ j x y z hj hx hy hz
    match j, hj with
    | 0, _ => simp at hx hy hz; subst hx hy hz; omega
    | 1, _ => simp at hx hy hz; subst hx hy hz; omega
theorem lit1 {L : List Int} (hc : Chain (Fits [5, 7] [0, 0] [2, 5] 2) 13 L) (hl : L.length ≤ 2) (h : L.length = 2 ∨ ∀ d', endOf 13 L ≤ d' → d' ≤ 4000000 → ¬ Fits [5, 7] [0, 0] [2, 5] 2 d') : L = [47, 82] := by
  have f47 := (fits2 47).2 (by omega)
  have f82 := (fits2 82).2 (by omega)
  match L, hc, hl, h with
  | [], _, _, h =>
    rcases h with h | h
    · simp at h
    · exact absurd f47 (h 47 (by simp [endOf]) (by omega))
  | x :: l, hc, hl, h =>
    obtain ⟨x1, x2, xf, xn, hc⟩ := hc
    obtain ⟨g1, g2⟩ := (fits2 x).1 xf
    have hx : x ≤ 47 := by
      apply Classical.byContradiction
      intro hh; exact xn 47 (by omega) (by omega) f47
    obtain rfl : x = 47 := by omega
    match l, hc, hl, h with
    | [], _, _, h =>
      rcases h with h | h
      · simp at h
      · exact absurd f82 (h 82 (by simp [endOf]) (by omega))
    | [y], hc, _, _ =>
      obtain ⟨y1, y2, yf, yn, _⟩ := hc
      obtain ⟨g3, g4⟩ := (fits2 y).1 yf
      have hy : y ≤ 82 := by
        apply Classical.byContradiction
        intro hh; exact yn 82 (by omega) (by omega) f82
      obtain rfl : y = 82 := by omega
      rfl
    | _ :: _ :: _, _, hl, _ => simp at hl
theorem argErr_at {xs ys zs : List Int} {d d' : Int} (h : argErr xs ys zs d = 0) (h1 : -4000000 ≤ d') (h2 : d' ≤ 4000000) : argErr xs ys zs d' = 0 := by
  obtain ⟨q1, q2, q3, q4⟩ := argErr_zero h
  unfold argErr
  rw [if_neg (by simp [q1]), inB_yes h1 h2, if_neg (by simp), if_neg (by simp [q3]), if_pos q4]
theorem new4 (w : World) (o o1 o2 o3 o4 : Obj) : At (((((w.alloc o).alloc o1).alloc o2).alloc o3).alloc o4) (w.heap.size + 1 + 1 + 1 + 1) o4 := by
  have := At.new3 (w.alloc o) o1 o2 o3 o4; simpa using this
theorem then2 {w w' : World} {a : Option Addr} {n : Nat} {xs : List Int} (h : Ints w w.heap.size a n xs) (hb : Below w.heap.size w w') : Ints w' w'.heap.size a n xs := (h.below hb (Nat.le_refl _)).more hb.size
set_option maxHeartbeats 4000000 in
theorem core (w : World) (a1 a2 : Option Addr) (n1 c1 n2 c2 : Nat) (xs ys : List Int) (d : Int) (a3 : Option Addr) (n3 c3 : Nat) (zs : List Int) (n : Int) (h1 : Ints w w.heap.size a1 n1 xs) (h2 : Ints w w.heap.size a2 n2 ys) (h3 : Ints w w.heap.size a3 n3 zs) :
    Calls Try.prog 4 #[.agg #[.slice a1 n1 c1, .slice a2 n2 c2], .int .i64 d, .slice a3 n3 c3, .int .i64 n] w fun e w' => e = .returned (.bool true) ∧ Below w.heap.size w w' := by
  have L1 := Lib.hid h1.1
  have H1 := Lib.hid h1; have H2 := Lib.hid h2; have H3 := Lib.hid h3; clear h1 h2 h3
  have k1 : ∀ (o o1 o2 o3 o4 : Obj), o1 = .cells #[.int .i64 5, .int .i64 7] 3 → Ints (((((w.alloc o).alloc o1).alloc o2).alloc o3).alloc o4) (((((w.alloc o).alloc o1).alloc o2).alloc o3).alloc o4).heap.size (some ⟨w.heap.size + 1, 0, none⟩) 2 [5, 7] :=
    fun o o1 o2 o3 o4 h => At.ints [5, 7] ((((At.new1 w o o1).alloc o2).alloc o3).alloc o4 |> fun x => by subst h; exact x) (by unfold I64; simp) (by simp)
  have k2 : ∀ (o o1 o2 o3 o4 : Obj), o2 = .cells #[.int .i64 0, .int .i64 0] 3 → Ints (((((w.alloc o).alloc o1).alloc o2).alloc o3).alloc o4) (((((w.alloc o).alloc o1).alloc o2).alloc o3).alloc o4).heap.size (some ⟨w.heap.size + 1 + 1, 0, none⟩) 2 [0, 0] :=
    fun o o1 o2 o3 o4 h => At.ints [0, 0] (((At.new2 w o o1 o2).alloc o3).alloc o4 |> fun x => by subst h; exact x) (by unfold I64; simp) (by simp)
  have k3 : ∀ (o o1 o2 o3 o4 : Obj), o4 = .cells #[.int .i64 2, .int .i64 5] 3 → Ints (((((w.alloc o).alloc o1).alloc o2).alloc o3).alloc o4) (((((w.alloc o).alloc o1).alloc o2).alloc o3).alloc o4).heap.size (some ⟨w.heap.size + 1 + 1 + 1 + 1, 0, none⟩) 2 [2, 5] :=
    fun o o1 o2 o3 o4 h => At.ints [2, 5] ((new4 w o o1 o2 o3 o4) |> fun x => by subst h; exact x) (by unfold I64; simp) (by simp)
  have K1 := Lib.hid k1; have K2 := Lib.hid k2; have K3 := Lib.hid k3; clear k1 k2 k3
  go_enter Try.func4, Try.ntmps4
  go_wp2_with fail
  refine (cycle_Days_ok _ _ _ 2 2 2 2 [5, 7] [0, 0] 13 _ 2 2 [2, 5] 2 lit0 (by omega) (by omega) (K1.out _ _ _ _ _ rfl) (K2.out _ _ _ _ _ rfl) (K3.out _ _ _ _ _ rfl)).mono ?_
  rintro e w1 ⟨L, la, lk, lc, rfl, hI, hch, hk1, hk2, hb⟩
  have hlen := hI.1
  obtain rfl := lit1 hch (by omega) (by rcases hk2 with h | h; left; omega; right; exact h)
  obtain rfl : lk = 2 := by simpa using hlen.symm
  have a0 := ((((At.new w (.cells #[.slice a1 n1 c1, .slice a2 n2 c2] 24)).alloc (.cells #[.int .i64 5, .int .i64 7] 3)).alloc (.cells #[.int .i64 0, .int .i64 0] 3)).alloc (.cells #[.slice (some ⟨w.heap.size + 1, 0, none⟩) 2 2, .slice (some ⟨w.heap.size + 1 + 1, 0, none⟩) 2 2] 24)).alloc (.cells #[.int .i64 2, .int .i64 5] 3)
  replace a0 := a0.then_ hb
  have b0 : Below w.heap.size w w1 := by (repeat' (first | exact Below.refl _ _ | assumption | refine Below.drew ?_ | refine below_drewN ?_ _ | refine below_new ?_ _ | refine below_set ?_ ?_ _ | refine below_then ?_ (by assumption) | refine below_drawn ?_ (by assumption) | exact Nat.le_refl _ | omega | (simp; done) | (simp; omega)))
  have HI := Lib.hid hI
  clear hb K1 K2 K3 hI hch hk1 hk2 hlen
  go_wp2_with fail
  refine (ref_SameInts _ la (some ⟨w1.heap.size, 0, none⟩) 2 lc 2 2 [47, 82] [47, 82] (then2 HI.out (below_new (Below.refl _ _) _)) (At.ints [47, 82] (At.new w1 _) (by unfold I64; simp) (by simp))).mono ?_
  rw [show (([47, 82] : List Int) == [47, 82]) = true from rfl]
  rintro e w2 ⟨rfl, hdr⟩
  replace a0 := (a0.alloc (.cells #[.int .i64 47, .int .i64 82] 3)).drawn hdr
  replace b0 := below_drawn (below_new b0 (.cells #[.int .i64 47, .int .i64 82] 3)) hdr
  clear hdr HI
  have d0 := a0.cell 0; have d1 := a0.cell 1; simp at d0 d1
  go_wp2_with fail
  by_cases q : argErr xs ys zs d = 0
  case neg =>
    have q1 : (argErr xs ys zs d != 0) = true := by simpa using q
    have q2 : (argErr xs ys zs d == 0) = false := by simpa using q
    refine (cycle_Days_err _ _ _ _ _ _ _ xs ys d _ _ _ zs n q (then2 H1.out b0) (then2 H2.out b0) (then2 H3.out b0)).mono ?_
    rintro e w3 ⟨rfl, hb⟩
    (replace a0 := a0.then_ hb); (replace b0 := below_then b0 hb); clear hb d0 d1; have d0 := a0.cell 0; have d1 := a0.cell 1; simp at d0 d1
    clear q
    go_wp2_with fail
    refine (law_cycleError _ _ _ _ _ _ _ xs ys d _ _ _ zs (then2 H1.out b0) (then2 H2.out b0) (then2 H3.out b0)).mono ?_
    rintro e w5 ⟨rfl, hb⟩
    go_wp2_with fail
    go_ret
    exact ⟨by simp, by (repeat' (first | exact Below.refl _ _ | assumption | refine Below.drew ?_ | refine below_drewN ?_ _ | refine below_new ?_ _ | refine below_set ?_ ?_ _ | refine below_then ?_ (by assumption) | refine below_drawn ?_ (by assumption) | exact Nat.le_refl _ | omega | (simp; done) | (simp; omega)))⟩
  by_cases hn : 0 ≤ n ∧ n ≤ 200
  case neg =>
    have hin : inB 0 200 n = false := inB_no hn
    refine (cycle_Days_arg _ _ _ _ _ _ _ xs ys d _ _ _ zs n q hn (then2 H1.out b0) (then2 H2.out b0) (then2 H3.out b0)).mono ?_
    rintro e w3 ⟨rfl, hb⟩
    (replace a0 := a0.then_ hb); (replace b0 := below_then b0 hb); clear hb d0 d1; have d0 := a0.cell 0; have d1 := a0.cell 1; simp at d0 d1
    have HQ := Lib.hid q
    clear q hn
    go_wp2_with fail
    refine (law_cycleError _ _ _ _ _ _ _ xs ys d _ _ _ zs (then2 H1.out b0) (then2 H2.out b0) (then2 H3.out b0)).mono ?_
    rw [HQ.out]
    rintro e w5 ⟨rfl, hb⟩
    go_wp2_with fail
    refine (ref_In _ _ _ _).mono ?_; rw [hin]; rintro e w6 ⟨rfl, rfl⟩
    go_wp2_with fail
    go_ret
    exact ⟨by simp, by (repeat' (first | exact Below.refl _ _ | assumption | refine Below.drew ?_ | refine below_drewN ?_ _ | refine below_new ?_ _ | refine below_set ?_ ?_ _ | refine below_then ?_ (by assumption) | refine below_drawn ?_ (by assumption) | exact Nat.le_refl _ | omega | (simp; done) | (simp; omega)))⟩
  obtain ⟨hn1, hn2⟩ := hn
  have hin : inB 0 200 n = true := inB_yes hn1 hn2
  have hd : -4000000 ≤ d ∧ d ≤ 4000000 := by
    rcases inB_cases (-4000000) 4000000 d with ⟨_, h⟩ | ⟨h, _⟩
    · exact h
    · have := (argErr_zero q).2.1; rw [h] at this; cases this
  obtain ⟨dd1, dd2⟩ := hd
  have HE := Lib.hid q
  clear q
  refine (cycle_Days_ok _ _ _ _ _ _ _ xs ys d _ _ _ zs n HE.out hn1 hn2 (then2 H1.out b0) (then2 H2.out b0) (then2 H3.out b0)).mono ?_
  rintro e w3 ⟨L, la, lk, lc, rfl, hI, hch, hk1, hk2, hb⟩
  (replace a0 := a0.then_ hb); (replace b0 := below_then b0 hb); clear hb d0 d1; have d0 := a0.cell 0; have d1 := a0.cell 1; simp at d0 d1
  have HI := Lib.hid hI; have HCH := Lib.hid hch; have HK := Lib.hid hk2; have LL := Lib.hid hI.1
  clear hI hch hk2
  go_wp2_with fail
  refine (law_cycleError _ _ _ _ _ _ _ xs ys d _ _ _ zs (then2 H1.out b0) (then2 H2.out b0) (then2 H3.out b0)).mono ?_
  rw [HE.out]
  rintro e w5 ⟨rfl, hb⟩
  have HI5 := Lib.hid (then2 HI.out hb)
  clear HI
  (replace a0 := a0.then_ hb); (replace b0 := below_then b0 hb); clear hb d0 d1
  go_wp2_with fail
  refine (ref_In _ _ _ _).mono ?_; rw [hin]; rintro e w6 ⟨rfl, rfl⟩
  go_wp2_with fail
  have bb := Below.refl w5.heap.size w5
  go_loopw [15, 17, 18, 19, 77] (fun t _ _ _ i wr => ∃ (k : Nat) (D : Int), k ≤ lk ∧ i = .int .i64 k ∧ t = .int .i64 D ∧ D = endOf d (L.take k) ∧ d ≤ D ∧ D ≤ 4000001 ∧ At wr w.heap.size (.cells #[.slice a1 n1 c1, .slice a2 n2 c2] 24) ∧ Below w5.heap.size w5 wr ∧ Below w.heap.size w wr) (fun _ _ _ _ i _ => lk - (intOf i).toNat)
  case atStart => exact ⟨0, d, by omega, rfl, rfl, by simp [endOf], by omega, by omega, a0, bb, b0⟩
  case round =>
    clear a0 b0 bb
    obtain ⟨k, D, hk, rfl, rfl, hD, D1, D2, a0, bb, b0⟩ := hrel
    have HD := Lib.hid hD; clear hD
    have d0 := a0.cell 0; have d1 := a0.cell 1; simp at d0 d1
    by_cases hlt : k < lk
    · obtain ⟨b1, o1, x, rfl, hb1, hc1, hx, x1, x2⟩ := (then2 HI5.out bb).at_ hlt
      obtain ⟨p1, p2, pf, pn, pe⟩ := chain_at k L d x HCH.out hx
      rw [← HD.out] at p1 pn
      have PF := Lib.hid pf; have PN := Lib.hid pn; have PE := Lib.hid pe; clear pf pn pe hx
      have t0 : IntKind.i64.wrap (x + 1) = x + 1 := IntWalk.i64_in _ (by omega)
      have t1 : IntKind.i64.wrap ((k : Int) + 1) = (k : Int) + 1 := IntWalk.i64_in _ (by omega)
      go_wp2_with fail
      refine (cycle_Next_ok _ _ _ _ _ _ _ xs ys D _ _ _ zs (argErr_at HE.out (by omega) (by omega)) (then2 H1.out b0) (then2 H2.out b0) (then2 H3.out b0)).mono ?_
      rintro e w7 ⟨ho, hb⟩
      (replace a0 := a0.then_ hb); (replace b0 := below_then b0 hb); (replace bb := below_then bb hb); clear hb d0 d1 hc1
      rcases ho with ⟨X, e1, e2, hf, hn, rfl⟩ | ⟨hn, rfl⟩
      · have hX : X = x := by
          rcases Int.lt_trichotomy X x with h | h | h
          · exact absurd hf (PN.out X e1 h)
          · exact h
          · exact absurd PF.out (hn x p1 h)
        subst hX
        clear hf hn
        go_wp2_with fail
        go_roundw
        case rel => exact ⟨k + 1, X + 1, by omega, by go_num, by go_num, PE.out.symm, by omega, by omega, a0, bb, b0⟩
        case measure => simp [intOf]; omega
      · exact absurd PF.out (hn x p1 p2)
    · obtain rfl : k = lk := by omega
      have htk : L.take k = L := List.take_of_length_le (by rw [LL.out]; exact Nat.le_refl _)
      by_cases hkn : (k : Int) = n
      · have hkb : ((k : Int) == n) = true := by simpa using hkn
        clear hkn
        go_wp2_with fail
        go_ret
        exact ⟨rfl, b0⟩
      · have hkb : ((k : Int) == n) = false := by simpa using hkn
        by_cases hDD : 4000000 < D
        · clear hkn
          go_wp2_with fail
          go_ret
          exact ⟨rfl, b0⟩
        · have hno : ∀ d', D ≤ d' → d' ≤ 4000000 → ¬ Fits xs ys zs n1 d' := by
            rcases HK.out with h | h
            · exact absurd h hkn
            · rw [HD.out, htk]; exact h
          have NO := Lib.hid hno
          clear hkn hno
          go_wp2_with fail
          refine (cycle_Next_ok _ _ _ _ _ _ _ xs ys D _ _ _ zs (argErr_at HE.out (by omega) (by omega)) (then2 H1.out b0) (then2 H2.out b0) (then2 H3.out b0)).mono ?_
          rintro e w7 ⟨ho, hb⟩
          rcases ho with ⟨X, e1, e2, hf, hn, rfl⟩ | ⟨hn, rfl⟩
          · exact absurd hf (NO.out X e1 e2)
          · clear hn
            go_wp2_with fail
            go_ret
            exact ⟨by simp, by (repeat' (first | exact Below.refl _ _ | assumption | refine Below.drew ?_ | refine below_drewN ?_ _ | refine below_new ?_ _ | refine below_set ?_ ?_ _ | refine below_then ?_ (by assumption) | refine below_drawn ?_ (by assumption) | exact Nat.le_refl _ | omega | (simp; done) | (simp; omega)))⟩
theorem walk {H : Type} {enc : TypeId × Value → H} {v0 v1 v2 v3 : Value} {d0 d1 d2 d3 : DataW H} {p0 p1 p2 p3 : List MemPlace} {base : Nat} (W : World)
    (o0 : Value.okWide Try.prog W .any base 24 v0) (h0 : DataW.Trod enc Try.prog W 0 (fun _ => true) true 24 v0 d0 p0)
    (o1 : Value.okWide Try.prog W .any base 3 v1) (h1 : DataW.Trod enc Try.prog W 0 (fun _ => true) true 3 v1 d1 p1)
    (o2 : Value.okWide Try.prog W .any base 22 v2) (h2 : DataW.Trod enc Try.prog W 0 (fun _ => true) true 22 v2 d2 p2)
    (o3 : Value.okWide Try.prog W .any base 3 v3) (h3 : DataW.Trod enc Try.prog W 0 (fun _ => true) true 3 v3 d3 p3) :
    Calls Try.prog 4 #[v0, v1, v2, v3] W fun e w' => e = .returned (.bool true) ∧ Below W.heap.size W w' := by
  obtain ⟨u0, u1, y0, y1, n, rfl, -, -, t0, t1⟩ := open_agg2 Try.underlying24 (by kernel_rfl) (by kernel_rfl) o0 h0
  obtain ⟨a1, n1, c1, xs, rfl, _, _, g1⟩ := open_Ints t0
  obtain ⟨a2, n2, c2, ys, rfl, _, _, g2⟩ := open_Ints t1
  obtain ⟨d, rfl, rfl, rfl, wd⟩ := open_int Try.underlying3 o1 h1
  obtain ⟨a3, n3, c3, rfl⟩ := okWide_slice Try.underlying22 o2
  obtain ⟨fuel, hf⟩ := h2
  obtain ⟨b3, m3, k3, zs, e, _, _, g3⟩ := open_Ints (by simpa [Value.cells] using hf)
  injection e with e1 e2 e3
  subst e1 e2 e3
  obtain ⟨m, rfl, rfl, rfl, wm⟩ := open_int Try.underlying3 o3 h3
  exact core W a1 a2 n1 c1 n2 c2 xs ys d _ _ _ zs m g1 g2 g3
end Go.Proofs.Ytkeicdimkmmnfaa.cycleListsLaw
