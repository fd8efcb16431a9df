/- EndlessParts: the Go text returns true at every input, and writes nothing that was there. -/
import Derived.Test.YtdmkghgachapaaaRows
import Derived.Test.YtdmkghgachapaaaEnd7
import Derived.Test.YtdmkghgachapaaaCycle2
import Derived.Test.YtdmkghgachapaaaLexN
import Derived.Deep.Cut
import Derived.Deep.CutRange
namespace Go.Proofs.Ytdmkghgachapaaa.endlessPartsLaw
set_option linter.unusedVariables false
set_option linter.unusedSimpArgs false
set_option maxRecDepth 100000
open Go.RowKit Go.ChangeShapes Go.WideShapes Go.Shelf

theorem wf_I64 {x : Int} (h : (Lit.int .i64 x).wf = true) : I64 x := by
  unfold Lit.wf at h
  rw [Bool.and_eq_true, decide_eq_true_eq, decide_eq_true_eq] at h
  have e1 : IntKind.i64.min = -9223372036854775808 := by decide
  have e2 : IntKind.i64.max = 9223372036854775807 := by decide
  rw [e1, e2] at h
  exact h
theorem below_dr {w w' : World} (h : Drawn w w') : Below w.heap.size w w' := by
  obtain ⟨n, rfl⟩ := h
  exact below_drewN (Below.refl _ _) n
theorem lit_ints {w : World} {g : Nat} {xs : List Int} (h : At w g (.cells (xs.map (Value.int .i64)).toArray 3)) (hx : ∀ x ∈ xs, I64 x) (hl : xs.length ≤ 100) : Ints w w.heap.size (some ⟨g, 0, none⟩) xs.length xs := by
  refine ⟨rfl, by omega, hx, fun _ => ⟨g, 0, rfl, h.lt, fun i hi => ?_⟩⟩
  rw [h.cell (0 + i), Nat.zero_add]
  simp [hi]
theorem cut_ints {w : World} {B : Nat} {a : Option Addr} {m K : Nat} {ys : List Int} (h : Ints w B a m ys) (hK : K ≤ m) : Ints w B a K (ys.take K) := by
  refine ⟨by rw [List.length_take, h.1]; omega, by have := h.2.1; omega, fun x hx => h.2.2.1 x (List.mem_of_mem_take hx), fun hm => ?_⟩
  obtain ⟨b, off, e, hb, hcc⟩ := h.2.2.2 (by omega)
  refine ⟨b, off, e, hb, fun i hi => ?_⟩
  rw [hcc i (by omega), List.getD_eq_getElem?_getD, List.getD_eq_getElem?_getD, List.getElem?_take, if_pos hi]
theorem dropE {xs : List Int} {k : Nat} {x : Int} (h : xs[k]? = some x) : xs.drop k = x :: xs.drop (k + 1) := by
  obtain ⟨hl, rfl⟩ := List.getElem?_eq_some_iff.1 h
  exact List.drop_eq_getElem_cons hl
theorem take_min {ys : List Int} {m : Nat} (hl : ys.length = m) (kk : Int) (K : Nat) (h : (K : Int) = max 0 (min kk (m : Int))) : ys.take kk.toNat = ys.take K ∧ K ≤ m ∧ (ys.take kk.toNat).length = K := by
  by_cases h0 : kk < 0
  · have : K = 0 := by omega
    have h2 : kk.toNat = 0 := by omega
    rw [this, h2]; simp
  · by_cases h1 : kk ≤ (m : Int)
    · have : kk.toNat = K := by omega
      rw [this]; refine ⟨rfl, by omega, by rw [List.length_take]; omega⟩
    · have : K = m := by omega
      subst this
      rw [List.take_of_length_le (by omega), List.take_of_length_le (by omega)]
      exact ⟨rfl, by omega, hl⟩
set_option maxHeartbeats 8000000 in
theorem core (W : World) (a : Option Addr) (n c : Nat) (xs : List Int) (h : Ints W W.heap.size a n xs) (hc : n ≤ c) (hcm : c ≤ 9223372036854775807) (k day : Int) (hk1 : -9223372036854775808 ≤ k) (hk2 : k ≤ 9223372036854775807) (hd1 : -9223372036854775808 ≤ day) (hd2 : day ≤ 9223372036854775807) :
    Calls Try.prog 3 #[.slice a n c, .int .i64 k, .int .i64 day] W fun e w' => e = .returned (.bool true) ∧ Below W.heap.size W w' := by
  have HI := Lib.hid h
  clear h
  obtain ⟨i0, hi, hz0, hz1, hz2⟩ := info_parts intInfoE
  go_enter Try.func3, Try.ntmps3
  go_upto_region 2 with fail
  have p1 := Boxed.new W 3 (.int .i64 0)
  have b1 := below_new (Below.refl W.heap.size W) (.cells #[.int .i64 0] 3)
  obtain ⟨U, hU⟩ : ∃ U, U = W.heap.size := ⟨_, rfl⟩
  rw [← hU] at p1 ⊢
  have HU := Lib.hid (show W.heap.size ≤ U by omega)
  clear hU
  generalize World.alloc W _ = W1 at p1 b1 ⊢
  have P1 := Lib.hid p1; have B1 := Lib.hid b1
  clear p1 b1
  go_wp2_with fail
  have g2 := At.new W1 (.cells #[.int .i64 1, .int .i64 3, .int .i64 5] 3)
  have b2 := below_new (Below.refl W1.heap.size W1) (.cells #[.int .i64 1, .int .i64 3, .int .i64 5] 3)
  obtain ⟨G2, hG2⟩ : ∃ G, G = W1.heap.size := ⟨_, rfl⟩
  have hUG : G2 ≠ U := by have := P1.out.lt; omega
  rw [← hG2] at g2 ⊢
  clear hG2
  generalize World.alloc W1 _ = W2 at g2 b2 ⊢
  have LS2 := Lib.hid (show LS W U (some ⟨G2, 0, none⟩) 3 [1, 3, 5] 0 W2 from ⟨below_then B1.out b2, (b2.block U P1.out.lt).trans P1.out, lit_ints (xs := [1, 3, 5]) g2 (by intro x hx; simp at hx; rcases hx with rfl | rfl | rfl <;> exact ⟨by decide, by decide⟩) (by decide), HU.out, fun g off sp e => (by cases e; exact hUG), by omega⟩)
  have CT := Lib.hid (LS2.out.take ⟨by omega, by omega⟩ 3 (.inl (by omega)) 2 (by omega) (by omega))
  clear g2 b2
  refine (law_seq (some ⟨G2, 0, none⟩) 3 3 U W2).mono ?_
  rintro e W3 ⟨rfl, hw3⟩
  have hw3' : W3 = sqW (some ⟨G2, 0, none⟩) 3 3 U W2 := hw3
  clear hw3
  rw [← hw3'] at CT
  clear hw3'
  unfold seqF at CT ⊢
  go_wp2_with fail
  refine CT.out.mono ?_
  rintro e W4 ⟨a4, m4, c4, u4, rfl, hI4, hL4, hlo, hhi, -⟩
  have hu4 : u4 = 2 := by simp at hlo hhi; omega
  subst hu4
  have LS4 := Lib.hid hL4
  have I4 := Lib.hid (show Ints W4 W4.heap.size a4 m4 [1, 3] from hI4)
  clear hI4 hL4 hlo hhi CT LS2 hUG
  go_upto_region 3 with fail
  go_wp2_with fail
  have g5 := At.new W4 (.cells #[.int .i64 1, .int .i64 3] 3)
  have b5 := below_new (Below.refl W4.heap.size W4) (.cells #[.int .i64 1, .int .i64 3] 3)
  obtain ⟨G5, hG5⟩ : ∃ G, G = W4.heap.size := ⟨_, rfl⟩
  rw [← hG5] at g5 ⊢
  clear hG5
  generalize World.alloc W4 _ = W5 at g5 b5 ⊢
  have L5 := Lib.hid (LS4.out.then_ b5)
  refine (ref_SameInts W5 a4 (some ⟨G5, 0, none⟩) m4 c4 2 2 [1, 3] [1, 3] ((I4.out.below b5 (Nat.le_refl _)).more b5.size) (lit_ints (xs := [1, 3]) g5 (by intro x hx; simp at hx; rcases hx with rfl | rfl <;> exact ⟨by decide, by decide⟩) (by decide))).mono ?_
  rw [show (([1, 3] : List Int) == [1, 3]) = true by decide]
  rintro e W6 ⟨rfl, hdr⟩
  have L6 := Lib.hid (L5.out.then_ (below_dr hdr))
  clear g5 b5 hdr LS4 I4 L5
  have x0 := L6.out.box.cell
  have x1 := L6.out.box.lt
  go_upto_region 5 with fail
  clear x0 x1
  have HI6 := Lib.hid ((HI.out.below L6.out.bel (Nat.le_refl _)).more L6.out.bel.size)
  go_wp2_with fail
  refine (law_rising W6 a n c xs HI6.out hc hcm).mono ?_
  rintro e W7 ⟨a7, m7, c7, ys, rfl, hm7, hmc, hc7, hI7, hfar, hb7⟩
  have HF := Lib.hid hfar
  have hxU := L6.out.box.lt
  have L7 := Lib.hid (show LS W U a7 m7 ys 2 W7 from ⟨below_then L6.out.bel hb7, (hb7.block U hxU).trans L6.out.box, hI7, HU.out, fun g off sp e => by have := (hfar g off sp e).1; omega, hm7⟩)
  have FAR := Lib.hid (show ∀ V : World, W7.heap.size ≤ V.heap.size → ∀ g off sp, a7 = some ⟨g, off, sp⟩ → g < V.heap.size from fun V hV g off sp e => by have := (HF.out g off sp e).2; omega)
  have LEN := Lib.hid hI7.1
  have I64Y := Lib.hid hI7.2.2.1
  have hsz67 : Below W7.heap.size W7 W7 := Below.refl _ _
  clear hfar hI7 hb7 HF HI6 L6 hxU hsz67
  go_upto_region 6 with fail
  have hkk : ∃ kk : Int, kk = (if 20 < k then k.tmod 20 else k) ∧ kk ≤ 20 ∧ -9223372036854775808 ≤ kk := ⟨_, rfl, by split; (have := Int.tmod_lt_of_pos k (show (0 : Int) < 20 by omega); omega); omega, by split; (have := Int.tmod_nonneg 20 (show 0 ≤ k by omega); omega); omega⟩
  obtain ⟨kk, hkk, hkk1, hkk2⟩ := hkk
  have HKK := Lib.hid hkk
  clear hkk
  go_upto_if 27 with fail
  go_cut [1] from 26 to 29 (fun v wx => v = .int .i64 kk ∧ W7 = wx)
  case first =>
    by_cases hq : 20 < k
    · have he := HKK.out
      rw [if_pos hq] at he
      have hw : IntKind.i64.wrap (k.tmod 20) = k.tmod 20 := IntWalk.i64_in _ (by omega)
      go_wp2_with fail
      go_meet
      case rel => exact ⟨by rw [he, Int.tmod_eq_emod_of_nonneg (by omega)], rfl⟩
    · have he := HKK.out
      rw [if_neg hq] at he
      go_wp2_with fail
      go_meet
      case rel => exact ⟨by rw [he], rfl⟩
  case rest =>
  obtain ⟨rfl, hwx⟩ := hcut
  subst hwx
  have y0 := L7.out.box.cell; have y1 := L7.out.box.frozen; have y2 := L7.out.box.lt
  go_upto_region 9 with fail
  have L8 := Lib.hid (L7.out.set 0)
  have S8 := Lib.hid (show (W7.setCell ⟨U, 0, none⟩ (.int .i64 0)).heap.size = W7.heap.size by simp [World.setCell])
  clear y0 y1 y2
  generalize World.setCell W7 _ _ = W8 at L8 S8 ⊢
  have CT := Lib.hid (L8.out.take ⟨by omega, by omega⟩ c7 (.inr (FAR.out W8 (by rw [S8.out]; exact Nat.le_refl _))) kk (by omega) hkk2)
  go_wp2_with fail
  refine (law_seq a7 m7 c7 U W8).mono ?_
  rintro e W9 ⟨rfl, hw9⟩
  have hw9' : W9 = sqW a7 m7 c7 U W8 := hw9
  clear hw9
  rw [← hw9'] at CT
  clear hw9'
  unfold seqF at CT ⊢
  obtain ⟨K, hK⟩ : ∃ K : Nat, (K : Int) = max 0 (min kk (m7 : Int)) := ⟨(max 0 (min kk (m7 : Int))).toNat, by omega⟩
  obtain ⟨tk1, tk2, tk3⟩ := take_min LEN.out kk K hK
  rw [tk3, tk1] at CT
  clear tk1 tk3
  have hmx : max (0 : Int) (min kk (m7 : Int)) = (K : Int) := hK.symm
  clear hK
  go_wp2_with fail
  refine CT.out.mono ?_
  rintro e W10 ⟨a9, m9, c9, u9, rfl, hI9, hL9, hlo, hhi, hs10⟩
  have hu9 : u9 = (K : Int) := by omega
  subst hu9
  have L10 := Lib.hid hL9
  have I9 := Lib.hid hI9
  have C10 := Lib.hid (cut_ints hL9.ints tk2)
  have S10 := Lib.hid (show W7.heap.size ≤ W10.heap.size by have := S8.out; omega)
  have hKc : K ≤ c7 := by omega
  clear hs10 hI9 hL9 hlo hhi CT
  go_upto_region 11 with fail
  go_wp2_with fail
  refine (ref_SameInts W10 a9 a7 m9 c9 K c7 (ys.take K) (ys.take K) I9.out C10.out).mono ?_
  rw [show (ys.take K == ys.take K) = true by simp]
  rintro e W11 ⟨rfl, hdr⟩
  have L11 := Lib.hid (L10.out.then_ (below_dr hdr))
  have S11 := Lib.hid (show W7.heap.size ≤ W11.heap.size by have := (below_dr hdr).size; have := S10.out; omega)
  clear hdr L10 I9 C10 S10 L8 S8
  have x0 := L11.out.box.cell
  have x1 := L11.out.box.lt
  have x2 := L11.out.box.frozen
  go_upto_region 14 with fail
  have L12 := Lib.hid (L11.out.set 0)
  have S12 := Lib.hid (show W7.heap.size ≤ (W11.setCell ⟨U, 0, none⟩ (.int .i64 0)).heap.size by simp [World.setCell]; exact S11.out)
  clear x0 x1 x2 hmx hKc
  generalize World.setCell W11 _ _ = W12 at L12 S12 ⊢
  clear L11 S11
  go_wp2_with fail
  go_loop [10] (fun i => ∃ j : Nat, j ≤ m7 ∧ i = .int .i64 j ∧ ys.take j ++ tw day (ys.drop j) = tw day ys) (fun i => m7 - (intOf i).toNat)
  case atStart => exact ⟨0, by omega, rfl, rfl⟩
  case round =>
    obtain ⟨j, hj, rfl, hall⟩ := hrel
    have HA := Lib.hid hall
    clear hall
    by_cases hlt : j < m7
    · obtain ⟨gb, gof, x, rfl, hb1, hc1, hx, _, _⟩ := L12.out.ints.at_ hlt
      have hdx := dropE hx
      by_cases hq : x ≤ day
      · have HN := Lib.hid (show ys.take (j + 1) ++ tw day (ys.drop (j + 1)) = tw day ys by
          rw [← HA.out, hdx, List.take_add_one, hx]
          unfold tw
          rw [List.takeWhile_cons_of_pos (by simpa using hq)]
          simp)
        clear hx hdx HA
        go_wp2_with fail
        go_round
        case rel => exact ⟨j + 1, by omega, by go_num, HN.out⟩
        case measure => first | (simp [intOf]; done) | (simp [intOf]; omega)
      · have HTW := Lib.hid (show tw day ys = ys.take j by
          rw [← HA.out, hdx]
          unfold tw
          rw [List.takeWhile_cons_of_neg (by simpa using hq)]
          simp)
        clear hx hdx HA
        go_upto_region 17 with fail
        clear hb1 hc1 hq hlt
        have CTW := Lib.hid (show (tw day ys).length = j by rw [HTW.out, List.length_take, LEN.out]; omega)
        have L13 := Lib.hid (show LS W U (some ⟨gb, gof, none⟩) m7 ys 0 W12.drew from L12.out.then_ (Below.refl _ _).drew)
        have S13 := Lib.hid (show W7.heap.size ≤ W12.drew.heap.size from S12.out)
        have hjc : j ≤ c7 := by omega
        have C13 := Lib.hid (L13.out.until_ ⟨by omega, by omega⟩ c7 (.inr (FAR.out _ S13.out)) day)
        refine wp_region_held_drew (S := (fun _ => True)) (by kernel_rfl) ?_ (fun hHeld => ?_)
        · (try dsimp only); try trivial
        generalize World.drew W12 = V0 at L13 S13 C13 hHeld ⊢
        unfold sqW at C13
        refine lex_take (i := 0) (v := ?_) rfl (by kernel_rfl) (by kernel_rfl) (by kernel_rfl) (fun _ _ _ h => h) (by rfl) ?_ (by assumption) ?_
        rotate_left
        · (intro w hSw; (try dsimp only at hSw); go_simp; try with_reducible rfl)
        try simp only [Act.put, List.setIfInBounds_toArray, List.set_cons_zero, List.set_cons_succ]
        refine lex_take (i := 2) (v := ?_) rfl (by kernel_rfl) (by kernel_rfl) (by kernel_rfl) (fun _ _ _ h => h) (by rfl) ?_ (by assumption) ?_
        rotate_left
        · (intro w hSw; (try dsimp only at hSw); go_simp; try with_reducible rfl)
        try simp only [Act.put, List.setIfInBounds_toArray, List.set_cons_zero, List.set_cons_succ]
        refine lex_take (i := 4) (v := ?_) rfl (by kernel_rfl) (by kernel_rfl) (by kernel_rfl) (fun _ _ _ h => h) (by rfl) ?_ (by assumption) ?_
        rotate_left
        · (intro w hSw; (try dsimp only at hSw); go_simp; try with_reducible rfl)
        try simp only [Act.put, List.setIfInBounds_toArray, List.set_cons_zero, List.set_cons_succ]
        refine lex_take (i := 5) (v := ?_) rfl (by kernel_rfl) (by kernel_rfl) (by kernel_rfl) (fun _ _ _ h => h) (by rfl) ?_ (by assumption) ?_
        rotate_left
        · (intro w hSw; (try dsimp only at hSw); go_simp; try with_reducible rfl)
        try simp only [Act.put, List.setIfInBounds_toArray, List.set_cons_zero, List.set_cons_succ]
        refine lex_take (i := 6) (v := ?_) rfl (by kernel_rfl) (by kernel_rfl) (by kernel_rfl) (fun _ _ _ h => h) (by rfl) ?_ (by assumption) ?_
        rotate_left
        · (intro w hSw; (try dsimp only at hSw); go_simp; try with_reducible rfl)
        try simp only [Act.put, List.setIfInBounds_toArray, List.set_cons_zero, List.set_cons_succ]
        refine lex_step (i := 1) rfl (by kernel_rfl) (by rfl) (fun Kx hKx => ?_)
        (go_simp; go_at_call 5; refine (law_seq (some ⟨gb, gof, none⟩) m7 c7 U V0).mono ?_; rintro e V1 ⟨rfl, rfl⟩; try go_wp2_with fail)
        refine hKx.out _ _ ?_ (fun hHeld => ?_)
        · (try dsimp only); try trivial
        clear hKx Kx
        try simp only [Act.put, List.setIfInBounds_toArray, List.set_cons_zero, List.set_cons_succ]
        unfold seqF at C13 ⊢
        generalize World.alloc (World.alloc V0 _) _ = V1 at C13 hHeld ⊢
        refine lex_step (i := 3) rfl (by kernel_rfl) (by rfl) (fun Kx hKx => ?_)
        (go_simp; go_at_call 8; (with_reducible refine C13.out.mono ?_); rintro e V2 ⟨a', m', c', u', rfl, hIu, hLu, hlo, hhi, hs2⟩; try go_wp2_with fail)
        refine hKx.out _ _ ?_ (fun hHeld => ?_)
        · (try dsimp only); try trivial
        clear hKx Kx
        try simp only [Act.put, List.setIfInBounds_toArray, List.set_cons_zero, List.set_cons_succ]
        have L14 := Lib.hid hLu
        have IU := Lib.hid (show Ints V2 V2.heap.size a' m' (ys.take j) by rw [← HTW.out]; exact hIu)
        have CJ := Lib.hid (cut_ints hLu.ints hj)
        rw [CTW.out] at hhi
        have S14 := Lib.hid (show W7.heap.size ≤ V2.heap.size by have := S13.out; omega)
        have hlo2 := hlo
        clear hIu hLu hlo C13 L13
        refine lex_step (i := 7) rfl (by kernel_rfl) (by rfl) (fun Kx hKx => ?_)
        (go_simp; go_at_call 6; (with_reducible refine (ref_SameInts V2 a' (some ⟨gb, gof, none⟩) m' c' j c7 (ys.take j) (ys.take j) IU.out CJ.out).mono ?_); rw [show (ys.take j == ys.take j) = true by simp]; rintro e V3 ⟨rfl, hdr⟩; try go_wp2_with fail)
        refine hKx.out _ _ ?_ (fun hHeld => ?_)
        · (try dsimp only); try trivial
        clear hKx Kx
        try simp only [Act.put, List.setIfInBounds_toArray, List.set_cons_zero, List.set_cons_succ]
        have L15 := Lib.hid (L14.out.then_ (below_dr hdr))
        have S15 := Lib.hid (show W7.heap.size ≤ V3.heap.size by have := (below_dr hdr).size; have := S14.out; omega)
        have xc := L15.out.box.cell
        clear hdr L14 IU CJ S13
        have hjw : IntKind.i64.wrap ((j : Int) + 1) = (j : Int) + 1 := IntWalk.i64_in _ (by omega)
        have hng : ¬ (j : Int) + 1 < u' := by omega
        refine lex_take (i := 8) (v := ?_) rfl (by kernel_rfl) (by kernel_rfl) (by kernel_rfl) (fun _ _ _ h => h) (by rfl) ?_ (by assumption) ?_
        rotate_left
        · (intro w hSw; (try dsimp only at hSw); go_simp; try with_reducible rfl)
        try simp only [Act.put, List.setIfInBounds_toArray, List.set_cons_zero, List.set_cons_succ]
        refine lex_take (i := 9) (v := ?_) rfl (by kernel_rfl) (by kernel_rfl) (by kernel_rfl) (fun _ _ _ h => h) (by rfl) ?_ (by assumption) ?_
        rotate_left
        · (intro w hSw; (try dsimp only at hSw); go_simp; try with_reducible rfl)
        try simp only [Act.put, List.setIfInBounds_toArray, List.set_cons_zero, List.set_cons_succ]
        refine lex_take (i := 11) (v := ?_) rfl (by kernel_rfl) (by kernel_rfl) (by kernel_rfl) (fun _ _ _ h => h) (by rfl) ?_ (by assumption) ?_
        rotate_left
        · (intro w hSw; (try dsimp only at hSw); go_simp; try with_reducible rfl)
        try simp only [Act.put, List.setIfInBounds_toArray, List.set_cons_zero, List.set_cons_succ]
        refine lex_take (i := 12) (v := ?_) rfl (by kernel_rfl) (by kernel_rfl) (by kernel_rfl) (fun _ _ _ h => h) (by rfl) ?_ (by assumption) ?_
        rotate_left
        · (intro w hSw; (try dsimp only at hSw); go_simp; try with_reducible rfl)
        try simp only [Act.put, List.setIfInBounds_toArray, List.set_cons_zero, List.set_cons_succ]
        refine lex_step (i := 10) rfl (by kernel_rfl) (by rfl) (fun Kx hKx => ?_)
        go_simp
        refine hKx.out _ _ ?_ (fun hHeld => ?_)
        · (try dsimp only); try trivial
        clear hKx Kx
        try simp only [Act.put, List.setIfInBounds_toArray, List.set_cons_zero, List.set_cons_succ]
        refine lex_take (i := 13) (v := ?_) rfl (by kernel_rfl) (by kernel_rfl) (by kernel_rfl) (fun _ _ _ h => h) (by rfl) ?_ (by assumption) ?_
        rotate_left
        · (intro w hSw; (try dsimp only at hSw); go_simp; try with_reducible rfl)
        try simp only [Act.put, List.setIfInBounds_toArray, List.set_cons_zero, List.set_cons_succ]
        refine lex_take (i := 14) (v := ?_) rfl (by kernel_rfl) (by kernel_rfl) (by kernel_rfl) (fun _ _ _ h => h) (by rfl) ?_ (by assumption) ?_
        rotate_left
        · (intro w hSw; (try dsimp only at hSw); go_simp; try with_reducible rfl)
        try simp only [Act.put, List.setIfInBounds_toArray, List.set_cons_zero, List.set_cons_succ]
        refine wpAnyH_done (by kernel_rfl) ?_ _
        have S15b := Lib.hid S15.out
        have HU16 := Lib.hid (show 0 ≤ u' ∧ u' ≤ 1000 by omega)
        clear xc hjw hng CTW HTW S15 hs2 hjc hhi hlo2
        go_wp2_with fail
        go_loopw [11, 12] (fun v i wr => ∃ (q : Nat) (zs : List Int), i = .int .i64 q ∧ q ≤ 40 ∧ wr.ownsRow V3.heap.size 3 1 v zs.length (zs.map (Value.int .i64)) ∧ zs.length ≤ q ∧ zs ++ (if kk < 1 then [] else evW kk.toNat 0 (ys.drop q)) = evL kk ys ∧ Below V3.heap.size V3 wr) (fun _ i _ => m7 - (intOf i).toNat)
        case atStart => exact ⟨0, [], rfl, by omega, World.ownsRow_nil _ _ _ _, by simp, by unfold evL; split <;> simp, Below.refl _ _⟩
        case round =>
          obtain ⟨q, zs, rfl, hq40, hown, hzl, hall, hbw⟩ := hrel
          have OWN := Lib.hid hown; have HALL := Lib.hid hall; have HB := Lib.hid hbw
          have L16 := Lib.hid (L15.out.then_ hbw)
          have hsz := hbw.size
          clear hown hall hbw
          by_cases hkp : 0 < kk
          · by_cases hlq : q < m7
            · obtain ⟨gb2, go2, x2, ea, hb2, hc2, hx2, _, _⟩ := L16.out.ints.at_ hlq
              cases ea
              have HN := Lib.hid (show (zs ++ [x2]) ++ (if kk < 1 then [] else evW kk.toNat 0 (ys.drop (q + kk.toNat))) = evL kk ys by
                rw [← HALL.out, if_neg (by omega), if_neg (by omega), dropE hx2, evW_step _ (by omega), List.drop_drop, show q + 1 + (kk.toNat - 1) = q + kk.toNat from by omega]
                simp)
              have hzx : (zs ++ [x2]).length = zs.length + 1 := by simp
              have hw2 : IntKind.i64.wrap ((q : Int) + kk) = (q : Int) + kk := IntWalk.i64_in _ (by omega)
              have hqk : (q : Int) + kk = ((q + kk.toNat : Nat) : Int) := by omega
              have hz40 : zs.length ≤ 40 := by omega
              have hm12 : m7 ≤ 12 := hm7
              clear hx2 HALL
              have HQK := Lib.hid hqk
              clear hqk
              go_wp2_with (at_builtin; refine wpList_append_own _ rfl _ _ 22 rfl (V3.heap.size) 3 i0 (.int .i64 0) 1 8 Try.underlying22 hi hz0 hz1 hz2 rfl (by decide) _ _ _ rfl (OWN.out.alloc _) ⟨wr.heap.size, 0, none⟩ 1 1 [.int .i64 x2] rfl rfl (World.news_of_block (cs := #[.int .i64 x2]) (t := 3) (fr := (0, 0)) (heap_alloc_new wr _)) (by simp [Value.oneCell']) (by unfold maxLen; omega) (by omega) (by first | omega | (simp; omega)) ?_; intro v' w4 hown' hgrow _)
              have bw4 : Below V3.heap.size V3 w4 := ((HB.out.alloc hsz (.cells #[.int .i64 x2] 3))).grown hgrow (by simp; omega) (fun bb hbb => (own_blockE OWN.out hbb).1)
              have OWN2 := Lib.hid hown'
              clear hown' hgrow OWN
              go_wp2_with fail
              go_roundw
              case rel => exact ⟨q + kk.toNat, zs ++ [x2], by rw [HQK.out], by omega, by rw [hzx, List.map_append]; exact OWN2.out, by rw [hzx]; omega, HN.out, bw4⟩
              case measure => simp [intOf]; omega
            · have hz : zs = evL kk ys := by
                rw [← HALL.out, if_neg (by omega), List.drop_eq_nil_of_le (by rw [LEN.out]; omega)]
                simp [evW]
              subst hz
              clear HALL
              obtain ⟨aw, mw, cw, rfl, hIw⟩ := own_part OWN.out (fun x hx => I64Y.out x (evL_mem kk ys x hx))
              have hwU : ∀ g off sp, aw = some ⟨g, off, sp⟩ → g ≠ U := fun g off sp e => by
                subst e
                have := (own_blockE OWN.out (g := g) rfl).1
                have := L15.out.box.lt
                omega
              have IW := Lib.hid hIw; have HWU := Lib.hid hwU
              have FR := Lib.hid (FAR.out wr (by have := S15b.out; omega))
              have CE := Lib.hid (L16.out.every HU16.out c7 (.inr FR.out) kk (by omega))
              unfold ewW sqW seqF everyF at CE
              clear hIw hwU OWN
              go_wp2_with fail
              refine (law_seq (some ⟨gb, gof, none⟩) m7 c7 U wr).mono ?_
              rintro e V5 ⟨rfl, hv5⟩
              rw [← hv5] at CE
              have hs5 : V5.heap.size = wr.heap.size + 2 := by rw [hv5]; simp only [World.size_alloc]
              clear hv5
              unfold seqF
              go_wp2_with fail
              refine (end_Every _ _ kk V5).mono ?_
              rintro e V6 ⟨rfl, hv6⟩
              rw [← hv6] at CE
              clear hv6
              unfold everyF
              rw [hs5]
              go_wp2_with fail
              refine CE.out.mono ?_
              rintro e V7 ⟨a8, m8, c8, rfl, hI8, hb8, hl8⟩
              have I8 := Lib.hid hI8
              have B8 := Lib.hid hb8
              have IW7 := Lib.hid (ints_less IW.out hl8 HWU.out)
              clear hI8 hb8 hl8 CE hs5
              go_wp2_with fail
              refine (ref_SameInts V7 a8 aw m8 c8 mw cw (evL kk ys) (evL kk ys) I8.out IW7.out).mono ?_
              rw [show (evL kk ys == evL kk ys) = true by simp]
              rintro e V8 ⟨rfl, hdr⟩
              have B9 := Lib.hid (below_then B8.out (below_dr hdr))
              clear hdr
              go_wp2_with fail
              go_ret
              exact ⟨rfl, B9.out⟩
          · have hz : zs = evL kk ys := by
              rw [← HALL.out, if_pos (by omega)]; simp
            subst hz
            clear HALL
            obtain ⟨aw, mw, cw, rfl, hIw⟩ := own_part OWN.out (fun x hx => I64Y.out x (evL_mem kk ys x hx))
            have hwU : ∀ g off sp, aw = some ⟨g, off, sp⟩ → g ≠ U := fun g off sp e => by
              subst e
              have := (own_blockE OWN.out (g := g) rfl).1
              have := L15.out.box.lt
              omega
            have IW := Lib.hid hIw; have HWU := Lib.hid hwU
            have FR := Lib.hid (FAR.out wr (by have := S15b.out; omega))
            have CE := Lib.hid (L16.out.every HU16.out c7 (.inr FR.out) kk (by omega))
            unfold ewW sqW seqF everyF at CE
            clear hIw hwU OWN
            go_wp2_with fail
            refine (law_seq (some ⟨gb, gof, none⟩) m7 c7 U wr).mono ?_
            rintro e V5 ⟨rfl, hv5⟩
            rw [← hv5] at CE
            have hs5 : V5.heap.size = wr.heap.size + 2 := by rw [hv5]; simp only [World.size_alloc]
            clear hv5
            unfold seqF
            go_wp2_with fail
            refine (end_Every _ _ kk V5).mono ?_
            rintro e V6 ⟨rfl, hv6⟩
            rw [← hv6] at CE
            clear hv6
            unfold everyF
            rw [hs5]
            go_wp2_with fail
            refine CE.out.mono ?_
            rintro e V7 ⟨a8, m8, c8, rfl, hI8, hb8, hl8⟩
            have I8 := Lib.hid hI8
            have B8 := Lib.hid hb8
            have IW7 := Lib.hid (ints_less IW.out hl8 HWU.out)
            clear hI8 hb8 hl8 CE hs5
            go_wp2_with fail
            refine (ref_SameInts V7 a8 aw m8 c8 mw cw (evL kk ys) (evL kk ys) I8.out IW7.out).mono ?_
            rw [show (evL kk ys == evL kk ys) = true by simp]
            rintro e V8 ⟨rfl, hdr⟩
            have B9 := Lib.hid (below_then B8.out (below_dr hdr))
            clear hdr
            go_wp2_with fail
            go_ret
            exact ⟨rfl, B9.out⟩
    · have HTW := Lib.hid (show tw day ys = ys.take j by
        rw [← HA.out, List.drop_eq_nil_of_le (by rw [LEN.out]; omega)]
        simp [tw])
      clear HA
      go_upto_region 17 with fail
      clear hlt
      have CTW := Lib.hid (show (tw day ys).length = j by rw [HTW.out, List.length_take, LEN.out]; omega)
      have L13 := Lib.hid (show LS W U a7 m7 ys 0 W12.drew from L12.out.then_ (Below.refl _ _).drew)
      have S13 := Lib.hid (show W7.heap.size ≤ W12.drew.heap.size from S12.out)
      have hjc : j ≤ c7 := by omega
      have C13 := Lib.hid (L13.out.until_ ⟨by omega, by omega⟩ c7 (.inr (FAR.out _ S13.out)) day)
      refine wp_region_held_drew (S := (fun _ => True)) (by kernel_rfl) ?_ (fun hHeld => ?_)
      · (try dsimp only); try trivial
      generalize World.drew W12 = V0 at L13 S13 C13 hHeld ⊢
      unfold sqW at C13
      refine lex_take (i := 0) (v := ?_) rfl (by kernel_rfl) (by kernel_rfl) (by kernel_rfl) (fun _ _ _ h => h) (by rfl) ?_ (by assumption) ?_
      rotate_left
      · (intro w hSw; (try dsimp only at hSw); go_simp; try with_reducible rfl)
      try simp only [Act.put, List.setIfInBounds_toArray, List.set_cons_zero, List.set_cons_succ]
      refine lex_take (i := 2) (v := ?_) rfl (by kernel_rfl) (by kernel_rfl) (by kernel_rfl) (fun _ _ _ h => h) (by rfl) ?_ (by assumption) ?_
      rotate_left
      · (intro w hSw; (try dsimp only at hSw); go_simp; try with_reducible rfl)
      try simp only [Act.put, List.setIfInBounds_toArray, List.set_cons_zero, List.set_cons_succ]
      refine lex_take (i := 4) (v := ?_) rfl (by kernel_rfl) (by kernel_rfl) (by kernel_rfl) (fun _ _ _ h => h) (by rfl) ?_ (by assumption) ?_
      rotate_left
      · (intro w hSw; (try dsimp only at hSw); go_simp; try with_reducible rfl)
      try simp only [Act.put, List.setIfInBounds_toArray, List.set_cons_zero, List.set_cons_succ]
      refine lex_take (i := 5) (v := ?_) rfl (by kernel_rfl) (by kernel_rfl) (by kernel_rfl) (fun _ _ _ h => h) (by rfl) ?_ (by assumption) ?_
      rotate_left
      · (intro w hSw; (try dsimp only at hSw); go_simp; try with_reducible rfl)
      try simp only [Act.put, List.setIfInBounds_toArray, List.set_cons_zero, List.set_cons_succ]
      refine lex_take (i := 6) (v := ?_) rfl (by kernel_rfl) (by kernel_rfl) (by kernel_rfl) (fun _ _ _ h => h) (by rfl) ?_ (by assumption) ?_
      rotate_left
      · (intro w hSw; (try dsimp only at hSw); go_simp; try with_reducible rfl)
      try simp only [Act.put, List.setIfInBounds_toArray, List.set_cons_zero, List.set_cons_succ]
      refine lex_step (i := 1) rfl (by kernel_rfl) (by rfl) (fun Kx hKx => ?_)
      (go_simp; go_at_call 5; refine (law_seq a7 m7 c7 U V0).mono ?_; rintro e V1 ⟨rfl, rfl⟩; try go_wp2_with fail)
      refine hKx.out _ _ ?_ (fun hHeld => ?_)
      · (try dsimp only); try trivial
      clear hKx Kx
      try simp only [Act.put, List.setIfInBounds_toArray, List.set_cons_zero, List.set_cons_succ]
      unfold seqF at C13 ⊢
      generalize World.alloc (World.alloc V0 _) _ = V1 at C13 hHeld ⊢
      refine lex_step (i := 3) rfl (by kernel_rfl) (by rfl) (fun Kx hKx => ?_)
      (go_simp; go_at_call 8; (with_reducible refine C13.out.mono ?_); rintro e V2 ⟨a', m', c', u', rfl, hIu, hLu, hlo, hhi, hs2⟩; try go_wp2_with fail)
      refine hKx.out _ _ ?_ (fun hHeld => ?_)
      · (try dsimp only); try trivial
      clear hKx Kx
      try simp only [Act.put, List.setIfInBounds_toArray, List.set_cons_zero, List.set_cons_succ]
      have L14 := Lib.hid hLu
      have IU := Lib.hid (show Ints V2 V2.heap.size a' m' (ys.take j) by rw [← HTW.out]; exact hIu)
      have CJ := Lib.hid (cut_ints hLu.ints hj)
      rw [CTW.out] at hhi
      have S14 := Lib.hid (show W7.heap.size ≤ V2.heap.size by have := S13.out; omega)
      have hlo2 := hlo
      clear hIu hLu hlo C13 L13
      refine lex_step (i := 7) rfl (by kernel_rfl) (by rfl) (fun Kx hKx => ?_)
      (go_simp; go_at_call 6; (with_reducible refine (ref_SameInts V2 a' a7 m' c' j c7 (ys.take j) (ys.take j) IU.out CJ.out).mono ?_); rw [show (ys.take j == ys.take j) = true by simp]; rintro e V3 ⟨rfl, hdr⟩; try go_wp2_with fail)
      refine hKx.out _ _ ?_ (fun hHeld => ?_)
      · (try dsimp only); try trivial
      clear hKx Kx
      try simp only [Act.put, List.setIfInBounds_toArray, List.set_cons_zero, List.set_cons_succ]
      have L15 := Lib.hid (L14.out.then_ (below_dr hdr))
      have S15 := Lib.hid (show W7.heap.size ≤ V3.heap.size by have := (below_dr hdr).size; have := S14.out; omega)
      have xc := L15.out.box.cell
      clear hdr L14 IU CJ S13
      have hjw : IntKind.i64.wrap ((j : Int) + 1) = (j : Int) + 1 := IntWalk.i64_in _ (by omega)
      have hng : ¬ (j : Int) + 1 < u' := by omega
      refine lex_take (i := 8) (v := ?_) rfl (by kernel_rfl) (by kernel_rfl) (by kernel_rfl) (fun _ _ _ h => h) (by rfl) ?_ (by assumption) ?_
      rotate_left
      · (intro w hSw; (try dsimp only at hSw); go_simp; try with_reducible rfl)
      try simp only [Act.put, List.setIfInBounds_toArray, List.set_cons_zero, List.set_cons_succ]
      refine lex_take (i := 9) (v := ?_) rfl (by kernel_rfl) (by kernel_rfl) (by kernel_rfl) (fun _ _ _ h => h) (by rfl) ?_ (by assumption) ?_
      rotate_left
      · (intro w hSw; (try dsimp only at hSw); go_simp; try with_reducible rfl)
      try simp only [Act.put, List.setIfInBounds_toArray, List.set_cons_zero, List.set_cons_succ]
      refine lex_take (i := 11) (v := ?_) rfl (by kernel_rfl) (by kernel_rfl) (by kernel_rfl) (fun _ _ _ h => h) (by rfl) ?_ (by assumption) ?_
      rotate_left
      · (intro w hSw; (try dsimp only at hSw); go_simp; try with_reducible rfl)
      try simp only [Act.put, List.setIfInBounds_toArray, List.set_cons_zero, List.set_cons_succ]
      refine lex_take (i := 12) (v := ?_) rfl (by kernel_rfl) (by kernel_rfl) (by kernel_rfl) (fun _ _ _ h => h) (by rfl) ?_ (by assumption) ?_
      rotate_left
      · (intro w hSw; (try dsimp only at hSw); go_simp; try with_reducible rfl)
      try simp only [Act.put, List.setIfInBounds_toArray, List.set_cons_zero, List.set_cons_succ]
      refine lex_step (i := 10) rfl (by kernel_rfl) (by rfl) (fun Kx hKx => ?_)
      go_simp
      refine hKx.out _ _ ?_ (fun hHeld => ?_)
      · (try dsimp only); try trivial
      clear hKx Kx
      try simp only [Act.put, List.setIfInBounds_toArray, List.set_cons_zero, List.set_cons_succ]
      refine lex_take (i := 13) (v := ?_) rfl (by kernel_rfl) (by kernel_rfl) (by kernel_rfl) (fun _ _ _ h => h) (by rfl) ?_ (by assumption) ?_
      rotate_left
      · (intro w hSw; (try dsimp only at hSw); go_simp; try with_reducible rfl)
      try simp only [Act.put, List.setIfInBounds_toArray, List.set_cons_zero, List.set_cons_succ]
      refine lex_take (i := 14) (v := ?_) rfl (by kernel_rfl) (by kernel_rfl) (by kernel_rfl) (fun _ _ _ h => h) (by rfl) ?_ (by assumption) ?_
      rotate_left
      · (intro w hSw; (try dsimp only at hSw); go_simp; try with_reducible rfl)
      try simp only [Act.put, List.setIfInBounds_toArray, List.set_cons_zero, List.set_cons_succ]
      refine wpAnyH_done (by kernel_rfl) ?_ _
      have S15b := Lib.hid S15.out
      have HU16 := Lib.hid (show 0 ≤ u' ∧ u' ≤ 1000 by omega)
      clear xc hjw hng CTW HTW S15 hs2 hjc hhi hlo2
      go_wp2_with fail
      go_loopw [11, 12] (fun v i wr => ∃ (q : Nat) (zs : List Int), i = .int .i64 q ∧ q ≤ 40 ∧ wr.ownsRow V3.heap.size 3 1 v zs.length (zs.map (Value.int .i64)) ∧ zs.length ≤ q ∧ zs ++ (if kk < 1 then [] else evW kk.toNat 0 (ys.drop q)) = evL kk ys ∧ Below V3.heap.size V3 wr) (fun _ i _ => m7 - (intOf i).toNat)
      case atStart => exact ⟨0, [], rfl, by omega, World.ownsRow_nil _ _ _ _, by simp, by unfold evL; split <;> simp, Below.refl _ _⟩
      case round =>
        obtain ⟨q, zs, rfl, hq40, hown, hzl, hall, hbw⟩ := hrel
        have OWN := Lib.hid hown; have HALL := Lib.hid hall; have HB := Lib.hid hbw
        have L16 := Lib.hid (L15.out.then_ hbw)
        have hsz := hbw.size
        clear hown hall hbw
        by_cases hkp : 0 < kk
        · by_cases hlq : q < m7
          · obtain ⟨gb2, go2, x2, ea, hb2, hc2, hx2, _, _⟩ := L16.out.ints.at_ hlq
            subst ea
            have HN := Lib.hid (show (zs ++ [x2]) ++ (if kk < 1 then [] else evW kk.toNat 0 (ys.drop (q + kk.toNat))) = evL kk ys by
              rw [← HALL.out, if_neg (by omega), if_neg (by omega), dropE hx2, evW_step _ (by omega), List.drop_drop, show q + 1 + (kk.toNat - 1) = q + kk.toNat from by omega]
              simp)
            have hzx : (zs ++ [x2]).length = zs.length + 1 := by simp
            have hw2 : IntKind.i64.wrap ((q : Int) + kk) = (q : Int) + kk := IntWalk.i64_in _ (by omega)
            have hqk : (q : Int) + kk = ((q + kk.toNat : Nat) : Int) := by omega
            have hz40 : zs.length ≤ 40 := by omega
            have hm12 : m7 ≤ 12 := hm7
            clear hx2 HALL
            have HQK := Lib.hid hqk
            clear hqk
            go_wp2_with (at_builtin; refine wpList_append_own _ rfl _ _ 22 rfl (V3.heap.size) 3 i0 (.int .i64 0) 1 8 Try.underlying22 hi hz0 hz1 hz2 rfl (by decide) _ _ _ rfl (OWN.out.alloc _) ⟨wr.heap.size, 0, none⟩ 1 1 [.int .i64 x2] rfl rfl (World.news_of_block (cs := #[.int .i64 x2]) (t := 3) (fr := (0, 0)) (heap_alloc_new wr _)) (by simp [Value.oneCell']) (by unfold maxLen; omega) (by omega) (by first | omega | (simp; omega)) ?_; intro v' w4 hown' hgrow _)
            have bw4 : Below V3.heap.size V3 w4 := ((HB.out.alloc hsz (.cells #[.int .i64 x2] 3))).grown hgrow (by simp; omega) (fun bb hbb => (own_blockE OWN.out hbb).1)
            have OWN2 := Lib.hid hown'
            clear hown' hgrow OWN
            go_wp2_with fail
            go_roundw
            case rel => exact ⟨q + kk.toNat, zs ++ [x2], by rw [HQK.out], by omega, by rw [hzx, List.map_append]; exact OWN2.out, by rw [hzx]; omega, HN.out, bw4⟩
            case measure => simp [intOf]; omega
          · have hz : zs = evL kk ys := by
              rw [← HALL.out, if_neg (by omega), List.drop_eq_nil_of_le (by rw [LEN.out]; omega)]
              simp [evW]
            subst hz
            clear HALL
            obtain ⟨aw, mw, cw, rfl, hIw⟩ := own_part OWN.out (fun x hx => I64Y.out x (evL_mem kk ys x hx))
            have hwU : ∀ g off sp, aw = some ⟨g, off, sp⟩ → g ≠ U := fun g off sp e => by
              subst e
              have := (own_blockE OWN.out (g := g) rfl).1
              have := L15.out.box.lt
              omega
            have IW := Lib.hid hIw; have HWU := Lib.hid hwU
            have FR := Lib.hid (FAR.out wr (by have := S15b.out; omega))
            have CE := Lib.hid (L16.out.every HU16.out c7 (.inr FR.out) kk (by omega))
            unfold ewW sqW seqF everyF at CE
            clear hIw hwU OWN
            go_wp2_with fail
            refine (law_seq a7 m7 c7 U wr).mono ?_
            rintro e V5 ⟨rfl, hv5⟩
            rw [← hv5] at CE
            have hs5 : V5.heap.size = wr.heap.size + 2 := by rw [hv5]; simp only [World.size_alloc]
            clear hv5
            unfold seqF
            go_wp2_with fail
            refine (end_Every _ _ kk V5).mono ?_
            rintro e V6 ⟨rfl, hv6⟩
            rw [← hv6] at CE
            clear hv6
            unfold everyF
            rw [hs5]
            go_wp2_with fail
            refine CE.out.mono ?_
            rintro e V7 ⟨a8, m8, c8, rfl, hI8, hb8, hl8⟩
            have I8 := Lib.hid hI8
            have B8 := Lib.hid hb8
            have IW7 := Lib.hid (ints_less IW.out hl8 HWU.out)
            clear hI8 hb8 hl8 CE hs5
            go_wp2_with fail
            refine (ref_SameInts V7 a8 aw m8 c8 mw cw (evL kk ys) (evL kk ys) I8.out IW7.out).mono ?_
            rw [show (evL kk ys == evL kk ys) = true by simp]
            rintro e V8 ⟨rfl, hdr⟩
            have B9 := Lib.hid (below_then B8.out (below_dr hdr))
            clear hdr
            go_wp2_with fail
            go_ret
            exact ⟨rfl, B9.out⟩
        · have hz : zs = evL kk ys := by
            rw [← HALL.out, if_pos (by omega)]; simp
          subst hz
          clear HALL
          obtain ⟨aw, mw, cw, rfl, hIw⟩ := own_part OWN.out (fun x hx => I64Y.out x (evL_mem kk ys x hx))
          have hwU : ∀ g off sp, aw = some ⟨g, off, sp⟩ → g ≠ U := fun g off sp e => by
            subst e
            have := (own_blockE OWN.out (g := g) rfl).1
            have := L15.out.box.lt
            omega
          have IW := Lib.hid hIw; have HWU := Lib.hid hwU
          have FR := Lib.hid (FAR.out wr (by have := S15b.out; omega))
          have CE := Lib.hid (L16.out.every HU16.out c7 (.inr FR.out) kk (by omega))
          unfold ewW sqW seqF everyF at CE
          clear hIw hwU OWN
          go_wp2_with fail
          refine (law_seq a7 m7 c7 U wr).mono ?_
          rintro e V5 ⟨rfl, hv5⟩
          rw [← hv5] at CE
          have hs5 : V5.heap.size = wr.heap.size + 2 := by rw [hv5]; simp only [World.size_alloc]
          clear hv5
          unfold seqF
          go_wp2_with fail
          refine (end_Every _ _ kk V5).mono ?_
          rintro e V6 ⟨rfl, hv6⟩
          rw [← hv6] at CE
          clear hv6
          unfold everyF
          rw [hs5]
          go_wp2_with fail
          refine CE.out.mono ?_
          rintro e V7 ⟨a8, m8, c8, rfl, hI8, hb8, hl8⟩
          have I8 := Lib.hid hI8
          have B8 := Lib.hid hb8
          have IW7 := Lib.hid (ints_less IW.out hl8 HWU.out)
          clear hI8 hb8 hl8 CE hs5
          go_wp2_with fail
          refine (ref_SameInts V7 a8 aw m8 c8 mw cw (evL kk ys) (evL kk ys) I8.out IW7.out).mono ?_
          rw [show (evL kk ys == evL kk ys) = true by simp]
          rintro e V8 ⟨rfl, hdr⟩
          have B9 := Lib.hid (below_then B8.out (below_dr hdr))
          clear hdr
          go_wp2_with fail
          go_ret
          exact ⟨rfl, B9.out⟩
theorem walk {H : Type} {enc : TypeId × Value → H} {v0 v1 v2 : Value} {d0 d1 d2 : DataW H} {p0 p1 p2 : List MemPlace} {base : Nat} (W : World)
    (o0 : Value.okWide Try.prog W .any base 22 v0) (h0 : DataW.Trod enc Try.prog W 0 (fun _ => true) true 22 v0 d0 p0)
    (o1 : Value.okWide Try.prog W .any base 3 v1) (h1 : DataW.Trod enc Try.prog W 0 (fun _ => true) true 3 v1 d1 p1) (o2 : Value.okWide Try.prog W .any base 3 v2) (h2 : DataW.Trod enc Try.prog W 0 (fun _ => true) true 3 v2 d2 p2) :
    Calls Try.prog 3 #[v0, v1, v2] W fun e w' => e = .returned (.bool true) ∧ Below W.heap.size W w' := by
  obtain ⟨x6, rfl, rfl, rfl, w6⟩ := open_int Try.underlying3 o1 h1
  obtain ⟨x7, rfl, rfl, rfl, w7⟩ := open_int Try.underlying3 o2 h2
  obtain ⟨a3, n3, c3, rfl⟩ := okWide_slice Try.underlying22 o0
  obtain ⟨fuel, hf⟩ := h0
  obtain ⟨b3, m3, k3, zs, e, g1, g2, g3⟩ := open_Ints (by simpa [Value.cells] using hf)
  cases e
  have i6 := wf_I64 w6; have i7 := wf_I64 w7
  exact core W a3 n3 c3 zs g3 g1 g2 x6 x7 i6.1 i6.2 i7.1 i7.2
end Go.Proofs.Ytdmkghgachapaaa.endlessPartsLaw
