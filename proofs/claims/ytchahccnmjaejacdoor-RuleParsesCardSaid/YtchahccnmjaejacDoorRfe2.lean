/- Contracts of the reference's reader: number, signed, binary. -/
import Derived.Test.YtchahccnmjaejacDoorRfe1
import Derived.Test.YtchahccnmjaejacDoorShow2
namespace Go.Proofs.YtchahccnmjaejacDoor
set_option linter.unusedVariables false
set_option maxRecDepth 100000
open Go.RowKit Go.Shelf
variable {B : Nat → Prop}

theorem numOf_next (t : Tok) (i : Nat) (c : UInt8) (h : t[i]? = some c) : numOf (t.take (i + 1)) = 10 * numOf (t.take i) + ((c.toNat : Int) - 48) := by
  rw [List.take_add_one, h]
  unfold numOf
  rw [Option.toList_some, List.foldl_append]
  rfl
theorem numOf_bound (t : Tok) (h : ∀ c ∈ t, cls c = 2) (i : Nat) (hi : i ≤ 10) : 0 ≤ numOf (t.take i) ∧ numOf (t.take i) ≤ 9999999999 := by
  have h' : ∀ c ∈ t.take i, cls c = 2 := fun c hc => h c (List.mem_of_mem_take hc)
  have e : numOf (t.take i) = (Num.natFrom 0 (t.take i) : Int) := num_nat (t.take i) 0 h'
  have hb := nat_lt (t.take i) 0 h'
  have hp : 10 ^ (t.take i).length ≤ 10 ^ 10 := Nat.pow_le_pow_right (by omega) (by rw [List.length_take]; omega)
  omega
set_option maxHeartbeats 4000000 in
theorem rf_number {w : World} {g : Nat} {l : List Tok} {o : Nat} (h : QAt B w g l o) :
    Calls Tryd.prog 36 #[.pointer (some ⟨g, 0, none⟩), .int .i64 10] w (QPost B g o (.int .i64 0) (fun n => .int .i64 n) w (natP l)) := by
  have CT := Lib.hid (rf_peek h)
  have hz := h.ok.hd
  have hok : okT (hd l) := by
    cases l with
    | nil => rintro ⟨c, r, e, _⟩; cases e
    | cons t r => exact (h.ok t (by simp)).1
  have H := Lib.hid h; clear h
  have CL := Lib.hid (fun W => rf_isDigit (hd l) W (by omega))
  obtain ⟨X, hX⟩ : ∃ X, X = tkS (hd l) := ⟨_, rfl⟩
  have hsz : X.size = (hd l).length := by rw [hX, tkS_len]
  rw [← hX] at CT CL
  by_cases hL : isDig (hd l) = true
  · rw [hL] at CL
    have CP := Lib.hid (fun W (hW : QAt B W g l o) => rf_pass hW (isDig_ne hL))
    by_cases hbig : 10 < (hd l).length
    · have hpp : natP l = .bad 2 := by unfold natP; rw [if_neg (by rw [hL]; simp), if_pos hbig]
      rw [hpp]
      show Calls _ _ _ _ (fun e w' => e = .returned (.int .i64 0) ∧ (2 : Int) ≠ 0 ∧ QFail g 2 w w')
      have d3 : (10 : Int) < (X.size : Int) := by omega
      clear hpp hL hX hz hok hsz hbig
      go_enter Tryd.func36, Tryd.ntmps36
      go_wp2_with fail
      refine CT.out.mono ?_
      rintro e w1 ⟨rfl, hb1⟩
      go_wp2_with fail
      refine (CL.out _).mono ?_
      rintro e w2 ⟨rfl, hb2⟩
      have H2 := Lib.hid (((QWent.refl H.out).then_ hb1).then_ hb2)
      go_wp2_with fail
      refine (rf_fail 2 H2.out.1).mono ?_
      rintro e w3 ⟨rfl, hw⟩
      have HW := Lib.hid hw; clear hw
      go_wp2_with fail
      go_ret
      exact ⟨rfl, by decide, H2.out.failed HW.out⟩
    · have hpp : natP l = .good (numOf (hd l), l.tail) := by unfold natP; rw [if_neg (by rw [hL]; simp), if_neg hbig]
      rw [hpp]
      show Calls _ _ _ _ (fun e w' => e = .returned (.int .i64 (numOf (hd l))) ∧ QWent B g l.tail o w w')
      have hcl : ∀ c ∈ hd l, cls c = 2 := by
        cases hh : hd l with
        | nil => intro c hc; simp at hc
        | cons c r =>
          rw [hh] at hok hL
          exact hok ⟨c, r, rfl, cls2_iff.2 (by simpa [isDig] using hL)⟩
      have d3 : ¬ (10 : Int) < (X.size : Int) := by omega
      have HX := Lib.hid hX; have HSZ := Lib.hid hsz; have HCL := Lib.hid hcl
      have hx10 : X.size ≤ 10 := by omega
      clear hpp hL hX hz hok hsz hbig hcl
      go_enter Tryd.func36, Tryd.ntmps36
      go_wp2_with fail
      refine CT.out.mono ?_
      rintro e w1 ⟨rfl, hb1⟩
      go_wp2_with fail
      refine (CL.out _).mono ?_
      rintro e w2 ⟨rfl, hb2⟩
      have H2 := Lib.hid (((QWent.refl H.out).then_ hb1).then_ hb2)
      go_wp2_with fail
      refine (CP.out _ H2.out.1).mono ?_
      rintro e w3 ⟨rfl, hw⟩
      have HW := Lib.hid (H2.out.trans hw); clear hw
      have HTL := Lib.hid (show X.data.toList = hd l by rw [HX.out])
      go_wp2_with fail
      go_loopw [6, 7, 25] (fun n _ k wr => ∃ i : Nat, i ≤ X.size ∧ k = .int .i64 i ∧ n = .int .i64 (numOf ((hd l).take i)) ∧ QWent B g l.tail o w wr) (fun _ _ v _ => X.size - (intOf v).toNat)
      case atStart => exact ⟨0, by omega, rfl, rfl, HW.out⟩
      case round =>
        obtain ⟨i, hi, rfl, rfl, hq⟩ := hrel
        have HQ := Lib.hid hq; clear hq
        by_cases hlt : i < X.size
        · have hg := str_get X i hlt
          rw [HTL.out] at hg
          have hc := cls2_iff.1 (HCL.out _ (List.mem_of_getElem? hg))
          have hnx := numOf_next (hd l) i _ hg
          have hb1 := numOf_bound (hd l) HCL.out i (by omega)
          have hb2 := numOf_bound (hd l) HCL.out (i + 1) (by omega)
          have d1 : (48 : Int) ≤ (X[i].toNat : Int) := by omega
          have d2 : (X[i].toNat : Int) ≤ 57 := by omega
          obtain ⟨N, hN⟩ : ∃ N, N = numOf ((hd l).take i) := ⟨_, rfl⟩
          rw [← hN] at hnx hb1 ⊢
          have HNX := Lib.hid hnx
          have hbn := hb1
          obtain ⟨n0, n1⟩ := hbn
          clear hnx hg hN hb1 hb2 hc
          go_wp2_with fail
          go_roundw
          case rel => exact ⟨i + 1, by omega, by go_num, by rw [HNX.out]; try go_num, HQ.out⟩
          case measure => simp [intOf]; omega
        · have hN : numOf ((hd l).take i) = numOf (hd l) := by
            rw [List.take_of_length_le (by have := HSZ.out; omega)]
          rw [hN]
          clear hN
          go_wp2_with fail
          go_ret
          exact ⟨rfl, HQ.out⟩
  · have hpp : natP l = .bad 4 := by unfold natP; rw [if_pos (by simpa using hL)]
    rw [hpp]
    show Calls _ _ _ _ (fun e w' => e = .returned (.int .i64 0) ∧ (4 : Int) ≠ 0 ∧ QFail g 4 w w')
    rw [show isDig (hd l) = false by simpa using hL] at CL
    clear hpp hL hX hz hok hsz
    go_enter Tryd.func36, Tryd.ntmps36
    go_wp2_with fail
    refine CT.out.mono ?_
    rintro e w1 ⟨rfl, hb1⟩
    go_wp2_with fail
    refine (CL.out _).mono ?_
    rintro e w2 ⟨rfl, hb2⟩
    have H2 := Lib.hid (((QWent.refl H.out).then_ hb1).then_ hb2)
    go_wp2_with fail
    refine (rf_fail 4 H2.out.1).mono ?_
    rintro e w3 ⟨rfl, hw⟩
    have HW := Lib.hid hw; clear hw
    go_wp2_with fail
    go_ret
    exact ⟨rfl, by decide, H2.out.failed HW.out⟩
set_option maxHeartbeats 4000000 in
theorem rf_number_bad {w : World} {g : Nat} {c : Int} (h : QBad w g c) (hc : c ≠ 0) :
    Calls Tryd.prog 36 #[.pointer (some ⟨g, 0, none⟩), .int .i64 10] w fun e w' => e = .returned (.int .i64 0) ∧ Below w.heap.size w w' := by
  have CT := Lib.hid (rf_peek_bad h hc)
  have H := Lib.hid h; clear h
  have CL := Lib.hid (fun W => rf_isDigit [] W (by simp))
  have HC := Lib.hid hc
  clear hc
  go_enter Tryd.func36, Tryd.ntmps36
  go_wp2_with fail
  refine CT.out.mono ?_
  rintro e w1 ⟨rfl, hb1⟩
  go_wp2_with fail
  refine (CL.out _).mono ?_
  rintro e w2 ⟨rfl, hb2⟩
  go_wp2_with fail
  refine (rf_fail_bad 4 ((H.out.then_ hb1).then_ hb2) HC.out).mono ?_
  rintro e w3 ⟨rfl, hw⟩
  go_wp2_with fail
  go_ret
  exact ⟨rfl, by (repeat' (first | exact Below.refl _ _ | assumption | refine Below.drew ?_ | refine below_drewN ?_ _ | refine below_new ?_ _ | refine below_set ?_ ?_ _ | refine below_then ?_ (by assumption) | refine below_drawn ?_ (by assumption) | exact Nat.le_refl _ | omega | (simp; done) | (simp; omega)))⟩
set_option maxHeartbeats 4000000 in
theorem rf_signed {w : World} {g : Nat} {l : List Tok} {o : Nat} (h : QAt B w g l o) :
    Calls Tryd.prog 16 #[.pointer (some ⟨g, 0, none⟩)] w (QPost B g o (.int .i64 0) (fun n => .int .i64 n) w (signP l)) := by
  have CT := Lib.hid (rf_peek h)
  have HOK := Lib.hid h.ok
  have H := Lib.hid h; clear h
  obtain ⟨X, hX⟩ : ∃ X, X = tkS (hd l) := ⟨_, rfl⟩
  by_cases h1 : hd l = [45]
  · rw [h1] at CT
    have CP := Lib.hid (fun W (hW : QAt B W g l o) => rf_pass hW (by rw [h1]; simp))
    rcases natP_cases l.tail with ⟨c, e⟩ | ⟨n, e⟩
    · have e1 : signP l = .bad c := by unfold signP; rw [if_pos h1, e]; rfl
      rw [e1]
      clear h1 e1 hX
      go_enter Tryd.func16, Tryd.ntmps16
      go_wp2_with (go_at_call 33; refine (CT.out).mono ?_; rintro e w1 ⟨rfl, hb⟩)
      have H1 := Lib.hid ((QWent.refl H.out).then_ hb)
      refine (CP.out _ H1.out.1).mono ?_
      rintro e' w2 ⟨rfl, hw⟩
      have HW := Lib.hid (H1.out.trans hw); clear hw
      have CN := Lib.hid (rf_number HW.out.1)
      rw [e] at CN
      go_wp2_with fail
      refine CN.out.mono ?_
      rintro e' w3 ⟨rfl, hc, hf⟩
      have HF := Lib.hid hf; clear hf
      go_wp2_with fail
      go_ret
      exact ⟨rfl, hc, HW.out.failed HF.out⟩
    · have e1 : signP l = .good (-n, l.tail.tail) := by unfold signP; rw [if_pos h1, e]; rfl
      have hr := natP_in e (by
        cases hh : l.tail with
        | nil => rintro ⟨c, r, e, _⟩; cases e
        | cons t r => exact (HOK.out t (List.mem_of_mem_tail (by rw [hh]; simp))).1)
      simp only at hr
      obtain ⟨r1, r2⟩ := hr
      rw [e1]
      clear h1 e1 hX
      go_enter Tryd.func16, Tryd.ntmps16
      go_wp2_with (go_at_call 33; refine (CT.out).mono ?_; rintro e w1 ⟨rfl, hb⟩)
      have H1 := Lib.hid ((QWent.refl H.out).then_ hb)
      refine (CP.out _ H1.out.1).mono ?_
      rintro e' w2 ⟨rfl, hw⟩
      have HW := Lib.hid (H1.out.trans hw); clear hw
      have CN := Lib.hid (rf_number HW.out.1)
      rw [e] at CN
      go_wp2_with fail
      refine CN.out.mono ?_
      rintro e' w3 ⟨rfl, hf⟩
      have HF := Lib.hid hf; clear hf
      go_wp2_with fail
      go_ret
      exact ⟨rfl, HW.out.trans HF.out⟩
  · have e1 : signP l = natP l := by unfold signP; rw [if_neg h1]
    obtain ⟨q1, q2⟩ := tk_ne (T := ⟨#[45]⟩) (t := [45]) hX rfl h1
    rw [show (⟨#[45]⟩ : ByteArray).toList = [45] from by rw [str_list]] at q1 q2
    rw [← hX] at CT
    rw [e1]
    clear h1 e1 hX
    rcases natP_cases l with ⟨c, e⟩ | ⟨n, e⟩
    · rw [e]
      go_enter Tryd.func16, Tryd.ntmps16
      go_wp2_with (go_at_call 33; refine (CT.out).mono ?_; rintro e w1 ⟨rfl, hb⟩)
      have H1 := Lib.hid ((QWent.refl H.out).then_ hb)
      have CN := Lib.hid (rf_number H1.out.1)
      rw [e] at CN
      refine CN.out.mono ?_
      rintro e' w3 ⟨rfl, hc, hf⟩
      have HF := Lib.hid hf; clear hf
      go_wp2_with fail
      go_ret
      exact ⟨rfl, hc, H1.out.failed HF.out⟩
    · rw [e]
      go_enter Tryd.func16, Tryd.ntmps16
      go_wp2_with (go_at_call 33; refine (CT.out).mono ?_; rintro e w1 ⟨rfl, hb⟩)
      have H1 := Lib.hid ((QWent.refl H.out).then_ hb)
      have CN := Lib.hid (rf_number H1.out.1)
      rw [e] at CN
      refine CN.out.mono ?_
      rintro e' w3 ⟨rfl, hf⟩
      have HF := Lib.hid hf; clear hf
      go_wp2_with fail
      go_ret
      exact ⟨rfl, H1.out.trans HF.out⟩
set_option maxHeartbeats 4000000 in
theorem rf_signed_bad {w : World} {g : Nat} {c : Int} (h : QBad w g c) (hc : c ≠ 0) :
    Calls Tryd.prog 16 #[.pointer (some ⟨g, 0, none⟩)] w fun e w' => e = .returned (.int .i64 0) ∧ Below w.heap.size w w' := by
  have CT := Lib.hid (rf_peek_bad h hc)
  have H := Lib.hid h; clear h
  have HC := Lib.hid hc
  clear hc
  go_enter Tryd.func16, Tryd.ntmps16
  go_wp2_with (go_at_call 33; refine (CT.out).mono ?_; rintro e w1 ⟨rfl, hb⟩)
  refine (rf_number_bad (H.out.then_ hb) HC.out).mono ?_
  rintro e w2 ⟨rfl, hb2⟩
  go_wp2_with fail
  go_ret
  exact ⟨rfl, by (repeat' (first | exact Below.refl _ _ | assumption | refine Below.drew ?_ | refine below_drewN ?_ _ | refine below_new ?_ _ | refine below_set ?_ ?_ _ | refine below_then ?_ (by assumption) | refine below_drawn ?_ (by assumption) | exact Nat.le_refl _ | omega | (simp; done) | (simp; omega)))⟩
/-- The kind of a sign. -/
def binK (t : Tok) : Int := match opOf t with
  | some (k, _) => k
  | none => 0
theorem bin_spec (t : Tok) : ∃ k0 : Int, 4 ≤ k0 ∧ k0 ≤ 14 ∧ (∀ k, 4 ≤ k → k < k0 → t = [] ∨ sgn k ≠ t) ∧ ((k0 = 14 ∧ binK t = 0) ∨ (k0 ≤ 13 ∧ t ≠ [] ∧ sgn k0 = t ∧ binK t = k0)) := by
  have ks : ∀ k : Int, 4 ≤ k → k < 14 → k = 4 ∨ k = 5 ∨ k = 6 ∨ k = 7 ∨ k = 8 ∨ k = 9 ∨ k = 10 ∨ k = 11 ∨ k = 12 ∨ k = 13 := fun k _ _ => by omega
  by_cases h : t = [43] ∨ t = [45] ∨ t = [42] ∨ t = [47] ∨ t = [37] ∨ t = [60] ∨ t = [61] ∨ t = [97, 110, 100] ∨ t = [111, 114]
  · rcases h with rfl | rfl | rfl | rfl | rfl | rfl | rfl | rfl | rfl
    · exact ⟨4, by decide, by decide, fun k h1 h2 => by omega, .inr (by decide)⟩
    · exact ⟨5, by decide, by decide, fun k h1 h2 => by rcases ks k h1 (by omega) with rfl | rfl | rfl | rfl | rfl | rfl | rfl | rfl | rfl | rfl <;> first | omega | exact .inr (by decide), .inr (by decide)⟩
    · exact ⟨6, by decide, by decide, fun k h1 h2 => by rcases ks k h1 (by omega) with rfl | rfl | rfl | rfl | rfl | rfl | rfl | rfl | rfl | rfl <;> first | omega | exact .inr (by decide), .inr (by decide)⟩
    · exact ⟨7, by decide, by decide, fun k h1 h2 => by rcases ks k h1 (by omega) with rfl | rfl | rfl | rfl | rfl | rfl | rfl | rfl | rfl | rfl <;> first | omega | exact .inr (by decide), .inr (by decide)⟩
    · exact ⟨8, by decide, by decide, fun k h1 h2 => by rcases ks k h1 (by omega) with rfl | rfl | rfl | rfl | rfl | rfl | rfl | rfl | rfl | rfl <;> first | omega | exact .inr (by decide), .inr (by decide)⟩
    · exact ⟨9, by decide, by decide, fun k h1 h2 => by rcases ks k h1 (by omega) with rfl | rfl | rfl | rfl | rfl | rfl | rfl | rfl | rfl | rfl <;> first | omega | exact .inr (by decide), .inr (by decide)⟩
    · exact ⟨10, by decide, by decide, fun k h1 h2 => by rcases ks k h1 (by omega) with rfl | rfl | rfl | rfl | rfl | rfl | rfl | rfl | rfl | rfl <;> first | omega | exact .inr (by decide), .inr (by decide)⟩
    · exact ⟨12, by decide, by decide, fun k h1 h2 => by rcases ks k h1 (by omega) with rfl | rfl | rfl | rfl | rfl | rfl | rfl | rfl | rfl | rfl <;> first | omega | exact .inr (by decide), .inr (by decide)⟩
    · exact ⟨13, by decide, by decide, fun k h1 h2 => by rcases ks k h1 (by omega) with rfl | rfl | rfl | rfl | rfl | rfl | rfl | rfl | rfl | rfl <;> first | omega | exact .inr (by decide), .inr (by decide)⟩
  · simp only [not_or] at h
    obtain ⟨a1, a2, a3, a4, a5, a6, a7, a8, a9⟩ := h
    refine ⟨14, by decide, by decide, fun k h1 h2 => ?_, .inl ⟨rfl, ?_⟩⟩
    · by_cases h0 : t = []
      · exact .inl h0
      · refine .inr fun e => ?_
        rcases ks k h1 h2 with rfl | rfl | rfl | rfl | rfl | rfl | rfl | rfl | rfl | rfl
        · exact a1 e.symm
        · exact a2 e.symm
        · exact a3 e.symm
        · exact a4 e.symm
        · exact a5 e.symm
        · exact a6 e.symm
        · exact a7 e.symm
        · exact h0 e.symm
        · exact a8 e.symm
        · exact a9 e.symm
    · unfold binK opOf
      simp [a1, a2, a3, a4, a5, a6, a7, a8, a9]
set_option maxHeartbeats 4000000 in
theorem rf_binary (t : Tok) (w : World) :
    Calls Tryd.prog 37 #[.string (tkS t)] w fun e w' => e = .returned (.int .i64 (binK t)) ∧ Below w.heap.size w w' := by
  obtain ⟨k0, h1, h2, h3, h4⟩ := bin_spec t
  obtain ⟨X, hX⟩ : ∃ X, X = tkS t := ⟨_, rfl⟩
  rw [← hX]
  obtain ⟨R, hR⟩ : ∃ R, R = binK t := ⟨_, rfl⟩
  rw [← hR] at h4 ⊢
  have H3 := Lib.hid h3; have H4 := Lib.hid h4; have HX := Lib.hid hX
  clear hX hR h3 h4
  go_enter Tryd.func37, Tryd.ntmps37
  go_wp2_with fail
  go_loopw [3] (fun v wr => ∃ k : Int, v = .int .i64 k ∧ 4 ≤ k ∧ k ≤ k0 ∧ Below w.heap.size w wr) (fun v _ => 14 - (intOf v).toNat)
  case atStart => exact ⟨4, rfl, by omega, h1, Below.refl _ _⟩
  case round =>
    obtain ⟨k, rfl, k1, k2, hb⟩ := hrel
    have HB := Lib.hid hb; clear hb
    have CS := Lib.hid (fun W (h : k ≤ 13) => ref_sign k W (by omega) h)
    by_cases hk : k = k0
    · subst hk
      rcases H4.out with ⟨rfl, hr⟩ | ⟨hle, hne, hsg, hr⟩
      · clear CS k1 k2 h1 h2
        go_wp2_with fail
        go_ret
        exact ⟨by (try rw [hr]); rfl, HB.out⟩
      · have CS2 := Lib.hid (fun W => CS.out W hle)
        have hlk : k ≤ 13 := hle
        rw [hsg, ← show X = (⟨t.toArray⟩ : ByteArray) from HX.out] at CS2
        have hx := str_ne X (by rw [HX.out, tkS_len]; exact List.length_pos_iff.2 hne)
        clear CS hsg hne hle
        go_wp2_with fail
        refine (CS2.out _).mono ?_
        rintro e w1 ⟨rfl, hb⟩
        go_wp2_with fail
        go_ret
        exact ⟨by (try rw [hr]); rfl, below_then HB.out hb⟩
    · have hlt : k < k0 := by omega
      have hk13 : k ≤ 13 := by omega
      rcases H3.out k k1 hlt with ht | hs
      · obtain rfl : X = ⟨#[]⟩ := by rw [HX.out, ht]
        clear hk CS ht
        go_wp2_with fail
        go_roundw
        case rel => exact ⟨k + 1, by go_num, by omega, by omega, HB.out⟩
        case measure => simp [intOf]; omega
      · by_cases h0 : t = []
        · obtain rfl : X = ⟨#[]⟩ := by rw [HX.out, h0]
          clear hk CS h0 hs
          go_wp2_with fail
          go_roundw
          case rel => exact ⟨k + 1, by go_num, by omega, by omega, HB.out⟩
          case measure => simp [intOf]; omega
        · have CS2 := Lib.hid (fun W => CS.out W hk13)
          have hx := str_ne X (by rw [HX.out, tkS_len]; exact List.length_pos_iff.2 h0)
          obtain ⟨Y, hY⟩ : ∃ Y, Y = tkS (sgn k) := ⟨_, rfl⟩
          obtain ⟨q1, q2⟩ := tk_ne hY HX.out hs
          rw [show (⟨(sgn k).toArray⟩ : ByteArray) = Y from hY.symm] at CS2
          clear hk CS hs hY h0
          go_wp2_with fail
          refine (CS2.out _).mono ?_
          rintro e w1 ⟨rfl, hb⟩
          go_wp2_with fail
          go_roundw
          case rel => exact ⟨k + 1, by go_num, by omega, by omega, below_then HB.out hb⟩
          case measure => simp [intOf]; omega
end Go.Proofs.YtchahccnmjaejacDoor
