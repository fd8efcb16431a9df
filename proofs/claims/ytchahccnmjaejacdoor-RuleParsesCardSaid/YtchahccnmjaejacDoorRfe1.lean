/- Contracts of the reference's reader: need, isLetter, isDigit, name. -/
import Derived.Test.YtchahccnmjaejacDoorRfe0
namespace Go.Proofs.YtchahccnmjaejacDoor
set_option linter.unusedVariables false
set_option maxRecDepth 100000
open Go.RowKit Go.Shelf
variable {B : Nat → Prop}

theorem tk_ne {X T : ByteArray} {x t : Tok} (hX : X = tkS x) (hT : T = tkS t) (h : x ≠ t) : (X.toList == T.toList) = false ∧ X.toList ≠ T.toList := by
  have hne : X ≠ T := by rw [hT, hX]; exact fun e => h (tkS_inj.1 e)
  have e1 : (X.toList == T.toList) = false := by
    rw [str_list, str_list]
    have : X.data.toList ≠ T.data.toList := fun e => hne (by rw [← str_eta X, e, str_eta])
    simpa using this
  exact ⟨e1, by simpa using e1⟩
set_option maxHeartbeats 4000000 in
theorem rf_need {w : World} {g : Nat} {l : List Tok} {o : Nat} (t : Tok) (ht : t ≠ []) (h : QAt B w g l o) :
    Calls Tryd.prog 14 #[.pointer (some ⟨g, 0, none⟩), .string (tkS t)] w fun e w' => e = .returned (.tuple #[]) ∧ if hd l = t then QWent B g l.tail o w w' else QFail g 4 w w' := by
  have CT := Lib.hid (rf_peek h)
  have H := Lib.hid h; clear h
  obtain ⟨T, hT⟩ : ∃ T, T = tkS t := ⟨_, rfl⟩
  by_cases c1 : hd l = t
  · simp only [if_pos c1]
    have hne : hd l ≠ [] := by rw [c1]; exact ht
    rw [c1] at CT
    rw [← hT] at CT ⊢
    have CP := Lib.hid (fun W (hW : QAt B W g l o) => rf_pass hW hne)
    clear c1 hT hne ht
    go_enter Tryd.func14, Tryd.ntmps14
    go_wp2_with (go_at_call 33; refine (CT.out).mono ?_; rintro e w1 ⟨rfl, hb⟩)
    refine (CP.out _ (H.out.then_ hb)).mono ?_
    rintro e w2 ⟨rfl, hw⟩
    have HW := Lib.hid hw; clear hw
    go_wp2_with fail
    go_end0
    exact ⟨rfl, (QWent.refl H.out).then_ hb |>.trans HW.out⟩
  · simp only [if_neg c1]
    obtain ⟨X, hX⟩ : ∃ X, X = tkS (hd l) := ⟨_, rfl⟩
    obtain ⟨e1, e2⟩ := tk_ne hX hT c1
    rw [← hX] at CT
    rw [← hT]
    clear c1 hT hX ht
    go_enter Tryd.func14, Tryd.ntmps14
    go_wp2_with (go_at_call 33; refine (CT.out).mono ?_; rintro e w1 ⟨rfl, hb⟩)
    refine (rf_fail 4 (H.out.then_ hb)).mono ?_
    rintro e w2 ⟨rfl, hw⟩
    have HW := Lib.hid hw; clear hw
    go_wp2_with fail
    ((try simp only [Exit.inBlock, Exit.then]); refine bodyPost_ret (results_none rfl _ _ _) rfl ?_)
    exact ⟨rfl, (QWent.refl H.out).then_ hb |>.failed HW.out⟩
set_option maxHeartbeats 4000000 in
theorem rf_need_bad {w : World} {g : Nat} {c : Int} (t : Tok) (ht : t ≠ []) (h : QBad w g c) (hc : c ≠ 0) :
    Calls Tryd.prog 14 #[.pointer (some ⟨g, 0, none⟩), .string (tkS t)] w fun e w' => e = .returned (.tuple #[]) ∧ Below w.heap.size w w' := by
  have CT := Lib.hid (rf_peek_bad h hc)
  have H := Lib.hid h; clear h
  obtain ⟨T, hT⟩ : ∃ T, T = tkS t := ⟨_, rfl⟩
  obtain ⟨e1, e2⟩ := tk_ne (X := ⟨#[]⟩) (x := []) rfl hT (fun h => ht h.symm)
  rw [← hT]
  have HC := Lib.hid hc
  have e3 := str_ne T (by rw [hT, tkS_len]; exact List.length_pos_iff.2 ht)
  clear hT ht hc
  go_enter Tryd.func14, Tryd.ntmps14
  go_wp2_with (go_at_call 33; refine (CT.out).mono ?_; rintro e w1 ⟨rfl, hb⟩)
  refine (rf_fail_bad 4 (H.out.then_ hb) HC.out).mono ?_
  rintro e w2 ⟨rfl, hw⟩
  go_wp2_with fail
  ((try simp only [Exit.inBlock, Exit.then]); refine bodyPost_ret (results_none rfl _ _ _) rfl ?_)
  exact ⟨rfl, by (repeat' (first | exact Below.refl _ _ | assumption | refine Below.drew ?_ | refine below_drewN ?_ _ | refine below_new ?_ _ | refine below_set ?_ ?_ _ | refine below_then ?_ (by assumption) | refine below_drawn ?_ (by assumption) | exact Nat.le_refl _ | omega | (simp; done) | (simp; omega)))⟩
set_option maxHeartbeats 4000000 in
theorem rf_isLetter (t : Tok) (w : World) (hl : t.length ≤ 9223372036854775807) :
    Calls Tryd.prog 35 #[.string (tkS t)] w fun e w' => e = .returned (.bool (isLet t)) ∧ Below w.heap.size w w' := by
  obtain ⟨X, hX⟩ : ∃ X, X = tkS t := ⟨_, rfl⟩
  have hsz : X.size = t.length := by rw [hX, tkS_len]
  rw [← hX]
  by_cases h0 : X.size = 0
  · have ht : t = [] := List.length_eq_zero_iff.1 (by omega)
    obtain rfl := str_empty X h0
    obtain rfl := ht
    clear hsz hX h0
    go_enter Tryd.func35, Tryd.ntmps35
    go_wp2_with fail
    go_ret
    exact ⟨rfl, by (repeat' (first | exact Below.refl _ _ | assumption | refine Below.drew ?_ | refine below_drewN ?_ _ | refine below_new ?_ _ | refine below_set ?_ ?_ _ | refine below_then ?_ (by assumption) | refine below_drawn ?_ (by assumption) | exact Nat.le_refl _ | omega | (simp; done) | (simp; omega)))⟩
  · have h0' : 0 < X.size := by omega
    obtain ⟨c, r, rfl⟩ : ∃ c r, t = c :: r := by cases t with | nil => exact absurd hsz h0 | cons c r => exact ⟨c, r, rfl⟩
    have hg := tk_get X hX rfl h0'
    have hne := str_ne X h0'
    have e : isLet (c :: r) = decide (97 ≤ c.toNat ∧ c.toNat ≤ 122) := rfl
    rw [e]
    by_cases d1 : (97 : Int) ≤ (X[0].toNat : Int)
    · by_cases d2 : (X[0].toNat : Int) ≤ 122
      · rw [decide_eq_true (show 97 ≤ c.toNat ∧ c.toNat ≤ 122 by rw [hg] at d1 d2; omega)]
        clear hX e hg h0
        go_enter Tryd.func35, Tryd.ntmps35
        go_wp2_with fail
        go_ret
        exact ⟨rfl, by (repeat' (first | exact Below.refl _ _ | assumption | refine Below.drew ?_ | refine below_drewN ?_ _ | refine below_new ?_ _ | refine below_set ?_ ?_ _ | refine below_then ?_ (by assumption) | refine below_drawn ?_ (by assumption) | exact Nat.le_refl _ | omega | (simp; done) | (simp; omega)))⟩
      · rw [decide_eq_false (show ¬ (97 ≤ c.toNat ∧ c.toNat ≤ 122) by rw [hg] at d1 d2; omega)]
        clear hX e hg h0
        go_enter Tryd.func35, Tryd.ntmps35
        go_wp2_with fail
        go_ret
        exact ⟨rfl, by (repeat' (first | exact Below.refl _ _ | assumption | refine Below.drew ?_ | refine below_drewN ?_ _ | refine below_new ?_ _ | refine below_set ?_ ?_ _ | refine below_then ?_ (by assumption) | refine below_drawn ?_ (by assumption) | exact Nat.le_refl _ | omega | (simp; done) | (simp; omega)))⟩
    · rw [decide_eq_false (show ¬ (97 ≤ c.toNat ∧ c.toNat ≤ 122) by rw [hg] at d1; omega)]
      clear hX e hg h0
      go_enter Tryd.func35, Tryd.ntmps35
      go_wp2_with fail
      go_ret
      exact ⟨rfl, by (repeat' (first | exact Below.refl _ _ | assumption | refine Below.drew ?_ | refine below_drewN ?_ _ | refine below_new ?_ _ | refine below_set ?_ ?_ _ | refine below_then ?_ (by assumption) | refine below_drawn ?_ (by assumption) | exact Nat.le_refl _ | omega | (simp; done) | (simp; omega)))⟩
set_option maxHeartbeats 4000000 in
theorem rf_isDigit (t : Tok) (w : World) (hl : t.length ≤ 9223372036854775807) :
    Calls Tryd.prog 58 #[.string (tkS t)] w fun e w' => e = .returned (.bool (isDig t)) ∧ Below w.heap.size w w' := by
  obtain ⟨X, hX⟩ : ∃ X, X = tkS t := ⟨_, rfl⟩
  have hsz : X.size = t.length := by rw [hX, tkS_len]
  rw [← hX]
  by_cases h0 : X.size = 0
  · have ht : t = [] := List.length_eq_zero_iff.1 (by omega)
    obtain rfl := str_empty X h0
    obtain rfl := ht
    clear hsz hX h0
    go_enter Tryd.func58, Tryd.ntmps58
    go_wp2_with fail
    go_ret
    exact ⟨rfl, by (repeat' (first | exact Below.refl _ _ | assumption | refine Below.drew ?_ | refine below_drewN ?_ _ | refine below_new ?_ _ | refine below_set ?_ ?_ _ | refine below_then ?_ (by assumption) | refine below_drawn ?_ (by assumption) | exact Nat.le_refl _ | omega | (simp; done) | (simp; omega)))⟩
  · have h0' : 0 < X.size := by omega
    obtain ⟨c, r, rfl⟩ : ∃ c r, t = c :: r := by cases t with | nil => exact absurd hsz h0 | cons c r => exact ⟨c, r, rfl⟩
    have hg := tk_get X hX rfl h0'
    have hne := str_ne X h0'
    have e : isDig (c :: r) = decide (48 ≤ c.toNat ∧ c.toNat ≤ 57) := rfl
    rw [e]
    by_cases d1 : (48 : Int) ≤ (X[0].toNat : Int)
    · by_cases d2 : (X[0].toNat : Int) ≤ 57
      · rw [decide_eq_true (show 48 ≤ c.toNat ∧ c.toNat ≤ 57 by rw [hg] at d1 d2; omega)]
        clear hX e hg h0
        go_enter Tryd.func58, Tryd.ntmps58
        go_wp2_with fail
        go_ret
        exact ⟨rfl, by (repeat' (first | exact Below.refl _ _ | assumption | refine Below.drew ?_ | refine below_drewN ?_ _ | refine below_new ?_ _ | refine below_set ?_ ?_ _ | refine below_then ?_ (by assumption) | refine below_drawn ?_ (by assumption) | exact Nat.le_refl _ | omega | (simp; done) | (simp; omega)))⟩
      · rw [decide_eq_false (show ¬ (48 ≤ c.toNat ∧ c.toNat ≤ 57) by rw [hg] at d1 d2; omega)]
        clear hX e hg h0
        go_enter Tryd.func58, Tryd.ntmps58
        go_wp2_with fail
        go_ret
        exact ⟨rfl, by (repeat' (first | exact Below.refl _ _ | assumption | refine Below.drew ?_ | refine below_drewN ?_ _ | refine below_new ?_ _ | refine below_set ?_ ?_ _ | refine below_then ?_ (by assumption) | refine below_drawn ?_ (by assumption) | exact Nat.le_refl _ | omega | (simp; done) | (simp; omega)))⟩
    · rw [decide_eq_false (show ¬ (48 ≤ c.toNat ∧ c.toNat ≤ 57) by rw [hg] at d1; omega)]
      clear hX e hg h0
      go_enter Tryd.func58, Tryd.ntmps58
      go_wp2_with fail
      go_ret
      exact ⟨rfl, by (repeat' (first | exact Below.refl _ _ | assumption | refine Below.drew ?_ | refine below_drewN ?_ _ | refine below_new ?_ _ | refine below_set ?_ ?_ _ | refine below_then ?_ (by assumption) | refine below_drawn ?_ (by assumption) | exact Nat.le_refl _ | omega | (simp; done) | (simp; omega)))⟩
/-- What a reading function of the reference's reader leaves: a value, or the value d and an error. -/
def QPost {α : Type} (B : Nat → Prop) (g o : Nat) (d : Value) (val : α → Value) (w : World) : Res (α × List Tok) → Ending → World → Prop
  | .stuck, _, _ => False
  | .bad c, e, w' => e = .returned d ∧ c ≠ 0 ∧ QFail g c w w'
  | .good p, e, w' => e = .returned (val p.1) ∧ QWent B g p.2 o w w'
theorem isLet_ne {l : List Tok} (h : isLet (hd l) = true) : hd l ≠ [] := by intro e; rw [e] at h; cases h
theorem isDig_ne {l : List Tok} (h : isDig (hd l) = true) : hd l ≠ [] := by intro e; rw [e] at h; cases h
set_option maxHeartbeats 4000000 in
theorem rf_name {w : World} {g : Nat} {l : List Tok} {o : Nat} (h : QAt B w g l o) :
    Calls Tryd.prog 15 #[.pointer (some ⟨g, 0, none⟩)] w (QPost B g o (.string ⟨#[]⟩) (fun t => .string (tkS t)) w (wordP l)) := by
  have CT := Lib.hid (rf_peek h)
  have hz := h.ok.hd
  have H := Lib.hid h; clear h
  have CL := Lib.hid (fun W => rf_isLetter (hd l) W (by omega))
  obtain ⟨X, hX⟩ : ∃ X, X = tkS (hd l) := ⟨_, rfl⟩
  rw [← hX] at CT CL
  by_cases hL : isLet (hd l) = true
  · have hpp : wordP l = .good (hd l, l.tail) := by unfold wordP; rw [if_pos hL]
    rw [hpp]
    show Calls _ _ _ _ (fun e w' => e = .returned (.string (tkS (hd l))) ∧ QWent B g l.tail o w w')
    rw [← hX]
    rw [hL] at CL
    have CP := Lib.hid (fun W (hW : QAt B W g l o) => rf_pass hW (isLet_ne hL))
    clear hpp hL hX hz
    go_enter Tryd.func15, Tryd.ntmps15
    go_wp2_with fail
    refine CT.out.mono ?_
    rintro e w1 ⟨rfl, hb1⟩
    go_wp2_with fail
    refine (CL.out _).mono ?_
    rintro e w2 ⟨rfl, hb2⟩
    have H2 := Lib.hid (((QWent.refl H.out).then_ hb1).then_ hb2)
    go_wp2_with fail
    refine (CP.out _ H2.out.1).mono ?_
    rintro e w3 ⟨rfl, hw⟩
    have HW := Lib.hid hw; clear hw
    go_wp2_with fail
    go_ret
    exact ⟨rfl, H2.out.trans HW.out⟩
  · have hpp : wordP l = .bad 4 := by unfold wordP; rw [if_neg hL]
    rw [hpp]
    show Calls _ _ _ _ (fun e w' => e = .returned (.string ⟨#[]⟩) ∧ (4 : Int) ≠ 0 ∧ QFail g 4 w w')
    rw [show isLet (hd l) = false by simpa using hL] at CL
    clear hpp hL hX hz
    go_enter Tryd.func15, Tryd.ntmps15
    go_wp2_with fail
    refine CT.out.mono ?_
    rintro e w1 ⟨rfl, hb1⟩
    go_wp2_with fail
    refine (CL.out _).mono ?_
    rintro e w2 ⟨rfl, hb2⟩
    have H2 := Lib.hid (((QWent.refl H.out).then_ hb1).then_ hb2)
    go_wp2_with fail
    refine (rf_fail 4 H2.out.1).mono ?_
    rintro e w3 ⟨rfl, hw⟩
    have HW := Lib.hid hw; clear hw
    go_wp2_with fail
    go_ret
    exact ⟨rfl, by decide, H2.out.failed HW.out⟩
set_option maxHeartbeats 4000000 in
theorem rf_name_bad {w : World} {g : Nat} {c : Int} (h : QBad w g c) (hc : c ≠ 0) :
    Calls Tryd.prog 15 #[.pointer (some ⟨g, 0, none⟩)] w fun e w' => e = .returned (.string ⟨#[]⟩) ∧ Below w.heap.size w w' := by
  have CT := Lib.hid (rf_peek_bad h hc)
  have H := Lib.hid h; clear h
  have CL := Lib.hid (fun W => rf_isLetter [] W (by simp))
  have HC := Lib.hid hc
  clear hc
  go_enter Tryd.func15, Tryd.ntmps15
  go_wp2_with fail
  refine CT.out.mono ?_
  rintro e w1 ⟨rfl, hb1⟩
  go_wp2_with fail
  refine (CL.out _).mono ?_
  rintro e w2 ⟨rfl, hb2⟩
  go_wp2_with fail
  refine (rf_fail_bad 4 ((H.out.then_ hb1).then_ hb2) HC.out).mono ?_
  rintro e w3 ⟨rfl, hw⟩
  go_wp2_with fail
  go_ret
  exact ⟨rfl, by (repeat' (first | exact Below.refl _ _ | assumption | refine Below.drew ?_ | refine below_drewN ?_ _ | refine below_new ?_ _ | refine below_set ?_ ?_ _ | refine below_then ?_ (by assumption) | refine below_drawn ?_ (by assumption) | exact Nat.le_refl _ | omega | (simp; done) | (simp; omega)))⟩
end Go.Proofs.YtchahccnmjaejacDoor
