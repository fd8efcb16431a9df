import Derived.Test.YtdmkghgachapaabGreatDoorPar3
import Derived.Test.YtdmkghgachapaabGreatDoorTxt1
set_option linter.unusedSimpArgs false
namespace Go.Proofs.YtdmkghgachapaabGreatDoor
set_option linter.unusedVariables false
set_option maxRecDepth 100000
open Go.RowKit Go.Shelf
theorem cls2_iff {c : UInt8} : cls c = 2 ↔ 48 ≤ c.toNat ∧ c.toNat ≤ 57 := by
  unfold cls; split
  · constructor <;> omega
  · split
    · rename_i h; simp [h]
    · rename_i h; simp; omega
theorem num_nat : ∀ (t : Tok) (a : Nat), (∀ c ∈ t, cls c = 2) → t.foldl (fun n c => 10 * n + ((c.toNat : Int) - 48)) (a : Int) = (Num.natFrom a t : Int)
  | [], a, _ => rfl
  | c :: r, a, h => by
    have hc := cls2_iff.1 (h c (by simp))
    have := num_nat r (10 * a + (c.toNat - 48)) (fun x hx => h x (by simp [hx]))
    rw [List.foldl_cons, show (10 * (a : Int) + ((c.toNat : Int) - 48)) = ((10 * a + (c.toNat - 48) : Nat) : Int) by omega, this]; rfl
theorem nat_lt : ∀ (t : Tok) (a : Nat), (∀ c ∈ t, cls c = 2) → Num.natFrom a t < (a + 1) * 10 ^ t.length
  | [], a, _ => by show a < (a + 1) * 10 ^ 0; omega
  | c :: r, a, h => by
    have hc := cls2_iff.1 (h c (by simp))
    have h1 := nat_lt r (10 * a + (c.toNat - 48)) (fun x hx => h x (by simp [hx]))
    show Num.natFrom (10 * a + (c.toNat - 48)) r < _
    refine Nat.lt_of_lt_of_le h1 ?_
    rw [List.length_cons, Nat.pow_succ, Nat.mul_comm (10 ^ r.length) 10, ← Nat.mul_assoc]
    exact Nat.mul_le_mul_right _ (by omega)
theorem num_tok {t : Tok} (h0 : isDig t = true) (hok : okT t) (hl : ¬ 10 < t.length) : Lib.atoiAll t = .ok (numOf t) ∧ 0 ≤ numOf t ∧ numOf t ≤ 9999999999 ∧ ∀ c ∈ t, 48 ≤ c.toNat ∧ c.toNat ≤ 57 := by
  obtain ⟨c, r, rfl⟩ : ∃ c r, t = c :: r := by cases t with | nil => cases h0 | cons c r => exact ⟨c, r, rfl⟩
  have hc : 48 ≤ c.toNat ∧ c.toNat ≤ 57 := by simpa [isDig] using h0
  have hall := hok ⟨c, r, rfl, cls2_iff.2 hc⟩
  have e : numOf (c :: r) = (Num.natFrom 0 (c :: r) : Int) := num_nat (c :: r) 0 hall
  have hb := nat_lt (c :: r) 0 hall
  have hp : 10 ^ (c :: r).length ≤ 10 ^ 10 := Nat.pow_le_pow_right (by omega) (by omega)
  have hb2 : Num.natFrom 0 (c :: r) < 10000000000 := by omega
  have hdig : ∀ x ∈ c :: r, Num.isDig x = true := fun x hx => by
    have := cls2_iff.1 (hall x hx); unfold Num.isDig; rw [decide_eq_true this.1, decide_eq_true this.2]; rfl
  refine ⟨?_, by omega, by omega, fun x hx => cls2_iff.1 (hall x hx)⟩
  rw [Lib.atoiAll_plain c r (by omega) (by omega), Lib.parseMag, if_neg (by simp), Num.parse_digits _ 0 hdig (by omega)]
  unfold Lib.signless
  show (if 9223372036854775808 ≤ Num.natFrom 0 (c :: r) then Lib.NumEnd.range else Lib.NumEnd.ok (Num.natFrom 0 (c :: r) : Int)) = _
  rw [if_neg (by omega), e]
def RdPost {α : Type} (g : Nat) (S : ByteArray) (o : Nat) (d : Value) (val : α → Value) (w : World) : Res (α × List Tok) → Ending → World → Prop
  | .stuck, _, _ => False
  | .bad c, e, w' => e = .returned (.tuple #[d, .bool false]) ∧ c ≠ 0 ∧ Failed g c w w'
  | .good p, e, w' => e = .returned (.tuple #[val p.1, .bool true]) ∧ Went g S p.2 o w w'
theorem RdAt.ok {w : World} {g : Nat} {S : ByteArray} {l : List Tok} {o : Nat} (h : RdAt w g S l o) : okT (hd l) := by
  obtain ⟨a, n, ⟨_, hok⟩, _⟩ := h
  cases l with
  | nil => rintro ⟨c, r, e, _⟩; cases e
  | cons t r => exact hok t (by simp)
theorem tk_get {t : Tok} {c : UInt8} {r : List UInt8} (X : ByteArray) (hX : X = tkS t) (e : t = c :: r) (h0 : 0 < X.size) : X[0] = c := by
  have h1 := str_get X 0 h0
  have h2 : X.data.toList = c :: r := by rw [hX, e]
  rw [h2] at h1
  simpa using h1.symm
set_option maxHeartbeats 4000000 in
theorem rd_word {S : ByteArray} {g o : Nat} {l : List Tok} {w : World} (h : RdAt w g S l o) (hS : S.size ≤ 9223372036854775807) :
    Calls Tryz.prog 126 #[.pointer (some ⟨g, 0, none⟩)] w (RdPost g S o (.string ⟨#[]⟩) (fun t => .string (tkS t)) w (wordP l)) := by
  have CT := Lib.hid (rd_token h hS)
  have H := Lib.hid h; clear h
  obtain ⟨X, hX⟩ : ∃ X, X = tkS (hd l) := ⟨_, rfl⟩
  rw [← hX] at CT
  have hsz : X.size = (hd l).length := by rw [hX, tkS_len]
  have hz : X.size ≤ 9223372036854775807 := by rw [hsz]; exact Nat.le_trans H.out.hd_len hS
  by_cases hL : isLet (hd l) = true
  · have hpp : wordP l = .good (hd l, l.tail) := by unfold wordP; rw [if_pos hL]
    rw [hpp]
    show Calls _ _ _ _ (fun e w' => e = .returned (.tuple #[.string (tkS (hd l)), .bool true]) ∧ Went g S l.tail o w w')
    rw [← hX]
    obtain ⟨c, r, e⟩ : ∃ c r, hd l = c :: r := by cases hh : hd l with | nil => rw [hh] at hL; cases hL | cons c r => exact ⟨c, r, rfl⟩
    have h0 : 0 < X.size := by rw [hsz, e]; simp
    have hg := tk_get X hX e h0
    rw [e] at hL
    have hc : 97 ≤ c.toNat ∧ c.toNat ≤ 122 := by simpa [isLet] using hL
    have d1 : (97 : Int) ≤ (X[0].toNat : Int) := by rw [hg]; omega
    have d2 : (X[0].toNat : Int) ≤ 122 := by rw [hg]; omega
    have hne := str_ne X h0
    clear hpp hX hsz hL e hg hc
    go_enter Tryz.func126, Tryz.ntmps126
    go_wp2_with (go_at_call 130; refine (CT.out).mono ?_; rintro e w1 ⟨rfl, hb⟩)
    have CS := Lib.hid (rd_scan (H.out.then_ hb) hS)
    refine CS.out.mono ?_
    rintro e w2 ⟨rfl, hw⟩
    have HW := Lib.hid hw; clear hw
    go_wp2_with fail
    go_ret2
    exact ⟨rfl, HW.out.1, (OneKept.of_below hb).trans HW.out.2⟩
  · have hpp : wordP l = .bad 4 := by unfold wordP; rw [if_neg hL]
    rw [hpp]
    show Calls _ _ _ _ (fun e w' => e = .returned (.tuple #[.string ⟨#[]⟩, .bool false]) ∧ (4 : Int) ≠ 0 ∧ Failed g 4 w w')
    by_cases h0 : X.size = 0
    · obtain rfl := str_empty X h0
      clear hpp hX hsz hL h0
      go_enter Tryz.func126, Tryz.ntmps126
      go_wp2_with (go_at_call 130; refine (CT.out).mono ?_; rintro e w1 ⟨rfl, hb⟩)
      have CF := Lib.hid (rd_fail 4 (H.out.then_ hb))
      refine CF.out.mono ?_
      rintro e w2 ⟨rfl, hw⟩
      have HW := Lib.hid hw; clear hw
      go_wp2_with fail
      go_ret2
      exact ⟨rfl, by decide, HW.out.1, (OneKept.of_below hb).trans HW.out.2⟩
    · have h0' : 0 < X.size := by omega
      obtain ⟨c, r, e⟩ : ∃ c r, hd l = c :: r := by cases hh : hd l with | nil => (have h9 : (hd l).length = 0 := by rw [hh]; rfl); omega | cons c r => exact ⟨c, r, rfl⟩
      have hg := tk_get X hX e h0'
      rw [e] at hL
      have hc : ¬ (97 ≤ c.toNat ∧ c.toNat ≤ 122) := by simpa [isLet] using hL
      have hne := str_ne X h0'
      have hd : (X[0].toNat : Int) < 97 ∨ (¬ (X[0].toNat : Int) < 97 ∧ (122 : Int) < (X[0].toNat : Int)) := by rw [hg]; omega
      clear hpp hX hsz hL e hg hc h0
      rcases hd with d1 | ⟨d1, d2⟩
      all_goals
        go_enter Tryz.func126, Tryz.ntmps126
        go_wp2_with (go_at_call 130; refine (CT.out).mono ?_; rintro e w1 ⟨rfl, hb⟩)
        have CF := Lib.hid (rd_fail 4 (H.out.then_ hb))
        refine CF.out.mono ?_
        rintro e w2 ⟨rfl, hw⟩
        have HW := Lib.hid hw; clear hw
        go_wp2_with fail
        go_ret2
        exact ⟨rfl, by decide, HW.out.1, (OneKept.of_below hb).trans HW.out.2⟩
set_option maxHeartbeats 4000000 in
theorem rd_natural {S : ByteArray} {g o : Nat} {l : List Tok} {w : World} (h : RdAt w g S l o) (hS : S.size ≤ 140737488355328) :
    Calls Tryz.prog 150 #[.pointer (some ⟨g, 0, none⟩)] w (RdPost g S o (.int .i64 0) (fun n => .int .i64 n) w (natP l)) := by
  have CT := Lib.hid (rd_token h (by omega))
  have H := Lib.hid h; clear h
  obtain ⟨X, hX⟩ : ∃ X, X = tkS (hd l) := ⟨_, rfl⟩
  rw [← hX] at CT
  have hsz : X.size = (hd l).length := by rw [hX, tkS_len]
  have hz : X.size ≤ 140737488355328 := by rw [hsz]; exact Nat.le_trans H.out.hd_len hS
  by_cases hL : isDig (hd l) = true
  · obtain ⟨c, r, e⟩ : ∃ c r, hd l = c :: r := by cases hh : hd l with | nil => rw [hh] at hL; cases hL | cons c r => exact ⟨c, r, rfl⟩
    have h0 : 0 < X.size := by rw [hsz, e]; simp
    have hg := tk_get X hX e h0
    have hc : 48 ≤ c.toNat ∧ c.toNat ≤ 57 := by rw [e] at hL; simpa [isDig] using hL
    have d1 : (48 : Int) ≤ (X[0].toNat : Int) := by rw [hg]; omega
    have d2 : (X[0].toNat : Int) ≤ 57 := by rw [hg]; omega
    have hne := str_ne X h0
    by_cases hbig : 10 < (hd l).length
    · have hpp : natP l = .bad 2 := by unfold natP; rw [if_neg (by rw [hL]; simp), if_pos hbig]
      rw [hpp]
      show Calls _ _ _ _ (fun e w' => e = .returned (.tuple #[.int .i64 0, .bool false]) ∧ (2 : Int) ≠ 0 ∧ Failed g 2 w w')
      have d3 : (10 : Int) < (X.size : Int) := by omega
      clear hpp hX hsz hL e hg hc hbig
      go_enter Tryz.func150, Tryz.ntmps150
      go_wp2_with (go_at_call 130; refine (CT.out).mono ?_; rintro e w1 ⟨rfl, hb⟩)
      have CF := Lib.hid (rd_fail 2 (H.out.then_ hb))
      refine CF.out.mono ?_
      rintro e w2 ⟨rfl, hw⟩
      have HW := Lib.hid hw; clear hw
      go_wp2_with fail
      go_ret2
      exact ⟨rfl, by decide, HW.out.1, (OneKept.of_below hb).trans HW.out.2⟩
    · have hpp : natP l = .good (numOf (hd l), l.tail) := by unfold natP; rw [if_neg (by rw [hL]; simp), if_neg hbig]
      rw [hpp]
      show Calls _ _ _ _ (fun e w' => e = .returned (.tuple #[.int .i64 (numOf (hd l)), .bool true]) ∧ Went g S l.tail o w w')
      obtain ⟨q1, q2, q3, _⟩ := num_tok hL H.out.ok hbig
      have hXl : X.data.toList = hd l := by rw [hX]
      obtain ⟨N, hN⟩ : ∃ N, N = numOf (hd l) := ⟨_, rfl⟩
      rw [← hN] at q1 q2 q3 ⊢
      have CA := Lib.hid (fun W => Any.strconv_Atoi_ok Tryz.laysLaysCn172 X (by omega) N (by rw [hXl]; exact q1) W)
      have d3 : ¬ (10 : Int) < (X.size : Int) := by omega
      clear hpp hX hsz hL e hg hc hbig hXl q1 hN
      go_enter Tryz.func150, Tryz.ntmps150
      go_wp2_with (go_at_call 130; refine (CT.out).mono ?_; rintro e w1 ⟨rfl, hb⟩)
      refine (CA.out _).mono ?_
      rintro e w2 ⟨rfl, hw⟩
      have hb2 : Below w1.heap.size w1 w2 := by
        rcases hw with rfl | ⟨t, rfl⟩
        · exact Below.refl _ _
        · exact Lib.bytesWorld_below _ _ _
      clear hw
      have CS := Lib.hid (rd_scan ((H.out.then_ hb).then_ hb2) (by omega))
      go_wp2_with fail
      refine CS.out.mono ?_
      rintro e w3 ⟨rfl, hw⟩
      have HW := Lib.hid hw; clear hw
      go_wp2_with fail
      go_ret2
      exact ⟨rfl, HW.out.1, ((OneKept.of_below hb).then_ hb2).trans HW.out.2⟩
  · have hpp : natP l = .bad 4 := by unfold natP; rw [if_pos (by simpa using hL)]
    rw [hpp]
    show Calls _ _ _ _ (fun e w' => e = .returned (.tuple #[.int .i64 0, .bool false]) ∧ (4 : Int) ≠ 0 ∧ Failed g 4 w w')
    by_cases h0 : X.size = 0
    · obtain rfl := str_empty X h0
      clear hpp hX hsz hL h0
      go_enter Tryz.func150, Tryz.ntmps150
      go_wp2_with (go_at_call 130; refine (CT.out).mono ?_; rintro e w1 ⟨rfl, hb⟩)
      have CF := Lib.hid (rd_fail 4 (H.out.then_ hb))
      refine CF.out.mono ?_
      rintro e w2 ⟨rfl, hw⟩
      have HW := Lib.hid hw; clear hw
      go_wp2_with fail
      go_ret2
      exact ⟨rfl, by decide, HW.out.1, (OneKept.of_below hb).trans HW.out.2⟩
    · have h0' : 0 < X.size := by omega
      obtain ⟨c, r, e⟩ : ∃ c r, hd l = c :: r := by cases hh : hd l with | nil => (have h9 : (hd l).length = 0 := by rw [hh]; rfl); omega | cons c r => exact ⟨c, r, rfl⟩
      have hg := tk_get X hX e h0'
      rw [e] at hL
      have hc : ¬ (48 ≤ c.toNat ∧ c.toNat ≤ 57) := by simpa [isDig] using hL
      have hne := str_ne X h0'
      have hd : (X[0].toNat : Int) < 48 ∨ (¬ (X[0].toNat : Int) < 48 ∧ (57 : Int) < (X[0].toNat : Int)) := by rw [hg]; omega
      clear hpp hX hsz hL e hg hc h0
      rcases hd with d1 | ⟨d1, d2⟩
      all_goals
        go_enter Tryz.func150, Tryz.ntmps150
        go_wp2_with (go_at_call 130; refine (CT.out).mono ?_; rintro e w1 ⟨rfl, hb⟩)
        have CF := Lib.hid (rd_fail 4 (H.out.then_ hb))
        refine CF.out.mono ?_
        rintro e w2 ⟨rfl, hw⟩
        have HW := Lib.hid hw; clear hw
        go_wp2_with fail
        go_ret2
        exact ⟨rfl, by decide, HW.out.1, (OneKept.of_below hb).trans HW.out.2⟩
end Go.Proofs.YtdmkghgachapaabGreatDoor
