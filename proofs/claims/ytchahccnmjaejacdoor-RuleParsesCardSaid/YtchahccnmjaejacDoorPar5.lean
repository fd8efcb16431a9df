/- Contracts of the reader's number and of rule.binary. -/
import Derived.Test.YtchahccnmjaejacDoorPar4
import Derived.Test.YtchahccnmjaejacDoorShow1
namespace Go.Proofs.YtchahccnmjaejacDoor
set_option linter.unusedVariables false
set_option maxRecDepth 100000
open Go.RowKit Go.Shelf

theorem natP_cases (l : List Tok) : (∃ c, natP l = .bad c) ∨ ∃ n, natP l = .good (n, l.tail) := by
  unfold natP
  split
  · exact .inl ⟨4, rfl⟩
  · split
    · exact .inl ⟨2, rfl⟩
    · exact .inr ⟨_, rfl⟩
theorem natP_in {l : List Tok} {p : Int × List Tok} (h : natP l = .good p) (hok : okT (hd l)) : 0 ≤ p.1 ∧ p.1 ≤ 9999999999 := by
  unfold natP at h
  by_cases h1 : isDig (hd l) = false
  · rw [if_pos h1] at h; cases h
  rw [if_neg h1] at h
  by_cases h2 : 10 < (hd l).length
  · rw [if_pos h2] at h; cases h
  rw [if_neg h2] at h
  injection h with h
  subst h
  have := num_tok (by simpa using h1) hok h2
  exact ⟨this.2.1, this.2.2.1⟩
theorem signP_in {l : List Tok} {p : Int × List Tok} (h : signP l = .good p) (hok : ∀ t ∈ l, okT t) : -9999999999 ≤ p.1 ∧ p.1 ≤ 9999999999 := by
  have hh : ∀ m : List Tok, (∀ t ∈ m, okT t) → okT (hd m) := fun m hm => by
    cases m with
    | nil => rintro ⟨c, r, e, _⟩; cases e
    | cons t r => exact hm t (by simp)
  unfold signP at h
  by_cases h1 : hd l = [45]
  · rw [if_pos h1] at h
    rcases natP_cases l.tail with ⟨c, e⟩ | ⟨n, e⟩
    · rw [e] at h; cases h
    · have := natP_in e (hh _ fun t ht => hok t (List.mem_of_mem_tail ht))
      rw [e] at h
      injection h with h
      subst h
      simp only at this ⊢
      omega
  · rw [if_neg h1] at h
    have := natP_in h (hh l hok)
    omega
set_option maxHeartbeats 4000000 in
theorem rd_number {S : ByteArray} {g o : Nat} {l : List Tok} {w : World} (h : RdAt w g S l o) (hS : S.size ≤ 140737488355328) :
    Calls Tryd.prog 25 #[.pointer (some ⟨g, 0, none⟩)] w (RdPost g S o (.int .i64 0) (fun n => .int .i64 n) w (signP l)) := by
  have CT := Lib.hid (show Calls Tryd.prog 22 #[.pointer (some ⟨g, 0, none⟩), .string ⟨#[45]⟩] w (fun e w' => e = .returned (.bool (decide (hd l = [45]))) ∧ Went g S (if hd l = [45] then l.tail else l) o w w') from rd_take [45] h (by omega))
  by_cases h1 : hd l = [45]
  · rw [decide_eq_true h1, if_pos h1] at CT
    rcases natP_cases l.tail with ⟨c, e⟩ | ⟨n, e⟩
    · have e1 : signP l = .bad c := by unfold signP; rw [if_pos h1, e]; rfl
      rw [e1]
      clear h1 e1 h
      go_enter Tryd.func25, Tryd.ntmps25
      go_wp2_with (go_at_call 22; refine (CT.out).mono ?_; rintro e w1 ⟨rfl, hw⟩)
      have HW := Lib.hid hw; clear hw
      have CN := Lib.hid (rd_natural HW.out.1 hS)
      rw [e] at CN
      refine CN.out.mono ?_
      rintro e' w2 ⟨rfl, hc, hf⟩
      have HF := Lib.hid hf; clear hf
      go_wp2_with fail
      go_ret2
      exact ⟨rfl, hc, HW.out.failed HF.out⟩
    · have e1 : signP l = .good (-n, l.tail.tail) := by unfold signP; rw [if_pos h1, e]; rfl
      have hr := natP_in e (by
        obtain ⟨a, k, ⟨_, hok⟩, _⟩ := h
        cases hh : l.tail with
        | nil => rintro ⟨c, r, e, _⟩; cases e
        | cons t r => exact hok t (List.mem_of_mem_tail (by rw [hh]; simp)))
      simp only at hr
      obtain ⟨r1, r2⟩ := hr
      rw [e1]
      clear h1 e1 h
      go_enter Tryd.func25, Tryd.ntmps25
      go_wp2_with (go_at_call 22; refine (CT.out).mono ?_; rintro e w1 ⟨rfl, hw⟩)
      have HW := Lib.hid hw; clear hw
      have CN := Lib.hid (rd_natural HW.out.1 hS)
      rw [e] at CN
      refine CN.out.mono ?_
      rintro e' w2 ⟨rfl, hf⟩
      have HF := Lib.hid hf; clear hf
      go_wp2_with fail
      go_ret2
      exact ⟨rfl, HW.out.trans HF.out⟩
  · rw [decide_eq_false h1, if_neg h1] at CT
    have e1 : signP l = natP l := by unfold signP; rw [if_neg h1]
    rw [e1]
    clear h1 e1 h
    rcases natP_cases l with ⟨c, e⟩ | ⟨n, e⟩
    · rw [e]
      go_enter Tryd.func25, Tryd.ntmps25
      go_wp2_with (go_at_call 22; refine (CT.out).mono ?_; rintro e w1 ⟨rfl, hw⟩)
      have HW := Lib.hid hw; clear hw
      have CN := Lib.hid (rd_natural HW.out.1 hS)
      rw [e] at CN
      refine CN.out.mono ?_
      rintro e' w2 ⟨rfl, hc, hf⟩
      have HF := Lib.hid hf; clear hf
      go_wp2_with fail
      go_ret2
      exact ⟨rfl, hc, HW.out.failed HF.out⟩
    · rw [e]
      go_enter Tryd.func25, Tryd.ntmps25
      go_wp2_with (go_at_call 22; refine (CT.out).mono ?_; rintro e w1 ⟨rfl, hw⟩)
      have HW := Lib.hid hw; clear hw
      have CN := Lib.hid (rd_natural HW.out.1 hS)
      rw [e] at CN
      refine CN.out.mono ?_
      rintro e' w2 ⟨rfl, hf⟩
      have HF := Lib.hid hf; clear hf
      go_wp2_with fail
      go_ret2
      exact ⟨rfl, HW.out.trans HF.out⟩

def pickB (L : Nat) (t : Tok) (i : Nat) : Bool := decide (sgn i = t) && (decide (t ≠ []) && decide (lvl i = (L : Int)))
def findB (L : Nat) (t : Tok) : Nat → Nat → Option Int
  | 0, _ => none
  | f + 1, i => if pickB L t i = true then some (i : Int) else findB L t f (i + 1)
theorem sgn_mem : ∀ i : Fin 14, sgn i.val ∈ ([[], [43], [45], [42], [47], [37], [60], [61], [97, 110, 100], [111, 114]] : List Tok) := by decide +kernel
theorem pick_none {L : Nat} {t : Tok} (h : t = [] ∨ t ∉ ([[], [43], [45], [42], [47], [37], [60], [61], [97, 110, 100], [111, 114]] : List Tok)) (i : Nat) (hi : i < 14) : pickB L t i = false := by
  unfold pickB
  rcases h with rfl | h
  · simp
  · have : sgn i ≠ t := fun e => h (e ▸ sgn_mem ⟨i, hi⟩)
    rw [decide_eq_false this]; rfl
theorem find_none {L : Nat} {t : Tok} (h : t = [] ∨ t ∉ ([[], [43], [45], [42], [47], [37], [60], [61], [97, 110, 100], [111, 114]] : List Tok)) : ∀ f i, i + f ≤ 14 → findB L t f i = none
  | 0, i, _ => rfl
  | f + 1, i, hi => by rw [findB, if_neg (by rw [pick_none h i (by omega)]; simp)]; exact find_none h f (i + 1) (by omega)
theorem find_some : ∀ L : Fin 6, ∀ t ∈ ([[43], [45], [42], [47], [37], [60], [61], [97, 110, 100], [111, 114]] : List Tok), findB L.val t 14 0 = opAt L.val t := by decide +kernel
theorem find_opAt {L : Nat} (hL : L ≤ 5) (t : Tok) : findB L t 14 0 = opAt L t := by
  by_cases h : t ∈ ([[43], [45], [42], [47], [37], [60], [61], [97, 110, 100], [111, 114]] : List Tok)
  · exact find_some ⟨L, by omega⟩ t h
  · have h2 : t = [] ∨ t ∉ ([[], [43], [45], [42], [47], [37], [60], [61], [97, 110, 100], [111, 114]] : List Tok) := by
      by_cases h0 : t = []
      · exact .inl h0
      · refine .inr fun hm => ?_
        rcases List.mem_cons.1 hm with e | e
        · exact h0 e
        · exact h e
    rw [find_none h2 14 0 (by omega)]
    simp only [List.mem_cons, List.not_mem_nil, or_false, not_or] at h
    obtain ⟨h1, h2, h3, h4, h5, h6, h7, h8, h9⟩ := h
    unfold opAt opOf
    rw [if_neg h1, if_neg h2, if_neg h3, if_neg h4, if_neg h5, if_neg h6, if_neg h7, if_neg h8, if_neg h9]
def binV : Option Int → Value
  | some k => .tuple #[.int .i64 k, .bool true]
  | none => .tuple #[.int .i64 0, .bool false]
set_option maxHeartbeats 16000000 in
theorem rule_binary (t : Tok) (L : Nat) (w : World) (hL : L ≤ 5) (ht : t.length ≤ 140737488355328) (hlv : Lvl w) (hsg : Sgn w) :
    Calls Tryd.prog 48 #[.string (tkS t), .int .i64 L] w fun e w' => e = .returned (binV (opAt L t)) ∧ Below w.heap.size w w' := by
  obtain ⟨O, hO⟩ : ∃ O, O = opAt L t := ⟨_, rfl⟩
  rw [← hO]
  have HO := Lib.hid (show O = findB L t 14 0 by rw [hO, find_opAt hL])
  obtain ⟨T, hT⟩ : ∃ T, T = tkS t := ⟨_, rfl⟩
  have HT := Lib.hid hT
  rw [← hT]
  have HLV := Lib.hid hlv
  have s0 : w.cell? ⟨1, 0, none⟩ = some (.string ⟨#[]⟩) := hsg.cell 0 (by omega)
  have s1 : w.cell? ⟨1, 1, none⟩ = some (.string ⟨#[]⟩) := hsg.cell 1 (by omega)
  have s2 : w.cell? ⟨1, 2, none⟩ = some (.string ⟨#[]⟩) := hsg.cell 2 (by omega)
  have s3 : w.cell? ⟨1, 3, none⟩ = some (.string ⟨#[]⟩) := hsg.cell 3 (by omega)
  have s4 : w.cell? ⟨1, 4, none⟩ = some (.string ⟨#[43]⟩) := hsg.cell 4 (by omega)
  have s5 : w.cell? ⟨1, 5, none⟩ = some (.string ⟨#[45]⟩) := hsg.cell 5 (by omega)
  have s6 : w.cell? ⟨1, 6, none⟩ = some (.string ⟨#[42]⟩) := hsg.cell 6 (by omega)
  have s7 : w.cell? ⟨1, 7, none⟩ = some (.string ⟨#[47]⟩) := hsg.cell 7 (by omega)
  have s8 : w.cell? ⟨1, 8, none⟩ = some (.string ⟨#[37]⟩) := hsg.cell 8 (by omega)
  have s9 : w.cell? ⟨1, 9, none⟩ = some (.string ⟨#[60]⟩) := hsg.cell 9 (by omega)
  have s10 : w.cell? ⟨1, 10, none⟩ = some (.string ⟨#[61]⟩) := hsg.cell 10 (by omega)
  have s11 : w.cell? ⟨1, 11, none⟩ = some (.string ⟨#[]⟩) := hsg.cell 11 (by omega)
  have s12 : w.cell? ⟨1, 12, none⟩ = some (.string ⟨#[97, 110, 100]⟩) := hsg.cell 12 (by omega)
  have s13 : w.cell? ⟨1, 13, none⟩ = some (.string ⟨#[111, 114]⟩) := hsg.cell 13 (by omega)
  clear hO hT hlv hsg
  go_enter Tryd.func48, Tryd.ntmps48
  go_wp2_with fail
  clear s0 s1 s2 s3 s4 s5 s6 s7 s8 s9 s10 s11 s12 s13
  go_loopw [9] (fun v wr => ∃ k : Nat, k ≤ 14 ∧ v = .int .i64 k ∧ O = findB L t (14 - k) k ∧ Below w.heap.size w wr) (fun v _ => 14 - (intOf v).toNat)
  case atStart => exact ⟨0, by omega, rfl, HO.out, by (repeat' (first | exact Below.refl _ _ | assumption | refine Below.drew ?_ | refine below_drewN ?_ _ | refine below_new ?_ _ | refine below_set ?_ ?_ _ | refine below_then ?_ (by assumption) | refine below_drawn ?_ (by assumption) | exact Nat.le_refl _ | omega | (simp; done) | (simp; omega)))⟩
  case round =>
    obtain ⟨k, hk, ev, ho, hb⟩ := hrel
    have HB := Lib.hid hb
    have HO2 := Lib.hid ho
    have HLW := Lib.hid (HLV.out.below hb)
    clear ho HO
    by_cases hlt : k < 14
    · have hk14 : k = 0 ∨ k = 1 ∨ k = 2 ∨ k = 3 ∨ k = 4 ∨ k = 5 ∨ k = 6 ∨ k = 7 ∨ k = 8 ∨ k = 9 ∨ k = 10 ∨ k = 11 ∨ k = 12 ∨ k = 13 := by omega
      rcases hk14 with rfl | rfl | rfl | rfl | rfl | rfl | rfl | rfl | rfl | rfl | rfl | rfl | rfl | rfl
      · have ix : ∀ W, (Instr.index 92 (.agg #[.string ⟨#[]⟩, .string ⟨#[]⟩, .string ⟨#[]⟩, .string ⟨#[]⟩, .string ⟨#[43]⟩, .string ⟨#[45]⟩, .string ⟨#[42]⟩, .string ⟨#[47]⟩, .string ⟨#[37]⟩, .string ⟨#[60]⟩, .string ⟨#[61]⟩, .string ⟨#[]⟩, .string ⟨#[97, 110, 100]⟩, .string ⟨#[111, 114]⟩]) (.int .i64 0)).run Tryd.prog W = .ok (.string ⟨#[]⟩) W := fun _ => by kernel_rfl
        -- kind 0
        replace ev : _ = Value.int .i64 0 := ev
        subst ev
        have HN := Lib.hid (show O = findB L t (14 - 1) (0 + 1) by
          rw [HO2.out]
          show (if pickB L t 0 = true then _ else _) = _
          rw [if_neg]
          unfold pickB
          rw [show sgn (0 : Nat) = [] from by decide]
          by_cases h : ([] : Tok) = t
          · rw [← h]; simp
          · rw [decide_eq_false h]; simp)
        by_cases h0 : T.size = 0
        · obtain rfl := str_empty T h0
          clear h0 hb
          go_wp2_with fail
          go_roundw
          case rel => exact ⟨0 + 1, by omega, rfl, HN.out, by have := HB.out; (repeat' (first | exact Below.refl _ _ | assumption | refine Below.drew ?_ | refine below_drewN ?_ _ | refine below_new ?_ _ | refine below_set ?_ ?_ _ | refine below_then ?_ (by assumption) | refine below_drawn ?_ (by assumption) | exact Nat.le_refl _ | omega | (simp; done) | (simp; omega)))⟩
          case measure => simp [intOf]
        · have e1 := str_ne T (by omega)
          have e2 : (T.toList == []) = false := by simpa using e1
          have e3 : (([] : List UInt8) == T.toList) = false := by cases hh : T.toList with | nil => rw [hh] at e1; cases e1 | cons _ _ => rfl
          have e4 : T.toList ≠ [] := by simpa using e1
          have e5 : [] ≠ T.toList := fun h => e4 h.symm
          clear h0 hb
          go_wp2_with fail
          go_roundw
          case rel => exact ⟨0 + 1, by omega, rfl, HN.out, by have := HB.out; (repeat' (first | exact Below.refl _ _ | assumption | refine Below.drew ?_ | refine below_drewN ?_ _ | refine below_new ?_ _ | refine below_set ?_ ?_ _ | refine below_then ?_ (by assumption) | refine below_drawn ?_ (by assumption) | exact Nat.le_refl _ | omega | (simp; done) | (simp; omega)))⟩
          case measure => simp [intOf]
      · have ix : ∀ W, (Instr.index 92 (.agg #[.string ⟨#[]⟩, .string ⟨#[]⟩, .string ⟨#[]⟩, .string ⟨#[]⟩, .string ⟨#[43]⟩, .string ⟨#[45]⟩, .string ⟨#[42]⟩, .string ⟨#[47]⟩, .string ⟨#[37]⟩, .string ⟨#[60]⟩, .string ⟨#[61]⟩, .string ⟨#[]⟩, .string ⟨#[97, 110, 100]⟩, .string ⟨#[111, 114]⟩]) (.int .i64 1)).run Tryd.prog W = .ok (.string ⟨#[]⟩) W := fun _ => by kernel_rfl
        -- kind 1
        replace ev : _ = Value.int .i64 1 := ev
        subst ev
        have HN := Lib.hid (show O = findB L t (14 - 2) (1 + 1) by
          rw [HO2.out]
          show (if pickB L t 1 = true then _ else _) = _
          rw [if_neg]
          unfold pickB
          rw [show sgn (1 : Nat) = [] from by decide]
          by_cases h : ([] : Tok) = t
          · rw [← h]; simp
          · rw [decide_eq_false h]; simp)
        by_cases h0 : T.size = 0
        · obtain rfl := str_empty T h0
          clear h0 hb
          go_wp2_with fail
          go_roundw
          case rel => exact ⟨1 + 1, by omega, rfl, HN.out, by have := HB.out; (repeat' (first | exact Below.refl _ _ | assumption | refine Below.drew ?_ | refine below_drewN ?_ _ | refine below_new ?_ _ | refine below_set ?_ ?_ _ | refine below_then ?_ (by assumption) | refine below_drawn ?_ (by assumption) | exact Nat.le_refl _ | omega | (simp; done) | (simp; omega)))⟩
          case measure => simp [intOf]
        · have e1 := str_ne T (by omega)
          have e2 : (T.toList == []) = false := by simpa using e1
          have e3 : (([] : List UInt8) == T.toList) = false := by cases hh : T.toList with | nil => rw [hh] at e1; cases e1 | cons _ _ => rfl
          have e4 : T.toList ≠ [] := by simpa using e1
          have e5 : [] ≠ T.toList := fun h => e4 h.symm
          clear h0 hb
          go_wp2_with fail
          go_roundw
          case rel => exact ⟨1 + 1, by omega, rfl, HN.out, by have := HB.out; (repeat' (first | exact Below.refl _ _ | assumption | refine Below.drew ?_ | refine below_drewN ?_ _ | refine below_new ?_ _ | refine below_set ?_ ?_ _ | refine below_then ?_ (by assumption) | refine below_drawn ?_ (by assumption) | exact Nat.le_refl _ | omega | (simp; done) | (simp; omega)))⟩
          case measure => simp [intOf]
      · have ix : ∀ W, (Instr.index 92 (.agg #[.string ⟨#[]⟩, .string ⟨#[]⟩, .string ⟨#[]⟩, .string ⟨#[]⟩, .string ⟨#[43]⟩, .string ⟨#[45]⟩, .string ⟨#[42]⟩, .string ⟨#[47]⟩, .string ⟨#[37]⟩, .string ⟨#[60]⟩, .string ⟨#[61]⟩, .string ⟨#[]⟩, .string ⟨#[97, 110, 100]⟩, .string ⟨#[111, 114]⟩]) (.int .i64 2)).run Tryd.prog W = .ok (.string ⟨#[]⟩) W := fun _ => by kernel_rfl
        -- kind 2
        replace ev : _ = Value.int .i64 2 := ev
        subst ev
        have HN := Lib.hid (show O = findB L t (14 - 3) (2 + 1) by
          rw [HO2.out]
          show (if pickB L t 2 = true then _ else _) = _
          rw [if_neg]
          unfold pickB
          rw [show sgn (2 : Nat) = [] from by decide]
          by_cases h : ([] : Tok) = t
          · rw [← h]; simp
          · rw [decide_eq_false h]; simp)
        by_cases h0 : T.size = 0
        · obtain rfl := str_empty T h0
          clear h0 hb
          go_wp2_with fail
          go_roundw
          case rel => exact ⟨2 + 1, by omega, rfl, HN.out, by have := HB.out; (repeat' (first | exact Below.refl _ _ | assumption | refine Below.drew ?_ | refine below_drewN ?_ _ | refine below_new ?_ _ | refine below_set ?_ ?_ _ | refine below_then ?_ (by assumption) | refine below_drawn ?_ (by assumption) | exact Nat.le_refl _ | omega | (simp; done) | (simp; omega)))⟩
          case measure => simp [intOf]
        · have e1 := str_ne T (by omega)
          have e2 : (T.toList == []) = false := by simpa using e1
          have e3 : (([] : List UInt8) == T.toList) = false := by cases hh : T.toList with | nil => rw [hh] at e1; cases e1 | cons _ _ => rfl
          have e4 : T.toList ≠ [] := by simpa using e1
          have e5 : [] ≠ T.toList := fun h => e4 h.symm
          clear h0 hb
          go_wp2_with fail
          go_roundw
          case rel => exact ⟨2 + 1, by omega, rfl, HN.out, by have := HB.out; (repeat' (first | exact Below.refl _ _ | assumption | refine Below.drew ?_ | refine below_drewN ?_ _ | refine below_new ?_ _ | refine below_set ?_ ?_ _ | refine below_then ?_ (by assumption) | refine below_drawn ?_ (by assumption) | exact Nat.le_refl _ | omega | (simp; done) | (simp; omega)))⟩
          case measure => simp [intOf]
      · have ix : ∀ W, (Instr.index 92 (.agg #[.string ⟨#[]⟩, .string ⟨#[]⟩, .string ⟨#[]⟩, .string ⟨#[]⟩, .string ⟨#[43]⟩, .string ⟨#[45]⟩, .string ⟨#[42]⟩, .string ⟨#[47]⟩, .string ⟨#[37]⟩, .string ⟨#[60]⟩, .string ⟨#[61]⟩, .string ⟨#[]⟩, .string ⟨#[97, 110, 100]⟩, .string ⟨#[111, 114]⟩]) (.int .i64 3)).run Tryd.prog W = .ok (.string ⟨#[]⟩) W := fun _ => by kernel_rfl
        -- kind 3
        replace ev : _ = Value.int .i64 3 := ev
        subst ev
        have HN := Lib.hid (show O = findB L t (14 - 4) (3 + 1) by
          rw [HO2.out]
          show (if pickB L t 3 = true then _ else _) = _
          rw [if_neg]
          unfold pickB
          rw [show sgn (3 : Nat) = [] from by decide]
          by_cases h : ([] : Tok) = t
          · rw [← h]; simp
          · rw [decide_eq_false h]; simp)
        by_cases h0 : T.size = 0
        · obtain rfl := str_empty T h0
          clear h0 hb
          go_wp2_with fail
          go_roundw
          case rel => exact ⟨3 + 1, by omega, rfl, HN.out, by have := HB.out; (repeat' (first | exact Below.refl _ _ | assumption | refine Below.drew ?_ | refine below_drewN ?_ _ | refine below_new ?_ _ | refine below_set ?_ ?_ _ | refine below_then ?_ (by assumption) | refine below_drawn ?_ (by assumption) | exact Nat.le_refl _ | omega | (simp; done) | (simp; omega)))⟩
          case measure => simp [intOf]
        · have e1 := str_ne T (by omega)
          have e2 : (T.toList == []) = false := by simpa using e1
          have e3 : (([] : List UInt8) == T.toList) = false := by cases hh : T.toList with | nil => rw [hh] at e1; cases e1 | cons _ _ => rfl
          have e4 : T.toList ≠ [] := by simpa using e1
          have e5 : [] ≠ T.toList := fun h => e4 h.symm
          clear h0 hb
          go_wp2_with fail
          go_roundw
          case rel => exact ⟨3 + 1, by omega, rfl, HN.out, by have := HB.out; (repeat' (first | exact Below.refl _ _ | assumption | refine Below.drew ?_ | refine below_drewN ?_ _ | refine below_new ?_ _ | refine below_set ?_ ?_ _ | refine below_then ?_ (by assumption) | refine below_drawn ?_ (by assumption) | exact Nat.le_refl _ | omega | (simp; done) | (simp; omega)))⟩
          case measure => simp [intOf]
      · have ix : ∀ W, (Instr.index 92 (.agg #[.string ⟨#[]⟩, .string ⟨#[]⟩, .string ⟨#[]⟩, .string ⟨#[]⟩, .string ⟨#[43]⟩, .string ⟨#[45]⟩, .string ⟨#[42]⟩, .string ⟨#[47]⟩, .string ⟨#[37]⟩, .string ⟨#[60]⟩, .string ⟨#[61]⟩, .string ⟨#[]⟩, .string ⟨#[97, 110, 100]⟩, .string ⟨#[111, 114]⟩]) (.int .i64 4)).run Tryd.prog W = .ok (.string ⟨#[43]⟩) W := fun _ => by kernel_rfl
        -- kind 4
        replace ev : _ = Value.int .i64 4 := ev
        subst ev
        by_cases h0 : t = [43]
        · obtain rfl : T = ⟨#[43]⟩ := by rw [HT.out, h0]
          by_cases h1 : (4 : Int) = (L : Int)
          · have HN := Lib.hid (show O = some 4 by
              rw [HO2.out]
              show (if pickB L t 4 = true then _ else _) = _
              rw [if_pos]
              · rfl
              · unfold pickB; rw [h0, ← h1]; decide)
            have c1 : wr.cell? ⟨2, 4, none⟩ = some (.int .i64 4) := HLW.out.cell 4 (by omega)
            have e1 : ((4 : Int) == (L : Int)) = true := by simpa using h1
            have gz : 2 < wr.heap.size := World.block_lt_of_cell? _ _ c1
            clear h0 hb
            have e2 : (L : Int) = 4 := h1.symm
            clear h1
            go_wp2_with fail
            go_ret2
            exact ⟨by rw [HN.out]; rfl, by have := HB.out; (repeat' (first | exact Below.refl _ _ | assumption | refine Below.drew ?_ | refine below_drewN ?_ _ | refine below_new ?_ _ | refine below_set ?_ ?_ _ | refine below_then ?_ (by assumption) | refine below_drawn ?_ (by assumption) | exact Nat.le_refl _ | omega | (simp; done) | (simp; omega)))⟩
          · have HN := Lib.hid (show O = findB L t (14 - 5) (4 + 1) by
              rw [HO2.out]
              show (if pickB L t 4 = true then _ else _) = _
              rw [if_neg]
              unfold pickB
              rw [decide_eq_false (show ¬ lvl (4 : Nat) = (L : Int) from h1)]; simp)
            have c1 : wr.cell? ⟨2, 4, none⟩ = some (.int .i64 4) := HLW.out.cell 4 (by omega)
            have e1 : ((4 : Int) == (L : Int)) = false := by simpa using h1
            have gz : 2 < wr.heap.size := World.block_lt_of_cell? _ _ c1
            clear h0 hb h1
            go_wp2_with fail
            go_roundw
            case rel => exact ⟨4 + 1, by omega, rfl, HN.out, by have := HB.out; (repeat' (first | exact Below.refl _ _ | assumption | refine Below.drew ?_ | refine below_drewN ?_ _ | refine below_new ?_ _ | refine below_set ?_ ?_ _ | refine below_then ?_ (by assumption) | refine below_drawn ?_ (by assumption) | exact Nat.le_refl _ | omega | (simp; done) | (simp; omega)))⟩
            case measure => simp [intOf]
        · have HN := Lib.hid (show O = findB L t (14 - 5) (4 + 1) by
            rw [HO2.out]
            show (if pickB L t 4 = true then _ else _) = _
            rw [if_neg]
            unfold pickB
            rw [decide_eq_false (show ¬ sgn (4 : Nat) = t from fun h => h0 h.symm)]; simp)
          have hne : T.toList ≠ [43] := by rw [HT.out, str_list]; simpa using h0
          have e1 : (T.toList == [43]) = false := by simpa using hne
          have e2 : (([43] : List UInt8) == T.toList) = false := by rw [beq_eq_false_iff_ne]; exact fun h => hne h.symm
          have e3 : [43] ≠ T.toList := fun h => hne h.symm
          clear h0 hb
          go_wp2_with fail
          go_roundw
          case rel => exact ⟨4 + 1, by omega, rfl, HN.out, by have := HB.out; (repeat' (first | exact Below.refl _ _ | assumption | refine Below.drew ?_ | refine below_drewN ?_ _ | refine below_new ?_ _ | refine below_set ?_ ?_ _ | refine below_then ?_ (by assumption) | refine below_drawn ?_ (by assumption) | exact Nat.le_refl _ | omega | (simp; done) | (simp; omega)))⟩
          case measure => simp [intOf]
      · have ix : ∀ W, (Instr.index 92 (.agg #[.string ⟨#[]⟩, .string ⟨#[]⟩, .string ⟨#[]⟩, .string ⟨#[]⟩, .string ⟨#[43]⟩, .string ⟨#[45]⟩, .string ⟨#[42]⟩, .string ⟨#[47]⟩, .string ⟨#[37]⟩, .string ⟨#[60]⟩, .string ⟨#[61]⟩, .string ⟨#[]⟩, .string ⟨#[97, 110, 100]⟩, .string ⟨#[111, 114]⟩]) (.int .i64 5)).run Tryd.prog W = .ok (.string ⟨#[45]⟩) W := fun _ => by kernel_rfl
        -- kind 5
        replace ev : _ = Value.int .i64 5 := ev
        subst ev
        by_cases h0 : t = [45]
        · obtain rfl : T = ⟨#[45]⟩ := by rw [HT.out, h0]
          by_cases h1 : (4 : Int) = (L : Int)
          · have HN := Lib.hid (show O = some 5 by
              rw [HO2.out]
              show (if pickB L t 5 = true then _ else _) = _
              rw [if_pos]
              · rfl
              · unfold pickB; rw [h0, ← h1]; decide)
            have c1 : wr.cell? ⟨2, 5, none⟩ = some (.int .i64 4) := HLW.out.cell 5 (by omega)
            have e1 : ((4 : Int) == (L : Int)) = true := by simpa using h1
            have gz : 2 < wr.heap.size := World.block_lt_of_cell? _ _ c1
            clear h0 hb
            have e2 : (L : Int) = 4 := h1.symm
            clear h1
            go_wp2_with fail
            go_ret2
            exact ⟨by rw [HN.out]; rfl, by have := HB.out; (repeat' (first | exact Below.refl _ _ | assumption | refine Below.drew ?_ | refine below_drewN ?_ _ | refine below_new ?_ _ | refine below_set ?_ ?_ _ | refine below_then ?_ (by assumption) | refine below_drawn ?_ (by assumption) | exact Nat.le_refl _ | omega | (simp; done) | (simp; omega)))⟩
          · have HN := Lib.hid (show O = findB L t (14 - 6) (5 + 1) by
              rw [HO2.out]
              show (if pickB L t 5 = true then _ else _) = _
              rw [if_neg]
              unfold pickB
              rw [decide_eq_false (show ¬ lvl (5 : Nat) = (L : Int) from h1)]; simp)
            have c1 : wr.cell? ⟨2, 5, none⟩ = some (.int .i64 4) := HLW.out.cell 5 (by omega)
            have e1 : ((4 : Int) == (L : Int)) = false := by simpa using h1
            have gz : 2 < wr.heap.size := World.block_lt_of_cell? _ _ c1
            clear h0 hb h1
            go_wp2_with fail
            go_roundw
            case rel => exact ⟨5 + 1, by omega, rfl, HN.out, by have := HB.out; (repeat' (first | exact Below.refl _ _ | assumption | refine Below.drew ?_ | refine below_drewN ?_ _ | refine below_new ?_ _ | refine below_set ?_ ?_ _ | refine below_then ?_ (by assumption) | refine below_drawn ?_ (by assumption) | exact Nat.le_refl _ | omega | (simp; done) | (simp; omega)))⟩
            case measure => simp [intOf]
        · have HN := Lib.hid (show O = findB L t (14 - 6) (5 + 1) by
            rw [HO2.out]
            show (if pickB L t 5 = true then _ else _) = _
            rw [if_neg]
            unfold pickB
            rw [decide_eq_false (show ¬ sgn (5 : Nat) = t from fun h => h0 h.symm)]; simp)
          have hne : T.toList ≠ [45] := by rw [HT.out, str_list]; simpa using h0
          have e1 : (T.toList == [45]) = false := by simpa using hne
          have e2 : (([45] : List UInt8) == T.toList) = false := by rw [beq_eq_false_iff_ne]; exact fun h => hne h.symm
          have e3 : [45] ≠ T.toList := fun h => hne h.symm
          clear h0 hb
          go_wp2_with fail
          go_roundw
          case rel => exact ⟨5 + 1, by omega, rfl, HN.out, by have := HB.out; (repeat' (first | exact Below.refl _ _ | assumption | refine Below.drew ?_ | refine below_drewN ?_ _ | refine below_new ?_ _ | refine below_set ?_ ?_ _ | refine below_then ?_ (by assumption) | refine below_drawn ?_ (by assumption) | exact Nat.le_refl _ | omega | (simp; done) | (simp; omega)))⟩
          case measure => simp [intOf]
      · have ix : ∀ W, (Instr.index 92 (.agg #[.string ⟨#[]⟩, .string ⟨#[]⟩, .string ⟨#[]⟩, .string ⟨#[]⟩, .string ⟨#[43]⟩, .string ⟨#[45]⟩, .string ⟨#[42]⟩, .string ⟨#[47]⟩, .string ⟨#[37]⟩, .string ⟨#[60]⟩, .string ⟨#[61]⟩, .string ⟨#[]⟩, .string ⟨#[97, 110, 100]⟩, .string ⟨#[111, 114]⟩]) (.int .i64 6)).run Tryd.prog W = .ok (.string ⟨#[42]⟩) W := fun _ => by kernel_rfl
        -- kind 6
        replace ev : _ = Value.int .i64 6 := ev
        subst ev
        by_cases h0 : t = [42]
        · obtain rfl : T = ⟨#[42]⟩ := by rw [HT.out, h0]
          by_cases h1 : (5 : Int) = (L : Int)
          · have HN := Lib.hid (show O = some 6 by
              rw [HO2.out]
              show (if pickB L t 6 = true then _ else _) = _
              rw [if_pos]
              · rfl
              · unfold pickB; rw [h0, ← h1]; decide)
            have c1 : wr.cell? ⟨2, 6, none⟩ = some (.int .i64 5) := HLW.out.cell 6 (by omega)
            have e1 : ((5 : Int) == (L : Int)) = true := by simpa using h1
            have gz : 2 < wr.heap.size := World.block_lt_of_cell? _ _ c1
            clear h0 hb
            have e2 : (L : Int) = 5 := h1.symm
            clear h1
            go_wp2_with fail
            go_ret2
            exact ⟨by rw [HN.out]; rfl, by have := HB.out; (repeat' (first | exact Below.refl _ _ | assumption | refine Below.drew ?_ | refine below_drewN ?_ _ | refine below_new ?_ _ | refine below_set ?_ ?_ _ | refine below_then ?_ (by assumption) | refine below_drawn ?_ (by assumption) | exact Nat.le_refl _ | omega | (simp; done) | (simp; omega)))⟩
          · have HN := Lib.hid (show O = findB L t (14 - 7) (6 + 1) by
              rw [HO2.out]
              show (if pickB L t 6 = true then _ else _) = _
              rw [if_neg]
              unfold pickB
              rw [decide_eq_false (show ¬ lvl (6 : Nat) = (L : Int) from h1)]; simp)
            have c1 : wr.cell? ⟨2, 6, none⟩ = some (.int .i64 5) := HLW.out.cell 6 (by omega)
            have e1 : ((5 : Int) == (L : Int)) = false := by simpa using h1
            have gz : 2 < wr.heap.size := World.block_lt_of_cell? _ _ c1
            clear h0 hb h1
            go_wp2_with fail
            go_roundw
            case rel => exact ⟨6 + 1, by omega, rfl, HN.out, by have := HB.out; (repeat' (first | exact Below.refl _ _ | assumption | refine Below.drew ?_ | refine below_drewN ?_ _ | refine below_new ?_ _ | refine below_set ?_ ?_ _ | refine below_then ?_ (by assumption) | refine below_drawn ?_ (by assumption) | exact Nat.le_refl _ | omega | (simp; done) | (simp; omega)))⟩
            case measure => simp [intOf]
        · have HN := Lib.hid (show O = findB L t (14 - 7) (6 + 1) by
            rw [HO2.out]
            show (if pickB L t 6 = true then _ else _) = _
            rw [if_neg]
            unfold pickB
            rw [decide_eq_false (show ¬ sgn (6 : Nat) = t from fun h => h0 h.symm)]; simp)
          have hne : T.toList ≠ [42] := by rw [HT.out, str_list]; simpa using h0
          have e1 : (T.toList == [42]) = false := by simpa using hne
          have e2 : (([42] : List UInt8) == T.toList) = false := by rw [beq_eq_false_iff_ne]; exact fun h => hne h.symm
          have e3 : [42] ≠ T.toList := fun h => hne h.symm
          clear h0 hb
          go_wp2_with fail
          go_roundw
          case rel => exact ⟨6 + 1, by omega, rfl, HN.out, by have := HB.out; (repeat' (first | exact Below.refl _ _ | assumption | refine Below.drew ?_ | refine below_drewN ?_ _ | refine below_new ?_ _ | refine below_set ?_ ?_ _ | refine below_then ?_ (by assumption) | refine below_drawn ?_ (by assumption) | exact Nat.le_refl _ | omega | (simp; done) | (simp; omega)))⟩
          case measure => simp [intOf]
      · have ix : ∀ W, (Instr.index 92 (.agg #[.string ⟨#[]⟩, .string ⟨#[]⟩, .string ⟨#[]⟩, .string ⟨#[]⟩, .string ⟨#[43]⟩, .string ⟨#[45]⟩, .string ⟨#[42]⟩, .string ⟨#[47]⟩, .string ⟨#[37]⟩, .string ⟨#[60]⟩, .string ⟨#[61]⟩, .string ⟨#[]⟩, .string ⟨#[97, 110, 100]⟩, .string ⟨#[111, 114]⟩]) (.int .i64 7)).run Tryd.prog W = .ok (.string ⟨#[47]⟩) W := fun _ => by kernel_rfl
        -- kind 7
        replace ev : _ = Value.int .i64 7 := ev
        subst ev
        by_cases h0 : t = [47]
        · obtain rfl : T = ⟨#[47]⟩ := by rw [HT.out, h0]
          by_cases h1 : (5 : Int) = (L : Int)
          · have HN := Lib.hid (show O = some 7 by
              rw [HO2.out]
              show (if pickB L t 7 = true then _ else _) = _
              rw [if_pos]
              · rfl
              · unfold pickB; rw [h0, ← h1]; decide)
            have c1 : wr.cell? ⟨2, 7, none⟩ = some (.int .i64 5) := HLW.out.cell 7 (by omega)
            have e1 : ((5 : Int) == (L : Int)) = true := by simpa using h1
            have gz : 2 < wr.heap.size := World.block_lt_of_cell? _ _ c1
            clear h0 hb
            have e2 : (L : Int) = 5 := h1.symm
            clear h1
            go_wp2_with fail
            go_ret2
            exact ⟨by rw [HN.out]; rfl, by have := HB.out; (repeat' (first | exact Below.refl _ _ | assumption | refine Below.drew ?_ | refine below_drewN ?_ _ | refine below_new ?_ _ | refine below_set ?_ ?_ _ | refine below_then ?_ (by assumption) | refine below_drawn ?_ (by assumption) | exact Nat.le_refl _ | omega | (simp; done) | (simp; omega)))⟩
          · have HN := Lib.hid (show O = findB L t (14 - 8) (7 + 1) by
              rw [HO2.out]
              show (if pickB L t 7 = true then _ else _) = _
              rw [if_neg]
              unfold pickB
              rw [decide_eq_false (show ¬ lvl (7 : Nat) = (L : Int) from h1)]; simp)
            have c1 : wr.cell? ⟨2, 7, none⟩ = some (.int .i64 5) := HLW.out.cell 7 (by omega)
            have e1 : ((5 : Int) == (L : Int)) = false := by simpa using h1
            have gz : 2 < wr.heap.size := World.block_lt_of_cell? _ _ c1
            clear h0 hb h1
            go_wp2_with fail
            go_roundw
            case rel => exact ⟨7 + 1, by omega, rfl, HN.out, by have := HB.out; (repeat' (first | exact Below.refl _ _ | assumption | refine Below.drew ?_ | refine below_drewN ?_ _ | refine below_new ?_ _ | refine below_set ?_ ?_ _ | refine below_then ?_ (by assumption) | refine below_drawn ?_ (by assumption) | exact Nat.le_refl _ | omega | (simp; done) | (simp; omega)))⟩
            case measure => simp [intOf]
        · have HN := Lib.hid (show O = findB L t (14 - 8) (7 + 1) by
            rw [HO2.out]
            show (if pickB L t 7 = true then _ else _) = _
            rw [if_neg]
            unfold pickB
            rw [decide_eq_false (show ¬ sgn (7 : Nat) = t from fun h => h0 h.symm)]; simp)
          have hne : T.toList ≠ [47] := by rw [HT.out, str_list]; simpa using h0
          have e1 : (T.toList == [47]) = false := by simpa using hne
          have e2 : (([47] : List UInt8) == T.toList) = false := by rw [beq_eq_false_iff_ne]; exact fun h => hne h.symm
          have e3 : [47] ≠ T.toList := fun h => hne h.symm
          clear h0 hb
          go_wp2_with fail
          go_roundw
          case rel => exact ⟨7 + 1, by omega, rfl, HN.out, by have := HB.out; (repeat' (first | exact Below.refl _ _ | assumption | refine Below.drew ?_ | refine below_drewN ?_ _ | refine below_new ?_ _ | refine below_set ?_ ?_ _ | refine below_then ?_ (by assumption) | refine below_drawn ?_ (by assumption) | exact Nat.le_refl _ | omega | (simp; done) | (simp; omega)))⟩
          case measure => simp [intOf]
      · have ix : ∀ W, (Instr.index 92 (.agg #[.string ⟨#[]⟩, .string ⟨#[]⟩, .string ⟨#[]⟩, .string ⟨#[]⟩, .string ⟨#[43]⟩, .string ⟨#[45]⟩, .string ⟨#[42]⟩, .string ⟨#[47]⟩, .string ⟨#[37]⟩, .string ⟨#[60]⟩, .string ⟨#[61]⟩, .string ⟨#[]⟩, .string ⟨#[97, 110, 100]⟩, .string ⟨#[111, 114]⟩]) (.int .i64 8)).run Tryd.prog W = .ok (.string ⟨#[37]⟩) W := fun _ => by kernel_rfl
        -- kind 8
        replace ev : _ = Value.int .i64 8 := ev
        subst ev
        by_cases h0 : t = [37]
        · obtain rfl : T = ⟨#[37]⟩ := by rw [HT.out, h0]
          by_cases h1 : (5 : Int) = (L : Int)
          · have HN := Lib.hid (show O = some 8 by
              rw [HO2.out]
              show (if pickB L t 8 = true then _ else _) = _
              rw [if_pos]
              · rfl
              · unfold pickB; rw [h0, ← h1]; decide)
            have c1 : wr.cell? ⟨2, 8, none⟩ = some (.int .i64 5) := HLW.out.cell 8 (by omega)
            have e1 : ((5 : Int) == (L : Int)) = true := by simpa using h1
            have gz : 2 < wr.heap.size := World.block_lt_of_cell? _ _ c1
            clear h0 hb
            have e2 : (L : Int) = 5 := h1.symm
            clear h1
            go_wp2_with fail
            go_ret2
            exact ⟨by rw [HN.out]; rfl, by have := HB.out; (repeat' (first | exact Below.refl _ _ | assumption | refine Below.drew ?_ | refine below_drewN ?_ _ | refine below_new ?_ _ | refine below_set ?_ ?_ _ | refine below_then ?_ (by assumption) | refine below_drawn ?_ (by assumption) | exact Nat.le_refl _ | omega | (simp; done) | (simp; omega)))⟩
          · have HN := Lib.hid (show O = findB L t (14 - 9) (8 + 1) by
              rw [HO2.out]
              show (if pickB L t 8 = true then _ else _) = _
              rw [if_neg]
              unfold pickB
              rw [decide_eq_false (show ¬ lvl (8 : Nat) = (L : Int) from h1)]; simp)
            have c1 : wr.cell? ⟨2, 8, none⟩ = some (.int .i64 5) := HLW.out.cell 8 (by omega)
            have e1 : ((5 : Int) == (L : Int)) = false := by simpa using h1
            have gz : 2 < wr.heap.size := World.block_lt_of_cell? _ _ c1
            clear h0 hb h1
            go_wp2_with fail
            go_roundw
            case rel => exact ⟨8 + 1, by omega, rfl, HN.out, by have := HB.out; (repeat' (first | exact Below.refl _ _ | assumption | refine Below.drew ?_ | refine below_drewN ?_ _ | refine below_new ?_ _ | refine below_set ?_ ?_ _ | refine below_then ?_ (by assumption) | refine below_drawn ?_ (by assumption) | exact Nat.le_refl _ | omega | (simp; done) | (simp; omega)))⟩
            case measure => simp [intOf]
        · have HN := Lib.hid (show O = findB L t (14 - 9) (8 + 1) by
            rw [HO2.out]
            show (if pickB L t 8 = true then _ else _) = _
            rw [if_neg]
            unfold pickB
            rw [decide_eq_false (show ¬ sgn (8 : Nat) = t from fun h => h0 h.symm)]; simp)
          have hne : T.toList ≠ [37] := by rw [HT.out, str_list]; simpa using h0
          have e1 : (T.toList == [37]) = false := by simpa using hne
          have e2 : (([37] : List UInt8) == T.toList) = false := by rw [beq_eq_false_iff_ne]; exact fun h => hne h.symm
          have e3 : [37] ≠ T.toList := fun h => hne h.symm
          clear h0 hb
          go_wp2_with fail
          go_roundw
          case rel => exact ⟨8 + 1, by omega, rfl, HN.out, by have := HB.out; (repeat' (first | exact Below.refl _ _ | assumption | refine Below.drew ?_ | refine below_drewN ?_ _ | refine below_new ?_ _ | refine below_set ?_ ?_ _ | refine below_then ?_ (by assumption) | refine below_drawn ?_ (by assumption) | exact Nat.le_refl _ | omega | (simp; done) | (simp; omega)))⟩
          case measure => simp [intOf]
      · have ix : ∀ W, (Instr.index 92 (.agg #[.string ⟨#[]⟩, .string ⟨#[]⟩, .string ⟨#[]⟩, .string ⟨#[]⟩, .string ⟨#[43]⟩, .string ⟨#[45]⟩, .string ⟨#[42]⟩, .string ⟨#[47]⟩, .string ⟨#[37]⟩, .string ⟨#[60]⟩, .string ⟨#[61]⟩, .string ⟨#[]⟩, .string ⟨#[97, 110, 100]⟩, .string ⟨#[111, 114]⟩]) (.int .i64 9)).run Tryd.prog W = .ok (.string ⟨#[60]⟩) W := fun _ => by kernel_rfl
        -- kind 9
        replace ev : _ = Value.int .i64 9 := ev
        subst ev
        by_cases h0 : t = [60]
        · obtain rfl : T = ⟨#[60]⟩ := by rw [HT.out, h0]
          by_cases h1 : (3 : Int) = (L : Int)
          · have HN := Lib.hid (show O = some 9 by
              rw [HO2.out]
              show (if pickB L t 9 = true then _ else _) = _
              rw [if_pos]
              · rfl
              · unfold pickB; rw [h0, ← h1]; decide)
            have c1 : wr.cell? ⟨2, 9, none⟩ = some (.int .i64 3) := HLW.out.cell 9 (by omega)
            have e1 : ((3 : Int) == (L : Int)) = true := by simpa using h1
            have gz : 2 < wr.heap.size := World.block_lt_of_cell? _ _ c1
            clear h0 hb
            have e2 : (L : Int) = 3 := h1.symm
            clear h1
            go_wp2_with fail
            go_ret2
            exact ⟨by rw [HN.out]; rfl, by have := HB.out; (repeat' (first | exact Below.refl _ _ | assumption | refine Below.drew ?_ | refine below_drewN ?_ _ | refine below_new ?_ _ | refine below_set ?_ ?_ _ | refine below_then ?_ (by assumption) | refine below_drawn ?_ (by assumption) | exact Nat.le_refl _ | omega | (simp; done) | (simp; omega)))⟩
          · have HN := Lib.hid (show O = findB L t (14 - 10) (9 + 1) by
              rw [HO2.out]
              show (if pickB L t 9 = true then _ else _) = _
              rw [if_neg]
              unfold pickB
              rw [decide_eq_false (show ¬ lvl (9 : Nat) = (L : Int) from h1)]; simp)
            have c1 : wr.cell? ⟨2, 9, none⟩ = some (.int .i64 3) := HLW.out.cell 9 (by omega)
            have e1 : ((3 : Int) == (L : Int)) = false := by simpa using h1
            have gz : 2 < wr.heap.size := World.block_lt_of_cell? _ _ c1
            clear h0 hb h1
            go_wp2_with fail
            go_roundw
            case rel => exact ⟨9 + 1, by omega, rfl, HN.out, by have := HB.out; (repeat' (first | exact Below.refl _ _ | assumption | refine Below.drew ?_ | refine below_drewN ?_ _ | refine below_new ?_ _ | refine below_set ?_ ?_ _ | refine below_then ?_ (by assumption) | refine below_drawn ?_ (by assumption) | exact Nat.le_refl _ | omega | (simp; done) | (simp; omega)))⟩
            case measure => simp [intOf]
        · have HN := Lib.hid (show O = findB L t (14 - 10) (9 + 1) by
            rw [HO2.out]
            show (if pickB L t 9 = true then _ else _) = _
            rw [if_neg]
            unfold pickB
            rw [decide_eq_false (show ¬ sgn (9 : Nat) = t from fun h => h0 h.symm)]; simp)
          have hne : T.toList ≠ [60] := by rw [HT.out, str_list]; simpa using h0
          have e1 : (T.toList == [60]) = false := by simpa using hne
          have e2 : (([60] : List UInt8) == T.toList) = false := by rw [beq_eq_false_iff_ne]; exact fun h => hne h.symm
          have e3 : [60] ≠ T.toList := fun h => hne h.symm
          clear h0 hb
          go_wp2_with fail
          go_roundw
          case rel => exact ⟨9 + 1, by omega, rfl, HN.out, by have := HB.out; (repeat' (first | exact Below.refl _ _ | assumption | refine Below.drew ?_ | refine below_drewN ?_ _ | refine below_new ?_ _ | refine below_set ?_ ?_ _ | refine below_then ?_ (by assumption) | refine below_drawn ?_ (by assumption) | exact Nat.le_refl _ | omega | (simp; done) | (simp; omega)))⟩
          case measure => simp [intOf]
      · have ix : ∀ W, (Instr.index 92 (.agg #[.string ⟨#[]⟩, .string ⟨#[]⟩, .string ⟨#[]⟩, .string ⟨#[]⟩, .string ⟨#[43]⟩, .string ⟨#[45]⟩, .string ⟨#[42]⟩, .string ⟨#[47]⟩, .string ⟨#[37]⟩, .string ⟨#[60]⟩, .string ⟨#[61]⟩, .string ⟨#[]⟩, .string ⟨#[97, 110, 100]⟩, .string ⟨#[111, 114]⟩]) (.int .i64 10)).run Tryd.prog W = .ok (.string ⟨#[61]⟩) W := fun _ => by kernel_rfl
        -- kind 10
        replace ev : _ = Value.int .i64 10 := ev
        subst ev
        by_cases h0 : t = [61]
        · obtain rfl : T = ⟨#[61]⟩ := by rw [HT.out, h0]
          by_cases h1 : (3 : Int) = (L : Int)
          · have HN := Lib.hid (show O = some 10 by
              rw [HO2.out]
              show (if pickB L t 10 = true then _ else _) = _
              rw [if_pos]
              · rfl
              · unfold pickB; rw [h0, ← h1]; decide)
            have c1 : wr.cell? ⟨2, 10, none⟩ = some (.int .i64 3) := HLW.out.cell 10 (by omega)
            have e1 : ((3 : Int) == (L : Int)) = true := by simpa using h1
            have gz : 2 < wr.heap.size := World.block_lt_of_cell? _ _ c1
            clear h0 hb
            have e2 : (L : Int) = 3 := h1.symm
            clear h1
            go_wp2_with fail
            go_ret2
            exact ⟨by rw [HN.out]; rfl, by have := HB.out; (repeat' (first | exact Below.refl _ _ | assumption | refine Below.drew ?_ | refine below_drewN ?_ _ | refine below_new ?_ _ | refine below_set ?_ ?_ _ | refine below_then ?_ (by assumption) | refine below_drawn ?_ (by assumption) | exact Nat.le_refl _ | omega | (simp; done) | (simp; omega)))⟩
          · have HN := Lib.hid (show O = findB L t (14 - 11) (10 + 1) by
              rw [HO2.out]
              show (if pickB L t 10 = true then _ else _) = _
              rw [if_neg]
              unfold pickB
              rw [decide_eq_false (show ¬ lvl (10 : Nat) = (L : Int) from h1)]; simp)
            have c1 : wr.cell? ⟨2, 10, none⟩ = some (.int .i64 3) := HLW.out.cell 10 (by omega)
            have e1 : ((3 : Int) == (L : Int)) = false := by simpa using h1
            have gz : 2 < wr.heap.size := World.block_lt_of_cell? _ _ c1
            clear h0 hb h1
            go_wp2_with fail
            go_roundw
            case rel => exact ⟨10 + 1, by omega, rfl, HN.out, by have := HB.out; (repeat' (first | exact Below.refl _ _ | assumption | refine Below.drew ?_ | refine below_drewN ?_ _ | refine below_new ?_ _ | refine below_set ?_ ?_ _ | refine below_then ?_ (by assumption) | refine below_drawn ?_ (by assumption) | exact Nat.le_refl _ | omega | (simp; done) | (simp; omega)))⟩
            case measure => simp [intOf]
        · have HN := Lib.hid (show O = findB L t (14 - 11) (10 + 1) by
            rw [HO2.out]
            show (if pickB L t 10 = true then _ else _) = _
            rw [if_neg]
            unfold pickB
            rw [decide_eq_false (show ¬ sgn (10 : Nat) = t from fun h => h0 h.symm)]; simp)
          have hne : T.toList ≠ [61] := by rw [HT.out, str_list]; simpa using h0
          have e1 : (T.toList == [61]) = false := by simpa using hne
          have e2 : (([61] : List UInt8) == T.toList) = false := by rw [beq_eq_false_iff_ne]; exact fun h => hne h.symm
          have e3 : [61] ≠ T.toList := fun h => hne h.symm
          clear h0 hb
          go_wp2_with fail
          go_roundw
          case rel => exact ⟨10 + 1, by omega, rfl, HN.out, by have := HB.out; (repeat' (first | exact Below.refl _ _ | assumption | refine Below.drew ?_ | refine below_drewN ?_ _ | refine below_new ?_ _ | refine below_set ?_ ?_ _ | refine below_then ?_ (by assumption) | refine below_drawn ?_ (by assumption) | exact Nat.le_refl _ | omega | (simp; done) | (simp; omega)))⟩
          case measure => simp [intOf]
      · have ix : ∀ W, (Instr.index 92 (.agg #[.string ⟨#[]⟩, .string ⟨#[]⟩, .string ⟨#[]⟩, .string ⟨#[]⟩, .string ⟨#[43]⟩, .string ⟨#[45]⟩, .string ⟨#[42]⟩, .string ⟨#[47]⟩, .string ⟨#[37]⟩, .string ⟨#[60]⟩, .string ⟨#[61]⟩, .string ⟨#[]⟩, .string ⟨#[97, 110, 100]⟩, .string ⟨#[111, 114]⟩]) (.int .i64 11)).run Tryd.prog W = .ok (.string ⟨#[]⟩) W := fun _ => by kernel_rfl
        -- kind 11
        replace ev : _ = Value.int .i64 11 := ev
        subst ev
        have HN := Lib.hid (show O = findB L t (14 - 12) (11 + 1) by
          rw [HO2.out]
          show (if pickB L t 11 = true then _ else _) = _
          rw [if_neg]
          unfold pickB
          rw [show sgn (11 : Nat) = [] from by decide]
          by_cases h : ([] : Tok) = t
          · rw [← h]; simp
          · rw [decide_eq_false h]; simp)
        by_cases h0 : T.size = 0
        · obtain rfl := str_empty T h0
          clear h0 hb
          go_wp2_with fail
          go_roundw
          case rel => exact ⟨11 + 1, by omega, rfl, HN.out, by have := HB.out; (repeat' (first | exact Below.refl _ _ | assumption | refine Below.drew ?_ | refine below_drewN ?_ _ | refine below_new ?_ _ | refine below_set ?_ ?_ _ | refine below_then ?_ (by assumption) | refine below_drawn ?_ (by assumption) | exact Nat.le_refl _ | omega | (simp; done) | (simp; omega)))⟩
          case measure => simp [intOf]
        · have e1 := str_ne T (by omega)
          have e2 : (T.toList == []) = false := by simpa using e1
          have e3 : (([] : List UInt8) == T.toList) = false := by cases hh : T.toList with | nil => rw [hh] at e1; cases e1 | cons _ _ => rfl
          have e4 : T.toList ≠ [] := by simpa using e1
          have e5 : [] ≠ T.toList := fun h => e4 h.symm
          clear h0 hb
          go_wp2_with fail
          go_roundw
          case rel => exact ⟨11 + 1, by omega, rfl, HN.out, by have := HB.out; (repeat' (first | exact Below.refl _ _ | assumption | refine Below.drew ?_ | refine below_drewN ?_ _ | refine below_new ?_ _ | refine below_set ?_ ?_ _ | refine below_then ?_ (by assumption) | refine below_drawn ?_ (by assumption) | exact Nat.le_refl _ | omega | (simp; done) | (simp; omega)))⟩
          case measure => simp [intOf]
      · have ix : ∀ W, (Instr.index 92 (.agg #[.string ⟨#[]⟩, .string ⟨#[]⟩, .string ⟨#[]⟩, .string ⟨#[]⟩, .string ⟨#[43]⟩, .string ⟨#[45]⟩, .string ⟨#[42]⟩, .string ⟨#[47]⟩, .string ⟨#[37]⟩, .string ⟨#[60]⟩, .string ⟨#[61]⟩, .string ⟨#[]⟩, .string ⟨#[97, 110, 100]⟩, .string ⟨#[111, 114]⟩]) (.int .i64 12)).run Tryd.prog W = .ok (.string ⟨#[97, 110, 100]⟩) W := fun _ => by kernel_rfl
        -- kind 12
        replace ev : _ = Value.int .i64 12 := ev
        subst ev
        by_cases h0 : t = [97, 110, 100]
        · obtain rfl : T = ⟨#[97, 110, 100]⟩ := by rw [HT.out, h0]
          by_cases h1 : (1 : Int) = (L : Int)
          · have HN := Lib.hid (show O = some 12 by
              rw [HO2.out]
              show (if pickB L t 12 = true then _ else _) = _
              rw [if_pos]
              · rfl
              · unfold pickB; rw [h0, ← h1]; decide)
            have c1 : wr.cell? ⟨2, 12, none⟩ = some (.int .i64 1) := HLW.out.cell 12 (by omega)
            have e1 : ((1 : Int) == (L : Int)) = true := by simpa using h1
            have gz : 2 < wr.heap.size := World.block_lt_of_cell? _ _ c1
            clear h0 hb
            have e2 : (L : Int) = 1 := h1.symm
            clear h1
            go_wp2_with fail
            go_ret2
            exact ⟨by rw [HN.out]; rfl, by have := HB.out; (repeat' (first | exact Below.refl _ _ | assumption | refine Below.drew ?_ | refine below_drewN ?_ _ | refine below_new ?_ _ | refine below_set ?_ ?_ _ | refine below_then ?_ (by assumption) | refine below_drawn ?_ (by assumption) | exact Nat.le_refl _ | omega | (simp; done) | (simp; omega)))⟩
          · have HN := Lib.hid (show O = findB L t (14 - 13) (12 + 1) by
              rw [HO2.out]
              show (if pickB L t 12 = true then _ else _) = _
              rw [if_neg]
              unfold pickB
              rw [decide_eq_false (show ¬ lvl (12 : Nat) = (L : Int) from h1)]; simp)
            have c1 : wr.cell? ⟨2, 12, none⟩ = some (.int .i64 1) := HLW.out.cell 12 (by omega)
            have e1 : ((1 : Int) == (L : Int)) = false := by simpa using h1
            have gz : 2 < wr.heap.size := World.block_lt_of_cell? _ _ c1
            clear h0 hb h1
            go_wp2_with fail
            go_roundw
            case rel => exact ⟨12 + 1, by omega, rfl, HN.out, by have := HB.out; (repeat' (first | exact Below.refl _ _ | assumption | refine Below.drew ?_ | refine below_drewN ?_ _ | refine below_new ?_ _ | refine below_set ?_ ?_ _ | refine below_then ?_ (by assumption) | refine below_drawn ?_ (by assumption) | exact Nat.le_refl _ | omega | (simp; done) | (simp; omega)))⟩
            case measure => simp [intOf]
        · have HN := Lib.hid (show O = findB L t (14 - 13) (12 + 1) by
            rw [HO2.out]
            show (if pickB L t 12 = true then _ else _) = _
            rw [if_neg]
            unfold pickB
            rw [decide_eq_false (show ¬ sgn (12 : Nat) = t from fun h => h0 h.symm)]; simp)
          have hne : T.toList ≠ [97, 110, 100] := by rw [HT.out, str_list]; simpa using h0
          have e1 : (T.toList == [97, 110, 100]) = false := by simpa using hne
          have e2 : (([97, 110, 100] : List UInt8) == T.toList) = false := by rw [beq_eq_false_iff_ne]; exact fun h => hne h.symm
          have e3 : [97, 110, 100] ≠ T.toList := fun h => hne h.symm
          clear h0 hb
          go_wp2_with fail
          go_roundw
          case rel => exact ⟨12 + 1, by omega, rfl, HN.out, by have := HB.out; (repeat' (first | exact Below.refl _ _ | assumption | refine Below.drew ?_ | refine below_drewN ?_ _ | refine below_new ?_ _ | refine below_set ?_ ?_ _ | refine below_then ?_ (by assumption) | refine below_drawn ?_ (by assumption) | exact Nat.le_refl _ | omega | (simp; done) | (simp; omega)))⟩
          case measure => simp [intOf]
      · have ix : ∀ W, (Instr.index 92 (.agg #[.string ⟨#[]⟩, .string ⟨#[]⟩, .string ⟨#[]⟩, .string ⟨#[]⟩, .string ⟨#[43]⟩, .string ⟨#[45]⟩, .string ⟨#[42]⟩, .string ⟨#[47]⟩, .string ⟨#[37]⟩, .string ⟨#[60]⟩, .string ⟨#[61]⟩, .string ⟨#[]⟩, .string ⟨#[97, 110, 100]⟩, .string ⟨#[111, 114]⟩]) (.int .i64 13)).run Tryd.prog W = .ok (.string ⟨#[111, 114]⟩) W := fun _ => by kernel_rfl
        -- kind 13
        replace ev : _ = Value.int .i64 13 := ev
        subst ev
        by_cases h0 : t = [111, 114]
        · obtain rfl : T = ⟨#[111, 114]⟩ := by rw [HT.out, h0]
          by_cases h1 : (0 : Int) = (L : Int)
          · have HN := Lib.hid (show O = some 13 by
              rw [HO2.out]
              show (if pickB L t 13 = true then _ else _) = _
              rw [if_pos]
              · rfl
              · unfold pickB; rw [h0, ← h1]; decide)
            have c1 : wr.cell? ⟨2, 13, none⟩ = some (.int .i64 0) := HLW.out.cell 13 (by omega)
            have e1 : ((0 : Int) == (L : Int)) = true := by simpa using h1
            have gz : 2 < wr.heap.size := World.block_lt_of_cell? _ _ c1
            clear h0 hb
            have e2 : (L : Int) = 0 := h1.symm
            clear h1
            go_wp2_with fail
            go_ret2
            exact ⟨by rw [HN.out]; rfl, by have := HB.out; (repeat' (first | exact Below.refl _ _ | assumption | refine Below.drew ?_ | refine below_drewN ?_ _ | refine below_new ?_ _ | refine below_set ?_ ?_ _ | refine below_then ?_ (by assumption) | refine below_drawn ?_ (by assumption) | exact Nat.le_refl _ | omega | (simp; done) | (simp; omega)))⟩
          · have HN := Lib.hid (show O = findB L t (14 - 14) (13 + 1) by
              rw [HO2.out]
              show (if pickB L t 13 = true then _ else _) = _
              rw [if_neg]
              unfold pickB
              rw [decide_eq_false (show ¬ lvl (13 : Nat) = (L : Int) from h1)]; simp)
            have c1 : wr.cell? ⟨2, 13, none⟩ = some (.int .i64 0) := HLW.out.cell 13 (by omega)
            have e1 : ((0 : Int) == (L : Int)) = false := by simpa using h1
            have gz : 2 < wr.heap.size := World.block_lt_of_cell? _ _ c1
            clear h0 hb h1
            go_wp2_with fail
            go_roundw
            case rel => exact ⟨13 + 1, by omega, rfl, HN.out, by have := HB.out; (repeat' (first | exact Below.refl _ _ | assumption | refine Below.drew ?_ | refine below_drewN ?_ _ | refine below_new ?_ _ | refine below_set ?_ ?_ _ | refine below_then ?_ (by assumption) | refine below_drawn ?_ (by assumption) | exact Nat.le_refl _ | omega | (simp; done) | (simp; omega)))⟩
            case measure => simp [intOf]
        · have HN := Lib.hid (show O = findB L t (14 - 14) (13 + 1) by
            rw [HO2.out]
            show (if pickB L t 13 = true then _ else _) = _
            rw [if_neg]
            unfold pickB
            rw [decide_eq_false (show ¬ sgn (13 : Nat) = t from fun h => h0 h.symm)]; simp)
          have hne : T.toList ≠ [111, 114] := by rw [HT.out, str_list]; simpa using h0
          have e1 : (T.toList == [111, 114]) = false := by simpa using hne
          have e2 : (([111, 114] : List UInt8) == T.toList) = false := by rw [beq_eq_false_iff_ne]; exact fun h => hne h.symm
          have e3 : [111, 114] ≠ T.toList := fun h => hne h.symm
          clear h0 hb
          go_wp2_with fail
          go_roundw
          case rel => exact ⟨13 + 1, by omega, rfl, HN.out, by have := HB.out; (repeat' (first | exact Below.refl _ _ | assumption | refine Below.drew ?_ | refine below_drewN ?_ _ | refine below_new ?_ _ | refine below_set ?_ ?_ _ | refine below_then ?_ (by assumption) | refine below_drawn ?_ (by assumption) | exact Nat.le_refl _ | omega | (simp; done) | (simp; omega)))⟩
          case measure => simp [intOf]
    · obtain rfl : k = 14 := by omega
      subst ev
      have HN := Lib.hid (show O = none by rw [HO2.out]; rfl)
      clear hlt hb
      go_wp2_with fail
      go_ret2
      exact ⟨by rw [HN.out]; rfl, by have := HB.out; (repeat' (first | exact Below.refl _ _ | assumption | refine Below.drew ?_ | refine below_drewN ?_ _ | refine below_new ?_ _ | refine below_set ?_ ?_ _ | refine below_then ?_ (by assumption) | refine below_drawn ?_ (by assumption) | exact Nat.le_refl _ | omega | (simp; done) | (simp; omega)))⟩
end Go.Proofs.YtchahccnmjaejacDoor
