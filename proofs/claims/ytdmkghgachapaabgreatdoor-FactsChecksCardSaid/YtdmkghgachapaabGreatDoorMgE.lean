/- Several texts in one: Par5, Par6, Par7. -/
import Derived.Test.YtdmkghgachapaabGreatDoorPar4
import Derived.Test.YtdmkghgachapaabGreatDoorMg3
set_option linter.unusedSimpArgs false
namespace Go.Proofs.YtdmkghgachapaabGreatDoor
set_option linter.unusedVariables false
set_option maxRecDepth 100000
open Go.RowKit Go.Shelf
theorem natP_cases (l : List Tok) : (∃ c, natP l = .bad c) ∨ ∃ n, natP l = .good (n, l.tail) := by
  unfold natP
  split
  · exact .inl ⟨4, rfl⟩
  · split
    · exact .inl ⟨2, rfl⟩
    · exact .inr ⟨_, rfl⟩
theorem natP_in {l : List Tok} {p : Int × List Tok} (h : natP l = .good p) (hok : okT (hd l)) : 0 ≤ p.1 ∧ p.1 ≤ 9999999999 := by
  unfold natP at h
  by_cases h1 : isDig (hd l) = false
  · rw [if_pos h1] at h; cases h
  rw [if_neg h1] at h
  by_cases h2 : 10 < (hd l).length
  · rw [if_pos h2] at h; cases h
  rw [if_neg h2] at h
  injection h with h
  subst h
  have := num_tok (by simpa using h1) hok h2
  exact ⟨this.2.1, this.2.2.1⟩
theorem signP_in {l : List Tok} {p : Int × List Tok} (h : signP l = .good p) (hok : ∀ t ∈ l, okT t) : -9999999999 ≤ p.1 ∧ p.1 ≤ 9999999999 := by
  have hh : ∀ m : List Tok, (∀ t ∈ m, okT t) → okT (hd m) := fun m hm => by
    cases m with
    | nil => rintro ⟨c, r, e, _⟩; cases e
    | cons t r => exact hm t (by simp)
  unfold signP at h
  by_cases h1 : hd l = [45]
  · rw [if_pos h1] at h
    rcases natP_cases l.tail with ⟨c, e⟩ | ⟨n, e⟩
    · rw [e] at h; cases h
    · have := natP_in e (hh _ fun t ht => hok t (List.mem_of_mem_tail ht))
      rw [e] at h
      injection h with h
      subst h
      simp only at this ⊢
      omega
  · rw [if_neg h1] at h
    have := natP_in h (hh l hok)
    omega
set_option maxHeartbeats 4000000 in
theorem rd_number {S : ByteArray} {g o : Nat} {l : List Tok} {w : World} (h : RdAt w g S l o) (hS : S.size ≤ 140737488355328) :
    Calls Tryz.prog 127 #[.pointer (some ⟨g, 0, none⟩)] w (RdPost g S o (.int .i64 0) (fun n => .int .i64 n) w (signP l)) := by
  have CT := Lib.hid (show Calls Tryz.prog 124 #[.pointer (some ⟨g, 0, none⟩), .string ⟨#[45]⟩] w (fun e w' => e = .returned (.bool (decide (hd l = [45]))) ∧ Went g S (if hd l = [45] then l.tail else l) o w w') from rd_take [45] h (by omega))
  by_cases h1 : hd l = [45]
  · rw [decide_eq_true h1, if_pos h1] at CT
    rcases natP_cases l.tail with ⟨c, e⟩ | ⟨n, e⟩
    · have e1 : signP l = .bad c := by unfold signP; rw [if_pos h1, e]; rfl
      rw [e1]
      clear h1 e1 h
      go_enter Tryz.func127, Tryz.ntmps127
      go_wp2_with (go_at_call 124; refine (CT.out).mono ?_; rintro e w1 ⟨rfl, hw⟩)
      have HW := Lib.hid hw; clear hw
      have CN := Lib.hid (rd_natural HW.out.1 hS)
      rw [e] at CN
      refine CN.out.mono ?_
      rintro e' w2 ⟨rfl, hc, hf⟩
      have HF := Lib.hid hf; clear hf
      go_wp2_with fail
      go_ret2
      exact ⟨rfl, hc, HW.out.failed HF.out⟩
    · have e1 : signP l = .good (-n, l.tail.tail) := by unfold signP; rw [if_pos h1, e]; rfl
      have hr := natP_in e (by
        obtain ⟨a, k, ⟨_, hok⟩, _⟩ := h
        cases hh : l.tail with
        | nil => rintro ⟨c, r, e, _⟩; cases e
        | cons t r => exact hok t (List.mem_of_mem_tail (by rw [hh]; simp)))
      simp only at hr
      obtain ⟨r1, r2⟩ := hr
      rw [e1]
      clear h1 e1 h
      go_enter Tryz.func127, Tryz.ntmps127
      go_wp2_with (go_at_call 124; refine (CT.out).mono ?_; rintro e w1 ⟨rfl, hw⟩)
      have HW := Lib.hid hw; clear hw
      have CN := Lib.hid (rd_natural HW.out.1 hS)
      rw [e] at CN
      refine CN.out.mono ?_
      rintro e' w2 ⟨rfl, hf⟩
      have HF := Lib.hid hf; clear hf
      go_wp2_with fail
      go_ret2
      exact ⟨rfl, HW.out.trans HF.out⟩
  · rw [decide_eq_false h1, if_neg h1] at CT
    have e1 : signP l = natP l := by unfold signP; rw [if_neg h1]
    rw [e1]
    clear h1 e1 h
    rcases natP_cases l with ⟨c, e⟩ | ⟨n, e⟩
    · rw [e]
      go_enter Tryz.func127, Tryz.ntmps127
      go_wp2_with (go_at_call 124; refine (CT.out).mono ?_; rintro e w1 ⟨rfl, hw⟩)
      have HW := Lib.hid hw; clear hw
      have CN := Lib.hid (rd_natural HW.out.1 hS)
      rw [e] at CN
      refine CN.out.mono ?_
      rintro e' w2 ⟨rfl, hc, hf⟩
      have HF := Lib.hid hf; clear hf
      go_wp2_with fail
      go_ret2
      exact ⟨rfl, hc, HW.out.failed HF.out⟩
    · rw [e]
      go_enter Tryz.func127, Tryz.ntmps127
      go_wp2_with (go_at_call 124; refine (CT.out).mono ?_; rintro e w1 ⟨rfl, hw⟩)
      have HW := Lib.hid hw; clear hw
      have CN := Lib.hid (rd_natural HW.out.1 hS)
      rw [e] at CN
      refine CN.out.mono ?_
      rintro e' w2 ⟨rfl, hf⟩
      have HF := Lib.hid hf; clear hf
      go_wp2_with fail
      go_ret2
      exact ⟨rfl, HW.out.trans HF.out⟩
def pickB (L : Nat) (t : Tok) (i : Nat) : Bool := decide (sgn i = t) && (decide (t ≠ []) && decide (lvl i = (L : Int)))
def findB (L : Nat) (t : Tok) : Nat → Nat → Option Int
  | 0, _ => none
  | f + 1, i => if pickB L t i = true then some (i : Int) else findB L t f (i + 1)
theorem sgn_mem : ∀ i : Fin 14, sgn i.val ∈ ([[], [43], [45], [42], [47], [37], [60], [61], [97, 110, 100], [111, 114]] : List Tok) := by decide +kernel
theorem pick_none {L : Nat} {t : Tok} (h : t = [] ∨ t ∉ ([[], [43], [45], [42], [47], [37], [60], [61], [97, 110, 100], [111, 114]] : List Tok)) (i : Nat) (hi : i < 14) : pickB L t i = false := by
  unfold pickB
  rcases h with rfl | h
  · simp
  · have : sgn i ≠ t := fun e => h (e ▸ sgn_mem ⟨i, hi⟩)
    rw [decide_eq_false this]; rfl
theorem find_none {L : Nat} {t : Tok} (h : t = [] ∨ t ∉ ([[], [43], [45], [42], [47], [37], [60], [61], [97, 110, 100], [111, 114]] : List Tok)) : ∀ f i, i + f ≤ 14 → findB L t f i = none
  | 0, i, _ => rfl
  | f + 1, i, hi => by rw [findB, if_neg (by rw [pick_none h i (by omega)]; simp)]; exact find_none h f (i + 1) (by omega)
theorem find_some : ∀ L : Fin 6, ∀ t ∈ ([[43], [45], [42], [47], [37], [60], [61], [97, 110, 100], [111, 114]] : List Tok), findB L.val t 14 0 = opAt L.val t := by decide +kernel
theorem find_opAt {L : Nat} (hL : L ≤ 5) (t : Tok) : findB L t 14 0 = opAt L t := by
  by_cases h : t ∈ ([[43], [45], [42], [47], [37], [60], [61], [97, 110, 100], [111, 114]] : List Tok)
  · exact find_some ⟨L, by omega⟩ t h
  · have h2 : t = [] ∨ t ∉ ([[], [43], [45], [42], [47], [37], [60], [61], [97, 110, 100], [111, 114]] : List Tok) := by
      by_cases h0 : t = []
      · exact .inl h0
      · refine .inr fun hm => ?_
        rcases List.mem_cons.1 hm with e | e
        · exact h0 e
        · exact h e
    rw [find_none h2 14 0 (by omega)]
    simp only [List.mem_cons, List.not_mem_nil, or_false, not_or] at h
    obtain ⟨h1, h2, h3, h4, h5, h6, h7, h8, h9⟩ := h
    unfold opAt opOf
    rw [if_neg h1, if_neg h2, if_neg h3, if_neg h4, if_neg h5, if_neg h6, if_neg h7, if_neg h8, if_neg h9]
def binV : Option Int → Value
  | some k => .tuple #[.int .i64 k, .bool true]
  | none => .tuple #[.int .i64 0, .bool false]
set_option maxHeartbeats 16000000 in
theorem rule_binary (t : Tok) (L : Nat) (w : World) (hL : L ≤ 5) (ht : t.length ≤ 140737488355328) (hlv : Lvl w) (hsg : Sgn w) :
    Calls Tryz.prog 152 #[.string (tkS t), .int .i64 L] w fun e w' => e = .returned (binV (opAt L t)) ∧ Below w.heap.size w w' := by
  obtain ⟨O, hO⟩ : ∃ O, O = opAt L t := ⟨_, rfl⟩
  rw [← hO]
  have HO := Lib.hid (show O = findB L t 14 0 by rw [hO, find_opAt hL])
  obtain ⟨T, hT⟩ : ∃ T, T = tkS t := ⟨_, rfl⟩
  have HT := Lib.hid hT
  rw [← hT]
  have HLV := Lib.hid hlv
  have s0 : w.cell? ⟨5, 0, none⟩ = some (.string ⟨#[]⟩) := hsg.cell 0 (by omega)
  have s1 : w.cell? ⟨5, 1, none⟩ = some (.string ⟨#[]⟩) := hsg.cell 1 (by omega)
  have s2 : w.cell? ⟨5, 2, none⟩ = some (.string ⟨#[]⟩) := hsg.cell 2 (by omega)
  have s3 : w.cell? ⟨5, 3, none⟩ = some (.string ⟨#[]⟩) := hsg.cell 3 (by omega)
  have s4 : w.cell? ⟨5, 4, none⟩ = some (.string ⟨#[43]⟩) := hsg.cell 4 (by omega)
  have s5 : w.cell? ⟨5, 5, none⟩ = some (.string ⟨#[45]⟩) := hsg.cell 5 (by omega)
  have s6 : w.cell? ⟨5, 6, none⟩ = some (.string ⟨#[42]⟩) := hsg.cell 6 (by omega)
  have s7 : w.cell? ⟨5, 7, none⟩ = some (.string ⟨#[47]⟩) := hsg.cell 7 (by omega)
  have s8 : w.cell? ⟨5, 8, none⟩ = some (.string ⟨#[37]⟩) := hsg.cell 8 (by omega)
  have s9 : w.cell? ⟨5, 9, none⟩ = some (.string ⟨#[60]⟩) := hsg.cell 9 (by omega)
  have s10 : w.cell? ⟨5, 10, none⟩ = some (.string ⟨#[61]⟩) := hsg.cell 10 (by omega)
  have s11 : w.cell? ⟨5, 11, none⟩ = some (.string ⟨#[]⟩) := hsg.cell 11 (by omega)
  have s12 : w.cell? ⟨5, 12, none⟩ = some (.string ⟨#[97, 110, 100]⟩) := hsg.cell 12 (by omega)
  have s13 : w.cell? ⟨5, 13, none⟩ = some (.string ⟨#[111, 114]⟩) := hsg.cell 13 (by omega)
  clear hO hT hlv hsg
  go_enter Tryz.func152, Tryz.ntmps152
  go_wp2_with fail
  clear s0 s1 s2 s3 s4 s5 s6 s7 s8 s9 s10 s11 s12 s13
  go_loopw [9] (fun v wr => ∃ k : Nat, k ≤ 14 ∧ v = .int .i64 k ∧ O = findB L t (14 - k) k ∧ Below w.heap.size w wr) (fun v _ => 14 - (intOf v).toNat)
  case atStart => exact ⟨0, by omega, rfl, HO.out, by (repeat' (first | exact bxR _ _ | assumption | refine bxD ?_ | refine bxN ?_ _ | refine bxA ?_ _ | refine bxS ?_ ?_ _ | refine bxT ?_ (by assumption) | refine bxW ?_ (by assumption) | exact Nat.le_refl _ | omega | (simp; done) | (simp; omega)))⟩
  case round =>
    obtain ⟨k, hk, ev, ho, hb⟩ := hrel
    have HB := Lib.hid hb
    have HO2 := Lib.hid ho
    have HLW := Lib.hid (HLV.out.below hb)
    clear ho HO
    by_cases hlt : k < 14
    · have hk14 : k = 0 ∨ k = 1 ∨ k = 2 ∨ k = 3 ∨ k = 4 ∨ k = 5 ∨ k = 6 ∨ k = 7 ∨ k = 8 ∨ k = 9 ∨ k = 10 ∨ k = 11 ∨ k = 12 ∨ k = 13 := by omega
      rcases hk14 with rfl | rfl | rfl | rfl | rfl | rfl | rfl | rfl | rfl | rfl | rfl | rfl | rfl | rfl
      · have ix : ∀ W, (Instr.index 207 (.agg #[.string ⟨#[]⟩, .string ⟨#[]⟩, .string ⟨#[]⟩, .string ⟨#[]⟩, .string ⟨#[43]⟩, .string ⟨#[45]⟩, .string ⟨#[42]⟩, .string ⟨#[47]⟩, .string ⟨#[37]⟩, .string ⟨#[60]⟩, .string ⟨#[61]⟩, .string ⟨#[]⟩, .string ⟨#[97, 110, 100]⟩, .string ⟨#[111, 114]⟩]) (.int .i64 0)).run Tryz.prog W = .ok (.string ⟨#[]⟩) W := fun _ => by kernel_rfl
        -- kind 0
        replace ev : _ = Value.int .i64 0 := ev
        subst ev
        have HN := Lib.hid (show O = findB L t (14 - 1) (0 + 1) by
          rw [HO2.out]
          show (if pickB L t 0 = true then _ else _) = _
          rw [if_neg]
          unfold pickB
          rw [show sgn (0 : Nat) = [] from by decide]
          by_cases h : ([] : Tok) = t
          · rw [← h]; simp
          · rw [decide_eq_false h]; simp)
        by_cases h0 : T.size = 0
        · obtain rfl := str_empty T h0
          clear h0 hb
          go_wp2_with fail
          go_roundw
          case rel => exact ⟨0 + 1, by omega, rfl, HN.out, by have := HB.out; (repeat' (first | exact bxR _ _ | assumption | refine bxD ?_ | refine bxN ?_ _ | refine bxA ?_ _ | refine bxS ?_ ?_ _ | refine bxT ?_ (by assumption) | refine bxW ?_ (by assumption) | exact Nat.le_refl _ | omega | (simp; done) | (simp; omega)))⟩
          case measure => simp [intOf]
        · have e1 := str_ne T (by omega)
          have e2 : (T.toList == []) = false := by simpa using e1
          have e3 : (([] : List UInt8) == T.toList) = false := by cases hh : T.toList with | nil => rw [hh] at e1; cases e1 | cons _ _ => rfl
          have e4 : T.toList ≠ [] := by simpa using e1
          have e5 : [] ≠ T.toList := fun h => e4 h.symm
          clear h0 hb
          go_wp2_with fail
          go_roundw
          case rel => exact ⟨0 + 1, by omega, rfl, HN.out, by have := HB.out; (repeat' (first | exact bxR _ _ | assumption | refine bxD ?_ | refine bxN ?_ _ | refine bxA ?_ _ | refine bxS ?_ ?_ _ | refine bxT ?_ (by assumption) | refine bxW ?_ (by assumption) | exact Nat.le_refl _ | omega | (simp; done) | (simp; omega)))⟩
          case measure => simp [intOf]
      · have ix : ∀ W, (Instr.index 207 (.agg #[.string ⟨#[]⟩, .string ⟨#[]⟩, .string ⟨#[]⟩, .string ⟨#[]⟩, .string ⟨#[43]⟩, .string ⟨#[45]⟩, .string ⟨#[42]⟩, .string ⟨#[47]⟩, .string ⟨#[37]⟩, .string ⟨#[60]⟩, .string ⟨#[61]⟩, .string ⟨#[]⟩, .string ⟨#[97, 110, 100]⟩, .string ⟨#[111, 114]⟩]) (.int .i64 1)).run Tryz.prog W = .ok (.string ⟨#[]⟩) W := fun _ => by kernel_rfl
        -- kind 1
        replace ev : _ = Value.int .i64 1 := ev
        subst ev
        have HN := Lib.hid (show O = findB L t (14 - 2) (1 + 1) by
          rw [HO2.out]
          show (if pickB L t 1 = true then _ else _) = _
          rw [if_neg]
          unfold pickB
          rw [show sgn (1 : Nat) = [] from by decide]
          by_cases h : ([] : Tok) = t
          · rw [← h]; simp
          · rw [decide_eq_false h]; simp)
        by_cases h0 : T.size = 0
        · obtain rfl := str_empty T h0
          clear h0 hb
          go_wp2_with fail
          go_roundw
          case rel => exact ⟨1 + 1, by omega, rfl, HN.out, by have := HB.out; (repeat' (first | exact bxR _ _ | assumption | refine bxD ?_ | refine bxN ?_ _ | refine bxA ?_ _ | refine bxS ?_ ?_ _ | refine bxT ?_ (by assumption) | refine bxW ?_ (by assumption) | exact Nat.le_refl _ | omega | (simp; done) | (simp; omega)))⟩
          case measure => simp [intOf]
        · have e1 := str_ne T (by omega)
          have e2 : (T.toList == []) = false := by simpa using e1
          have e3 : (([] : List UInt8) == T.toList) = false := by cases hh : T.toList with | nil => rw [hh] at e1; cases e1 | cons _ _ => rfl
          have e4 : T.toList ≠ [] := by simpa using e1
          have e5 : [] ≠ T.toList := fun h => e4 h.symm
          clear h0 hb
          go_wp2_with fail
          go_roundw
          case rel => exact ⟨1 + 1, by omega, rfl, HN.out, by have := HB.out; (repeat' (first | exact bxR _ _ | assumption | refine bxD ?_ | refine bxN ?_ _ | refine bxA ?_ _ | refine bxS ?_ ?_ _ | refine bxT ?_ (by assumption) | refine bxW ?_ (by assumption) | exact Nat.le_refl _ | omega | (simp; done) | (simp; omega)))⟩
          case measure => simp [intOf]
      · have ix : ∀ W, (Instr.index 207 (.agg #[.string ⟨#[]⟩, .string ⟨#[]⟩, .string ⟨#[]⟩, .string ⟨#[]⟩, .string ⟨#[43]⟩, .string ⟨#[45]⟩, .string ⟨#[42]⟩, .string ⟨#[47]⟩, .string ⟨#[37]⟩, .string ⟨#[60]⟩, .string ⟨#[61]⟩, .string ⟨#[]⟩, .string ⟨#[97, 110, 100]⟩, .string ⟨#[111, 114]⟩]) (.int .i64 2)).run Tryz.prog W = .ok (.string ⟨#[]⟩) W := fun _ => by kernel_rfl
        -- kind 2
        replace ev : _ = Value.int .i64 2 := ev
        subst ev
        have HN := Lib.hid (show O = findB L t (14 - 3) (2 + 1) by
          rw [HO2.out]
          show (if pickB L t 2 = true then _ else _) = _
          rw [if_neg]
          unfold pickB
          rw [show sgn (2 : Nat) = [] from by decide]
          by_cases h : ([] : Tok) = t
          · rw [← h]; simp
          · rw [decide_eq_false h]; simp)
        by_cases h0 : T.size = 0
        · obtain rfl := str_empty T h0
          clear h0 hb
          go_wp2_with fail
          go_roundw
          case rel => exact ⟨2 + 1, by omega, rfl, HN.out, by have := HB.out; (repeat' (first | exact bxR _ _ | assumption | refine bxD ?_ | refine bxN ?_ _ | refine bxA ?_ _ | refine bxS ?_ ?_ _ | refine bxT ?_ (by assumption) | refine bxW ?_ (by assumption) | exact Nat.le_refl _ | omega | (simp; done) | (simp; omega)))⟩
          case measure => simp [intOf]
        · have e1 := str_ne T (by omega)
          have e2 : (T.toList == []) = false := by simpa using e1
          have e3 : (([] : List UInt8) == T.toList) = false := by cases hh : T.toList with | nil => rw [hh] at e1; cases e1 | cons _ _ => rfl
          have e4 : T.toList ≠ [] := by simpa using e1
          have e5 : [] ≠ T.toList := fun h => e4 h.symm
          clear h0 hb
          go_wp2_with fail
          go_roundw
          case rel => exact ⟨2 + 1, by omega, rfl, HN.out, by have := HB.out; (repeat' (first | exact bxR _ _ | assumption | refine bxD ?_ | refine bxN ?_ _ | refine bxA ?_ _ | refine bxS ?_ ?_ _ | refine bxT ?_ (by assumption) | refine bxW ?_ (by assumption) | exact Nat.le_refl _ | omega | (simp; done) | (simp; omega)))⟩
          case measure => simp [intOf]
      · have ix : ∀ W, (Instr.index 207 (.agg #[.string ⟨#[]⟩, .string ⟨#[]⟩, .string ⟨#[]⟩, .string ⟨#[]⟩, .string ⟨#[43]⟩, .string ⟨#[45]⟩, .string ⟨#[42]⟩, .string ⟨#[47]⟩, .string ⟨#[37]⟩, .string ⟨#[60]⟩, .string ⟨#[61]⟩, .string ⟨#[]⟩, .string ⟨#[97, 110, 100]⟩, .string ⟨#[111, 114]⟩]) (.int .i64 3)).run Tryz.prog W = .ok (.string ⟨#[]⟩) W := fun _ => by kernel_rfl
        -- kind 3
        replace ev : _ = Value.int .i64 3 := ev
        subst ev
        have HN := Lib.hid (show O = findB L t (14 - 4) (3 + 1) by
          rw [HO2.out]
          show (if pickB L t 3 = true then _ else _) = _
          rw [if_neg]
          unfold pickB
          rw [show sgn (3 : Nat) = [] from by decide]
          by_cases h : ([] : Tok) = t
          · rw [← h]; simp
          · rw [decide_eq_false h]; simp)
        by_cases h0 : T.size = 0
        · obtain rfl := str_empty T h0
          clear h0 hb
          go_wp2_with fail
          go_roundw
          case rel => exact ⟨3 + 1, by omega, rfl, HN.out, by have := HB.out; (repeat' (first | exact bxR _ _ | assumption | refine bxD ?_ | refine bxN ?_ _ | refine bxA ?_ _ | refine bxS ?_ ?_ _ | refine bxT ?_ (by assumption) | refine bxW ?_ (by assumption) | exact Nat.le_refl _ | omega | (simp; done) | (simp; omega)))⟩
          case measure => simp [intOf]
        · have e1 := str_ne T (by omega)
          have e2 : (T.toList == []) = false := by simpa using e1
          have e3 : (([] : List UInt8) == T.toList) = false := by cases hh : T.toList with | nil => rw [hh] at e1; cases e1 | cons _ _ => rfl
          have e4 : T.toList ≠ [] := by simpa using e1
          have e5 : [] ≠ T.toList := fun h => e4 h.symm
          clear h0 hb
          go_wp2_with fail
          go_roundw
          case rel => exact ⟨3 + 1, by omega, rfl, HN.out, by have := HB.out; (repeat' (first | exact bxR _ _ | assumption | refine bxD ?_ | refine bxN ?_ _ | refine bxA ?_ _ | refine bxS ?_ ?_ _ | refine bxT ?_ (by assumption) | refine bxW ?_ (by assumption) | exact Nat.le_refl _ | omega | (simp; done) | (simp; omega)))⟩
          case measure => simp [intOf]
      · have ix : ∀ W, (Instr.index 207 (.agg #[.string ⟨#[]⟩, .string ⟨#[]⟩, .string ⟨#[]⟩, .string ⟨#[]⟩, .string ⟨#[43]⟩, .string ⟨#[45]⟩, .string ⟨#[42]⟩, .string ⟨#[47]⟩, .string ⟨#[37]⟩, .string ⟨#[60]⟩, .string ⟨#[61]⟩, .string ⟨#[]⟩, .string ⟨#[97, 110, 100]⟩, .string ⟨#[111, 114]⟩]) (.int .i64 4)).run Tryz.prog W = .ok (.string ⟨#[43]⟩) W := fun _ => by kernel_rfl
        -- kind 4
        replace ev : _ = Value.int .i64 4 := ev
        subst ev
        by_cases h0 : t = [43]
        · obtain rfl : T = ⟨#[43]⟩ := by rw [HT.out, h0]
          by_cases h1 : (4 : Int) = (L : Int)
          · have HN := Lib.hid (show O = some 4 by
              rw [HO2.out]
              show (if pickB L t 4 = true then _ else _) = _
              rw [if_pos]
              · rfl
              · unfold pickB; rw [h0, ← h1]; decide)
            have c1 : wr.cell? ⟨6, 4, none⟩ = some (.int .i64 4) := HLW.out.cell 4 (by omega)
            have e1 : ((4 : Int) == (L : Int)) = true := by simpa using h1
            have gz : 6 < wr.heap.size := World.block_lt_of_cell? _ _ c1
            clear h0 hb
            have e2 : (L : Int) = 4 := h1.symm
            clear h1
            go_wp2_with fail
            go_ret2
            exact ⟨by rw [HN.out]; rfl, by have := HB.out; (repeat' (first | exact bxR _ _ | assumption | refine bxD ?_ | refine bxN ?_ _ | refine bxA ?_ _ | refine bxS ?_ ?_ _ | refine bxT ?_ (by assumption) | refine bxW ?_ (by assumption) | exact Nat.le_refl _ | omega | (simp; done) | (simp; omega)))⟩
          · have HN := Lib.hid (show O = findB L t (14 - 5) (4 + 1) by
              rw [HO2.out]
              show (if pickB L t 4 = true then _ else _) = _
              rw [if_neg]
              unfold pickB
              rw [decide_eq_false (show ¬ lvl (4 : Nat) = (L : Int) from h1)]; simp)
            have c1 : wr.cell? ⟨6, 4, none⟩ = some (.int .i64 4) := HLW.out.cell 4 (by omega)
            have e1 : ((4 : Int) == (L : Int)) = false := by simpa using h1
            have gz : 6 < wr.heap.size := World.block_lt_of_cell? _ _ c1
            clear h0 hb h1
            go_wp2_with fail
            go_roundw
            case rel => exact ⟨4 + 1, by omega, rfl, HN.out, by have := HB.out; (repeat' (first | exact bxR _ _ | assumption | refine bxD ?_ | refine bxN ?_ _ | refine bxA ?_ _ | refine bxS ?_ ?_ _ | refine bxT ?_ (by assumption) | refine bxW ?_ (by assumption) | exact Nat.le_refl _ | omega | (simp; done) | (simp; omega)))⟩
            case measure => simp [intOf]
        · have HN := Lib.hid (show O = findB L t (14 - 5) (4 + 1) by
            rw [HO2.out]
            show (if pickB L t 4 = true then _ else _) = _
            rw [if_neg]
            unfold pickB
            rw [decide_eq_false (show ¬ sgn (4 : Nat) = t from fun h => h0 h.symm)]; simp)
          have hne : T.toList ≠ [43] := by rw [HT.out, str_list]; simpa using h0
          have e1 : (T.toList == [43]) = false := by simpa using hne
          have e2 : (([43] : List UInt8) == T.toList) = false := by rw [beq_eq_false_iff_ne]; exact fun h => hne h.symm
          have e3 : [43] ≠ T.toList := fun h => hne h.symm
          clear h0 hb
          go_wp2_with fail
          go_roundw
          case rel => exact ⟨4 + 1, by omega, rfl, HN.out, by have := HB.out; (repeat' (first | exact bxR _ _ | assumption | refine bxD ?_ | refine bxN ?_ _ | refine bxA ?_ _ | refine bxS ?_ ?_ _ | refine bxT ?_ (by assumption) | refine bxW ?_ (by assumption) | exact Nat.le_refl _ | omega | (simp; done) | (simp; omega)))⟩
          case measure => simp [intOf]
      · have ix : ∀ W, (Instr.index 207 (.agg #[.string ⟨#[]⟩, .string ⟨#[]⟩, .string ⟨#[]⟩, .string ⟨#[]⟩, .string ⟨#[43]⟩, .string ⟨#[45]⟩, .string ⟨#[42]⟩, .string ⟨#[47]⟩, .string ⟨#[37]⟩, .string ⟨#[60]⟩, .string ⟨#[61]⟩, .string ⟨#[]⟩, .string ⟨#[97, 110, 100]⟩, .string ⟨#[111, 114]⟩]) (.int .i64 5)).run Tryz.prog W = .ok (.string ⟨#[45]⟩) W := fun _ => by kernel_rfl
        -- kind 5
        replace ev : _ = Value.int .i64 5 := ev
        subst ev
        by_cases h0 : t = [45]
        · obtain rfl : T = ⟨#[45]⟩ := by rw [HT.out, h0]
          by_cases h1 : (4 : Int) = (L : Int)
          · have HN := Lib.hid (show O = some 5 by
              rw [HO2.out]
              show (if pickB L t 5 = true then _ else _) = _
              rw [if_pos]
              · rfl
              · unfold pickB; rw [h0, ← h1]; decide)
            have c1 : wr.cell? ⟨6, 5, none⟩ = some (.int .i64 4) := HLW.out.cell 5 (by omega)
            have e1 : ((4 : Int) == (L : Int)) = true := by simpa using h1
            have gz : 6 < wr.heap.size := World.block_lt_of_cell? _ _ c1
            clear h0 hb
            have e2 : (L : Int) = 4 := h1.symm
            clear h1
            go_wp2_with fail
            go_ret2
            exact ⟨by rw [HN.out]; rfl, by have := HB.out; (repeat' (first | exact bxR _ _ | assumption | refine bxD ?_ | refine bxN ?_ _ | refine bxA ?_ _ | refine bxS ?_ ?_ _ | refine bxT ?_ (by assumption) | refine bxW ?_ (by assumption) | exact Nat.le_refl _ | omega | (simp; done) | (simp; omega)))⟩
          · have HN := Lib.hid (show O = findB L t (14 - 6) (5 + 1) by
              rw [HO2.out]
              show (if pickB L t 5 = true then _ else _) = _
              rw [if_neg]
              unfold pickB
              rw [decide_eq_false (show ¬ lvl (5 : Nat) = (L : Int) from h1)]; simp)
            have c1 : wr.cell? ⟨6, 5, none⟩ = some (.int .i64 4) := HLW.out.cell 5 (by omega)
            have e1 : ((4 : Int) == (L : Int)) = false := by simpa using h1
            have gz : 6 < wr.heap.size := World.block_lt_of_cell? _ _ c1
            clear h0 hb h1
            go_wp2_with fail
            go_roundw
            case rel => exact ⟨5 + 1, by omega, rfl, HN.out, by have := HB.out; (repeat' (first | exact bxR _ _ | assumption | refine bxD ?_ | refine bxN ?_ _ | refine bxA ?_ _ | refine bxS ?_ ?_ _ | refine bxT ?_ (by assumption) | refine bxW ?_ (by assumption) | exact Nat.le_refl _ | omega | (simp; done) | (simp; omega)))⟩
            case measure => simp [intOf]
        · have HN := Lib.hid (show O = findB L t (14 - 6) (5 + 1) by
            rw [HO2.out]
            show (if pickB L t 5 = true then _ else _) = _
            rw [if_neg]
            unfold pickB
            rw [decide_eq_false (show ¬ sgn (5 : Nat) = t from fun h => h0 h.symm)]; simp)
          have hne : T.toList ≠ [45] := by rw [HT.out, str_list]; simpa using h0
          have e1 : (T.toList == [45]) = false := by simpa using hne
          have e2 : (([45] : List UInt8) == T.toList) = false := by rw [beq_eq_false_iff_ne]; exact fun h => hne h.symm
          have e3 : [45] ≠ T.toList := fun h => hne h.symm
          clear h0 hb
          go_wp2_with fail
          go_roundw
          case rel => exact ⟨5 + 1, by omega, rfl, HN.out, by have := HB.out; (repeat' (first | exact bxR _ _ | assumption | refine bxD ?_ | refine bxN ?_ _ | refine bxA ?_ _ | refine bxS ?_ ?_ _ | refine bxT ?_ (by assumption) | refine bxW ?_ (by assumption) | exact Nat.le_refl _ | omega | (simp; done) | (simp; omega)))⟩
          case measure => simp [intOf]
      · have ix : ∀ W, (Instr.index 207 (.agg #[.string ⟨#[]⟩, .string ⟨#[]⟩, .string ⟨#[]⟩, .string ⟨#[]⟩, .string ⟨#[43]⟩, .string ⟨#[45]⟩, .string ⟨#[42]⟩, .string ⟨#[47]⟩, .string ⟨#[37]⟩, .string ⟨#[60]⟩, .string ⟨#[61]⟩, .string ⟨#[]⟩, .string ⟨#[97, 110, 100]⟩, .string ⟨#[111, 114]⟩]) (.int .i64 6)).run Tryz.prog W = .ok (.string ⟨#[42]⟩) W := fun _ => by kernel_rfl
        -- kind 6
        replace ev : _ = Value.int .i64 6 := ev
        subst ev
        by_cases h0 : t = [42]
        · obtain rfl : T = ⟨#[42]⟩ := by rw [HT.out, h0]
          by_cases h1 : (5 : Int) = (L : Int)
          · have HN := Lib.hid (show O = some 6 by
              rw [HO2.out]
              show (if pickB L t 6 = true then _ else _) = _
              rw [if_pos]
              · rfl
              · unfold pickB; rw [h0, ← h1]; decide)
            have c1 : wr.cell? ⟨6, 6, none⟩ = some (.int .i64 5) := HLW.out.cell 6 (by omega)
            have e1 : ((5 : Int) == (L : Int)) = true := by simpa using h1
            have gz : 6 < wr.heap.size := World.block_lt_of_cell? _ _ c1
            clear h0 hb
            have e2 : (L : Int) = 5 := h1.symm
            clear h1
            go_wp2_with fail
            go_ret2
            exact ⟨by rw [HN.out]; rfl, by have := HB.out; (repeat' (first | exact bxR _ _ | assumption | refine bxD ?_ | refine bxN ?_ _ | refine bxA ?_ _ | refine bxS ?_ ?_ _ | refine bxT ?_ (by assumption) | refine bxW ?_ (by assumption) | exact Nat.le_refl _ | omega | (simp; done) | (simp; omega)))⟩
          · have HN := Lib.hid (show O = findB L t (14 - 7) (6 + 1) by
              rw [HO2.out]
              show (if pickB L t 6 = true then _ else _) = _
              rw [if_neg]
              unfold pickB
              rw [decide_eq_false (show ¬ lvl (6 : Nat) = (L : Int) from h1)]; simp)
            have c1 : wr.cell? ⟨6, 6, none⟩ = some (.int .i64 5) := HLW.out.cell 6 (by omega)
            have e1 : ((5 : Int) == (L : Int)) = false := by simpa using h1
            have gz : 6 < wr.heap.size := World.block_lt_of_cell? _ _ c1
            clear h0 hb h1
            go_wp2_with fail
            go_roundw
            case rel => exact ⟨6 + 1, by omega, rfl, HN.out, by have := HB.out; (repeat' (first | exact bxR _ _ | assumption | refine bxD ?_ | refine bxN ?_ _ | refine bxA ?_ _ | refine bxS ?_ ?_ _ | refine bxT ?_ (by assumption) | refine bxW ?_ (by assumption) | exact Nat.le_refl _ | omega | (simp; done) | (simp; omega)))⟩
            case measure => simp [intOf]
        · have HN := Lib.hid (show O = findB L t (14 - 7) (6 + 1) by
            rw [HO2.out]
            show (if pickB L t 6 = true then _ else _) = _
            rw [if_neg]
            unfold pickB
            rw [decide_eq_false (show ¬ sgn (6 : Nat) = t from fun h => h0 h.symm)]; simp)
          have hne : T.toList ≠ [42] := by rw [HT.out, str_list]; simpa using h0
          have e1 : (T.toList == [42]) = false := by simpa using hne
          have e2 : (([42] : List UInt8) == T.toList) = false := by rw [beq_eq_false_iff_ne]; exact fun h => hne h.symm
          have e3 : [42] ≠ T.toList := fun h => hne h.symm
          clear h0 hb
          go_wp2_with fail
          go_roundw
          case rel => exact ⟨6 + 1, by omega, rfl, HN.out, by have := HB.out; (repeat' (first | exact bxR _ _ | assumption | refine bxD ?_ | refine bxN ?_ _ | refine bxA ?_ _ | refine bxS ?_ ?_ _ | refine bxT ?_ (by assumption) | refine bxW ?_ (by assumption) | exact Nat.le_refl _ | omega | (simp; done) | (simp; omega)))⟩
          case measure => simp [intOf]
      · have ix : ∀ W, (Instr.index 207 (.agg #[.string ⟨#[]⟩, .string ⟨#[]⟩, .string ⟨#[]⟩, .string ⟨#[]⟩, .string ⟨#[43]⟩, .string ⟨#[45]⟩, .string ⟨#[42]⟩, .string ⟨#[47]⟩, .string ⟨#[37]⟩, .string ⟨#[60]⟩, .string ⟨#[61]⟩, .string ⟨#[]⟩, .string ⟨#[97, 110, 100]⟩, .string ⟨#[111, 114]⟩]) (.int .i64 7)).run Tryz.prog W = .ok (.string ⟨#[47]⟩) W := fun _ => by kernel_rfl
        -- kind 7
        replace ev : _ = Value.int .i64 7 := ev
        subst ev
        by_cases h0 : t = [47]
        · obtain rfl : T = ⟨#[47]⟩ := by rw [HT.out, h0]
          by_cases h1 : (5 : Int) = (L : Int)
          · have HN := Lib.hid (show O = some 7 by
              rw [HO2.out]
              show (if pickB L t 7 = true then _ else _) = _
              rw [if_pos]
              · rfl
              · unfold pickB; rw [h0, ← h1]; decide)
            have c1 : wr.cell? ⟨6, 7, none⟩ = some (.int .i64 5) := HLW.out.cell 7 (by omega)
            have e1 : ((5 : Int) == (L : Int)) = true := by simpa using h1
            have gz : 6 < wr.heap.size := World.block_lt_of_cell? _ _ c1
            clear h0 hb
            have e2 : (L : Int) = 5 := h1.symm
            clear h1
            go_wp2_with fail
            go_ret2
            exact ⟨by rw [HN.out]; rfl, by have := HB.out; (repeat' (first | exact bxR _ _ | assumption | refine bxD ?_ | refine bxN ?_ _ | refine bxA ?_ _ | refine bxS ?_ ?_ _ | refine bxT ?_ (by assumption) | refine bxW ?_ (by assumption) | exact Nat.le_refl _ | omega | (simp; done) | (simp; omega)))⟩
          · have HN := Lib.hid (show O = findB L t (14 - 8) (7 + 1) by
              rw [HO2.out]
              show (if pickB L t 7 = true then _ else _) = _
              rw [if_neg]
              unfold pickB
              rw [decide_eq_false (show ¬ lvl (7 : Nat) = (L : Int) from h1)]; simp)
            have c1 : wr.cell? ⟨6, 7, none⟩ = some (.int .i64 5) := HLW.out.cell 7 (by omega)
            have e1 : ((5 : Int) == (L : Int)) = false := by simpa using h1
            have gz : 6 < wr.heap.size := World.block_lt_of_cell? _ _ c1
            clear h0 hb h1
            go_wp2_with fail
            go_roundw
            case rel => exact ⟨7 + 1, by omega, rfl, HN.out, by have := HB.out; (repeat' (first | exact bxR _ _ | assumption | refine bxD ?_ | refine bxN ?_ _ | refine bxA ?_ _ | refine bxS ?_ ?_ _ | refine bxT ?_ (by assumption) | refine bxW ?_ (by assumption) | exact Nat.le_refl _ | omega | (simp; done) | (simp; omega)))⟩
            case measure => simp [intOf]
        · have HN := Lib.hid (show O = findB L t (14 - 8) (7 + 1) by
            rw [HO2.out]
            show (if pickB L t 7 = true then _ else _) = _
            rw [if_neg]
            unfold pickB
            rw [decide_eq_false (show ¬ sgn (7 : Nat) = t from fun h => h0 h.symm)]; simp)
          have hne : T.toList ≠ [47] := by rw [HT.out, str_list]; simpa using h0
          have e1 : (T.toList == [47]) = false := by simpa using hne
          have e2 : (([47] : List UInt8) == T.toList) = false := by rw [beq_eq_false_iff_ne]; exact fun h => hne h.symm
          have e3 : [47] ≠ T.toList := fun h => hne h.symm
          clear h0 hb
          go_wp2_with fail
          go_roundw
          case rel => exact ⟨7 + 1, by omega, rfl, HN.out, by have := HB.out; (repeat' (first | exact bxR _ _ | assumption | refine bxD ?_ | refine bxN ?_ _ | refine bxA ?_ _ | refine bxS ?_ ?_ _ | refine bxT ?_ (by assumption) | refine bxW ?_ (by assumption) | exact Nat.le_refl _ | omega | (simp; done) | (simp; omega)))⟩
          case measure => simp [intOf]
      · have ix : ∀ W, (Instr.index 207 (.agg #[.string ⟨#[]⟩, .string ⟨#[]⟩, .string ⟨#[]⟩, .string ⟨#[]⟩, .string ⟨#[43]⟩, .string ⟨#[45]⟩, .string ⟨#[42]⟩, .string ⟨#[47]⟩, .string ⟨#[37]⟩, .string ⟨#[60]⟩, .string ⟨#[61]⟩, .string ⟨#[]⟩, .string ⟨#[97, 110, 100]⟩, .string ⟨#[111, 114]⟩]) (.int .i64 8)).run Tryz.prog W = .ok (.string ⟨#[37]⟩) W := fun _ => by kernel_rfl
        -- kind 8
        replace ev : _ = Value.int .i64 8 := ev
        subst ev
        by_cases h0 : t = [37]
        · obtain rfl : T = ⟨#[37]⟩ := by rw [HT.out, h0]
          by_cases h1 : (5 : Int) = (L : Int)
          · have HN := Lib.hid (show O = some 8 by
              rw [HO2.out]
              show (if pickB L t 8 = true then _ else _) = _
              rw [if_pos]
              · rfl
              · unfold pickB; rw [h0, ← h1]; decide)
            have c1 : wr.cell? ⟨6, 8, none⟩ = some (.int .i64 5) := HLW.out.cell 8 (by omega)
            have e1 : ((5 : Int) == (L : Int)) = true := by simpa using h1
            have gz : 6 < wr.heap.size := World.block_lt_of_cell? _ _ c1
            clear h0 hb
            have e2 : (L : Int) = 5 := h1.symm
            clear h1
            go_wp2_with fail
            go_ret2
            exact ⟨by rw [HN.out]; rfl, by have := HB.out; (repeat' (first | exact bxR _ _ | assumption | refine bxD ?_ | refine bxN ?_ _ | refine bxA ?_ _ | refine bxS ?_ ?_ _ | refine bxT ?_ (by assumption) | refine bxW ?_ (by assumption) | exact Nat.le_refl _ | omega | (simp; done) | (simp; omega)))⟩
          · have HN := Lib.hid (show O = findB L t (14 - 9) (8 + 1) by
              rw [HO2.out]
              show (if pickB L t 8 = true then _ else _) = _
              rw [if_neg]
              unfold pickB
              rw [decide_eq_false (show ¬ lvl (8 : Nat) = (L : Int) from h1)]; simp)
            have c1 : wr.cell? ⟨6, 8, none⟩ = some (.int .i64 5) := HLW.out.cell 8 (by omega)
            have e1 : ((5 : Int) == (L : Int)) = false := by simpa using h1
            have gz : 6 < wr.heap.size := World.block_lt_of_cell? _ _ c1
            clear h0 hb h1
            go_wp2_with fail
            go_roundw
            case rel => exact ⟨8 + 1, by omega, rfl, HN.out, by have := HB.out; (repeat' (first | exact bxR _ _ | assumption | refine bxD ?_ | refine bxN ?_ _ | refine bxA ?_ _ | refine bxS ?_ ?_ _ | refine bxT ?_ (by assumption) | refine bxW ?_ (by assumption) | exact Nat.le_refl _ | omega | (simp; done) | (simp; omega)))⟩
            case measure => simp [intOf]
        · have HN := Lib.hid (show O = findB L t (14 - 9) (8 + 1) by
            rw [HO2.out]
            show (if pickB L t 8 = true then _ else _) = _
            rw [if_neg]
            unfold pickB
            rw [decide_eq_false (show ¬ sgn (8 : Nat) = t from fun h => h0 h.symm)]; simp)
          have hne : T.toList ≠ [37] := by rw [HT.out, str_list]; simpa using h0
          have e1 : (T.toList == [37]) = false := by simpa using hne
          have e2 : (([37] : List UInt8) == T.toList) = false := by rw [beq_eq_false_iff_ne]; exact fun h => hne h.symm
          have e3 : [37] ≠ T.toList := fun h => hne h.symm
          clear h0 hb
          go_wp2_with fail
          go_roundw
          case rel => exact ⟨8 + 1, by omega, rfl, HN.out, by have := HB.out; (repeat' (first | exact bxR _ _ | assumption | refine bxD ?_ | refine bxN ?_ _ | refine bxA ?_ _ | refine bxS ?_ ?_ _ | refine bxT ?_ (by assumption) | refine bxW ?_ (by assumption) | exact Nat.le_refl _ | omega | (simp; done) | (simp; omega)))⟩
          case measure => simp [intOf]
      · have ix : ∀ W, (Instr.index 207 (.agg #[.string ⟨#[]⟩, .string ⟨#[]⟩, .string ⟨#[]⟩, .string ⟨#[]⟩, .string ⟨#[43]⟩, .string ⟨#[45]⟩, .string ⟨#[42]⟩, .string ⟨#[47]⟩, .string ⟨#[37]⟩, .string ⟨#[60]⟩, .string ⟨#[61]⟩, .string ⟨#[]⟩, .string ⟨#[97, 110, 100]⟩, .string ⟨#[111, 114]⟩]) (.int .i64 9)).run Tryz.prog W = .ok (.string ⟨#[60]⟩) W := fun _ => by kernel_rfl
        -- kind 9
        replace ev : _ = Value.int .i64 9 := ev
        subst ev
        by_cases h0 : t = [60]
        · obtain rfl : T = ⟨#[60]⟩ := by rw [HT.out, h0]
          by_cases h1 : (3 : Int) = (L : Int)
          · have HN := Lib.hid (show O = some 9 by
              rw [HO2.out]
              show (if pickB L t 9 = true then _ else _) = _
              rw [if_pos]
              · rfl
              · unfold pickB; rw [h0, ← h1]; decide)
            have c1 : wr.cell? ⟨6, 9, none⟩ = some (.int .i64 3) := HLW.out.cell 9 (by omega)
            have e1 : ((3 : Int) == (L : Int)) = true := by simpa using h1
            have gz : 6 < wr.heap.size := World.block_lt_of_cell? _ _ c1
            clear h0 hb
            have e2 : (L : Int) = 3 := h1.symm
            clear h1
            go_wp2_with fail
            go_ret2
            exact ⟨by rw [HN.out]; rfl, by have := HB.out; (repeat' (first | exact bxR _ _ | assumption | refine bxD ?_ | refine bxN ?_ _ | refine bxA ?_ _ | refine bxS ?_ ?_ _ | refine bxT ?_ (by assumption) | refine bxW ?_ (by assumption) | exact Nat.le_refl _ | omega | (simp; done) | (simp; omega)))⟩
          · have HN := Lib.hid (show O = findB L t (14 - 10) (9 + 1) by
              rw [HO2.out]
              show (if pickB L t 9 = true then _ else _) = _
              rw [if_neg]
              unfold pickB
              rw [decide_eq_false (show ¬ lvl (9 : Nat) = (L : Int) from h1)]; simp)
            have c1 : wr.cell? ⟨6, 9, none⟩ = some (.int .i64 3) := HLW.out.cell 9 (by omega)
            have e1 : ((3 : Int) == (L : Int)) = false := by simpa using h1
            have gz : 6 < wr.heap.size := World.block_lt_of_cell? _ _ c1
            clear h0 hb h1
            go_wp2_with fail
            go_roundw
            case rel => exact ⟨9 + 1, by omega, rfl, HN.out, by have := HB.out; (repeat' (first | exact bxR _ _ | assumption | refine bxD ?_ | refine bxN ?_ _ | refine bxA ?_ _ | refine bxS ?_ ?_ _ | refine bxT ?_ (by assumption) | refine bxW ?_ (by assumption) | exact Nat.le_refl _ | omega | (simp; done) | (simp; omega)))⟩
            case measure => simp [intOf]
        · have HN := Lib.hid (show O = findB L t (14 - 10) (9 + 1) by
            rw [HO2.out]
            show (if pickB L t 9 = true then _ else _) = _
            rw [if_neg]
            unfold pickB
            rw [decide_eq_false (show ¬ sgn (9 : Nat) = t from fun h => h0 h.symm)]; simp)
          have hne : T.toList ≠ [60] := by rw [HT.out, str_list]; simpa using h0
          have e1 : (T.toList == [60]) = false := by simpa using hne
          have e2 : (([60] : List UInt8) == T.toList) = false := by rw [beq_eq_false_iff_ne]; exact fun h => hne h.symm
          have e3 : [60] ≠ T.toList := fun h => hne h.symm
          clear h0 hb
          go_wp2_with fail
          go_roundw
          case rel => exact ⟨9 + 1, by omega, rfl, HN.out, by have := HB.out; (repeat' (first | exact bxR _ _ | assumption | refine bxD ?_ | refine bxN ?_ _ | refine bxA ?_ _ | refine bxS ?_ ?_ _ | refine bxT ?_ (by assumption) | refine bxW ?_ (by assumption) | exact Nat.le_refl _ | omega | (simp; done) | (simp; omega)))⟩
          case measure => simp [intOf]
      · have ix : ∀ W, (Instr.index 207 (.agg #[.string ⟨#[]⟩, .string ⟨#[]⟩, .string ⟨#[]⟩, .string ⟨#[]⟩, .string ⟨#[43]⟩, .string ⟨#[45]⟩, .string ⟨#[42]⟩, .string ⟨#[47]⟩, .string ⟨#[37]⟩, .string ⟨#[60]⟩, .string ⟨#[61]⟩, .string ⟨#[]⟩, .string ⟨#[97, 110, 100]⟩, .string ⟨#[111, 114]⟩]) (.int .i64 10)).run Tryz.prog W = .ok (.string ⟨#[61]⟩) W := fun _ => by kernel_rfl
        -- kind 10
        replace ev : _ = Value.int .i64 10 := ev
        subst ev
        by_cases h0 : t = [61]
        · obtain rfl : T = ⟨#[61]⟩ := by rw [HT.out, h0]
          by_cases h1 : (3 : Int) = (L : Int)
          · have HN := Lib.hid (show O = some 10 by
              rw [HO2.out]
              show (if pickB L t 10 = true then _ else _) = _
              rw [if_pos]
              · rfl
              · unfold pickB; rw [h0, ← h1]; decide)
            have c1 : wr.cell? ⟨6, 10, none⟩ = some (.int .i64 3) := HLW.out.cell 10 (by omega)
            have e1 : ((3 : Int) == (L : Int)) = true := by simpa using h1
            have gz : 6 < wr.heap.size := World.block_lt_of_cell? _ _ c1
            clear h0 hb
            have e2 : (L : Int) = 3 := h1.symm
            clear h1
            go_wp2_with fail
            go_ret2
            exact ⟨by rw [HN.out]; rfl, by have := HB.out; (repeat' (first | exact bxR _ _ | assumption | refine bxD ?_ | refine bxN ?_ _ | refine bxA ?_ _ | refine bxS ?_ ?_ _ | refine bxT ?_ (by assumption) | refine bxW ?_ (by assumption) | exact Nat.le_refl _ | omega | (simp; done) | (simp; omega)))⟩
          · have HN := Lib.hid (show O = findB L t (14 - 11) (10 + 1) by
              rw [HO2.out]
              show (if pickB L t 10 = true then _ else _) = _
              rw [if_neg]
              unfold pickB
              rw [decide_eq_false (show ¬ lvl (10 : Nat) = (L : Int) from h1)]; simp)
            have c1 : wr.cell? ⟨6, 10, none⟩ = some (.int .i64 3) := HLW.out.cell 10 (by omega)
            have e1 : ((3 : Int) == (L : Int)) = false := by simpa using h1
            have gz : 6 < wr.heap.size := World.block_lt_of_cell? _ _ c1
            clear h0 hb h1
            go_wp2_with fail
            go_roundw
            case rel => exact ⟨10 + 1, by omega, rfl, HN.out, by have := HB.out; (repeat' (first | exact bxR _ _ | assumption | refine bxD ?_ | refine bxN ?_ _ | refine bxA ?_ _ | refine bxS ?_ ?_ _ | refine bxT ?_ (by assumption) | refine bxW ?_ (by assumption) | exact Nat.le_refl _ | omega | (simp; done) | (simp; omega)))⟩
            case measure => simp [intOf]
        · have HN := Lib.hid (show O = findB L t (14 - 11) (10 + 1) by
            rw [HO2.out]
            show (if pickB L t 10 = true then _ else _) = _
            rw [if_neg]
            unfold pickB
            rw [decide_eq_false (show ¬ sgn (10 : Nat) = t from fun h => h0 h.symm)]; simp)
          have hne : T.toList ≠ [61] := by rw [HT.out, str_list]; simpa using h0
          have e1 : (T.toList == [61]) = false := by simpa using hne
          have e2 : (([61] : List UInt8) == T.toList) = false := by rw [beq_eq_false_iff_ne]; exact fun h => hne h.symm
          have e3 : [61] ≠ T.toList := fun h => hne h.symm
          clear h0 hb
          go_wp2_with fail
          go_roundw
          case rel => exact ⟨10 + 1, by omega, rfl, HN.out, by have := HB.out; (repeat' (first | exact bxR _ _ | assumption | refine bxD ?_ | refine bxN ?_ _ | refine bxA ?_ _ | refine bxS ?_ ?_ _ | refine bxT ?_ (by assumption) | refine bxW ?_ (by assumption) | exact Nat.le_refl _ | omega | (simp; done) | (simp; omega)))⟩
          case measure => simp [intOf]
      · have ix : ∀ W, (Instr.index 207 (.agg #[.string ⟨#[]⟩, .string ⟨#[]⟩, .string ⟨#[]⟩, .string ⟨#[]⟩, .string ⟨#[43]⟩, .string ⟨#[45]⟩, .string ⟨#[42]⟩, .string ⟨#[47]⟩, .string ⟨#[37]⟩, .string ⟨#[60]⟩, .string ⟨#[61]⟩, .string ⟨#[]⟩, .string ⟨#[97, 110, 100]⟩, .string ⟨#[111, 114]⟩]) (.int .i64 11)).run Tryz.prog W = .ok (.string ⟨#[]⟩) W := fun _ => by kernel_rfl
        -- kind 11
        replace ev : _ = Value.int .i64 11 := ev
        subst ev
        have HN := Lib.hid (show O = findB L t (14 - 12) (11 + 1) by
          rw [HO2.out]
          show (if pickB L t 11 = true then _ else _) = _
          rw [if_neg]
          unfold pickB
          rw [show sgn (11 : Nat) = [] from by decide]
          by_cases h : ([] : Tok) = t
          · rw [← h]; simp
          · rw [decide_eq_false h]; simp)
        by_cases h0 : T.size = 0
        · obtain rfl := str_empty T h0
          clear h0 hb
          go_wp2_with fail
          go_roundw
          case rel => exact ⟨11 + 1, by omega, rfl, HN.out, by have := HB.out; (repeat' (first | exact bxR _ _ | assumption | refine bxD ?_ | refine bxN ?_ _ | refine bxA ?_ _ | refine bxS ?_ ?_ _ | refine bxT ?_ (by assumption) | refine bxW ?_ (by assumption) | exact Nat.le_refl _ | omega | (simp; done) | (simp; omega)))⟩
          case measure => simp [intOf]
        · have e1 := str_ne T (by omega)
          have e2 : (T.toList == []) = false := by simpa using e1
          have e3 : (([] : List UInt8) == T.toList) = false := by cases hh : T.toList with | nil => rw [hh] at e1; cases e1 | cons _ _ => rfl
          have e4 : T.toList ≠ [] := by simpa using e1
          have e5 : [] ≠ T.toList := fun h => e4 h.symm
          clear h0 hb
          go_wp2_with fail
          go_roundw
          case rel => exact ⟨11 + 1, by omega, rfl, HN.out, by have := HB.out; (repeat' (first | exact bxR _ _ | assumption | refine bxD ?_ | refine bxN ?_ _ | refine bxA ?_ _ | refine bxS ?_ ?_ _ | refine bxT ?_ (by assumption) | refine bxW ?_ (by assumption) | exact Nat.le_refl _ | omega | (simp; done) | (simp; omega)))⟩
          case measure => simp [intOf]
      · have ix : ∀ W, (Instr.index 207 (.agg #[.string ⟨#[]⟩, .string ⟨#[]⟩, .string ⟨#[]⟩, .string ⟨#[]⟩, .string ⟨#[43]⟩, .string ⟨#[45]⟩, .string ⟨#[42]⟩, .string ⟨#[47]⟩, .string ⟨#[37]⟩, .string ⟨#[60]⟩, .string ⟨#[61]⟩, .string ⟨#[]⟩, .string ⟨#[97, 110, 100]⟩, .string ⟨#[111, 114]⟩]) (.int .i64 12)).run Tryz.prog W = .ok (.string ⟨#[97, 110, 100]⟩) W := fun _ => by kernel_rfl
        -- kind 12
        replace ev : _ = Value.int .i64 12 := ev
        subst ev
        by_cases h0 : t = [97, 110, 100]
        · obtain rfl : T = ⟨#[97, 110, 100]⟩ := by rw [HT.out, h0]
          by_cases h1 : (1 : Int) = (L : Int)
          · have HN := Lib.hid (show O = some 12 by
              rw [HO2.out]
              show (if pickB L t 12 = true then _ else _) = _
              rw [if_pos]
              · rfl
              · unfold pickB; rw [h0, ← h1]; decide)
            have c1 : wr.cell? ⟨6, 12, none⟩ = some (.int .i64 1) := HLW.out.cell 12 (by omega)
            have e1 : ((1 : Int) == (L : Int)) = true := by simpa using h1
            have gz : 6 < wr.heap.size := World.block_lt_of_cell? _ _ c1
            clear h0 hb
            have e2 : (L : Int) = 1 := h1.symm
            clear h1
            go_wp2_with fail
            go_ret2
            exact ⟨by rw [HN.out]; rfl, by have := HB.out; (repeat' (first | exact bxR _ _ | assumption | refine bxD ?_ | refine bxN ?_ _ | refine bxA ?_ _ | refine bxS ?_ ?_ _ | refine bxT ?_ (by assumption) | refine bxW ?_ (by assumption) | exact Nat.le_refl _ | omega | (simp; done) | (simp; omega)))⟩
          · have HN := Lib.hid (show O = findB L t (14 - 13) (12 + 1) by
              rw [HO2.out]
              show (if pickB L t 12 = true then _ else _) = _
              rw [if_neg]
              unfold pickB
              rw [decide_eq_false (show ¬ lvl (12 : Nat) = (L : Int) from h1)]; simp)
            have c1 : wr.cell? ⟨6, 12, none⟩ = some (.int .i64 1) := HLW.out.cell 12 (by omega)
            have e1 : ((1 : Int) == (L : Int)) = false := by simpa using h1
            have gz : 6 < wr.heap.size := World.block_lt_of_cell? _ _ c1
            clear h0 hb h1
            go_wp2_with fail
            go_roundw
            case rel => exact ⟨12 + 1, by omega, rfl, HN.out, by have := HB.out; (repeat' (first | exact bxR _ _ | assumption | refine bxD ?_ | refine bxN ?_ _ | refine bxA ?_ _ | refine bxS ?_ ?_ _ | refine bxT ?_ (by assumption) | refine bxW ?_ (by assumption) | exact Nat.le_refl _ | omega | (simp; done) | (simp; omega)))⟩
            case measure => simp [intOf]
        · have HN := Lib.hid (show O = findB L t (14 - 13) (12 + 1) by
            rw [HO2.out]
            show (if pickB L t 12 = true then _ else _) = _
            rw [if_neg]
            unfold pickB
            rw [decide_eq_false (show ¬ sgn (12 : Nat) = t from fun h => h0 h.symm)]; simp)
          have hne : T.toList ≠ [97, 110, 100] := by rw [HT.out, str_list]; simpa using h0
          have e1 : (T.toList == [97, 110, 100]) = false := by simpa using hne
          have e2 : (([97, 110, 100] : List UInt8) == T.toList) = false := by rw [beq_eq_false_iff_ne]; exact fun h => hne h.symm
          have e3 : [97, 110, 100] ≠ T.toList := fun h => hne h.symm
          clear h0 hb
          go_wp2_with fail
          go_roundw
          case rel => exact ⟨12 + 1, by omega, rfl, HN.out, by have := HB.out; (repeat' (first | exact bxR _ _ | assumption | refine bxD ?_ | refine bxN ?_ _ | refine bxA ?_ _ | refine bxS ?_ ?_ _ | refine bxT ?_ (by assumption) | refine bxW ?_ (by assumption) | exact Nat.le_refl _ | omega | (simp; done) | (simp; omega)))⟩
          case measure => simp [intOf]
      · have ix : ∀ W, (Instr.index 207 (.agg #[.string ⟨#[]⟩, .string ⟨#[]⟩, .string ⟨#[]⟩, .string ⟨#[]⟩, .string ⟨#[43]⟩, .string ⟨#[45]⟩, .string ⟨#[42]⟩, .string ⟨#[47]⟩, .string ⟨#[37]⟩, .string ⟨#[60]⟩, .string ⟨#[61]⟩, .string ⟨#[]⟩, .string ⟨#[97, 110, 100]⟩, .string ⟨#[111, 114]⟩]) (.int .i64 13)).run Tryz.prog W = .ok (.string ⟨#[111, 114]⟩) W := fun _ => by kernel_rfl
        -- kind 13
        replace ev : _ = Value.int .i64 13 := ev
        subst ev
        by_cases h0 : t = [111, 114]
        · obtain rfl : T = ⟨#[111, 114]⟩ := by rw [HT.out, h0]
          by_cases h1 : (0 : Int) = (L : Int)
          · have HN := Lib.hid (show O = some 13 by
              rw [HO2.out]
              show (if pickB L t 13 = true then _ else _) = _
              rw [if_pos]
              · rfl
              · unfold pickB; rw [h0, ← h1]; decide)
            have c1 : wr.cell? ⟨6, 13, none⟩ = some (.int .i64 0) := HLW.out.cell 13 (by omega)
            have e1 : ((0 : Int) == (L : Int)) = true := by simpa using h1
            have gz : 6 < wr.heap.size := World.block_lt_of_cell? _ _ c1
            clear h0 hb
            have e2 : (L : Int) = 0 := h1.symm
            clear h1
            go_wp2_with fail
            go_ret2
            exact ⟨by rw [HN.out]; rfl, by have := HB.out; (repeat' (first | exact bxR _ _ | assumption | refine bxD ?_ | refine bxN ?_ _ | refine bxA ?_ _ | refine bxS ?_ ?_ _ | refine bxT ?_ (by assumption) | refine bxW ?_ (by assumption) | exact Nat.le_refl _ | omega | (simp; done) | (simp; omega)))⟩
          · have HN := Lib.hid (show O = findB L t (14 - 14) (13 + 1) by
              rw [HO2.out]
              show (if pickB L t 13 = true then _ else _) = _
              rw [if_neg]
              unfold pickB
              rw [decide_eq_false (show ¬ lvl (13 : Nat) = (L : Int) from h1)]; simp)
            have c1 : wr.cell? ⟨6, 13, none⟩ = some (.int .i64 0) := HLW.out.cell 13 (by omega)
            have e1 : ((0 : Int) == (L : Int)) = false := by simpa using h1
            have gz : 6 < wr.heap.size := World.block_lt_of_cell? _ _ c1
            clear h0 hb h1
            go_wp2_with fail
            go_roundw
            case rel => exact ⟨13 + 1, by omega, rfl, HN.out, by have := HB.out; (repeat' (first | exact bxR _ _ | assumption | refine bxD ?_ | refine bxN ?_ _ | refine bxA ?_ _ | refine bxS ?_ ?_ _ | refine bxT ?_ (by assumption) | refine bxW ?_ (by assumption) | exact Nat.le_refl _ | omega | (simp; done) | (simp; omega)))⟩
            case measure => simp [intOf]
        · have HN := Lib.hid (show O = findB L t (14 - 14) (13 + 1) by
            rw [HO2.out]
            show (if pickB L t 13 = true then _ else _) = _
            rw [if_neg]
            unfold pickB
            rw [decide_eq_false (show ¬ sgn (13 : Nat) = t from fun h => h0 h.symm)]; simp)
          have hne : T.toList ≠ [111, 114] := by rw [HT.out, str_list]; simpa using h0
          have e1 : (T.toList == [111, 114]) = false := by simpa using hne
          have e2 : (([111, 114] : List UInt8) == T.toList) = false := by rw [beq_eq_false_iff_ne]; exact fun h => hne h.symm
          have e3 : [111, 114] ≠ T.toList := fun h => hne h.symm
          clear h0 hb
          go_wp2_with fail
          go_roundw
          case rel => exact ⟨13 + 1, by omega, rfl, HN.out, by have := HB.out; (repeat' (first | exact bxR _ _ | assumption | refine bxD ?_ | refine bxN ?_ _ | refine bxA ?_ _ | refine bxS ?_ ?_ _ | refine bxT ?_ (by assumption) | refine bxW ?_ (by assumption) | exact Nat.le_refl _ | omega | (simp; done) | (simp; omega)))⟩
          case measure => simp [intOf]
    · obtain rfl : k = 14 := by omega
      subst ev
      have HN := Lib.hid (show O = none by rw [HO2.out]; rfl)
      clear hlt hb
      go_wp2_with fail
      go_ret2
      exact ⟨by rw [HN.out]; rfl, by have := HB.out; (repeat' (first | exact bxR _ _ | assumption | refine bxD ?_ | refine bxN ?_ _ | refine bxA ?_ _ | refine bxS ?_ ?_ _ | refine bxT ?_ (by assumption) | refine bxW ?_ (by assumption) | exact Nat.le_refl _ | omega | (simp; done) | (simp; omega)))⟩
end Go.Proofs.YtdmkghgachapaabGreatDoor

set_option linter.unusedSimpArgs false
namespace Go.Proofs.YtdmkghgachapaabGreatDoor
set_option linter.unusedVariables false
set_option maxRecDepth 100000
open Go.RowKit Go.Shelf
def TG (lo : Nat) (D : Nat → Prop) (w : World) (t : Tree) (v : Value) : Prop :=
  (∃ a m c, v = .agg #[.int .i64 t.kind, .int .i64 t.num, .slice a m c] ∧ m ≤ c ∧ c ≤ 9223372036854775807 ∧ ∀ W, w.heap.size ≤ W.heap.size → (∀ b, D b → W.heap[b]? = w.heap[b]?) → SubAt W W.heap.size t a m) ∧ ∀ b, D b → lo ≤ b ∧ b < w.heap.size
theorem TG.keep {lo : Nat} {D : Nat → Prop} {w w' : World} {t : Tree} {v : Value} (h : TG lo D w t v) (hs : w.heap.size ≤ w'.heap.size) (hk : ∀ b, D b → w'.heap[b]? = w.heap[b]?) : TG lo D w' t v := by
  obtain ⟨⟨a, m, c, e, h1, h2, h3⟩, hd⟩ := h
  exact ⟨⟨a, m, c, e, h1, h2, fun W hW hk' => h3 W (Nat.le_trans hs hW) (fun b hb => (hk' b hb).trans (hk b hb))⟩, fun b hb => ⟨(hd b hb).1, Nat.lt_of_lt_of_le (hd b hb).2 hs⟩⟩
theorem TG.one {lo g : Nat} {D : Nat → Prop} {w w' : World} {t : Tree} {v : Value} (h : TG lo D w t v) (k : OneKept g w w') (hg : g < lo) : TG lo D w' t v :=
  h.keep k.size fun b hb => k.block b (h.2 b hb).2 (by have := (h.2 b hb).1; omega)
theorem TG.then_ {lo : Nat} {D : Nat → Prop} {w w' : World} {t : Tree} {v : Value} (h : TG lo D w t v) (k : Below w.heap.size w w') : TG lo D w' t v :=
  h.keep k.size fun b hb => k.block b (h.2 b hb).2
theorem TG.set {lo : Nat} {D : Nat → Prop} {w : World} {t : Tree} {v : Value} (h : TG lo D w t v) {p : Nat} (hp : ¬ D p) (i : Nat) (u : Value) : TG lo D (w.setCell ⟨p, i, none⟩ u) t v :=
  h.keep (by simp [World.setCell]) fun b hb => Below.heap_setCell w ⟨p, i, none⟩ u b (by rintro rfl; exact hp hb)
theorem TG.set3 {lo : Nat} {D : Nat → Prop} {w : World} {t : Tree} {v : Value} (h : TG lo D w t v) {p : Nat} (hp : ¬ D p) (x y z : Value) : TG lo D (((w.setCell ⟨p, 0, none⟩ x).setCell ⟨p, 1, none⟩ y).setCell ⟨p, 2, none⟩ z) t v :=
  ((h.set hp 0 x).set hp 1 y).set hp 2 z
theorem TG.weak {lo lo' : Nat} {D : Nat → Prop} {w : World} {t : Tree} {v : Value} (h : TG lo D w t v) (hl : lo' ≤ lo) : TG lo' D w t v := ⟨h.1, fun b hb => ⟨Nat.le_trans hl (h.2 b hb).1, (h.2 b hb).2⟩⟩
theorem TG.leaf (lo : Nat) (w : World) {k n : Int} (hk : I64 k) (hn : I64 n) : TG lo (fun _ => False) w (.node k n []) (.agg #[.int .i64 k, .int .i64 n, .slice none 0 0]) :=
  ⟨⟨none, 0, 0, rfl, by omega, by omega, fun W _ _ => by rw [SubAt]; exact ⟨hk, hn, rfl, by omega, fun h => absurd h (by omega)⟩⟩, fun _ h => h.elim⟩
theorem arr3 {a b c a' b' c' : Value} (h : #[a, b, c] = #[a', b', c']) : a = a' ∧ b = b' ∧ c = c' := by simpa using h
theorem I64_zero : I64 0 := by unfold I64; omega
theorem TG.node1 {lo : Nat} {D : Nat → Prop} {w : World} {t : Tree} {k' n' s' : Value} {k : Int} (h : TG lo D w t (.agg #[k', n', s'])) (hl : lo ≤ w.heap.size) (hk : I64 k) :
    TG lo (fun b => D b ∨ b = w.heap.size) (w.alloc (.cells #[k', n', s'] 111)) (.node k 0 [t]) (.agg #[.int .i64 k, .int .i64 0, .slice (some ⟨w.heap.size, 0, none⟩) 1 1]) := by
  obtain ⟨⟨a, m, c, e, h1, h2, h3⟩, hd⟩ := h
  injection e with e
  obtain ⟨e1, e2, e3⟩ := arr3 e
  subst e1 e2 e3
  have hsz : (w.alloc (.cells #[.int .i64 t.kind, .int .i64 t.num, .slice a m c] 111)).heap.size = w.heap.size + 1 := World.size_alloc w _
  refine ⟨⟨_, 1, 1, rfl, by omega, by omega, fun W hW hk' => ?_⟩, fun b hb => ?_⟩
  · have hat : At W w.heap.size (.cells #[.int .i64 t.kind, .int .i64 t.num, .slice a m c] 111) := (hk' _ (.inr rfl)).trans (At.new w _)
    have hs := h3 W (by omega) (fun b hb => (hk' b (.inl hb)).trans (Below.heap_alloc w _ b (hd b hb).2))
    rw [SubAt]
    refine ⟨hk, I64_zero, rfl, by omega, fun _ => ⟨w.heap.size, 0, rfl, hat.lt, ?_⟩⟩
    rw [RowAt, RowAt]
    exact ⟨⟨hat.cell 0, hat.cell 1, a, m, c, hat.cell 2, h1, h2, hs⟩, trivial⟩
  · rcases hb with hb | rfl
    · have := hd b hb; omega
    · omega
theorem TG.node2 {lo : Nat} {D E : Nat → Prop} {w : World} {t u : Tree} {k' n' s' k'' n'' s'' : Value} {k : Int} (h : TG lo D w t (.agg #[k', n', s'])) (hu : TG lo E w u (.agg #[k'', n'', s''])) (hl : lo ≤ w.heap.size) (hk : I64 k) :
    TG lo (fun b => D b ∨ E b ∨ b = w.heap.size) (w.alloc (.cells #[k', n', s', k'', n'', s''] 111)) (.node k 0 [t, u]) (.agg #[.int .i64 k, .int .i64 0, .slice (some ⟨w.heap.size, 0, none⟩) 2 2]) := by
  obtain ⟨⟨a, m, c, e, h1, h2, h3⟩, hd⟩ := h
  obtain ⟨⟨b, p, d, f, q1, q2, q3⟩, he⟩ := hu
  injection e with e
  injection f with f
  obtain ⟨e1, e2, e3⟩ := arr3 e
  obtain ⟨f1, f2, f3⟩ := arr3 f
  subst e1 e2 e3 f1 f2 f3
  have hsz : (w.alloc (.cells #[.int .i64 t.kind, .int .i64 t.num, .slice a m c, .int .i64 u.kind, .int .i64 u.num, .slice b p d] 111)).heap.size = w.heap.size + 1 := World.size_alloc w _
  refine ⟨⟨_, 2, 2, rfl, by omega, by omega, fun W hW hk' => ?_⟩, fun b hb => ?_⟩
  · have hat : At W w.heap.size (.cells #[.int .i64 t.kind, .int .i64 t.num, .slice a m c, .int .i64 u.kind, .int .i64 u.num, .slice b p d] 111) := (hk' _ (.inr (.inr rfl))).trans (At.new w _)
    have hs := h3 W (by omega) (fun b hb => (hk' b (.inl hb)).trans (Below.heap_alloc w _ b (hd b hb).2))
    have hs2 := q3 W (by omega) (fun b hb => (hk' b (.inr (.inl hb))).trans (Below.heap_alloc w _ b (he b hb).2))
    rw [SubAt]
    refine ⟨hk, I64_zero, rfl, by omega, fun _ => ⟨w.heap.size, 0, rfl, hat.lt, ?_⟩⟩
    rw [RowAt, RowAt, RowAt]
    exact ⟨⟨hat.cell 0, hat.cell 1, a, m, c, hat.cell 2, h1, h2, hs⟩, ⟨hat.cell 3, hat.cell 4, b, p, d, hat.cell 5, q1, q2, hs2⟩, trivial⟩
  · rcases hb with hb | hb | rfl
    · have := hd b hb; omega
    · have := he b hb; omega
    · omega
theorem TG.form {lo : Nat} {D : Nat → Prop} {w : World} {t : Tree} {v : Value} (h : TG lo D w t v) : ∃ (k n : Int) (a : Option Addr) (m d : Nat), v = .agg #[.int .i64 k, .int .i64 n, .slice a m d] := by
  obtain ⟨⟨a, m, c, e, _⟩, _⟩ := h
  exact ⟨_, _, _, _, _, e⟩
def Glob (g : Nat) (w : World) : Prop := Lvl w ∧ Sgn w ∧ 5 ≠ g ∧ 6 ≠ g
theorem var_one {P : Program} {n : String} {cs : Array Value} {w w' : World} {b g : Nat} (h : w.var? P n = some cs) (hg : P.globalNamed n = some b) (hb : OneKept g w w') (hne : b ≠ g) : w'.var? P n = some cs := by
  unfold World.var? at h ⊢
  rw [hg] at h ⊢
  simp only [Option.bind_some] at h ⊢
  have hlt : b < w.heap.size := by
    rcases Nat.lt_or_ge b w.heap.size with h' | h'
    · exact h'
    · rw [Array.getElem?_eq_none h'] at h; cases h
  rw [hb.block b hlt hne]
  exact h
theorem Glob.keep {g : Nat} {w w' : World} (h : Glob g w) (k : OneKept g w w') : Glob g w' :=
  ⟨var_one h.1 (b := 6) (by kernel_rfl) k h.2.2.2, var_one h.2.1 (b := 5) (by kernel_rfl) k h.2.2.1, h.2.2.1, h.2.2.2⟩
def EPost (g : Nat) (S : ByteArray) (o : Nat) (w : World) : PRes → Ending → World → Prop
  | .stuck, _, _ => False
  | .bad c, e, w' => (∃ (k n : Int) (a : Option Addr) (m d : Nat), e = .returned (.tuple #[.agg #[.int .i64 k, .int .i64 n, .slice a m d], .bool false])) ∧ c ≠ 0 ∧ Failed g c w w'
  | .good p, e, w' => (∃ v D, e = .returned (.tuple #[v, .bool true]) ∧ TG w.heap.size D w' p.1 v) ∧ Went g S p.2 o w w'
def ExprOk (g : Nat) (S : ByteArray) (f : Nat) : Prop := ∀ (lvl : Nat) (l : List Tok) (o : Nat) (w : World), lvl ≤ 6 → o ≤ 12 → expP f lvl l o ≠ .stuck → RdAt w g S l o → Glob g w →
  Calls Tryz.prog 128 #[.pointer (some ⟨g, 0, none⟩), .int .i64 (lvl : Int)] w (EPost g S o w (expP f lvl l o))
def LeafOk (g : Nat) (S : ByteArray) (f : Nat) : Prop := ∀ (l : List Tok) (o : Nat) (w : World), o ≤ 12 → leafP f l o ≠ .stuck → RdAt w g S l o → Glob g w →
  Calls Tryz.prog 151 #[.pointer (some ⟨g, 0, none⟩)] w (EPost g S o w (leafP f l o))
abbrev zeroE : Obj := .cells #[.int .i64 0, .int .i64 0, .slice none 0 0] 111
abbrev exO (k n s : Value) : Obj := .cells #[k, n, s] 111
theorem ex_store {w : World} {b : Nat} {k n s : Value} (h : At w b (exO k n s)) (k' n' s' : Value) : At (((w.setCell ⟨b, 0, none⟩ k').setCell ⟨b, 1, none⟩ n').setCell ⟨b, 2, none⟩ s') b (exO k' n' s') := h.store3 k' n' s'
theorem one_store {g : Nat} {a w : World} (h : OneKept g a w) {b : Nat} (hb : a.heap.size ≤ b) (k' n' s' : Value) : OneKept g a (((w.setCell ⟨b, 0, none⟩ k').setCell ⟨b, 1, none⟩ n').setCell ⟨b, 2, none⟩ s') := ((h.setNew hb 0 k').setNew hb 1 n').setNew hb 2 s'
theorem rd_off {w : World} {g b : Nat} {S : ByteArray} {l : List Tok} {o : Nat} (h : RdAt w g S l o) (hb : g ≠ b) (k' n' s' : Value) : RdAt (((w.setCell ⟨b, 0, none⟩ k').setCell ⟨b, 1, none⟩ n').setCell ⟨b, 2, none⟩ s') g S l o := by
  obtain ⟨a, n, hp, ha⟩ := h
  exact ⟨a, n, hp, ha.apart3 hb k' n' s'⟩
theorem bad_off {w : World} {g b : Nat} {c : Int} (h : BadAt w g c) (hb : g ≠ b) (k' n' s' : Value) : BadAt (((w.setCell ⟨b, 0, none⟩ k').setCell ⟨b, 1, none⟩ n').setCell ⟨b, 2, none⟩ s') g c := by
  obtain ⟨S, a, n, o, ha⟩ := h
  exact ⟨S, a, n, o, ha.apart3 hb k' n' s'⟩
end Go.Proofs.YtdmkghgachapaabGreatDoor

set_option linter.unusedSimpArgs false
namespace Go.Proofs.YtdmkghgachapaabGreatDoor
set_option linter.unusedVariables false
set_option maxRecDepth 100000
open Go.RowKit Go.Shelf
structure LW (g : Nat) (S : ByteArray) (l : List Tok) (o : Nat) (w W : World) : Prop where
  kept : OneKept g w W
  rd : RdAt W g S l o
  gl : Glob g W
structure FW (g : Nat) (c : Int) (w W : World) : Prop where
  kept : OneKept g w W
  bad : BadAt W g c
theorem LW.went {g : Nat} {S : ByteArray} {l l' : List Tok} {o o' : Nat} {w W W' : World} (h : LW g S l o w W) (k : Went g S l' o' W W') : LW g S l' o' w W' := ⟨h.kept.trans k.2, k.1, h.gl.keep k.2⟩
theorem LW.failed {g : Nat} {S : ByteArray} {l : List Tok} {o : Nat} {c : Int} {w W W' : World} (h : LW g S l o w W) (k : Failed g c W W') : FW g c w W' := ⟨h.kept.trans k.2, k.1⟩
theorem LW.then_ {g : Nat} {S : ByteArray} {l : List Tok} {o : Nat} {w W W' : World} (h : LW g S l o w W) (k : Below W.heap.size W W') : LW g S l o w W' := ⟨h.kept.then_ k, h.rd.then_ k, h.gl.keep (.of_below k)⟩
theorem FW.then_ {g : Nat} {c : Int} {w W W' : World} (h : FW g c w W) (k : Below W.heap.size W W') : FW g c w W' := ⟨h.kept.then_ k, h.bad.then_ k⟩
theorem LW.store3 {g : Nat} {S : ByteArray} {l : List Tok} {o : Nat} {w W : World} (h : LW g S l o w W) (hw : Glob g w) {b : Nat} (hb : w.heap.size ≤ b) (hg : g ≠ b) (k' n' s' : Value) :
    LW g S l o w (((W.setCell ⟨b, 0, none⟩ k').setCell ⟨b, 1, none⟩ n').setCell ⟨b, 2, none⟩ s') := ⟨one_store h.kept hb k' n' s', rd_off h.rd hg k' n' s', hw.keep (one_store h.kept hb k' n' s')⟩
theorem FW.store3 {g : Nat} {c : Int} {w W : World} (h : FW g c w W) {b : Nat} (hb : w.heap.size ≤ b) (hg : g ≠ b) (k' n' s' : Value) :
    FW g c w (((W.setCell ⟨b, 0, none⟩ k').setCell ⟨b, 1, none⟩ n').setCell ⟨b, 2, none⟩ s') := ⟨one_store h.kept hb k' n' s', bad_off h.bad hg k' n' s'⟩
theorem LW.refl {g : Nat} {S : ByteArray} {l : List Tok} {o : Nat} {w : World} (h : RdAt w g S l o) (hG : Glob g w) : LW g S l o w w := ⟨OneKept.refl g w, h, hG⟩
theorem LW.open_ {g : Nat} {S : ByteArray} {l : List Tok} {o : Nat} {w W : World} (h : LW g S l o w W) (o' : Nat) : LW g S l o' w (W.setCell ⟨g, 3, none⟩ (.int .i64 o')) := by
  obtain ⟨a, n, hp, ha⟩ := h.rd
  exact ⟨h.kept.set 3 _, ⟨a, n, hp, rd_open ha o'⟩, h.gl.keep (oneKept_set W g 3 _)⟩
theorem LW.openc {g : Nat} {S : ByteArray} {l : List Tok} {o : Nat} {w W : World} (h : LW g S l o w W) : W.cell? ⟨g, 3, none⟩ = some (.int .i64 o) ∧ W.frozen? ⟨g, 3, none⟩ = false ∧ g < W.heap.size := by
  obtain ⟨a, n, hp, ha⟩ := h.rd
  exact ⟨ha.cell 3, ha.frozen 3, ha.lt⟩
theorem FW.openc {g : Nat} {c : Int} {w W : World} (h : FW g c w W) : ∃ o : Int, W.cell? ⟨g, 3, none⟩ = some (.int .i64 o) ∧ W.frozen? ⟨g, 3, none⟩ = false ∧ g < W.heap.size := by
  obtain ⟨S, a, n, o, ha⟩ := h.bad
  exact ⟨o, ha.cell 3, ha.frozen 3, ha.lt⟩
theorem FW.open_ {g : Nat} {c : Int} {w W : World} (h : FW g c w W) (o' : Int) : FW g c w (W.setCell ⟨g, 3, none⟩ (.int .i64 o')) := by
  obtain ⟨S, a, n, o, ha⟩ := h.bad
  exact ⟨h.kept.set 3 _, ⟨S, a, n, o', ha.store 3 _⟩⟩
theorem EPost.good_ {g : Nat} {S : ByteArray} {o : Nat} {w w' : World} {t : Tree} {l : List Tok} {v : Value} {D : Nat → Prop} (h : TG w.heap.size D w' t v) (k : Went g S l o w w') : EPost g S o w (.good (t, l)) (.returned (.tuple #[v, .bool true])) w' := ⟨⟨v, D, rfl, h⟩, k⟩
theorem EPost.bad_ {g : Nat} {S : ByteArray} {o : Nat} {w w' : World} {c : Int} {k n : Int} {a : Option Addr} {m d : Nat} (hc : c ≠ 0) (h : FW g c w w') : EPost g S o w (.bad c) (.returned (.tuple #[.agg #[.int .i64 k, .int .i64 n, .slice a m d], .bool false])) w' := ⟨⟨k, n, a, m, d, rfl⟩, hc, h.bad, h.kept⟩
set_option maxHeartbeats 8000000 in
theorem leaf_step {g : Nat} {S : ByteArray} {f : Nat} (hS : S.size ≤ 140737488355328) (IH : ExprOk g S f) : LeafOk g S (f + 1) := by
  intro l o w ho hns h hG
  have hgw := h.lt
  have HG := Lib.hid hG
  have H0 := Lib.hid ((LW.refl h hG).then_ (below_new (Below.refl _ _) zeroE))
  obtain ⟨B, hB⟩ : ∃ B, B = w.heap.size := ⟨_, rfl⟩
  have HA0 : At (w.alloc zeroE) B zeroE := At.newAt w zeroE B hB
  have HA0 := Lib.hid HA0
  have HBB := Lib.hid (show w.heap.size ≤ B by omega)
  have hgB : g ≠ B := by omega
  obtain ⟨RR, hRR⟩ : ∃ RR, RR = leafP (f + 1) l o := ⟨_, rfl⟩
  rw [← hRR]
  clear h hG hgw
  by_cases c1 : hd l = [121]
  · have HR := Lib.hid (show RR = .good (.node 2 0 [], l.tail) by rw [hRR, leafP, if_pos c1])
    have CT := Lib.hid (fun W (hW : LW g S l o w W) => show Calls Tryz.prog 124 #[.pointer (some ⟨g, 0, none⟩), .string ⟨#[121]⟩] W (fun e w' => e = .returned (.bool true) ∧ Went g S l.tail o W w') from by
      have := rd_take [121] hW.rd (by omega); rw [decide_eq_true c1, if_pos c1] at this; exact this)
    clear hRR hns c1
    go_enter Tryz.func151, Tryz.ntmps151
    go_upto_region 1 with fail
    rw [← hB]
    clear hB
    generalize World.alloc w _ = W0 at HA0 H0 ⊢
    go_wp2_with fail
    refine (CT.out _ H0.out).mono ?_
    rintro e w1 ⟨rfl, hw⟩
    have H1 := Lib.hid (H0.out.went hw)
    have a1 := HA0.out.oneKept hw.2 hgB.symm
    clear hw H0 HA0 CT
    have z0 := a1.frozen 0; have z1 := a1.frozen 1; have z2 := a1.frozen 2; have zl := a1.lt; have y0 := a1.cell 0; have y1 := a1.cell 1; have y2 := a1.cell 2; simp at y0 y1 y2
    have F1 := Lib.hid (ex_store a1 (.int .i64 2) (.int .i64 0) (.slice none 0 0))
    have F2 := Lib.hid ((H1.out).store3 HG.out (b := B) HBB.out hgB (.int .i64 2) (.int .i64 0) (.slice none 0 0))
    clear a1
    go_wp2_with fail
    generalize World.setCell (World.setCell (World.setCell w1 _ _) _ _) _ _ = W9 at F1 F2 ⊢
    have e0 := F1.out.cell 0; have e1 := F1.out.cell 1; have e2 := F1.out.cell 2
    simp at e0 e1 e2
    (try simp only [Exit.inBlock, Exit.then])
    refine bodyPost_ret (v := .tuple #[.agg #[.int .i64 2, .int .i64 0, .slice none 0 0], .bool true]) ?_ rfl ?_
    · simp [results, Tryz.results151, go_sem, e0, e1, e2]
    · exact (by rw [HR.out]; exact EPost.good_ (TG.leaf _ _ (by unfold I64; omega) I64_zero) ⟨F2.out.rd, F2.out.kept⟩)
  have c1' : ¬ hd l = [121] := c1
  have CT := Lib.hid (fun W (hW : LW g S l o w W) => show Calls Tryz.prog 124 #[.pointer (some ⟨g, 0, none⟩), .string ⟨#[121]⟩] W (fun e w' => e = .returned (.bool false) ∧ Went g S l o W w') from by
    have := rd_take [121] hW.rd (by omega); rw [decide_eq_false c1', if_neg c1'] at this; exact this)
  have CK := Lib.hid (fun W (hW : LW g S l o w W) => rd_token hW.rd (by omega))
  obtain ⟨X, hX⟩ : ∃ X, X = tkS (hd l) := ⟨_, rfl⟩
  rw [← hX] at CK
  by_cases c2 : hd l = [40]
  · have hXl : X = ⟨#[40]⟩ := by rw [hX, c2]
    subst hXl
    by_cases c3 : 12 < o + 1
    · have HR := Lib.hid (show RR = .bad 2 by rw [hRR, leafP, if_neg c1', if_pos c2, if_pos c3])
      have ho' : (12 : Int) < (o : Int) + 1 := by omega
      have ho9 : (o : Int) ≤ 12 := by omega
      clear hRR hns c1 c1' c2 hX c3
      go_enter Tryz.func151, Tryz.ntmps151
      go_upto_region 1 with fail
      rw [← hB]
      clear hB
      generalize World.alloc w _ = W0 at HA0 H0 ⊢
      go_wp2_with fail
      refine (CT.out _ H0.out).mono ?_
      rintro e w1 ⟨rfl, hw⟩
      have H1 := Lib.hid (H0.out.went hw)
      have a1 := HA0.out.oneKept hw.2 hgB.symm
      clear hw H0 HA0
      go_wp2_with fail
      refine (CK.out _ H1.out).mono ?_
      rintro e w2 ⟨rfl, hb⟩
      have H2 := Lib.hid (H1.out.then_ hb)
      replace a1 := a1.then_ hb
      clear hb H1
      obtain ⟨x3, x4, x5⟩ := H2.out.openc
      have H3 := Lib.hid (H2.out.open_ (o + 1))
      have a3 : At (w2.setCell ⟨g, 3, none⟩ (.int .i64 ((o + 1 : Nat) : Int))) B zeroE := a1.apart (p := ⟨g, 3, none⟩) hgB.symm _
      clear a1
      go_upto_region 7 with fail
      replace H3 := Lib.hid (show LW g S l (o + 1) w (w2.setCell ⟨g, 3, none⟩ (.int .i64 ((o : Int) + 1))) from H3.out)
      replace a3 : At (w2.setCell ⟨g, 3, none⟩ (.int .i64 ((o : Int) + 1))) B zeroE := a3
      generalize World.setCell w2 _ _ = W3 at H3 a3 ⊢
      clear x3 x4 x5
      obtain ⟨x3, x4, x5⟩ := H3.out.openc
      have CF := Lib.hid (rd_fail 2 H3.out.rd)
      replace x3 : W3.cell? ⟨g, 3, none⟩ = some (.int .i64 ((o : Int) + 1)) := x3
      go_wp2_with fail
      refine (CF.out).mono ?_
      rintro e w1 ⟨rfl, hf⟩
      have H4 := Lib.hid (H3.out.failed hf)
      have a1 := a3.oneKept hf.2 hgB.symm
      clear hf x3 x4 x5 a3 H3 CF
      have z0 := a1.frozen 0; have z1 := a1.frozen 1; have z2 := a1.frozen 2; have zl := a1.lt; have y0 := a1.cell 0; have y1 := a1.cell 1; have y2 := a1.cell 2; simp at y0 y1 y2
      have F1 := Lib.hid (ex_store a1 (.int .i64 0) (.int .i64 0) (.slice none 0 0))
      have F2 := Lib.hid ((H4.out).store3 (b := B) HBB.out hgB (.int .i64 0) (.int .i64 0) (.slice none 0 0))
      clear a1
      go_wp2_with fail
      generalize World.setCell (World.setCell (World.setCell w1 _ _) _ _) _ _ = W9 at F1 F2 ⊢
      have e0 := F1.out.cell 0; have e1 := F1.out.cell 1; have e2 := F1.out.cell 2
      simp at e0 e1 e2
      (try simp only [Exit.inBlock, Exit.then])
      refine bodyPost_ret (v := .tuple #[.agg #[.int .i64 0, .int .i64 0, .slice none 0 0], .bool false]) ?_ rfl ?_
      · simp [results, Tryz.results151, go_sem, e0, e1, e2]
      · exact (by rw [HR.out]; exact EPost.bad_ (by decide) F2.out)
    · have hns2 : expP f 0 l.tail (o + 1) ≠ .stuck := fun h => hns (by rw [leafP, if_neg c1', if_pos c2, if_neg c3, h]; rfl)
      have HR := Lib.hid (show RR = (expP f 0 l.tail (o + 1)).bind fun p => if hd p.2 = [41] then .good (p.1, p.2.tail) else .bad 4 by rw [hRR, leafP, if_neg c1', if_pos c2, if_neg c3])
      have ho' : ¬ (12 : Int) < (o : Int) + 1 := by omega
      have ho9 : (o : Int) ≤ 12 := by omega
      have CE := Lib.hid (fun W (hW : LW g S l.tail (o + 1) w W) => show Calls Tryz.prog 128 #[.pointer (some ⟨g, 0, none⟩), .int .i64 0] W (EPost g S (o + 1) W (expP f 0 l.tail (o + 1))) from IH 0 l.tail (o + 1) W (by omega) (by omega) hns2 hW.rd hW.gl)
      clear hRR hns c1 c1' c2 hX c3 hns2
      go_enter Tryz.func151, Tryz.ntmps151
      go_upto_region 1 with fail
      rw [← hB]
      clear hB
      generalize World.alloc w _ = W0 at HA0 H0 ⊢
      go_wp2_with fail
      refine (CT.out _ H0.out).mono ?_
      rintro e w1 ⟨rfl, hw⟩
      have H1 := Lib.hid (H0.out.went hw)
      have a1 := HA0.out.oneKept hw.2 hgB.symm
      clear hw H0 HA0
      go_wp2_with fail
      refine (CK.out _ H1.out).mono ?_
      rintro e w2 ⟨rfl, hb⟩
      have H2 := Lib.hid (H1.out.then_ hb)
      replace a1 := a1.then_ hb
      clear hb H1
      obtain ⟨x3, x4, x5⟩ := H2.out.openc
      have H3 := Lib.hid (H2.out.open_ (o + 1))
      have a3 : At (w2.setCell ⟨g, 3, none⟩ (.int .i64 ((o + 1 : Nat) : Int))) B zeroE := a1.apart (p := ⟨g, 3, none⟩) hgB.symm _
      clear a1
      go_upto_region 7 with fail
      replace H3 := Lib.hid (show LW g S l (o + 1) w (w2.setCell ⟨g, 3, none⟩ (.int .i64 ((o : Int) + 1))) from H3.out)
      replace a3 : At (w2.setCell ⟨g, 3, none⟩ (.int .i64 ((o : Int) + 1))) B zeroE := a3
      generalize World.setCell w2 _ _ = W3 at H3 a3 ⊢
      clear x3 x4 x5
      obtain ⟨x3, x4, x5⟩ := H3.out.openc
      replace x3 : W3.cell? ⟨g, 3, none⟩ = some (.int .i64 ((o : Int) + 1)) := x3
      have CS := Lib.hid (rd_scan H3.out.rd (by omega))
      go_wp2_with fail
      refine (CS.out).mono ?_
      rintro e w1 ⟨rfl, hw⟩
      obtain ⟨W4, hW4⟩ : ∃ W4, W4 = w1 := ⟨_, rfl⟩
      subst hW4
      have H4 := Lib.hid (H3.out.went hw)
      have A4 := Lib.hid (a3.oneKept hw.2 hgB.symm)
      clear hw x3 x4 x5 a3 H3 CS
      go_wp2_with fail
      refine (CE.out _ H4.out).mono ?_
      generalize hE : expP f 0 l.tail (o + 1) = R0 at CE HR ⊢
      clear hE CE
      cases R0 with
      | stuck => intro e w5 h; exact h.elim
      | bad c =>
        replace HR : Hid (RR = .bad c) := HR
        rintro e w5 ⟨⟨k, n, aa, mm, dd, rfl⟩, hc, hf⟩
        have H5 := H4.out.failed hf
        have A5 := A4.out.oneKept hf.2 hgB.symm
        have hb6 : g ≠ w5.heap.size := by have := H5.openc; obtain ⟨_, _, _, h⟩ := this; omega
        have hb7 : w.heap.size ≤ w5.heap.size := H5.kept.size
        have hb8 : B ≠ w5.heap.size := by have := A5.lt; omega
        have N6 := Lib.hid (At.new w5 (exO (.int .i64 k) (.int .i64 n) (.slice aa mm dd)))
        have H6 := Lib.hid (H5.then_ (below_new (Below.refl _ _) (exO (.int .i64 k) (.int .i64 n) (.slice aa mm dd))))
        have A6 := Lib.hid (A5.alloc (exO (.int .i64 k) (.int .i64 n) (.slice aa mm dd)))
        clear H5 A5 A4 H4 hf
        go_upto_region 11 with fail
        obtain ⟨b6, hb6'⟩ : ∃ b6, b6 = w5.heap.size := ⟨_, rfl⟩
        rw [← hb6'] at N6 hb6 hb7 hb8 ⊢
        generalize World.alloc w5 _ = W6 at N6 H6 A6 ⊢
        clear hb6'
        obtain ⟨o', x3, x4, x5⟩ := H6.out.openc
        go_upto_region 14 with fail
        have H7 := Lib.hid (H6.out.open_ (wrap64 (o' - 1)))
        have N7 := Lib.hid (N6.out.apart (p := ⟨g, 3, none⟩) hb6.symm (.int .i64 (wrap64 (o' - 1))))
        have a1 := A6.out.apart (p := ⟨g, 3, none⟩) hgB.symm (.int .i64 (wrap64 (o' - 1)))
        generalize World.setCell W6 _ _ = w1 at H7 N7 a1 ⊢
        have n0 := N7.out.cell 0; have n1 := N7.out.cell 1; have n2 := N7.out.cell 2
        simp at n0 n1 n2
        clear x3 x4 x5 N6 H6 A6
        have z0 := a1.frozen 0; have z1 := a1.frozen 1; have z2 := a1.frozen 2; have zl := a1.lt; have y0 := a1.cell 0; have y1 := a1.cell 1; have y2 := a1.cell 2; simp at y0 y1 y2
        have F1 := Lib.hid (ex_store a1 (.int .i64 k) (.int .i64 n) (.slice aa mm dd))
        have F2 := Lib.hid ((H7.out).store3 (b := B) HBB.out hgB (.int .i64 k) (.int .i64 n) (.slice aa mm dd))
        clear a1
        go_wp2_with fail
        generalize World.setCell (World.setCell (World.setCell w1 _ _) _ _) _ _ = W9 at F1 F2 ⊢
        have e0 := F1.out.cell 0; have e1 := F1.out.cell 1; have e2 := F1.out.cell 2
        simp at e0 e1 e2
        (try simp only [Exit.inBlock, Exit.then])
        refine bodyPost_ret (v := .tuple #[.agg #[.int .i64 k, .int .i64 n, .slice aa mm dd], .bool false]) ?_ rfl ?_
        · simp [results, Tryz.results151, go_sem, e0, e1, e2]
        · exact (by rw [HR.out]; exact EPost.bad_ hc F2.out)
      | good p =>
        obtain ⟨t, l'⟩ := p
        rintro e w5 ⟨⟨v, D, rfl, ht⟩, hw⟩
        obtain ⟨k, n, aa, mm, dd, rfl⟩ := ht.form
        have H5 := H4.out.went hw
        have A5 := A4.out.oneKept hw.2 hgB.symm
        have hb6 : g ≠ w5.heap.size := by have := H5.openc; obtain ⟨_, _, h⟩ := this; omega
        have hb7 : w.heap.size ≤ w5.heap.size := H5.kept.size
        have hb8 : B ≠ w5.heap.size := by have := A5.lt; omega
        have N6 := Lib.hid (At.new w5 (exO (.int .i64 k) (.int .i64 n) (.slice aa mm dd)))
        have H6 := Lib.hid (H5.then_ (below_new (Below.refl _ _) (exO (.int .i64 k) (.int .i64 n) (.slice aa mm dd))))
        have A6 := Lib.hid (A5.alloc (exO (.int .i64 k) (.int .i64 n) (.slice aa mm dd)))
        have hDB : ¬ D B := fun h => by have h1 := (ht.2 B h).1; have h2 := A4.out.lt; omega
        have hDg : g < W4.heap.size := by have := H4.out.openc; exact this.2.2
        have T6 := Lib.hid (ht.then_ (below_new (Below.refl _ _) (exO (.int .i64 k) (.int .i64 n) (.slice aa mm dd))))
        have HLO := Lib.hid H4.out.kept.size
        clear H5 A5 A4 H4 hw ht
        go_upto_region 11 with fail
        obtain ⟨b6, hb6'⟩ : ∃ b6, b6 = w5.heap.size := ⟨_, rfl⟩
        rw [← hb6'] at N6 hb6 hb7 hb8 ⊢
        generalize World.alloc w5 _ = W6 at N6 H6 A6 T6 ⊢
        clear hb6'
        by_cases c4 : hd l' = [41]
        · have CT4 := Lib.hid (show Calls Tryz.prog 124 #[.pointer (some ⟨g, 0, none⟩), .string ⟨#[41]⟩] W6 (fun e w' => e = .returned (.bool true) ∧ Went g S l'.tail (o + 1) W6 w') from by
            have := rd_take [41] H6.out.rd (by omega); rw [decide_eq_true c4, if_pos c4] at this; exact this)
          have HR2 := Lib.hid (show RR = .good (t, l'.tail) by rw [HR.out]; show (if hd l' = [41] then _ else _) = _; rw [if_pos c4])
          clear c4
          go_wp2_with fail
          refine CT4.out.mono ?_
          rintro e w7 ⟨rfl, hw⟩
          have H7 := Lib.hid (H6.out.went hw)
          have N7 := Lib.hid (N6.out.oneKept hw.2 hb6.symm)
          have A7 := Lib.hid (A6.out.oneKept hw.2 hgB.symm)
          have T7 := Lib.hid (T6.out.one hw.2 hDg)
          clear hw N6 H6 A6 T6
          obtain ⟨x3, x4, x5⟩ := H7.out.openc
          replace x3 : w7.cell? ⟨g, 3, none⟩ = some (.int .i64 ((o : Int) + 1)) := x3
          go_upto_region 14 with fail
          have H8 := Lib.hid (H7.out.open_ o)
          have N8 := Lib.hid (N7.out.apart (p := ⟨g, 3, none⟩) hb6.symm (.int .i64 (o : Int)))
          have a1 := A7.out.apart (p := ⟨g, 3, none⟩) hgB.symm (.int .i64 (o : Int))
          have T8 := Lib.hid (T7.out.one (oneKept_set w7 g 3 (.int .i64 (o : Int))) hDg)
          first
            | generalize World.setCell w7 _ _ = w1 at H8 N8 a1 T8 ⊢
          have n0 := N8.out.cell 0; have n1 := N8.out.cell 1; have n2 := N8.out.cell 2
          simp at n0 n1 n2
          clear x3 x4 x5 N7 H7 A7 T7
          have z0 := a1.frozen 0; have z1 := a1.frozen 1; have z2 := a1.frozen 2; have zl := a1.lt; have y0 := a1.cell 0; have y1 := a1.cell 1; have y2 := a1.cell 2; simp at y0 y1 y2
          have F1 := Lib.hid (ex_store a1 (.int .i64 k) (.int .i64 n) (.slice aa mm dd))
          have F2 := Lib.hid ((H8.out).store3 HG.out (b := B) HBB.out hgB (.int .i64 k) (.int .i64 n) (.slice aa mm dd))
          clear a1
          have T9 := Lib.hid (T8.out.set3 hDB (.int .i64 k) (.int .i64 n) (.slice aa mm dd) |>.weak HLO.out)
          go_wp2_with fail
          generalize World.setCell (World.setCell (World.setCell w1 _ _) _ _) _ _ = W9 at F1 F2 T9 ⊢
          have e0 := F1.out.cell 0; have e1 := F1.out.cell 1; have e2 := F1.out.cell 2
          simp at e0 e1 e2
          (try simp only [Exit.inBlock, Exit.then])
          refine bodyPost_ret (v := .tuple #[.agg #[.int .i64 k, .int .i64 n, .slice aa mm dd], .bool true]) ?_ rfl ?_
          · simp [results, Tryz.results151, go_sem, e0, e1, e2]
          · exact (by rw [HR2.out]; exact EPost.good_ T9.out ⟨F2.out.rd, F2.out.kept⟩)
        · have CT4 := Lib.hid (show Calls Tryz.prog 124 #[.pointer (some ⟨g, 0, none⟩), .string ⟨#[41]⟩] W6 (fun e w' => e = .returned (.bool false) ∧ Went g S l' (o + 1) W6 w') from by
            have := rd_take [41] H6.out.rd (by omega); rw [decide_eq_false c4, if_neg c4] at this; exact this)
          have HR2 := Lib.hid (show RR = .bad 4 by rw [HR.out]; show (if hd l' = [41] then _ else _) = _; rw [if_neg c4])
          clear c4
          go_wp2_with fail
          refine CT4.out.mono ?_
          rintro e w7 ⟨rfl, hw⟩
          have H7 := Lib.hid (H6.out.went hw)
          have N7 := Lib.hid (N6.out.oneKept hw.2 hb6.symm)
          have A7 := Lib.hid (A6.out.oneKept hw.2 hgB.symm)
          clear hw N6 H6 A6 T6 CT4
          have CF := Lib.hid (fun W (hW : LW g S l' (o + 1) w W) => rd_fail 4 hW.rd)
          have d0 : w7.drew.cell? ⟨b6, 0, none⟩ = some (.int .i64 k) := N7.out.cell 0
          have d1 : w7.drew.cell? ⟨b6, 1, none⟩ = some (.int .i64 n) := N7.out.cell 1
          have d2 : w7.drew.cell? ⟨b6, 2, none⟩ = some (.slice aa mm dd) := N7.out.cell 2
          go_upto_region 12 with fail
          go_region_with (go_at_call 125; refine (CF.out _ (H7.out.then_ (by (repeat' (first | exact bxR _ _ | assumption | refine bxD ?_ | refine bxN ?_ _ | refine bxA ?_ _ | refine bxS ?_ ?_ _ | refine bxT ?_ (by assumption) | refine bxW ?_ (by assumption) | exact Nat.le_refl _ | omega | (simp; done) | (simp; omega)))))).mono ?_; rintro e w8 ⟨rfl, hf⟩; have H8 := Lib.hid (LW.failed (H7.out.then_ ((Below.refl _ _).drew)) hf); have A8 := Lib.hid (A7.out.drew.oneKept hf.2 hgB.symm); have N8 := N7.out.drew.oneKept hf.2 hb6.symm; have n0 : w8.cell? ⟨b6, 0, none⟩ = some (.int .i64 k) := N8.cell 0; have n1 : w8.cell? ⟨b6, 1, none⟩ = some (.int .i64 n) := N8.cell 1; have n2 : w8.cell? ⟨b6, 2, none⟩ = some (.slice aa mm dd) := N8.cell 2; have z0 := A8.out.frozen 0; have z1 := A8.out.frozen 1; have z2 := A8.out.frozen 2; have zl := A8.out.lt; have y0 : w8.cell? ⟨B, 0, none⟩ = some (.int .i64 0) := A8.out.cell 0; have y1 : w8.cell? ⟨B, 1, none⟩ = some (.int .i64 0) := A8.out.cell 1; have y2 : w8.cell? ⟨B, 2, none⟩ = some (.slice none 0 0) := A8.out.cell 2)
          all_goals
            have F1 := Lib.hid (ex_store A8.out (.int .i64 k) (.int .i64 n) (.slice aa mm dd))
            have F2 := Lib.hid (H8.out.store3 (b := B) HBB.out hgB (.int .i64 k) (.int .i64 n) (.slice aa mm dd))
            go_wp2_with fail
            generalize World.setCell (World.setCell (World.setCell w8 _ _) _ _) _ _ = W9 at F1 F2 ⊢
            have e0 := F1.out.cell 0; have e1 := F1.out.cell 1; have e2 := F1.out.cell 2
            simp at e0 e1 e2
            (try simp only [Exit.inBlock, Exit.then])
            refine bodyPost_ret (v := .tuple #[.agg #[.int .i64 k, .int .i64 n, .slice aa mm dd], .bool false]) ?_ rfl ?_
            · simp [results, Tryz.results151, go_sem, e0, e1, e2]
            · exact (by rw [HR2.out]; exact EPost.bad_ (by decide) F2.out)
  · -- a number
    have hne : X.toList ≠ [40] := by rw [str_list, hX]; simpa using c2
    have e1 : (X.toList == [40]) = false := by simpa using hne
    have HB := Lib.hid (show RR = (natP l).bind fun p => .good (.node 1 p.1 [], p.2) by rw [hRR, leafP, if_neg c1', if_neg c2])
    have CN := Lib.hid (fun W (hW : LW g S l o w W) => rd_natural hW.rd hS)
    have hok : okT (hd l) := H0.out.rd.ok
    rcases natP_cases l with ⟨c, e⟩ | ⟨n, e⟩
    · have HR := Lib.hid (show RR = .bad c by rw [HB.out, e]; rfl)
      rw [e] at CN
      clear hRR hns c1 c1' c2 hX e hok HB
      go_enter Tryz.func151, Tryz.ntmps151
      go_upto_region 1 with fail
      rw [← hB]
      clear hB
      generalize World.alloc w _ = W0 at HA0 H0 ⊢
      go_wp2_with fail
      refine (CT.out _ H0.out).mono ?_
      rintro e w1 ⟨rfl, hw⟩
      have H1 := Lib.hid (H0.out.went hw)
      have A1 := Lib.hid (HA0.out.oneKept hw.2 hgB.symm)
      clear hw H0 HA0
      go_wp2_with fail
      refine (CK.out _ H1.out).mono ?_
      rintro e w2 ⟨rfl, hb⟩
      have H2 := Lib.hid (H1.out.then_ hb)
      have A2 := Lib.hid (A1.out.then_ hb)
      clear hb H1 A1
      go_wp2_with fail
      refine (CN.out _ H2.out).mono ?_
      rintro e w1 ⟨rfl, hc, hf⟩
      have H3 := Lib.hid (H2.out.failed hf)
      have a1 := A2.out.oneKept hf.2 hgB.symm
      clear hf H2 A2
      have z0 := a1.frozen 0; have z1 := a1.frozen 1; have z2 := a1.frozen 2; have zl := a1.lt; have y0 := a1.cell 0; have y1 := a1.cell 1; have y2 := a1.cell 2; simp at y0 y1 y2
      have F1 := Lib.hid (ex_store a1 (.int .i64 1) (.int .i64 0) (.slice none 0 0))
      have F2 := Lib.hid (H3.out.store3 (b := B) HBB.out hgB (.int .i64 1) (.int .i64 0) (.slice none 0 0))
      clear a1
      go_wp2_with fail
      generalize World.setCell (World.setCell (World.setCell w1 _ _) _ _) _ _ = W9 at F1 F2 ⊢
      have e0 := F1.out.cell 0; have e1 := F1.out.cell 1; have e2 := F1.out.cell 2
      simp at e0 e1 e2
      (try simp only [Exit.inBlock, Exit.then])
      refine bodyPost_ret (v := .tuple #[.agg #[.int .i64 1, .int .i64 0, .slice none 0 0], .bool false]) ?_ rfl ?_
      · simp [results, Tryz.results151, go_sem, e0, e1, e2]
      · exact (by rw [HR.out]; exact EPost.bad_ hc F2.out)
    · have HR := Lib.hid (show RR = .good (.node 1 n [], l.tail) by rw [HB.out, e]; rfl)
      have hn := natP_in e hok
      simp only at hn
      have HN := Lib.hid (show I64 n by unfold I64; omega)
      rw [e] at CN
      clear hRR hns c1 c1' c2 hX e hok HB hn
      go_enter Tryz.func151, Tryz.ntmps151
      go_upto_region 1 with fail
      rw [← hB]
      clear hB
      generalize World.alloc w _ = W0 at HA0 H0 ⊢
      go_wp2_with fail
      refine (CT.out _ H0.out).mono ?_
      rintro e w1 ⟨rfl, hw⟩
      have H1 := Lib.hid (H0.out.went hw)
      have A1 := Lib.hid (HA0.out.oneKept hw.2 hgB.symm)
      clear hw H0 HA0
      go_wp2_with fail
      refine (CK.out _ H1.out).mono ?_
      rintro e w2 ⟨rfl, hb⟩
      have H2 := Lib.hid (H1.out.then_ hb)
      have A2 := Lib.hid (A1.out.then_ hb)
      clear hb H1 A1
      go_wp2_with fail
      refine (CN.out _ H2.out).mono ?_
      rintro e w1 ⟨rfl, hf⟩
      have H3 := Lib.hid (H2.out.went hf)
      have a1 := A2.out.oneKept hf.2 hgB.symm
      clear hf H2 A2
      have z0 := a1.frozen 0; have z1 := a1.frozen 1; have z2 := a1.frozen 2; have zl := a1.lt; have y0 := a1.cell 0; have y1 := a1.cell 1; have y2 := a1.cell 2; simp at y0 y1 y2
      have F1 := Lib.hid (ex_store a1 (.int .i64 1) (.int .i64 n) (.slice none 0 0))
      have F2 := Lib.hid (H3.out.store3 HG.out (b := B) HBB.out hgB (.int .i64 1) (.int .i64 n) (.slice none 0 0))
      clear a1
      go_wp2_with fail
      generalize World.setCell (World.setCell (World.setCell w1 _ _) _ _) _ _ = W9 at F1 F2 ⊢
      have e0 := F1.out.cell 0; have e1 := F1.out.cell 1; have e2 := F1.out.cell 2
      simp at e0 e1 e2
      (try simp only [Exit.inBlock, Exit.then])
      refine bodyPost_ret (v := .tuple #[.agg #[.int .i64 1, .int .i64 n, .slice none 0 0], .bool true]) ?_ rfl ?_
      · simp [results, Tryz.results151, go_sem, e0, e1, e2]
      · exact (by rw [HR.out]; exact EPost.good_ (TG.leaf _ _ (by unfold I64; omega) HN.out) ⟨F2.out.rd, F2.out.kept⟩)
end Go.Proofs.YtdmkghgachapaabGreatDoor
