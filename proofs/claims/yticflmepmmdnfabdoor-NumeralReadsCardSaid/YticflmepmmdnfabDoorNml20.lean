/- Reading numerals, plain: the program's Lenient on the texts that are written in the scripts 9 to 12. No model in this text. -/
import Derived.Test.YticflmepmmdnfabDoorNml12
namespace Go.Proofs.YticflmepmmdnfabDoor
set_option linter.unusedVariables false
set_option linter.unusedSimpArgs false
set_option maxRecDepth 100000
open Nml

/-- The value of a code point, and whether it occurs. -/
def romV (c : Nat) : Int × Bool := if c = 73 then (1, true) else if c = 86 then (5, true) else if c = 88 then (10, true) else if c = 76 then (50, true) else if c = 67 then (100, true) else if c = 68 then (500, true) else if c = 77 then (1000, true) else (0, false)
def encB (c : Nat) : List UInt8 := (Utf8.encode (c : Int)).data.toList
def sgRow (g : Bool) (p u : Nat) (e : List UInt8) : Nat → Nat → Option Int
  | 0, _ => none
  | k + 1, n => if sgn g p n = e then some ((n * u : Nat) : Int) else sgRow g p u e k (n + 1)
def sgOr (o : Option Int) (r : Int × Bool) : Int × Bool := match o with | some v => (v, true) | none => r
/-- What is found when k places are left. -/
def sgRest (g : Bool) (e : List UInt8) (k : Nat) : Int × Bool :=
  match k with
  | 0 => (0, false)
  | 1 => sgOr (sgRow g 2 100 e 9 1) (0, false)
  | 2 => sgOr (sgRow g 1 10 e 9 1) (sgOr (sgRow g 2 100 e 9 1) (0, false))
  | _ => sgOr (sgRow g 0 1 e 9 1) (sgOr (sgRow g 1 10 e 9 1) (sgOr (sgRow g 2 100 e 9 1) (0, false)))
def sgV (g : Bool) (c : Nat) : Int × Bool := sgRest g (encB c) 3
def chRow (e : List UInt8) : Nat → Nat → Option Int
  | 0, _ => none
  | k + 1, n => if chD n = e then some (n : Int) else chRow e k (n + 1)
def chBig (c : Nat) : Int × Bool := if c = 21313 then (10, true) else if c = 30334 then (100, true) else if c = 21315 then (1000, true) else (0, false)
def chV (c : Nat) : Int × Bool := sgOr (chRow (encB c) 10 0) (chBig c)
def posV (z c : Nat) : Int × Bool := ((c : Int) - z, decide (c = 45) || (decide (z ≤ c) && decide (c < z + 10)))
def valP (s : Int) (c : Nat) : Int × Bool := if s = 9 then romV c else if s = 10 then sgV true c else if s = 11 then sgV false c else if s = 12 then chV c else posV (zeroOf s.toNat) c
structure LSt where
  total : Int
  last : Int
  digit : Int
  neg : Bool
  deriving DecidableEq
def lenStepV (v : Int × Bool) (s : Int) (i c : Nat) (st : LSt) : Option LSt :=
  if v.2 = false ∨ 1099511627776 < st.total then none
  else if s = 9 then some { st with total := (if st.last < v.1 then st.total - 2 * st.last else st.total) + v.1, last := v.1 }
  else if s = 10 ∨ s = 11 then some { st with total := st.total + v.1 }
  else if s = 12 then (if v.1 < 10 then some { st with total := st.total + st.digit, digit := v.1 } else some { st with total := st.total + st.digit * v.1, digit := 0 })
  else if c = 45 then (if 0 < i then none else some { st with neg := true })
  else some { st with total := st.total * 10 + v.1 }
def lenStep (s : Int) (i c : Nat) (st : LSt) : Option LSt := lenStepV (valP s c) s i c st
def lenGo (s : Int) : Nat → Nat → List UInt8 → LSt → Option LSt
  | 0, _, _, st => some st
  | _ + 1, _, [], st => some st
  | f + 1, i, b :: r, st => match lenStep s i (Lib.decodeL (b :: r)).1 st with
    | none => none
    | some st' => lenGo s f (i + (Lib.decodeL (b :: r)).2) ((b :: r).drop (Lib.decodeL (b :: r)).2) st'
def lenEnd (st : LSt) : Int := if st.neg then -(st.total + st.digit) else st.total + st.digit
/-- What Lenient returns. -/
def lenP (s : Int) (l : List UInt8) : Int × Bool := match lenGo s l.length 0 l ⟨0, 0, 0, false⟩ with
  | none => (0, false)
  | some st => (lenEnd st, !l.isEmpty)
theorem lenGo_step (s : Int) (f i : Nat) (l : List UInt8) (st : LSt) (h : l ≠ []) : lenGo s (f + 1) i l st = match lenStep s i (Lib.decodeL l).1 st with | none => none | some st' => lenGo s f (i + (Lib.decodeL l).2) (l.drop (Lib.decodeL l).2) st' := by
  cases l with
  | nil => exact absurd rfl h
  | cons b r => rfl
theorem lenGo_nil (s : Int) (f i : Nat) (st : LSt) : lenGo s f i [] st = some st := by cases f <;> rfl

theorem full_one (r : Nat) (h : r ≤ 127) (rest : List UInt8) : Lib.decodeL (Lib.encodeRune (r : Int) ++ rest) = (r, (Lib.encodeRune (r : Int)).length) := by
  have e : Lib.encodeRune (r : Int) = [r.toUInt8] := by
    unfold Lib.encodeRune; rw [Lib.encodeRuneZ_one (by omega) (by omega)]; rfl
  rw [e]
  show Lib.decodeL (r.toUInt8 :: rest) = (r, 1)
  rw [Lib.decodeL_ascii _ _ (by rw [u8_nat r (by omega)]; omega), u8_nat r (by omega)]
theorem full_two (r : Nat) (h : 128 ≤ r) (h2 : r ≤ 2047) (rest : List UInt8) : Lib.decodeL (Lib.encodeRune (r : Int) ++ rest) = (r, (Lib.encodeRune (r : Int)).length) := by
  have e : Lib.encodeRune (r : Int) = [(192 + r / 64).toUInt8, (128 + r % 64).toUInt8] := by
    unfold Lib.encodeRune; rw [Lib.encodeRuneZ_two (by omega) (by omega)]
    simp only [List.map_cons, List.map_nil]
    rw [show ((192 : Int) + (r : Int) / 64).toNat = 192 + r / 64 by omega, show ((128 : Int) + (r : Int) % 64).toNat = 128 + r % 64 by omega]
  rw [e, Lib.decodeL_N]
  have e0 : (([(192 + r / 64).toUInt8, (128 + r % 64).toUInt8] ++ rest).getD 0 0).toNat = 192 + r / 64 := by show ((192 + r / 64).toUInt8).toNat = _; rw [u8_nat _ (by omega)]
  have e1 : (([(192 + r / 64).toUInt8, (128 + r % 64).toUInt8] ++ rest).getD 1 0).toNat = 128 + r % 64 := by show ((128 + r % 64).toUInt8).toNat = _; rw [u8_nat _ (by omega)]
  rw [e0, e1]
  have hn : 1 < ([(192 + r / 64).toUInt8, (128 + r % 64).toUInt8] ++ rest).length := by simp
  have hv : (192 + r / 64) % 32 * 64 + (128 + r % 64) % 64 = r := by omega
  unfold Lib.decodeN
  rw [if_neg (by omega), if_pos ⟨by omega, hn, by omega⟩, hv, if_pos (by omega)]
  rfl
theorem full_three (r : Nat) (h : (2048 ≤ r ∧ r < 55296) ∨ (57343 < r ∧ r ≤ 65535)) (rest : List UInt8) : Lib.decodeL (Lib.encodeRune (r : Int) ++ rest) = (r, (Lib.encodeRune (r : Int)).length) := by
  have e : Lib.encodeRune (r : Int) = [(224 + r / 4096).toUInt8, (128 + r / 64 % 64).toUInt8, (128 + r % 64).toUInt8] := by
    unfold Lib.encodeRune; rw [Lib.encodeRuneZ_three (by omega)]
    simp only [List.map_cons, List.map_nil]
    rw [show ((224 : Int) + (r : Int) / 4096).toNat = 224 + r / 4096 by omega, show ((128 : Int) + (r : Int) / 64 % 64).toNat = 128 + r / 64 % 64 by omega, show ((128 : Int) + (r : Int) % 64).toNat = 128 + r % 64 by omega]
  rw [e, Lib.decodeL_N]
  have e0 : (([(224 + r / 4096).toUInt8, (128 + r / 64 % 64).toUInt8, (128 + r % 64).toUInt8] ++ rest).getD 0 0).toNat = 224 + r / 4096 := by show ((224 + r / 4096).toUInt8).toNat = _; rw [u8_nat _ (by omega)]
  have e1 : (([(224 + r / 4096).toUInt8, (128 + r / 64 % 64).toUInt8, (128 + r % 64).toUInt8] ++ rest).getD 1 0).toNat = 128 + r / 64 % 64 := by show ((128 + r / 64 % 64).toUInt8).toNat = _; rw [u8_nat _ (by omega)]
  have e2 : (([(224 + r / 4096).toUInt8, (128 + r / 64 % 64).toUInt8, (128 + r % 64).toUInt8] ++ rest).getD 2 0).toNat = 128 + r % 64 := by show ((128 + r % 64).toUInt8).toNat = _; rw [u8_nat _ (by omega)]
  rw [e0, e1, e2]
  have hn : 2 < ([(224 + r / 4096).toUInt8, (128 + r / 64 % 64).toUInt8, (128 + r % 64).toUInt8] ++ rest).length := by simp
  have hn1 : 1 < ([(224 + r / 4096).toUInt8, (128 + r / 64 % 64).toUInt8, (128 + r % 64).toUInt8] ++ rest).length := by simp
  have hv : (224 + r / 4096) % 16 * 4096 + (128 + r / 64 % 64) % 64 * 64 + (128 + r % 64) % 64 = r := by omega
  unfold Lib.decodeN
  rw [if_neg (by omega), if_neg (by omega), if_pos ⟨by omega, ⟨hn1, by omega⟩, hn, by omega⟩, hv, if_pos (by omega)]
  rfl
/-- A code point of at most three bytes. -/
def good (r : Nat) : Bool := decide (r < 55296) || (decide (57343 < r) && decide (r ≤ 65535))
theorem full_good (r : Nat) (h : good r = true) (rest : List UInt8) : Lib.decodeL (Lib.encodeRune (r : Int) ++ rest) = (r, (Lib.encodeRune (r : Int)).length) := by
  have h2 : r < 55296 ∨ (57343 < r ∧ r ≤ 65535) := by unfold good at h; simpa using h
  by_cases h1 : r ≤ 127
  · exact full_one r h1 rest
  by_cases h3 : r ≤ 2047
  · exact full_two r (by omega) h3 rest
  · exact full_three r (by omega) rest
theorem encR_ne (r : Int) : Lib.encodeRune r ≠ [] := by
  unfold Lib.encodeRune Lib.encodeRuneZ
  intro e
  have := congrArg List.length e
  rw [List.length_map] at this
  split at this
  · simp at this
  · split at this
    · simp at this
    · split at this
      · simp at this
      · split at this <;> simp at this
/-- The bytes of code points. -/
def encs (cs : List Nat) : List UInt8 := cs.flatMap fun (c : Nat) => Lib.encodeRune (c : Int)
theorem encs_app (a b : List Nat) : encs (a ++ b) = encs a ++ encs b := by simp [encs]
theorem encs_cons (c : Nat) (r : List Nat) : encs (c :: r) = Lib.encodeRune (c : Int) ++ encs r := by simp [encs]
theorem encs_empty (a : List Nat) : (encs a).isEmpty = a.isEmpty := by
  cases a with
  | nil => rfl
  | cons c r =>
    rw [encs_cons]
    cases h : Lib.encodeRune (c : Int) with
    | nil => exact absurd h (encR_ne _)
    | cons b t => rfl
theorem encs_len : ∀ a : List Nat, a.length ≤ (encs a).length
  | [] => by simp [encs]
  | c :: r => by
    have := encs_len r
    rw [encs_cons, List.length_append, List.length_cons]
    have h : 1 ≤ (Lib.encodeRune (c : Int)).length := by
      cases h : Lib.encodeRune (c : Int) with
      | nil => exact absurd h (encR_ne _)
      | cons b t => simp
    omega
def lenC (val : Nat → Int × Bool) (s : Int) : List Nat → LSt → Option LSt
  | [], st => some st
  | c :: r, st => match lenStepV (val c) s 0 c st with | none => none | some st' => lenC val s r st'
theorem step_any (v : Int × Bool) (s : Int) (hs : 9 ≤ s ∧ s ≤ 12) (i c : Nat) (st : LSt) : lenStepV v s i c st = lenStepV v s 0 c st := by
  unfold lenStepV
  by_cases h : v.2 = false ∨ 1099511627776 < st.total
  · rw [if_pos h, if_pos h]
  rw [if_neg h, if_neg h]
  by_cases h9 : s = 9
  · rw [if_pos h9, if_pos h9]
  rw [if_neg h9, if_neg h9]
  by_cases h10 : s = 10 ∨ s = 11
  · rw [if_pos h10, if_pos h10]
  have h12 : s = 12 := by omega
  rw [if_neg h10, if_neg h10, if_pos h12, if_pos h12]
theorem go_codes (val : Nat → Int × Bool) (s : Int) (hs : 9 ≤ s ∧ s ≤ 12) : ∀ (cs : List Nat) (f i : Nat) (st : LSt), (∀ c ∈ cs, good c = true ∧ valP s c = val c) → cs.length ≤ f → lenGo s f i (encs cs) st = lenC val s cs st
  | [], f, i, st, _, _ => lenGo_nil _ _ _ _
  | c :: r, 0, i, st, _, hf => by simp at hf
  | c :: r, f + 1, i, st, h, hf => by
    obtain ⟨h1, h2⟩ := h c (by simp)
    have hd := full_good c h1 (encs r)
    have hne : Lib.encodeRune (c : Int) ++ encs r ≠ [] := fun e => encR_ne (c : Int) (List.append_eq_nil_iff.1 e).1
    rw [encs_cons, lenGo_step _ _ _ _ _ hne, hd]
    simp only []
    unfold lenStep lenC
    rw [step_any _ s hs, h2]
    cases lenStepV (val c) s 0 c st with
    | none => rfl
    | some st' =>
      simp only []
      rw [List.drop_left]
      exact go_codes val s hs r f _ st' (fun x hx => h x (by simp [hx])) (by simp at hf; omega)
def valT (tab : List (Nat × Int)) (c : Nat) : Int × Bool := match tab.find? (fun x => x.1 == c) with | some x => (x.2, true) | none => (0, false)
/-- A text of code points of a table is read as the table says. -/
def okC (tab : List (Nat × Int)) (s : Int) (cs : List Nat) (n : Nat) : Bool := !cs.isEmpty && cs.all (fun c => good c && (valT tab c).2) && (match lenC (valT tab) s cs ⟨0, 0, 0, false⟩ with | some st => lenEnd st == (n : Int) | none => false)
theorem len_codes (tab : List (Nat × Int)) (s : Int) (hs : 9 ≤ s ∧ s ≤ 12) (ht : ∀ x ∈ tab, valP s x.1 = (x.2, true)) (cs : List Nat) (n : Nat) (h : okC tab s cs n = true) : lenP s (encs cs) = ((n : Int), true) := by
  unfold okC at h
  rw [Bool.and_eq_true, Bool.and_eq_true] at h
  obtain ⟨⟨h1, h2⟩, h3⟩ := h
  have hall : ∀ c ∈ cs, good c = true ∧ valP s c = valT tab c := fun c hc => by
    have := List.all_eq_true.1 h2 c hc
    rw [Bool.and_eq_true] at this
    refine ⟨this.1, ?_⟩
    have hv := this.2
    unfold valT at hv ⊢
    cases hf : tab.find? (fun x => x.1 == c) with
    | none => rw [hf] at hv; cases hv
    | some x =>
      have hx := ht x (List.mem_of_find?_eq_some hf)
      have he := List.find?_some hf
      have : x.1 = c := by simpa using he
      rw [← this]; exact hx
  unfold lenP
  rw [go_codes (valT tab) s hs cs (encs cs).length 0 ⟨0, 0, 0, false⟩ hall (encs_len cs), encs_empty]
  cases hc : lenC (valT tab) s cs ⟨0, 0, 0, false⟩ with
  | none => rw [hc] at h3; cases h3
  | some st =>
    rw [hc] at h3
    have : lenEnd st = (n : Int) := by simpa using h3
    show (lenEnd st, !cs.isEmpty) = _
    rw [this, h1]
/-- Roman. -/
def tabR : List (Nat × Int) := [(73, 1), (86, 5), (88, 10), (76, 50), (67, 100), (68, 500), (77, 1000)]
theorem tabR_ok : ∀ x ∈ tabR, valP 9 x.1 = (x.2, true) := by decide +kernel
def romC (n : Nat) : List Nat := (romS n).map (·.toNat)
theorem encs_ascii : ∀ l : List UInt8, (∀ c ∈ l, c.toNat < 128) → encs (l.map (·.toNat)) = l
  | [], _ => rfl
  | c :: r, h => by
    have hc := h c (by simp)
    rw [List.map_cons, encs_cons, encs_ascii r (fun x hx => h x (by simp [hx]))]
    unfold Lib.encodeRune
    rw [Lib.encodeRuneZ_one (by omega) (by omega)]
    simp
theorem romD_mem (a b c : UInt8) (n : Nat) : ∀ x ∈ romD a b c n, x = a ∨ x = b ∨ x = c := by
  intro x hx
  unfold romD at hx
  split at hx
  · simp at hx; rcases hx with h | h <;> simp [h]
  · split at hx
    · rcases List.mem_append.1 hx with h | h
      · simp at h; simp [h]
      · have := List.eq_of_mem_replicate h; simp [this]
    · split at hx
      · simp at hx; rcases hx with h | h <;> simp [h]
      · have := List.eq_of_mem_replicate hx; simp [this]
theorem romS_ascii (n : Nat) : ∀ c ∈ romS n, c.toNat < 128 := by
  intro c hc
  unfold romS at hc
  rcases List.mem_append.1 hc with hc | hc
  · rcases List.mem_append.1 hc with hc | hc
    · rcases List.mem_append.1 hc with hc | hc
      · rw [List.eq_of_mem_replicate hc]; decide
      · rcases romD_mem _ _ _ _ c hc with h | h | h <;> rw [h] <;> decide
    · rcases romD_mem _ _ _ _ c hc with h | h | h <;> rw [h] <;> decide
  · rcases romD_mem _ _ _ _ c hc with h | h | h <;> rw [h] <;> decide
set_option maxHeartbeats 8000000 in
theorem rom_ok (n : Nat) (h0 : 0 < n) (h : n < 4000) : okC tabR 9 (romC n) n = true := by
  have := four_of (fun n => n == 0 || okC tabR 9 (romC n) n) 4 (by decide +kernel) n (by omega)
  rw [Bool.or_eq_true] at this
  rcases this with e | e
  · simp at e; omega
  · exact e
theorem len_rom (n : Nat) (h0 : 0 < n) (h : n < 4000) : lenP 9 (romS n) = ((n : Int), true) := by
  have := len_codes tabR 9 (by omega) tabR_ok (romC n) n (rom_ok n h0 h)
  rwa [show encs (romC n) = romS n from encs_ascii _ (romS_ascii n)] at this
/-- Greek and Hebrew. -/
def sgnCL (g : Bool) (place : Nat) : List (List Nat) := if g then ([[[945], [946], [947], [948], [949], [987], [950], [951], [952]], [[953], [954], [955], [956], [957], [958], [959], [960], [991]], [[961], [963], [964], [965], [966], [967], [968], [969], [993]]] : List (List (List Nat))).getD place [] else ([[[1488], [1489], [1490], [1491], [1492], [1493], [1494], [1495], [1496]], [[1497], [1499], [1500], [1502], [1504], [1505], [1506], [1508], [1510]], [[1511], [1512], [1513], [1514], [1514, 1511], [1514, 1512], [1514, 1513], [1514, 1514], [1514, 1514, 1511]]] : List (List (List Nat))).getD place []
def sgnC (g : Bool) (place n : Nat) : List Nat := if n = 0 then [] else (sgnCL g place).getD (n - 1) []
def sigC (g : Bool) (n : Nat) : List Nat :=
  if g = false ∧ (n % 100 = 15 ∨ n % 100 = 16) then sgnC g 2 (n / 100) ++ sgnC g 0 9 ++ sgnC g 0 (n % 100 - 9) else sgnC g 2 (n / 100) ++ sgnC g 1 (n / 10 % 10) ++ sgnC g 0 (n % 10)
theorem sgn_codes (g : Bool) (p n : Nat) (hp : p < 3) (hn : n < 10) : encs (sgnC g p n) = sgn g p n := by
  have key : ∀ g, allU 3 (fun p => allU 10 fun n => decide (encs (sgnC g p n) = sgn g p n)) = true := by decide +kernel
  have := allU_of 10 _ (allU_of 3 _ (key g) p hp) n hn
  simpa using this
theorem sig_codes (g : Bool) (n : Nat) (hn : n < 1000) : encs (sigC g n) = sigS g n := by
  unfold sigC sigS
  split
  · rw [encs_app, encs_app, sgn_codes g 2 _ (by omega) (by omega), sgn_codes g 0 _ (by omega) (by omega), sgn_codes g 0 _ (by omega) (by omega)]
  · rw [encs_app, encs_app, sgn_codes g 2 _ (by omega) (by omega), sgn_codes g 1 _ (by omega) (by omega), sgn_codes g 0 _ (by omega) (by omega)]
def tabG : List (Nat × Int) := [(945, 1), (946, 2), (947, 3), (948, 4), (949, 5), (987, 6), (950, 7), (951, 8), (952, 9), (953, 10), (954, 20), (955, 30), (956, 40), (957, 50), (958, 60), (959, 70), (960, 80), (991, 90), (961, 100), (963, 200), (964, 300), (965, 400), (966, 500), (967, 600), (968, 700), (969, 800), (993, 900)]
def tabH : List (Nat × Int) := [(1488, 1), (1489, 2), (1490, 3), (1491, 4), (1492, 5), (1493, 6), (1494, 7), (1495, 8), (1496, 9), (1497, 10), (1499, 20), (1500, 30), (1502, 40), (1504, 50), (1505, 60), (1506, 70), (1508, 80), (1510, 90), (1511, 100), (1512, 200), (1513, 300), (1514, 400)]
theorem tabG_ok : ∀ x ∈ tabG, valP 10 x.1 = (x.2, true) := by decide +kernel
theorem tabH_ok : ∀ x ∈ tabH, valP 11 x.1 = (x.2, true) := by decide +kernel
set_option maxHeartbeats 8000000 in
theorem sigG_ok (n : Nat) (h0 : 0 < n) (h : n < 1000) : okC tabG 10 (sigC true n) n = true := by
  have := four_of (fun n => n == 0 || okC tabG 10 (sigC true n) n) 1 (by decide +kernel) n (by omega)
  rw [Bool.or_eq_true] at this
  rcases this with e | e
  · simp at e; omega
  · exact e
set_option maxHeartbeats 8000000 in
theorem sigH_ok (n : Nat) (h0 : 0 < n) (h : n < 1000) : okC tabH 11 (sigC false n) n = true := by
  have := four_of (fun n => n == 0 || okC tabH 11 (sigC false n) n) 1 (by decide +kernel) n (by omega)
  rw [Bool.or_eq_true] at this
  rcases this with e | e
  · simp at e; omega
  · exact e
theorem len_sigG (n : Nat) (h0 : 0 < n) (h : n < 1000) : lenP 10 (sigS true n) = ((n : Int), true) := by
  have := len_codes tabG 10 (by omega) tabG_ok (sigC true n) n (sigG_ok n h0 h)
  rwa [sig_codes true n h] at this
theorem len_sigH (n : Nat) (h0 : 0 < n) (h : n < 1000) : lenP 11 (sigS false n) = ((n : Int), true) := by
  have := len_codes tabH 11 (by omega) tabH_ok (sigC false n) n (sigH_ok n h0 h)
  rwa [sig_codes false n h] at this
/-- Chinese. -/
def chDC (n : Nat) : List Nat := ([[12295], [19968], [20108], [19977], [22235], [20116], [20845], [19971], [20843], [20061]] : List (List Nat)).getD n []
def chPC : List (Nat × List Nat) := [(1000, [21315]), (100, [30334]), (10, [21313]), (1, [])]
def chStepC (n : Nat) (st : List Nat × Bool) (p : Nat × List Nat) : List Nat × Bool :=
  if n / p.1 % 10 = 0 then (st.1, !st.1.isEmpty) else (((if st.2 then st.1 ++ chDC 0 else st.1) ++ (chDC (n / p.1 % 10) ++ p.2)), false)
def chC (n : Nat) : List Nat := if n = 0 then chDC 0 else (chPC.foldl (chStepC n) ([], false)).1
theorem chD_codes (n : Nat) (hn : n < 10) : encs (chDC n) = chD n := by
  have := allU_of 10 (fun n => decide (encs (chDC n) = chD n)) (by decide +kernel) n hn
  simpa using this
theorem chStep_codes (n : Nat) (st : List Nat × Bool) (p : Nat × List Nat) : chStep n (encs st.1, st.2) (p.1, encs p.2) = (encs (chStepC n st p).1, (chStepC n st p).2) := by
  unfold chStep chStepC
  by_cases h : n / p.1 % 10 = 0
  · rw [if_pos h, if_pos h, encs_empty]
  · rw [if_neg h, if_neg h]
    simp only []
    rw [encs_app, encs_app, chD_codes _ (by omega)]
    split
    · rw [encs_app, chD_codes 0 (by omega)]
    · rfl
theorem ch_codes (n : Nat) : encs (chC n) = chS n := by
  unfold chC chS
  split
  · exact chD_codes 0 (by omega)
  · have hp : chP = chPC.map fun x => (x.1, encs x.2) := by decide +kernel
    rw [hp]
    have key : ∀ (l : List (Nat × List Nat)) (st : List Nat × Bool), (l.map fun x => (x.1, encs x.2)).foldl (chStep n) (encs st.1, st.2) = (encs (l.foldl (chStepC n) st).1, (l.foldl (chStepC n) st).2) := by
      intro l
      induction l with
      | nil => intro st; rfl
      | cons x r ih =>
        intro st
        rw [List.map_cons, List.foldl_cons, List.foldl_cons, chStep_codes n st x, ih]
    have := key chPC ([], false)
    rw [show encs ([], false).1 = ([] : List UInt8) from rfl] at this
    rw [this]
def tabC : List (Nat × Int) := [(12295, 0), (19968, 1), (20108, 2), (19977, 3), (22235, 4), (20116, 5), (20845, 6), (19971, 7), (20843, 8), (20061, 9), (21313, 10), (30334, 100), (21315, 1000)]
theorem tabC_ok : ∀ x ∈ tabC, valP 12 x.1 = (x.2, true) := by decide +kernel
set_option maxHeartbeats 8000000 in
theorem ch_ok (n : Nat) (h : n < 10000) : okC tabC 12 (chC n) n = true :=
  four_of (fun n => okC tabC 12 (chC n) n) 10 (by decide +kernel) n (by omega)
theorem len_ch (n : Nat) (h : n < 10000) : lenP 12 (chS n) = ((n : Int), true) := by
  have := len_codes tabC 12 (by omega) tabC_ok (chC n) n (ch_ok n h)
  rwa [ch_codes n] at this
end Go.Proofs.YticflmepmmdnfabDoor
