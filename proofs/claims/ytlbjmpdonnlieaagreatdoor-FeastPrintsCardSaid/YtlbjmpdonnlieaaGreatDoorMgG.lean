/- Several texts in one: Cal, Arith0, Search, Arith1, Arith2, Arith3. -/
import Derived.Test.YtlbjmpdonnlieaaGreatDoorMgM
import Derived.Shelf.Abstract
set_option linter.unusedSimpArgs false
namespace Go.Proofs.YtlbjmpdonnlieaaGreatDoor
set_option linter.unusedVariables false
set_option maxRecDepth 100000
open Go.RowKit
def incErr (lo hi : Int) : Option Int → List Int → Int
  | _, [] => 0
  | p, y :: l => if inB lo hi y = false then 3 else if (match p with | some q => decide (y ≤ q) | none => false) = true then 9 else incErr lo hi (some y) l
theorem incErr_cons (lo hi : Int) (p : Option Int) (y : Int) (l : List Int) : incErr lo hi p (y :: l) = if inB lo hi y = false then 3 else if (match p with | some q => decide (y ≤ q) | none => false) = true then 9 else incErr lo hi (some y) l := by
  rw [incErr.eq_def]
def prevAt (xs : List Int) : Nat → Option Int
  | 0 => none
  | k + 1 => xs[k]?
def IncTo (lo hi : Int) (xs : List Int) (k : Nat) : Prop := incErr lo hi (prevAt xs k) (xs.drop k) = incErr lo hi none xs
theorem IncTo.start (lo hi : Int) (xs : List Int) : IncTo lo hi xs 0 := rfl
theorem IncTo.range {lo hi : Int} {xs : List Int} {k : Nat} {y : Int} (h : IncTo lo hi xs k) (hx : xs[k]? = some y) (hy : inB lo hi y = false) : incErr lo hi none xs = 3 := by
  rw [← h, drop_one hx, incErr_cons, if_pos hy]
theorem IncTo.first {lo hi : Int} {xs : List Int} {y : Int} (h : IncTo lo hi xs 0) (hx : xs[0]? = some y) (hy : inB lo hi y = true) : IncTo lo hi xs 1 := by
  unfold IncTo at h ⊢
  rw [← h, drop_one hx, incErr_cons, if_neg (by rw [hy]; simp), prevAt, prevAt, hx]
  simp
theorem IncTo.order {lo hi : Int} {xs : List Int} {k : Nat} {y q : Int} (h : IncTo lo hi xs (k + 1)) (hx : xs[k + 1]? = some y) (hq : xs[k]? = some q) (hy : inB lo hi y = true) (hle : y ≤ q) : incErr lo hi none xs = 9 := by
  rw [← h, drop_one hx, incErr_cons, if_neg (by rw [hy]; simp), prevAt, hq, if_pos (by simpa using hle)]
theorem IncTo.next {lo hi : Int} {xs : List Int} {k : Nat} {y q : Int} (h : IncTo lo hi xs (k + 1)) (hx : xs[k + 1]? = some y) (hq : xs[k]? = some q) (hy : inB lo hi y = true) (hle : ¬ y ≤ q) : IncTo lo hi xs (k + 1 + 1) := by
  unfold IncTo at h ⊢
  rw [← h, drop_one hx, incErr_cons, if_neg (by rw [hy]; simp), prevAt, prevAt, hq, hx, if_neg (by simpa using hle)]
theorem IncTo.last {lo hi : Int} {xs : List Int} {k : Nat} (h : IncTo lo hi xs k) (hk : xs.length ≤ k) : incErr lo hi none xs = 0 := by
  rw [← h, List.drop_eq_nil_of_le hk, incErr]
def calErr (s : ByteArray) (f c : Int) (ms : List Mon) (ls : List Int) : Int := if headErr s f c ≠ 0 then headErr s f c else if monthsErr ms ≠ 0 then monthsErr ms else incErr 1 c none ls
theorem calErr_head {s : ByteArray} {f c : Int} {ms : List Mon} {ls : List Int} (h : headErr s f c ≠ 0) : calErr s f c ms ls = headErr s f c := if_pos h
theorem calErr_months {s : ByteArray} {f c : Int} {ms : List Mon} {ls : List Int} (h : headErr s f c = 0) (h' : monthsErr ms ≠ 0) : calErr s f c ms ls = monthsErr ms := by rw [calErr, if_neg (by omega), if_pos h']
theorem calErr_leaps {s : ByteArray} {f c : Int} {ms : List Mon} {ls : List Int} (h : headErr s f c = 0) (h' : monthsErr ms = 0) : calErr s f c ms ls = incErr 1 c none ls := by rw [calErr, if_neg (by omega), if_neg (by omega)]
set_option maxHeartbeats 2000000 in
theorem compile_Check (w : World) (s : ByteArray) (f c : Int) (a1 a2 : Option Addr) (n1 c1 n2 c2 : Nat) (ms : List Mon) (ls : List Int) (hs : s.size ≤ 9223372036854775807) (k1 : n1 ≤ c1)
    (h1 : Months w w.heap.size a1 n1 ms) (h2 : Ints w w.heap.size a2 n2 ls) :
    Calls Tryz.prog 90 #[.agg #[.string s, .int .i64 f, .int .i64 c, .slice a1 n1 c1, .slice a2 n2 c2]] w fun e w' => e = .returned (.int .i64 (calErr s f c ms ls)) ∧ Below w.heap.size w w' := by
  have H1 := Lib.hid h1; have H2 := Lib.hid h2
  have L2 := Lib.hid h2.1
  have m2 := h2.2.1
  clear h1 h2
  go_enter Tryz.func90, Tryz.ntmps90
  go_wp2_with fail
  refine (rule_Head _ _ _ _ hs).mono ?_
  by_cases q1 : headErr s f c = 0
  case neg =>
    have hfin := Lib.hid (calErr_head (ms := ms) (ls := ls) q1)
    have q1' : (headErr s f c != 0) = true := by simpa using q1
    generalize headErr s f c = E at hfin q1' ⊢
    rintro e w1 ⟨rfl, rfl⟩
    clear q1
    go_wp2_with fail
    go_ret
    exact ⟨ret_int (by rw [hfin.out]), by exact bl⟩
  have Q1 := Lib.hid q1
  rw [q1]
  clear q1
  rintro e w1 ⟨rfl, rfl⟩
  go_wp2_with fail
  refine (rule_Months _ _ _ _ ms k1 ((H1.out.below ((Below.refl _ _).alloc (Nat.le_refl _) _) (Nat.le_refl _)).more (by simp))).mono ?_
  by_cases q2 : monthsErr ms = 0
  case neg =>
    have hfin := Lib.hid (calErr_months (ls := ls) Q1.out q2)
    have q2' : (monthsErr ms != 0) = true := by simpa using q2
    generalize monthsErr ms = E at hfin q2' ⊢
    rintro e w1 ⟨rfl, hb⟩
    clear q2
    go_wp2_with fail
    go_ret
    exact ⟨ret_int (by rw [hfin.out]), by exact bl⟩
  have hfin := Lib.hid (calErr_leaps (ls := ls) Q1.out q2)
  rw [q2]
  clear q2
  rintro e w1 ⟨rfl, hb⟩
  have a0 := (At.new w (.cells #[.string s, .int .i64 f, .int .i64 c, .slice a1 n1 c1, .slice a2 n2 c2] 39)).then_ hb
  have b0 : Below w.heap.size w w1 := by exact bl
  have d2 := a0.cell 2; have d4 := a0.cell 4
  simp at d2 d4
  clear hb
  go_wp2_with fail
  go_loop [5, 6, 26] (fun _ _ i => ∃ k : Nat, k ≤ n2 ∧ i = .int .i64 k ∧ IncTo 1 c ls k) (fun _ _ i => n2 - (intOf i).toNat)
  case atStart => exact ⟨0, by omega, rfl, IncTo.start _ _ _⟩
  case round =>
    obtain ⟨k, hk, rfl, hI⟩ := hrel
    have HI := Lib.hid hI; clear hI
    by_cases hlt : k < n2
    · obtain ⟨b, off, y, rfl, hbB, cy, hx, y1, y2⟩ := (H2.out.below b0 (Nat.le_refl _)).at_ hlt
      have HX := Lib.hid hx; clear hx
      rcases inB_cases 1 c y with ⟨hy, e1, e2⟩ | ⟨hy, hy'⟩
      · by_cases hk0 : k = 0
        · subst hk0
          have hnx := Lib.hid (HI.out.first HX.out hy)
          simp only [Nat.add_zero] at cy
          go_wp2_with fail
          go_round
          case rel => exact ⟨1, by omega, rfl, hnx.out⟩
          case measure => simp [intOf]; omega
        · obtain ⟨m, rfl⟩ : ∃ m, k = m + 1 := ⟨k - 1, by omega⟩
          obtain ⟨b', off', q, e', _, cq, hq, qq1, qq2⟩ := (H2.out.below b0 (Nat.le_refl _)).at_ (show m < n2 by omega)
          injection e' with e'
          injection e' with x1 x2
          subst x1 x2
          have HQ := Lib.hid hq; clear hq
          have hmn : m < n2 := by omega
          by_cases hle : y ≤ q
          · have hf2 := Lib.hid (hfin.out.trans (HI.out.order HX.out HQ.out hy hle))
            go_wp2_with fail
            go_ret
            exact ⟨ret_int (by rw [hf2.out]), b0⟩
          · have hnx := Lib.hid (HI.out.next HX.out HQ.out hy hle)
            go_wp2_with fail
            go_round
            case rel => exact ⟨m + 1 + 1, by omega, by go_num, hnx.out⟩
            case measure => simp [intOf]; omega
      · have hf2 := Lib.hid (hfin.out.trans (HI.out.range HX.out hy))
        have hq : y < 1 ∨ (1 ≤ y ∧ c < y) := by omega
        clear hy'
        rcases hq with q | ⟨q, q'⟩
        all_goals
          go_wp2_with fail
          go_ret
          exact ⟨ret_int (by rw [hf2.out]), b0⟩
    · have hf2 := Lib.hid (hfin.out.trans (HI.out.last (by have := L2.out; omega)))
      go_wp2_with fail
      go_ret
      exact ⟨ret_int (by rw [hf2.out]), b0⟩
theorem headErr_name {s : ByteArray} {f c : Int} (h : isName s = false) : headErr s f c = 5 := by rw [headErr, if_pos h]
theorem headErr_range {s : ByteArray} {f c : Int} (h : isName s = true) (h' : (inB (-4000000) 4000000 f && inB 1 3000 c) = false) : headErr s f c = 3 := by rw [headErr, if_neg (by rw [h]; simp), if_pos h']
theorem incErr_zero (lo hi : Int) : ∀ (l : List Int) (p : Option Int), incErr lo hi p l = 0 → (∀ y ∈ l, lo ≤ y ∧ y ≤ hi) ∧ l.Pairwise (· < ·) ∧ (∀ q, p = some q → ∀ y ∈ l, q < y)
  | [], p, _ => ⟨by simp, List.Pairwise.nil, by simp⟩
  | y :: l, p, h => by
    rw [incErr_cons] at h
    rcases inB_cases lo hi y with ⟨hy, h1, h2⟩ | ⟨hy, _⟩
    · rw [if_neg (by rw [hy]; simp)] at h
      have key : incErr lo hi (some y) l = 0 ∧ ∀ q, p = some q → q < y := by
        cases p with
        | none => exact ⟨by simpa using h, by simp⟩
        | some q =>
          by_cases hq : y ≤ q
          · simp only [decide_eq_true hq, if_true] at h; omega
          · simp only [decide_eq_false hq] at h
            exact ⟨by simpa using h, fun q' e => by injection e with e; omega⟩
      obtain ⟨a, b, c⟩ := incErr_zero lo hi l (some y) key.1
      refine ⟨?_, List.pairwise_cons.2 ⟨fun z hz => c y rfl z hz, b⟩, ?_⟩
      · intro z hz
        rcases List.mem_cons.1 hz with rfl | hz
        · exact ⟨h1, h2⟩
        · exact a z hz
      · intro q hq z hz
        have hq' := key.2 q hq
        rcases List.mem_cons.1 hz with rfl | hz
        · exact hq'
        · have := c y rfl z hz; omega
    · rw [if_pos hy] at h; omega
theorem monthsGo_zero : ∀ (l : List Mon) (seen : List ByteArray) (a b : Int), monthsGo seen a b l = 0 → (∀ x ∈ l, 0 ≤ x.2.1 ∧ x.2.1 ≤ 400 ∧ 0 ≤ x.2.2 ∧ x.2.2 ≤ 400) ∧ a + shortOf l ≠ 0 ∧ b + longOf l ≠ 0
  | [], seen, a, b, h => by
    rw [monthsGo] at h
    refine ⟨by simp, ?_, ?_⟩
    · simp [shortOf]; intro h'; rw [if_pos (.inl h')] at h; omega
    · simp [longOf]; intro h'; rw [if_pos (.inr h')] at h; omega
  | (s, f, g) :: l, seen, a, b, h => by
    rw [monthsGo_cons] at h
    split at h
    · omega
    · split at h
      · omega
      · split at h
        · omega
        · rename_i hr
          obtain ⟨p, q, r⟩ := monthsGo_zero l _ _ _ h
          have hr' : inB 0 400 f = true ∧ inB 0 400 g = true := by
            rw [Bool.not_eq_false, Bool.and_eq_true] at hr; exact hr
          have hf := inB_iff.1 hr'.1
          have hg := inB_iff.1 hr'.2
          refine ⟨?_, ?_, ?_⟩
          · intro x hx
            rcases List.mem_cons.1 hx with rfl | hx
            · exact ⟨hf.1, hf.2, hg.1, hg.2⟩
            · exact p x hx
          · have : shortOf ((s, f, g) :: l) = f + shortOf l := by simp [shortOf]
            rw [this]; omega
          · have : longOf ((s, f, g) :: l) = g + longOf l := by simp [longOf]
            rw [this]; omega
theorem sums_bound : ∀ (l : List Mon), (∀ x ∈ l, 0 ≤ x.2.1 ∧ x.2.1 ≤ 400 ∧ 0 ≤ x.2.2 ∧ x.2.2 ≤ 400) → 0 ≤ shortOf l ∧ shortOf l ≤ 400 * l.length ∧ 0 ≤ longOf l ∧ longOf l ≤ 400 * l.length
  | [], _ => by simp [shortOf, longOf]
  | x :: l, h => by
    have h1 := sums_bound l fun y hy => h y (List.mem_cons_of_mem _ hy)
    have h2 := h x List.mem_cons_self
    have e1 : shortOf (x :: l) = x.2.1 + shortOf l := by simp [shortOf]
    have e2 : longOf (x :: l) = x.2.2 + longOf l := by simp [longOf]
    rw [e1, e2, List.length_cons]; omega
structure CalOk (s : ByteArray) (f c : Int) (ms : List Mon) (ls : List Int) : Prop where
  name : isName s = true
  ep1 : -4000000 ≤ f
  ep2 : f ≤ 4000000
  cy1 : 1 ≤ c
  cy2 : c ≤ 3000
  ml1 : 1 ≤ ms.length
  ml2 : ms.length ≤ 20
  lens : ∀ x ∈ ms, 0 ≤ x.2.1 ∧ x.2.1 ≤ 400 ∧ 0 ≤ x.2.2 ∧ x.2.2 ≤ 400
  sh1 : 1 ≤ shortOf ms
  sh2 : shortOf ms ≤ 8000
  lo1 : 1 ≤ longOf ms
  lo2 : longOf ms ≤ 8000
  leaps : ∀ y ∈ ls, 1 ≤ y ∧ y ≤ c
  sorted : ls.Pairwise (· < ·)
theorem calOk_of {s : ByteArray} {f c : Int} {ms : List Mon} {ls : List Int} (h : calErr s f c ms ls = 0) : CalOk s f c ms ls := by
  have h1 : headErr s f c = 0 := by
    by_cases q : headErr s f c = 0
    · exact q
    · rw [calErr_head q] at h; exact absurd h q
  have h2 : monthsErr ms = 0 := by
    by_cases q : monthsErr ms = 0
    · exact q
    · rw [calErr_months h1 q] at h; exact absurd h q
  rw [calErr_leaps h1 h2] at h
  have hn : isName s = true := by
    cases hh : isName s with
    | true => rfl
    | false => rw [headErr_name hh] at h1; omega
  have hr : (inB (-4000000) 4000000 f && inB 1 3000 c) = true := by
    cases hh : (inB (-4000000) 4000000 f && inB 1 3000 c) with
    | true => rfl
    | false => rw [headErr_range hn hh] at h1; omega
  rw [Bool.and_eq_true] at hr
  have hf := inB_iff.1 hr.1
  have hc := inB_iff.1 hr.2
  have hl : 1 ≤ ms.length ∧ ms.length ≤ 20 := by
    by_cases q : 1 ≤ ms.length ∧ ms.length ≤ 20
    · exact q
    · rw [monthsErr, if_pos q] at h2; omega
  rw [monthsErr, if_neg (fun q => q hl)] at h2
  obtain ⟨a, b, d⟩ := monthsGo_zero ms _ _ _ h2
  have hb := sums_bound ms a
  obtain ⟨e, g, _⟩ := incErr_zero 1 c ls none h
  exact ⟨hn, hf.1, hf.2, hc.1, hc.2, hl.1, hl.2, a, by omega, by omega, by omega, by omega, e, g⟩
def cnt (ls : List Int) (k : Int) : Nat := (ls.filter fun y => decide (y ≤ k)).length
theorem cnt_cons (y : Int) (l : List Int) (k : Int) : cnt (y :: l) k = (if y ≤ k then 1 else 0) + cnt l k := by
  unfold cnt
  rw [List.filter_cons]
  by_cases h : y ≤ k
  · simp [h]; omega
  · simp [h]
theorem cnt_zero {l : List Int} {k : Int} (h : ∀ y ∈ l, k < y) : cnt l k = 0 := by
  unfold cnt
  rw [List.length_eq_zero_iff, List.filter_eq_nil_iff]
  intro y hy
  have := h y hy
  simp; omega
theorem cnt_all {l : List Int} {k : Int} (h : ∀ y ∈ l, y ≤ k) : cnt l k = l.length := by
  unfold cnt
  rw [List.filter_eq_self.2 (fun y hy => by simpa using h y hy)]
theorem cnt_succ (k : Int) : ∀ (l : List Int), l.Pairwise (· < ·) → cnt l (k + 1) = cnt l k + if k + 1 ∈ l then 1 else 0
  | [], _ => by simp [cnt]
  | y :: l, h => by
    obtain ⟨h1, h2⟩ := List.pairwise_cons.1 h
    have ih := cnt_succ k l h2
    rw [cnt_cons, cnt_cons]
    by_cases hy : y ≤ k
    · rw [if_pos hy, if_pos (by omega), ih]
      have : (k + 1 ∈ y :: l) ↔ k + 1 ∈ l := by
        rw [List.mem_cons]
        constructor
        · rintro (q | q)
          · omega
          · exact q
        · exact .inr
      simp only [this]
      omega
    · by_cases hy2 : y = k + 1
      · subst hy2
        have z1 : cnt l (k + 1) = 0 := cnt_zero h1
        have z2 : cnt l k = 0 := cnt_zero fun z hz => by have := h1 z hz; omega
        rw [if_pos (by omega), if_neg hy, z1, z2, if_pos List.mem_cons_self]
      · have z1 : cnt l (k + 1) = 0 := cnt_zero fun z hz => by have := h1 z hz; omega
        have z2 : cnt l k = 0 := cnt_zero fun z hz => by have := h1 z hz; omega
        have nm : ¬ (k + 1 ∈ y :: l) := by
          intro q
          rcases List.mem_cons.1 q with q | q
          · omega
          · have := h1 _ q; omega
        rw [if_neg (by omega), if_neg hy, z1, z2, if_neg nm]
theorem cnt_le (l : List Int) (h : l.Pairwise (· < ·)) (h1 : ∀ y ∈ l, 1 ≤ y) : ∀ k : Nat, cnt l k ≤ k
  | 0 => by rw [cnt_zero fun y hy => by have := h1 y hy; omega]; omega
  | k + 1 => by
    have := cnt_le l h h1 k
    have e := cnt_succ (k : Int) l h
    have e' : cnt l ((k + 1 : Nat) : Int) = cnt l ((k : Int) + 1) := by congr 1
    rw [e', e]
    split <;> omega
theorem CalOk.count {s : ByteArray} {f c : Int} {ms : List Mon} {ls : List Int} (h : CalOk s f c ms ls) : cnt ls c = ls.length ∧ (ls.length : Int) ≤ c := by
  have h1 := cnt_all (l := ls) (k := c) fun y hy => (h.leaps y hy).2
  have h2 := cnt_le ls h.sorted (fun y hy => (h.leaps y hy).1) c.toNat
  rw [show ((c.toNat : Nat) : Int) = c by have := h.cy1; omega] at h2
  exact ⟨h1, by have := h.cy1; omega⟩
def flag (ls : List Int) (i : Int) : Bool := decide (i + 1 ∈ ls)
def daysTo (S L : Int) (ls : List Int) (i : Int) : Int := i * S + (cnt ls i : Int) * (L - S)
def lenY (S L : Int) (b : Bool) : Int := bif b then L else S
theorem daysTo_succ (S L : Int) (ls : List Int) (i : Int) (h : ls.Pairwise (· < ·)) : daysTo S L ls (i + 1) = daysTo S L ls i + lenY S L (flag ls i) := by
  unfold daysTo lenY flag
  rw [cnt_succ i ls h]
  by_cases q : i + 1 ∈ ls
  · rw [if_pos q, decide_eq_true q]
    simp only [cond_true, Int.natCast_add, Int.add_mul]
    omega
  · rw [if_neg q, decide_eq_false q]
    simp only [cond_false, Int.add_mul, Nat.add_zero]
    omega
theorem daysTo_zero (S L : Int) (ls : List Int) (h : ∀ y ∈ ls, 1 ≤ y) : daysTo S L ls 0 = 0 := by
  unfold daysTo
  rw [cnt_zero fun y hy => by have := h y hy; omega]
  simp
def Found (n : Nat) (p : Nat → Bool) (w : World) (e : Ending) (w' : World) : Prop :=
  ∃ r : Nat, e = .returned (.int .i64 r) ∧ r ≤ n ∧ (∀ i, r = i + 1 → p i = false) ∧ (r < n → p r = true) ∧ Below w.heap.size w w'
set_option maxHeartbeats 1000000 in
theorem sort_Search (g : Nat) (lb : Array Value) (eg : ∀ args w, (callFunc g args).run Tryz.prog w = .ok (.enter g args) w) (n : Nat) (hn : n ≤ 4000000000000000000) (p : Nat → Bool) (w : World)
    (hp : ∀ (W : World) (i : Nat), i < n → Below w.heap.size w W → Calls Tryz.prog g (#[.int .i64 (i : Int)] ++ lb) W fun e w' => e = .returned (.bool (p i)) ∧ Below w.heap.size w w') :
    Calls Tryz.prog 92 #[.int .i64 (n : Int), .func (.func g) #[] lb] w (Found n p w) := by
  have HP := Lib.hid hp; clear hp
  go_enter Tryz.func92, Tryz.ntmps92
  go_wp2_with fail
  go_loopw [5, 6, 7] (fun i j _ wr => ∃ a b : Nat, a ≤ b ∧ b ≤ n ∧ i = .int .i64 (a : Int) ∧ j = .int .i64 (b : Int) ∧ (∀ k, a = k + 1 → p k = false) ∧ (b < n → p b = true) ∧ Below w.heap.size w wr) (fun i j _ _ => (intOf j).toNat - (intOf i).toNat)
  case atStart => exact ⟨0, n, by omega, by omega, rfl, rfl, fun k h => by omega, fun h => by omega, Below.refl _ _⟩
  case round =>
    obtain ⟨a, b, hab, hbn, rfl, rfl, ha, hb, hbe⟩ := hrel
    have HA := Lib.hid ha; have HB := Lib.hid hb; clear ha hb
    by_cases hlt : a < b
    · have hm : ((a : Int) + (b : Int)) / 2 = (((a + b) / 2 : Nat) : Int) := by omega
      obtain ⟨h, hh⟩ : ∃ h : Nat, h = (a + b) / 2 := ⟨_, rfl⟩
      rw [← hh] at hm
      have h1 : a ≤ h := by omega
      have h2 : h < b := by omega
      clear hh
      have hcall := HP.out wr h (by omega) hbe
      obtain ⟨v, hv⟩ : ∃ v, v = p h := ⟨_, rfl⟩
      rw [← hv] at hcall
      have HV := Lib.hid hv; clear hv
      cases v with
      | true =>
        go_wp2_with (go_at_fn g; refine hcall.mono ?_; rintro e w' ⟨rfl, hb'⟩)
        go_roundw
        case rel => exact ⟨a, h, by omega, by omega, rfl, rfl, HA.out, fun _ => HV.out.symm, hb'⟩
        case measure => simp [intOf]; omega
      | false =>
        go_wp2_with (go_at_fn g; refine hcall.mono ?_; rintro e w' ⟨rfl, hb'⟩)
        go_roundw
        case rel => exact ⟨h + 1, b, by omega, by omega, by go_num, rfl, fun k hk => by rw [show k = h by omega]; exact HV.out.symm, HB.out, hb'⟩
        case measure => simp [intOf]; omega
    · have hab' : a = b := by omega
      subst hab'
      go_wp2_with fail
      go_ret
      exact ⟨a, rfl, hbn, HA.out, HB.out, hbe⟩
theorem cnt_append (a b : List Int) (k : Int) : cnt (a ++ b) k = cnt a k + cnt b k := by unfold cnt; rw [List.filter_append, List.length_append]
theorem cnt_of {xs : List Int} {x : Int} {r : Nat} (hs : xs.Pairwise (· < ·)) (hr : r ≤ xs.length) (h1 : ∀ i, r = i + 1 → ∀ y, xs[i]? = some y → y < x) (h2 : ∀ y, xs[r]? = some y → x ≤ y) : cnt xs (x - 1) = r := by
  have hp := List.pairwise_iff_getElem.1 hs
  have e : xs = xs.take r ++ xs.drop r := (List.take_append_drop r xs).symm
  rw [e, cnt_append, cnt_all, cnt_zero, List.length_take]
  · omega
  · intro y hy
    obtain ⟨i, hi, rfl⟩ := List.getElem_of_mem hy
    rw [List.length_drop] at hi
    rw [List.getElem_drop]
    have h3 := h2 xs[r] (List.getElem?_eq_getElem (by omega))
    rcases Nat.eq_zero_or_pos i with rfl | hp0
    · simpa using (by omega : x - 1 < xs[r])
    · have := hp r (r + i) (by omega) (by omega) (by omega); omega
  · intro y hy
    obtain ⟨i, hi, rfl⟩ := List.getElem_of_mem hy
    rw [List.length_take] at hi
    rw [List.getElem_take]
    have h3 := h1 (r - 1) (by omega) xs[r - 1] (List.getElem?_eq_getElem (by omega))
    rcases Nat.lt_or_ge i (r - 1) with q | q
    · have := hp i (r - 1) (by omega) (by omega) q; omega
    · have : i = r - 1 := by omega
      subst this; omega
theorem searchInts_closure (w : World) (a : Option Addr) (n c : Nat) (xs : List Int) (x : Int) (B C : Nat) (h : Ints w w.heap.size a n xs) (hB : w.cell? ⟨B, 0, none⟩ = some (.slice a n c)) (hC : w.cell? ⟨C, 0, none⟩ = some (.int .i64 x)) (i : Nat) (hi : i < n) (y : Int) (hy : xs[i]? = some y) :
    Calls Tryz.prog 192 #[.int .i64 (i : Int), .pointer (some ⟨B, 0, none⟩), .pointer (some ⟨C, 0, none⟩)] w fun e w' => e = .returned (.bool (decide (x ≤ y))) ∧ Below w.heap.size w w' := by
  obtain ⟨b, off, y', rfl, hbB, cy, hx, y1, y2⟩ := h.at_ hi
  obtain rfl : y = y' := by rw [hx] at hy; injection hy with hy; exact hy.symm
  clear h hx hy
  go_enter Tryz.func192, Tryz.ntmps192
  go_wp2_with fail
  go_quiet (fail)
  go_wp2_with fail
  go_ret
  exact ⟨rfl, by exact bl⟩
set_option maxHeartbeats 1000000 in
theorem sort_SearchInts (w : World) (a : Option Addr) (n c : Nat) (xs : List Int) (x : Int) (h : Ints w w.heap.size a n xs) (hs : xs.Pairwise (· < ·)) (hn : n ≤ 4000000000000000000) :
    Calls Tryz.prog 164 #[.slice a n c, .int .i64 x] w fun e w' => e = .returned (.int .i64 (cnt xs (x - 1) : Int)) ∧ Below w.heap.size w w' := by
  have l1 := Lib.hid h.1
  have HS := Lib.hid hs
  have H := Lib.hid h; clear h hs
  go_enter Tryz.func164, Tryz.ntmps164
  go_wp2_with fail
  have hb0 : Below w.heap.size w ((w.alloc (.cells #[.slice a n c] 37)).alloc (.cells #[.int .i64 x] 3)) := by exact bl
  have q1 := (At.new w (.cells #[.slice a n c] 37)).alloc (.cells #[.int .i64 x] 3)
  have q2 := At.new1 w (.cells #[.slice a n c] 37) (.cells #[.int .i64 x] 3)
  generalize World.alloc (World.alloc w _) _ = W1 at hb0 q1 q2 ⊢
  refine (sort_Search 192 #[.pointer (some ⟨w.heap.size, 0, none⟩), .pointer (some ⟨w.heap.size + 1, 0, none⟩)] (enters_of Tryz.func192 (by kernel_rfl) rfl) n hn (fun i => decide (x ≤ (xs[i]?).getD 0)) W1 ?_).mono ?_
  · intro W i hi hbW
    have hxi : xs[i]? = some ((xs[i]?).getD 0) := by rw [List.getElem?_eq_getElem (by have := l1.out; omega)]; rfl
    have q3 := q1.below hbW q1.lt
    have q4 := q2.below hbW q2.lt
    have r3 := q3.cell 0; have r4 := q4.cell 0
    simp at r3 r4
    exact (searchInts_closure W a n c xs x _ _ (((H.out.below hb0 (Nat.le_refl _)).below hbW hb0.size).more (Nat.le_trans hb0.size hbW.size)) r3 r4 i hi _ hxi).mono fun e w' ⟨he, hb'⟩ => ⟨he, below_then hbW hb'⟩
  · rintro e w2 ⟨r, rfl, hr, hr1, hr2, hb2⟩
    have hres : cnt xs (x - 1) = r := cnt_of HS.out (by have := l1.out; omega) (fun i hi y hy => by have := hr1 i hi; simp [hy] at this; exact this) (fun y hy => by
      have hlt := (List.getElem?_eq_some_iff.1 hy).1
      have := hr2 (by have := l1.out; omega); simp [hy] at this; exact this)
    have HR := Lib.hid hres; clear hres hr1 hr2
    go_wp2_with fail
    go_ret
    exact ⟨ret_int (by rw [HR.out]), by exact bl⟩
def CalAt (w : World) (a1 a2 : Option Addr) (n1 n2 : Nat) (ms : List Mon) (ls : List Int) : Prop := Months w w.heap.size a1 n1 ms ∧ Ints w w.heap.size a2 n2 ls
theorem CalAt.then_ {w w' : World} {a1 a2 : Option Addr} {n1 n2 : Nat} {ms : List Mon} {ls : List Int} (h : CalAt w a1 a2 n1 n2 ms ls) (hb : Below w.heap.size w w') : CalAt w' a1 a2 n1 n2 ms ls :=
  ⟨(h.1.below hb (Nat.le_refl _)).more hb.size, (h.2.below hb (Nat.le_refl _)).more hb.size⟩
theorem CalAt.alloc {w : World} {a1 a2 : Option Addr} {n1 n2 : Nat} {ms : List Mon} {ls : List Int} (h : CalAt w a1 a2 n1 n2 ms ls) (o : Obj) : CalAt (w.alloc o) a1 a2 n1 n2 ms ls := h.then_ (below_new (Below.refl _ _) o)
set_option maxHeartbeats 1000000 in
theorem compile_Lengths (w : World) (s : ByteArray) (f c : Int) (a1 a2 : Option Addr) (n1 c1 n2 c2 : Nat) (ms : List Mon) (ls : List Int) (hm : n1 ≤ 20) (hl : ∀ x ∈ ms, 0 ≤ x.2.1 ∧ x.2.1 ≤ 400 ∧ 0 ≤ x.2.2 ∧ x.2.2 ≤ 400) (h : CalAt w a1 a2 n1 n2 ms ls) :
    Calls Tryz.prog 142 #[.agg #[.string s, .int .i64 f, .int .i64 c, .slice a1 n1 c1, .slice a2 n2 c2]] w fun e w' => e = .returned (.tuple #[.int .i64 (shortOf ms), .int .i64 (longOf ms)]) ∧ Below w.heap.size w w' := by
  have L1 := Lib.hid h.1.len
  have H := Lib.hid h; have HL := Lib.hid hl; clear h hl
  go_enter Tryz.func142, Tryz.ntmps142
  go_wp2_with fail
  go_loopw [4, 5, 7, 11] (fun p q _ i wr => ∃ k : Nat, k ≤ n1 ∧ i = .int .i64 k ∧ p = .int .i64 (shortOf (ms.take k)) ∧ q = .int .i64 (longOf (ms.take k)) ∧ Below w.heap.size w wr) (fun _ _ _ i _ => n1 - (intOf i).toNat)
  case atStart => exact ⟨0, by omega, rfl, by simp [shortOf], by simp [longOf], by exact bl⟩
  case round =>
    obtain ⟨k, hk, rfl, rfl, rfl, hb⟩ := hrel
    obtain ⟨A1, A2, B1, B2⟩ := sums_bound (ms.take k) fun x hx => HL.out x (List.mem_of_mem_take hx)
    rw [List.length_take, L1.out] at A2 B2
    have A3 : shortOf (ms.take k) ≤ 8000 := by omega
    have B3 : longOf (ms.take k) ≤ 8000 := by omega
    clear A2 B2
    by_cases hlt : k < n1
    · obtain ⟨b, off, rfl, hbB, hcs⟩ := (H.out.1.below hb (Nat.le_refl _)).open_ (by omega)
      obtain ⟨t, p, q, c0, c3, c4, hx, hs, f1, f2, g1, g2⟩ := hcs k hlt
      have e1 := Lib.hid (show shortOf (ms.take (k + 1)) = shortOf (ms.take k) + p by rw [take_one hx, shortOf_snoc])
      have e2 := Lib.hid (show longOf (ms.take (k + 1)) = longOf (ms.take k) + q by rw [take_one hx, longOf_snoc])
      obtain ⟨b1, b2, b3, b4⟩ := HL.out _ (List.mem_of_getElem? hx)
      simp only at b1 b2 b3 b4
      clear hcs hx
      have hz := hb.size
      have hbz : b < wr.heap.size := by omega
      generalize shortOf (ms.take k) = A at *
      generalize longOf (ms.take k) = B at *
      have t1 : IntKind.i64.wrap (A + p) = A + p := IntWalk.i64_in _ (by omega)
      have t2 : IntKind.i64.wrap (B + q) = B + q := IntWalk.i64_in _ (by omega)
      go_wp2_with fail
      go_quiet (fail)
      go_wp2_with fail
      go_roundw
      case rel => exact ⟨k + 1, by omega, by go_num, by rw [e1.out], by rw [e2.out], by exact bl⟩
      case measure => simp [intOf]; omega
    · have hkn : k = n1 := by omega
      subst hkn
      have e : ms.take k = ms := List.take_of_length_le (by rw [L1.out]; exact Nat.le_refl _)
      rw [e] at A1 A3 B1 B3 ⊢
      go_wp2_with fail
      go_ret2
      exact ⟨rfl, hb⟩
theorem total_eq (s : ByteArray) (f c : Int) (ms : List Mon) (ls : List Int) (h : CalOk s f c ms ls) : (c - (ls.length : Int)) * shortOf ms + (ls.length : Int) * longOf ms = daysTo (shortOf ms) (longOf ms) ls c := by
  unfold daysTo
  rw [h.count.1, Int.sub_mul, Int.mul_sub]
  omega
theorem mul_bound (a b A B : Int) (h1 : 0 ≤ a) (h2 : a ≤ A) (h3 : 0 ≤ b) (h4 : b ≤ B) : 0 ≤ a * b ∧ a * b ≤ A * B :=
  ⟨Int.mul_nonneg h1 h3, Int.mul_le_mul h2 h4 h3 (by omega)⟩
def totalOut (s : ByteArray) (f c : Int) (ms : List Mon) (ls : List Int) : Value := if calErr s f c ms ls ≠ 0 then .tuple #[.int .i64 0, .int .i64 (calErr s f c ms ls)] else .tuple #[.int .i64 (daysTo (shortOf ms) (longOf ms) ls c), .int .i64 0]
set_option maxHeartbeats 1000000 in
theorem compile_Total (w : World) (s : ByteArray) (f c : Int) (a1 a2 : Option Addr) (n1 c1 n2 c2 : Nat) (ms : List Mon) (ls : List Int) (hs : s.size ≤ 9223372036854775807) (k1 : n1 ≤ c1) (h : CalAt w a1 a2 n1 n2 ms ls) :
    Calls Tryz.prog 109 #[.agg #[.string s, .int .i64 f, .int .i64 c, .slice a1 n1 c1, .slice a2 n2 c2]] w fun e w' => e = .returned (totalOut s f c ms ls) ∧ Below w.heap.size w w' := by
  have L2 := Lib.hid h.2.1
  have L1 := Lib.hid h.1.len
  have H := Lib.hid h; clear h
  go_enter Tryz.func109, Tryz.ntmps109
  go_wp2_with fail
  refine (compile_Check _ _ _ _ _ _ _ _ _ _ ms ls hs k1 (H.out.alloc _).1 (H.out.alloc _).2).mono ?_
  by_cases q : calErr s f c ms ls = 0
  case neg =>
    have ho := Lib.hid (show totalOut s f c ms ls = .tuple #[.int .i64 0, .int .i64 (calErr s f c ms ls)] from if_pos q)
    have q' : (calErr s f c ms ls != 0) = true := by simpa using q
    generalize calErr s f c ms ls = E at *
    rintro e w1 ⟨rfl, hb⟩
    clear q
    go_wp2_with fail
    go_ret2
    exact ⟨by rw [ho.out]; rfl, by exact bl⟩
  have ho := Lib.hid (show totalOut s f c ms ls = .tuple #[.int .i64 (daysTo (shortOf ms) (longOf ms) ls c), .int .i64 0] from if_neg (by simpa using q))
  have ok := calOk_of q
  rw [q]
  clear q
  rintro e w1 ⟨rfl, hb⟩
  have a0 := (At.new w (.cells #[.string s, .int .i64 f, .int .i64 c, .slice a1 n1 c1, .slice a2 n2 c2] 39)).then_ hb
  have b0 : Below w.heap.size w w1 := by exact bl
  clear hb
  have d0 := a0.cell 0; have d1 := a0.cell 1; have d2 := a0.cell 2; have d3 := a0.cell 3; have d4 := a0.cell 4; simp at d0 d1 d2 d3 d4
  go_wp2_with fail
  refine (compile_Lengths _ _ _ _ _ _ _ _ _ _ ms ls (by have := ok.ml2; have := L1.out; omega) ok.lens (H.out.then_ b0)).mono ?_
  rintro e w2 ⟨rfl, hb2⟩
  replace a0 := a0.then_ hb2
  replace b0 := below_then b0 hb2
  clear hb2 d0 d1 d2 d3 d4
  have d0 := a0.cell 0; have d1 := a0.cell 1; have d2 := a0.cell 2; have d3 := a0.cell 3; have d4 := a0.cell 4; simp at d0 d1 d2 d3 d4
  have hte := total_eq s f c ms ls ok
  have hct := ok.count.2
  rw [L2.out] at hte hct
  rw [← hte] at ho
  clear hte
  obtain ⟨s1, s2⟩ := mul_bound (c - (n2 : Int)) (shortOf ms) 3000 8000 (by omega) (by have := ok.cy2; omega) (by have := ok.sh1; omega) ok.sh2
  obtain ⟨s3, s4⟩ := mul_bound (n2 : Int) (longOf ms) 3000 8000 (by omega) (by have := ok.cy2; omega) (by have := ok.lo1; omega) ok.lo2
  have cy1 := ok.cy1; have cy2 := ok.cy2
  generalize shortOf ms = SS at *
  generalize longOf ms = LL at *
  clear ok
  go_wp2_with fail
  go_ret2
  exact ⟨by rw [ho.out]; rfl, b0⟩
theorem quiet_drawn {P : Program} {f : FuncId} {args : Array Value} {w : World} {n : Nat} {v : Value}
    (h : Calls P f args (w.drewN n) fun e w' => e = .returned v ∧ Drawn (w.drewN n) w') : Calls P f args (w.drewN n) fun e w'' => e = .returned v ∧ ∃ m, w'' = w.drewN m :=
  h.mono fun _ _ ⟨he, m, hm⟩ => ⟨he, n + m, by rw [hm, World.drewN_drewN]⟩
theorem mul_in (a b A B : Int) (h1 : -A ≤ a) (h2 : a ≤ A) (h3 : -B ≤ b) (h4 : b ≤ B) : -(A * B) ≤ a * b ∧ a * b ≤ A * B := by
  have e1 : (a * b).natAbs = a.natAbs * b.natAbs := Int.natAbs_mul a b
  have e2 : a.natAbs * b.natAbs ≤ A.natAbs * B.natAbs := Nat.mul_le_mul (by omega) (by omega)
  have e3 : (A * B).natAbs = A.natAbs * B.natAbs := Int.natAbs_mul A B
  have e4 : 0 ≤ A * B := Int.mul_nonneg (by omega) (by omega)
  omega
theorem cnt_index (k : Int) : ∀ (l : List Int), l.Pairwise (· < ·) → ∀ (j : Nat) (y : Int), l[j]? = some y → (j < cnt l k ↔ y ≤ k)
  | [], _, j, y, h => by simp at h
  | y0 :: l, hp, j, y, h => by
    obtain ⟨h1, h2⟩ := List.pairwise_cons.1 hp
    rw [cnt_cons]
    by_cases hy : y0 ≤ k
    · rw [if_pos hy]
      cases j with
      | zero => simp at h; subst h; omega
      | succ j =>
        simp at h
        have := cnt_index k l h2 j y h
        omega
    · rw [if_neg hy, cnt_zero fun z hz => by have := h1 z hz; omega]
      have : y0 ≤ y := by
        rcases List.mem_cons.1 (List.mem_of_getElem? h) with q | q
        · omega
        · have := h1 y q; omega
      omega
theorem leap_at {l : List Int} (hp : l.Pairwise (· < ·)) (r : Int) : (∀ y, l[cnt l (r - 1)]? = some y → (y == r) = decide (r ∈ l)) ∧ (l.length ≤ cnt l (r - 1) → decide (r ∈ l) = false) := by
  have hg := List.pairwise_iff_getElem.1 hp
  have key : r ∈ l → l[cnt l (r - 1)]? = some r := by
    intro hr
    obtain ⟨j, hj, rfl⟩ := List.getElem_of_mem hr
    have c1 := cnt_index (l[j] - 1) l hp j l[j] (List.getElem?_eq_getElem hj)
    rcases Nat.lt_or_ge (cnt l (l[j] - 1)) j with q | q
    · have c2 := cnt_index (l[j] - 1) l hp _ _ (List.getElem?_eq_getElem (show cnt l (l[j] - 1) < l.length by omega))
      have := hg _ _ (by omega) hj q
      omega
    · have : cnt l (l[j] - 1) = j := by omega
      rw [this]; exact List.getElem?_eq_getElem hj
  constructor
  · intro y hy
    by_cases hr : r ∈ l
    · rw [decide_eq_true hr]
      have := (key hr).symm.trans hy
      injection this with this
      simp [this]
    · rw [decide_eq_false hr]
      have hm := List.mem_of_getElem? hy
      simp; rintro rfl; exact hr hm
  · intro h
    refine decide_eq_false fun hr => ?_
    have := (List.getElem?_eq_some_iff.1 (key hr)).1
    omega
def nyOf (S L f c : Int) (ls : List Int) (y : Int) : Int := f + (y - 1) / c * daysTo S L ls c + daysTo S L ls ((y - 1) % c)
def placeOf (c y : Int) : Int := (y - 1) % c
theorem placeOf_in (c y : Int) (h : 1 ≤ c) : 0 ≤ placeOf c y ∧ placeOf c y < c := ⟨Int.emod_nonneg _ (by omega), Int.emod_lt_of_pos _ (by omega)⟩
theorem arith_isYear (x : Int) (w : World) : Calls Tryz.prog 118 #[.int .i64 x] w fun e w' => e = .returned (.bool (inB (-10000) 10000 x)) ∧ w = w' := by
  by_cases h1 : -10000 ≤ x
  · by_cases h2 : x ≤ 10000
    · have ho := Lib.hid (inB_yes h1 h2)
      go_enter Tryz.func118, Tryz.ntmps118
      go_wp2_with fail
      go_ret
      exact ⟨ret_bool (by rw [ho.out]), rfl⟩
    · exact q66
  · exact q66
theorem arith_place (w : World) (s : ByteArray) (f c : Int) (a1 a2 : Option Addr) (n1 c1 n2 c2 : Nat) (y : Int) (cy1 : 1 ≤ c) (cy2 : c ≤ 3000) (y1 : -1000000 ≤ y) (y2 : y ≤ 1000000) :
    Calls Tryz.prog 188 #[.agg #[.string s, .int .i64 f, .int .i64 c, .slice a1 n1 c1, .slice a2 n2 c2], .int .i64 y] w fun e w' => e = .returned (.int .i64 (placeOf c y + 1)) ∧ Below w.heap.size w w' := by
  obtain ⟨p1, p2⟩ := placeOf_in c y cy1
  have hp := Lib.hid (show (y - 1) % c = placeOf c y from rfl)
  go_enter Tryz.func188, Tryz.ntmps188
  go_wp2_with fail
  refine (whole_Mod _ _ _ (by omega) (by omega) (by omega) (by omega)).mono ?_; rw [hp.out]; rintro e w1 ⟨rfl, hd⟩
  go_wp2_with fail
  go_ret
  exact ⟨rfl, by exact bl⟩
set_option maxHeartbeats 1000000 in
theorem arith_leap (w : World) (s : ByteArray) (f c : Int) (a1 a2 : Option Addr) (n1 c1 n2 c2 : Nat) (ms : List Mon) (ls : List Int) (y : Int) (cy1 : 1 ≤ c) (cy2 : c ≤ 3000) (hl : ls.Pairwise (· < ·)) (hn2 : n2 ≤ 3000) (y1 : -1000000 ≤ y) (y2 : y ≤ 1000000) (h : CalAt w a1 a2 n1 n2 ms ls) :
    Calls Tryz.prog 152 #[.agg #[.string s, .int .i64 f, .int .i64 c, .slice a1 n1 c1, .slice a2 n2 c2], .int .i64 y] w fun e w' => e = .returned (.bool (flag ls (placeOf c y))) ∧ Below w.heap.size w w' := by
  obtain ⟨p1, p2⟩ := placeOf_in c y cy1
  have H := Lib.hid h; have HL := Lib.hid hl
  have L2 := Lib.hid h.2.1
  clear h hl
  go_enter Tryz.func152, Tryz.ntmps152
  go_wp2_with fail
  refine (arith_place _ s f c a1 a2 n1 c1 n2 c2 y cy1 cy2 y1 y2).mono ?_; rintro e w1 ⟨rfl, hb⟩
  have a0 := (At.new w (.cells #[.string s, .int .i64 f, .int .i64 c, .slice a1 n1 c1, .slice a2 n2 c2] 39)).then_ hb
  have b0 : Below w.heap.size w w1 := by exact bl
  clear hb
  have d0 := a0.cell 0; have d1 := a0.cell 1; have d2 := a0.cell 2; have d3 := a0.cell 3; have d4 := a0.cell 4; simp at d0 d1 d2 d3 d4
  go_wp2_with fail
  refine (sort_SearchInts _ _ _ _ ls _ (H.out.then_ b0).2 HL.out (by omega)).mono ?_; rintro e w2 ⟨rfl, hb⟩
  replace a0 := a0.then_ hb
  replace b0 := below_then b0 hb
  clear hb d0 d1 d2 d3 d4
  have d0 := a0.cell 0; have d1 := a0.cell 1; have d2 := a0.cell 2; have d3 := a0.cell 3; have d4 := a0.cell 4; simp at d0 d1 d2 d3 d4
  have hla := leap_at HL.out (placeOf c y + 1)
  obtain ⟨i, hi⟩ : ∃ i, i = cnt ls (placeOf c y + 1 - 1) := ⟨_, rfl⟩
  rw [← hi] at hla ⊢
  have HLA := Lib.hid hla
  clear hla hi
  have hfl := Lib.hid (show flag ls (placeOf c y) = decide (placeOf c y + 1 ∈ ls) from rfl)
  by_cases hlt : i < n2
  · obtain ⟨b, off, y', rfl, hbB, cy, hx, y3, y4⟩ := (H.out.then_ b0).2.at_ hlt
    have hval := Lib.hid (HLA.out.1 y' hx)
    have hlt' : decide ((i : Int) < (n2 : Int)) = true := by simpa using hlt
    clear hx
    go_wp2_with fail
    go_ret
    exact ⟨ret_bool (by rw [hfl.out, ← hval.out]), b0⟩
  · have hval := Lib.hid (HLA.out.2 (by have := L2.out; omega))
    go_wp2_with fail
    go_ret
    exact ⟨ret_bool (by rw [hfl.out, hval.out]), b0⟩
def mlenOf (x : Mon) (b : Bool) : Int := bif b then x.2.2 else x.2.1
set_option maxHeartbeats 1000000 in
theorem arith_length (w : World) (s : ByteArray) (f c : Int) (a1 a2 : Option Addr) (n1 c1 n2 c2 : Nat) (ms : List Mon) (ls : List Int) (y : Int) (k : Nat) (x : Mon) (cy1 : 1 ≤ c) (cy2 : c ≤ 3000) (hl : ls.Pairwise (· < ·)) (hn2 : n2 ≤ 3000) (y1 : -1000000 ≤ y) (y2 : y ≤ 1000000) (h : CalAt w a1 a2 n1 n2 ms ls) (hn1 : n1 ≤ 20) (hx : ms[k]? = some x) :
    Calls Tryz.prog 119 #[.agg #[.string s, .int .i64 f, .int .i64 c, .slice a1 n1 c1, .slice a2 n2 c2], .int .i64 y, .int .i64 ((k : Int) + 1)] w fun e w' => e = .returned (.int .i64 (mlenOf x (flag ls (placeOf c y)))) ∧ Below w.heap.size w w' := by
  have hk : k < n1 := by have := (List.getElem?_eq_some_iff.1 hx).1; have := h.1.len; omega
  obtain ⟨b, off, rfl, hbB, hcs⟩ := h.1.open_ (by omega)
  obtain ⟨t, p, q, c0, c3, c4, hx', hs, f1, f2, g1, g2⟩ := hcs k hk
  obtain rfl : x = (t, p, q) := by rw [hx] at hx'; injection hx'
  clear hcs hx hx'
  have H := Lib.hid h; have HL := Lib.hid hl
  clear h hl
  have tk : ((k : Int) + 1 - 1) = (k : Int) := by omega
  obtain ⟨bb, hbb⟩ : ∃ bb, bb = flag ls (placeOf c y) := ⟨_, rfl⟩
  rw [← hbb]
  have HBB := Lib.hid hbb; clear hbb
  go_enter Tryz.func119, Tryz.ntmps119
  go_wp2_with fail
  refine (arith_leap _ s f c _ a2 n1 c1 n2 c2 ms ls y cy1 cy2 HL.out hn2 y1 y2 ((H.out.alloc _).alloc _)).mono ?_; rw [← HBB.out]; rintro e w1 ⟨rfl, hb⟩
  have a0 := (At.new1 w (.cells #[.string s, .int .i64 f, .int .i64 c, .slice (some ⟨b, off, none⟩) n1 c1, .slice a2 n2 c2] 39) (.cells #[.string t, .int .i64 p, .int .i64 q] 129)).then_ hb
  have b0 : Below w.heap.size w w1 := by exact bl
  clear hb
  have d0 := a0.cell 0; have d1 := a0.cell 1; have d2 := a0.cell 2; simp at d0 d1 d2
  clear HBB
  cases bb
  all_goals
    go_wp2_with fail
    go_ret
    exact ⟨rfl, b0⟩
theorem daysTo_bound (S L : Int) (ls : List Int) (i : Int) (h1 : 0 ≤ i) (h2 : i ≤ 3000) (s1 : 1 ≤ S) (s2 : S ≤ 8000) (l1 : 1 ≤ L) (l2 : L ≤ 8000) (hp : ls.Pairwise (· < ·)) (hl : ∀ y ∈ ls, 1 ≤ y) : i ≤ daysTo S L ls i ∧ daysTo S L ls i ≤ 8000 * i := by
  have key : ∀ k : Nat, k ≤ 3000 → (k : Int) ≤ daysTo S L ls k ∧ daysTo S L ls k ≤ 8000 * k := by
    intro k
    induction k with
    | zero => intro _; have := daysTo_zero S L ls hl; simp [this]
    | succ k ih =>
      intro hk
      have h := daysTo_succ S L ls k hp
      have := ih (by omega)
      have e : ((k + 1 : Nat) : Int) = (k : Int) + 1 := by omega
      rw [e, h]
      cases flag ls k <;> simp only [lenY, cond_true, cond_false] <;> omega
  have := key i.toNat (by omega)
  rwa [show ((i.toNat : Nat) : Int) = i by omega] at this
set_option maxHeartbeats 2000000 in
theorem arith_newYear (w : World) (s : ByteArray) (f c : Int) (a1 a2 : Option Addr) (n1 c1 n2 c2 : Nat) (ms : List Mon) (ls : List Int) (y : Int) (ok : CalOk s f c ms ls) (y1 : -20000 ≤ y) (y2 : y ≤ 20000) (h : CalAt w a1 a2 n1 n2 ms ls) :
    Calls Tryz.prog 138 #[.agg #[.string s, .int .i64 f, .int .i64 c, .slice a1 n1 c1, .slice a2 n2 c2], .int .i64 y] w fun e w' => e = .returned (.int .i64 (nyOf (shortOf ms) (longOf ms) f c ls y)) ∧ Below w.heap.size w w' := by
  have L1 := Lib.hid h.1.len; have L2 := Lib.hid h.2.1
  have H := Lib.hid h; have OK := Lib.hid ok; clear h
  have cy1 := ok.cy1; have cy2 := ok.cy2; have ep1 := ok.ep1; have ep2 := ok.ep2
  obtain ⟨p1, p2⟩ := placeOf_in c y cy1
  have hct := ok.count
  rw [L2.out] at hct
  have hcn := cnt_le ls ok.sorted (fun z hz => (ok.leaps z hz).1) (placeOf c y).toNat
  rw [show (((placeOf c y).toNat : Nat) : Int) = placeOf c y by omega] at hcn
  have sh1 := ok.sh1; have sh2 := ok.sh2; have lo1 := ok.lo1; have lo2 := ok.lo2
  have hq : -20001 ≤ (y - 1) / c ∧ (y - 1) / c ≤ 20001 := by
    constructor
    · rw [Int.le_ediv_iff_mul_le (by omega)]
      have := mul_in (-20001) c 20001 3000 (by omega) (by omega) (by omega) (by omega)
      have h3 : -20001 * c ≤ -20001 * 1 := by omega
      omega
    · refine Int.ediv_le_of_le_mul (by omega) ?_
      have h3 : 20001 * 1 ≤ 20001 * c := by omega
      omega
  have hny : nyOf (shortOf ms) (longOf ms) f c ls y = f + (y - 1) / c * (c * shortOf ms + (n2 : Int) * (longOf ms - shortOf ms)) + placeOf c y * shortOf ms + (cnt ls (placeOf c y) : Int) * (longOf ms - shortOf ms) := by
    unfold nyOf daysTo
    rw [hct.1]
    show _ + _ + (placeOf c y * _ + _) = _
    unfold placeOf
    omega
  obtain ⟨NN, hNN⟩ : ∃ N, N = nyOf (shortOf ms) (longOf ms) f c ls y := ⟨_, rfl⟩
  rw [← hNN] at hny ⊢
  have HN := Lib.hid hny; clear hny hNN
  have t0 : IntKind.i64.wrap (y - 1) = y - 1 := IntWalk.i64_in _ (by omega)
  have t1 : -9223372036854775808 ≤ y - 1 := by omega
  have t2 : y - 1 ≤ 9223372036854775807 := by omega
  have t3 : c ≤ 9223372036854775807 := by omega
  have HP := Lib.hid (show (y - 1) % c = placeOf c y from rfl)
  have hn2 : (n2 : Int) ≤ 3000 := by omega
  go_enter Tryz.func138, Tryz.ntmps138
  go_wp2_with fail
  refine (compile_Lengths _ _ _ _ _ _ _ _ _ _ ms ls (by have := ok.ml2; have := L1.out; omega) ok.lens (H.out.alloc _)).mono ?_
  rintro e w1 ⟨rfl, hb⟩
  clear ok
  have a0 := (At.new w (.cells #[.string s, .int .i64 f, .int .i64 c, .slice a1 n1 c1, .slice a2 n2 c2] 39)).then_ hb
  have b0 : Below w.heap.size w w1 := by exact bl
  clear hb
  have d0 := a0.cell 0; have d1 := a0.cell 1; have d2 := a0.cell 2; have d3 := a0.cell 3; have d4 := a0.cell 4; simp at d0 d1 d2 d3 d4
  go_wp2_with fail
  go_quiet (first | (go_at_call 88; exact quiet_drawn (whole_Down _ _ _ t1 t2 cy1 t3)) | (go_at_call 105; exact quiet_drawn (whole_Mod _ _ _ t1 t2 cy1 t3)))
  clear t0 t1 t2 t3
  rw [HP.out]
  have b1 : Below w.heap.size w (w1.drewN nq) := by exact bl
  go_wp2_with fail
  refine (sort_SearchInts _ _ _ _ ls _ (H.out.then_ b1).2 OK.out.sorted (by omega)).mono ?_; rintro e w2 ⟨rfl, hb⟩
  replace a0 := (a0.drewN nq).then_ hb
  replace b0 := below_then b1 hb
  clear hb d0 d1 d2 d3 d4
  have d0 := a0.cell 0; have d1 := a0.cell 1; have d2 := a0.cell 2; have d3 := a0.cell 3; have d4 := a0.cell 4; simp at d0 d1 d2 d3 d4
  rw [show placeOf c y + 1 - 1 = placeOf c y by omega]
  generalize hSS : shortOf ms = SS at *
  generalize hLL : longOf ms = LL at *
  generalize (y - 1) / c = Q at *
  generalize placeOf c y = R at *
  have m1 := mul_in c SS 3000 8000 (by omega) (by omega) (by omega) (by omega)
  have m2 := mul_in (n2 : Int) (LL - SS) 3000 8000 (by omega) (by omega) (by omega) (by omega)
  have m3 := mul_in Q (c * SS + (n2 : Int) * (LL - SS)) 20001 48000000 (by omega) (by omega) (by omega) (by omega)
  have m4 := mul_in R SS 3000 8000 (by omega) (by omega) (by omega) (by omega)
  generalize hC : cnt ls R = C at *
  have m5 := mul_in (C : Int) (LL - SS) 3000 8000 (by omega) (by omega) (by omega) (by omega)
  clear hSS hLL hC hct
  obtain ⟨m1, m1'⟩ := m1
  obtain ⟨m2, m2'⟩ := m2
  obtain ⟨m3, m3'⟩ := m3
  obtain ⟨m4, m4'⟩ := m4
  obtain ⟨m5, m5'⟩ := m5
  obtain ⟨hq1, hq2⟩ := hq
  go_wp2_with fail
  go_ret
  exact ⟨ret_int (by rw [HN.out]), b0⟩
theorem ok_n1 {w : World} {a1 a2 : Option Addr} {n1 n2 : Nat} {ms : List Mon} {ls : List Int} {s : ByteArray} {f c : Int} (h : CalAt w a1 a2 n1 n2 ms ls) (ok : CalOk s f c ms ls) : 1 ≤ n1 ∧ n1 ≤ 20 ∧ n2 ≤ 3000 ∧ (n2 : Int) ≤ c := by
  have h1 := h.1.len; have h2 := h.2.1; have h3 := ok.ml1; have h4 := ok.ml2; have h5 := ok.count.2; have h6 := ok.cy2
  omega
def dayOr (d : Int) : Value := if inB (-4000000) 4000000 d then .tuple #[.int .i64 d, .int .i64 0] else .tuple #[.int .i64 0, .int .i64 3]
end Go.Proofs.YtlbjmpdonnlieaaGreatDoor
