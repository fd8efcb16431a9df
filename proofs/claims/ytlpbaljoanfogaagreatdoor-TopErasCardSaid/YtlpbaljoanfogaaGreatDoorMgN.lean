/- Several texts in one: Era, PickE. -/
import Derived.Test.YtlpbaljoanfogaaGreatDoorMgB
import Derived.Test.YtlpbaljoanfogaaGreatDoorMgW
import Derived.Test.YtlpbaljoanfogaaGreatDoorName
import Derived.Test.YtlpbaljoanfogaaGreatDoorMg2
set_option linter.unusedSimpArgs false
namespace Go.Proofs.YtlpbaljoanfogaaGreatDoor
set_option linter.unusedVariables false
set_option maxRecDepth 100000
open Go.RowKit Go.ChangeShapes Go.WideShapes Go.Deep
def Reigns (w : World) (B : Nat) (a : Option Addr) (n : Nat) (xs : List (ByteArray × Int)) : Prop :=
  xs.length = n ∧ n ≤ 9223372036854775807 ∧ (∀ x ∈ xs, x.1.size ≤ 9223372036854775807 ∧ I64 x.2) ∧
  (0 < n → ∃ b off, a = some ⟨b, off, none⟩ ∧ b < B ∧ ∀ i x, xs[i]? = some x → w.cell? ⟨b, off + i * 2, none⟩ = some (.string x.1) ∧ w.cell? ⟨b, off + i * 2 + 1, none⟩ = some (.int .i64 x.2))
theorem Reigns.below {w w' : World} {B B' : Nat} {a : Option Addr} {n : Nat} {xs : List (ByteArray × Int)} (h : Reigns w B a n xs) (hb : Below B' w w') (hB : B ≤ B') : Reigns w' B a n xs :=
  ⟨h.1, h.2.1, h.2.2.1, fun hn => by
    obtain ⟨b, off, e, hlt, hc⟩ := h.2.2.2 hn
    exact ⟨b, off, e, hlt, fun i x hx => ⟨(hb.cell (p := ⟨b, _, none⟩) (Nat.lt_of_lt_of_le hlt hB)).trans (hc i x hx).1, (hb.cell (p := ⟨b, _, none⟩) (Nat.lt_of_lt_of_le hlt hB)).trans (hc i x hx).2⟩⟩⟩
theorem Reigns.more {w : World} {B B' : Nat} {a : Option Addr} {n : Nat} {xs : List (ByteArray × Int)} (h : Reigns w B a n xs) (hB : B ≤ B') : Reigns w B' a n xs :=
  ⟨h.1, h.2.1, h.2.2.1, fun hn => by
    obtain ⟨b, off, e, hlt, hc⟩ := h.2.2.2 hn
    exact ⟨b, off, e, by omega, hc⟩⟩
theorem Reigns.far {w w1 w2 : World} {a : Option Addr} {n : Nat} {xs : List (ByteArray × Int)} (h : Reigns w w.heap.size a n xs) (b : Below w.heap.size w w1) (b' : Below w1.heap.size w1 w2) : Reigns w2 w2.heap.size a n xs :=
  ((h.below b (Nat.le_refl _)).below b' b.size).more (Nat.le_trans b.size b'.size)
theorem Reigns.open_ {w : World} {B : Nat} {a : Option Addr} {n : Nat} {xs : List (ByteArray × Int)} (h : Reigns w B a n xs) (hn : 0 < n) :
    ∃ b off, a = some ⟨b, off, none⟩ ∧ b < B ∧ ∀ k, k < n → ∃ s f, w.cell? ⟨b, off + k * 2, none⟩ = some (.string s) ∧ w.cell? ⟨b, off + k * 2 + 1, none⟩ = some (.int .i64 f) ∧ xs[k]? = some (s, f) ∧ s.size ≤ 9223372036854775807 ∧ -9223372036854775808 ≤ f ∧ f ≤ 9223372036854775807 := by
  obtain ⟨b, off, e, hlt, hc⟩ := h.2.2.2 hn
  refine ⟨b, off, e, hlt, fun k hk => ?_⟩
  have hl : k < xs.length := by have := h.1; omega
  have hx := List.getElem?_eq_getElem hl
  have hm := h.2.2.1 _ (List.getElem_mem hl)
  exact ⟨xs[k].1, xs[k].2, (hc k _ hx).1, (hc k _ hx).2, hx, hm.1, hm.2⟩
def reignsErr : Option Int → List (ByteArray × Int) → Int
  | _, [] => 0
  | p, (s, f) :: l => if isName s = false then 5 else if inB (-4000000) 4000000 f = false then 3 else if (match p with | some q => decide (f ≤ q) | none => false) = true then 9 else reignsErr (some f) l
theorem reignsErr_cons (p : Option Int) (s : ByteArray) (f : Int) (l : List (ByteArray × Int)) : reignsErr p ((s, f) :: l) = if isName s = false then 5 else if inB (-4000000) 4000000 f = false then 3 else if (match p with | some q => decide (f ≤ q) | none => false) = true then 9 else reignsErr (some f) l := by
  rw [reignsErr.eq_def]
def reignsOut (xs : List (ByteArray × Int)) : Int := if ¬ (1 ≤ xs.length ∧ xs.length ≤ 30) then 2 else reignsErr none xs
def prevOf (xs : List (ByteArray × Int)) : Nat → Option Int
  | 0 => none
  | k + 1 => (xs[k]?).map (·.2)
theorem drop_atE {α : Type} {xs : List α} {k : Nat} {x : α} (h : xs[k]? = some x) : xs.drop k = x :: xs.drop (k + 1) := by
  obtain ⟨hl, rfl⟩ := List.getElem?_eq_some_iff.1 h
  exact List.drop_eq_getElem_cons hl
set_option maxHeartbeats 1000000 in
theorem era_Check (w : World) (a : Option Addr) (n c : Nat) (xs : List (ByteArray × Int)) (h : Reigns w w.heap.size a n xs) :
    Calls Tryz.prog 72 #[.slice a n c] w fun e w' => e = .returned (.int .i64 (reignsOut xs)) ∧ Below w.heap.size w w' := by
  have l1 := h.1
  have m1 := h.2.1
  by_cases hn : ¬ (1 ≤ n ∧ n ≤ 30)
  · have ho := Lib.hid (show reignsOut xs = 2 by rw [reignsOut, if_pos (by omega)])
    clear h l1
    have hn' : n < 1 ∨ 30 < n := by omega
    clear hn
    rcases hn' with hl | hl
    all_goals
      go_enter Tryz.func72, Tryz.ntmps72
      go_wp2_with fail
      go_ret
      exact ⟨ret_int (by rw [ho.out]), Below.refl _ _⟩
  have hn1 : 1 ≤ n := by omega
  have hn8 : n ≤ 30 := by omega
  have ho := Lib.hid (show reignsOut xs = reignsErr none xs by rw [reignsOut, if_neg (by omega)])
  clear hn
  have H := Lib.hid h; have L1 := Lib.hid l1; clear h l1
  go_enter Tryz.func72, Tryz.ntmps72
  go_wp2_with fail
  go_loopw [3, 4, 15] (fun _ _ i wr => ∃ k : Nat, k ≤ n ∧ i = .int .i64 k ∧ reignsErr (prevOf xs k) (xs.drop k) = reignsErr none xs ∧ Below w.heap.size w wr) (fun _ _ i _ => n - (intOf i).toNat)
  case atStart => exact ⟨0, by omega, rfl, rfl, Below.refl _ _⟩
  case round =>
    obtain ⟨k, hk, rfl, hall, hb⟩ := hrel
    have HA := Lib.hid hall; clear hall
    by_cases hlt : k < n
    · obtain ⟨b, off, rfl, hbB, hcs⟩ := (H.out.below hb (Nat.le_refl _)).open_ (by omega)
      obtain ⟨s, f, hc1, hc2, hx, hs, f1, f2⟩ := hcs k hlt
      have hst := Lib.hid ((congrArg (reignsErr (prevOf xs k)) (drop_atE hx)).symm.trans HA.out)
      have HX := Lib.hid hx; clear hx
      have hz := hb.size
      have hbz : b < wr.heap.size := by omega
      have HCS := Lib.hid hcs; clear hcs
      rcases Bool.eq_false_or_eq_true (isName s) with hnm | hnm
      case inr =>
        have hfin : reignsOut xs = 5 := by rw [ho.out, ← hst.out, reignsErr_cons, if_pos hnm]
        have HF := Lib.hid hfin; clear hfin
        go_wp2_with (go_at_call 56; refine (rule_IsName _ _ hs).mono ?_; rintro e w1 ⟨rfl, rfl⟩)
        go_ret
        exact ⟨ret_int (by rw [HF.out]), hb.alloc hz _⟩
      rcases inB_cases (-4000000) 4000000 f with ⟨hd, d1, d2⟩ | ⟨hd, hd'⟩
      case inr =>
        have hfin : reignsOut xs = 3 := by rw [ho.out, ← hst.out, reignsErr_cons, if_neg (by rw [hnm]; simp), if_pos hd]
        have HF := Lib.hid hfin; clear hfin
        go_wp2_with (first | (go_at_call 56; refine (rule_IsName _ _ hs).mono ?_; rintro e w1 ⟨rfl, rfl⟩) | (go_at_call 32; refine (line_Is _ _).mono ?_; rintro e w1 ⟨rfl, rfl⟩))
        go_ret
        exact ⟨ret_int (by rw [HF.out]), hb.alloc hz _⟩
      have hst1 := hst.out
      rw [reignsErr_cons, if_neg (by rw [hnm]; simp), if_neg (by rw [hd]; simp)] at hst1
      have hst2 := Lib.hid hst1; clear hst1
      clear hst
      have hnext := Lib.hid (show prevOf xs (k + 1) = some f by rw [prevOf, HX.out]; rfl)
      by_cases hk0 : k = 0
      · subst hk0
        simp only [Nat.zero_mul, Nat.add_zero] at hc1 hc2
        go_wp2_with (first | (go_at_call 56; refine (rule_IsName _ _ hs).mono ?_; rintro e w1 ⟨rfl, rfl⟩) | (go_at_call 32; refine (line_Is _ _).mono ?_; rintro e w1 ⟨rfl, rfl⟩))
        go_quiet (fail)
        go_wp2_with fail
        go_roundw
        case rel =>
          refine ⟨1, by omega, rfl, ?_, below_drewN (hb.alloc hz _) _⟩
          rw [hnext.out, ← hst2.out]; rfl
        case measure => simp [intOf]; omega
      · obtain ⟨m, rfl⟩ : ∃ m, k = m + 1 := ⟨k - 1, by omega⟩
        obtain ⟨s', q, _, hc4, hx', _, q1, q2⟩ := HCS.out m (by omega)
        have hprev := Lib.hid (show prevOf xs (m + 1) = some q by rw [prevOf, hx']; rfl)
        clear hx'
        have hmn : m < n := by omega
        have hwm : IntKind.i64.wrap (m : Int) = (m : Int) := IntWalk.i64_in _ (by omega)
        by_cases hle : f ≤ q
        · have hfin : reignsOut xs = 9 := by rw [ho.out, ← hst2.out, hprev.out, if_pos (by simpa using hle)]
          have HF := Lib.hid hfin; clear hfin
          go_wp2_with (first | (go_at_call 56; refine (rule_IsName _ _ hs).mono ?_; rintro e w1 ⟨rfl, rfl⟩) | (go_at_call 32; refine (line_Is _ _).mono ?_; rintro e w1 ⟨rfl, rfl⟩))
          go_quiet (fail)
          go_wp2_with fail
          go_ret
          exact ⟨ret_int (by rw [HF.out]), below_drewN (hb.alloc hz _) _⟩
        · have hgt : decide (f ≤ q) = false := by simpa using hle
          have HE := Lib.hid (show reignsErr (some f) (xs.drop (m + 1 + 1)) = reignsErr none xs by rw [← hst2.out, hprev.out, if_neg (by simpa using hle)])
          go_wp2_with (first | (go_at_call 56; refine (rule_IsName _ _ hs).mono ?_; rintro e w1 ⟨rfl, rfl⟩) | (go_at_call 32; refine (line_Is _ _).mono ?_; rintro e w1 ⟨rfl, rfl⟩))
          go_quiet (fail)
          go_wp2_with fail
          go_roundw
          case rel =>
            refine ⟨m + 1 + 1, by omega, by go_num, ?_, below_drewN (hb.alloc hz _) _⟩
            rw [hnext.out, HE.out]
          case measure => simp [intOf]; omega
    · have hfin : reignsOut xs = 0 := by
        rw [ho.out, ← HA.out, List.drop_eq_nil_of_le (by have := L1.out; omega), reignsErr]
      have HF := Lib.hid hfin; clear hfin
      go_wp2_with fail
      go_ret
      exact ⟨ret_int (by rw [HF.out]), hb⟩
theorem open_Reigns {H : Type} {enc : TypeId × Value → H} {W : World} {fuel : Nat} {v : Value} {x : DataW H × List MemPlace}
    (h : DataW.trod enc Tryz.prog W 0 (fun _ => true) true fuel 57 [v] = some x) :
    ∃ a n c xs, v = .slice a n c ∧ Reigns W W.heap.size a n xs := by
  obtain ⟨a, len, cap, rfl, hl, hrow⟩ := open_rows Tryz.underlying57 Tryz.underlying59 (by kernel_rfl) (by kernel_rfl) (by decide) h
  by_cases hn : 0 < len
  · obtain ⟨b, off, rfl, hb, hc⟩ := hrow hn
    have hs : ∀ i, i < len → ∃ x : ByteArray × Int, W.cell? ⟨b, off + i * 2, none⟩ = some (.string x.1) ∧ W.cell? ⟨b, off + i * 2 + 1, none⟩ = some (.int .i64 x.2) ∧ x.1.size ≤ 9223372036854775807 ∧ I64 x.2 := by
      intro i hi
      obtain ⟨n, hf⟩ := hc i hi
      obtain ⟨u0, y0, c0, t0⟩ := hf 0 _ rfl
      obtain ⟨u1, y1, c1, t1⟩ := hf 1 _ rfl
      obtain ⟨s, rfl, hs⟩ := open_str t0
      obtain ⟨k, rfl, hk⟩ := open_num t1
      exact ⟨(s, k), c0, c1, hs, hk⟩
    obtain ⟨xs, hx1, hx2⟩ := listOf hs
    refine ⟨_, len, cap, xs, rfl, hx1, hl, fun x hx => ?_, fun _ => ⟨b, off, rfl, hb, fun i x hx => ?_⟩⟩
    · obtain ⟨i, hi, rfl⟩ := List.getElem_of_mem hx
      exact (hx2 i _ (List.getElem?_eq_getElem hi)).2.2
    · exact ⟨(hx2 i x hx).1, (hx2 i x hx).2.1⟩
  · obtain rfl : len = 0 := by omega
    exact ⟨a, 0, cap, [], rfl, rfl, by omega, by simp, fun h => absurd h (by omega)⟩
end Go.Proofs.YtlpbaljoanfogaaGreatDoor

set_option linter.unusedSimpArgs false
namespace Go.Proofs.YtlpbaljoanfogaaGreatDoor
set_option linter.unusedVariables false
open Go.RowKit
def PickE (xs : List (ByteArray × Int)) (x : Int) (i : Nat) (k : Int) : Prop :=
  (k = -1 ∧ ∀ j p, j < i → xs[j]? = some p → x < p.2) ∨ ∃ n : Nat, k = n ∧ n < i ∧ (∃ p, xs[n]? = some p ∧ p.2 ≤ x) ∧ ∀ j p, n < j → j < i → xs[j]? = some p → x < p.2
theorem PickE.zero (xs : List (ByteArray × Int)) (x : Int) : PickE xs x 0 (-1) := .inl ⟨rfl, fun j p h => by omega⟩
theorem PickE.take {xs : List (ByteArray × Int)} {x f : Int} {s : ByteArray} {i : Nat} {k : Int} (h : PickE xs x i k) (hx : xs[i]? = some (s, f)) (hf : f ≤ x) : PickE xs x (i + 1) i :=
  .inr ⟨i, rfl, by omega, ⟨_, hx, hf⟩, fun j p h1 h2 => by omega⟩
theorem PickE.skip {xs : List (ByteArray × Int)} {x f : Int} {s : ByteArray} {i : Nat} {k : Int} (h : PickE xs x i k) (hx : xs[i]? = some (s, f)) (hf : ¬ f ≤ x) : PickE xs x (i + 1) k := by
  rcases h with ⟨rfl, h1⟩ | ⟨n, rfl, h1, h2, h3⟩
  · refine .inl ⟨rfl, fun j p hj hp => ?_⟩
    by_cases hji : j = i
    · subst hji; rw [hx] at hp; cases hp; simpa using hf
    · exact h1 j p (by omega) hp
  · refine .inr ⟨n, rfl, by omega, h2, fun j p hj hj2 hp => ?_⟩
    by_cases hji : j = i
    · subst hji; rw [hx] at hp; cases hp; simpa using hf
    · exact h3 j p hj (by omega) hp
theorem PickE.unique {xs : List (ByteArray × Int)} {x : Int} {k k' : Int} (h : PickE xs x xs.length k) (h' : PickE xs x xs.length k') : k = k' := by
  rcases h with ⟨rfl, h1⟩ | ⟨n, rfl, h1, ⟨p, hp, hpx⟩, h3⟩
  · rcases h' with ⟨rfl, _⟩ | ⟨n', rfl, h1', ⟨p', hp', hpx'⟩, _⟩
    · rfl
    · have := h1 n' p' h1' hp'; omega
  · rcases h' with ⟨rfl, h1'⟩ | ⟨n', rfl, h1', ⟨p', hp', hpx'⟩, h3'⟩
    · have := h1' n p h1 hp; omega
    · rcases Nat.lt_trichotomy n n' with hlt | he | hlt
      · have := h3 n' p' hlt h1' hp'; omega
      · rw [he]
      · have := h3' n p hlt h1 hp; omega
theorem PickE.exists (xs : List (ByteArray × Int)) (x : Int) : ∀ i, i ≤ xs.length → ∃ k, PickE xs x i k
  | 0, _ => ⟨-1, .zero xs x⟩
  | i + 1, h => by
    obtain ⟨k, hk⟩ := PickE.exists xs x i (by omega)
    have hx := List.getElem?_eq_getElem (show i < xs.length by omega)
    by_cases hf : (xs[i]'(by omega)).2 ≤ x
    · exact ⟨i, hk.take hx hf⟩
    · exact ⟨k, hk.skip hx hf⟩
end Go.Proofs.YtlpbaljoanfogaaGreatDoor
