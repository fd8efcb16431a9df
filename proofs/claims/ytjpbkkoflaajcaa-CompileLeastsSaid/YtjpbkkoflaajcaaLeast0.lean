/- Periods of leap years, plain; contracts of compile.Flags and of slices.Equal at two cuts of the marks. -/
import Derived.Test.YtjpbkkoflaajcaaYears
import Derived.Test.YtjpbkkoflaajcaaQuiet
namespace Go.Proofs.Ytjpbkkoflaajcaa
set_option linter.unusedVariables false
set_option maxRecDepth 100000
open Go.RowKit

/-- The first k years are leap years just where those n years later are. -/
def perTo (ls : List Int) (n : Nat) : Nat → Bool
  | 0 => true
  | k + 1 => perTo ls n k && (flag ls ((n + k : Nat) : Int) == flag ls (k : Int))
theorem perTo_succ (ls : List Int) (n k : Nat) : perTo ls n (k + 1) = (perTo ls n k && (flag ls ((n + k : Nat) : Int) == flag ls (k : Int))) := rfl
theorem perTo_false {ls : List Int} {n k : Nat} (h : perTo ls n k = false) : ∀ K, k ≤ K → perTo ls n K = false
  | 0, hk => by
    have e : k = 0 := by omega
    rw [← e]; exact h
  | K + 1, hk => by
    rcases Nat.lt_or_ge K k with h1 | h1
    · have e : k = K + 1 := by omega
      rw [← e]; exact h
    · rw [perTo_succ, perTo_false h K h1]; rfl
theorem perTo_at {ls : List Int} {n : Nat} : ∀ {K : Nat}, perTo ls n K = true → ∀ i, i < K → flag ls ((n + i : Nat) : Int) = flag ls (i : Int)
  | 0, _, i, hi => by omega
  | K + 1, h, i, hi => by
    rw [perTo_succ, Bool.and_eq_true, beq_iff_eq] at h
    rcases Nat.lt_or_ge i K with h1 | h1
    · exact perTo_at h.1 i h1
    · obtain rfl : i = K := by omega
      exact h.2
theorem perTo_of {ls : List Int} {n : Nat} : ∀ {K : Nat}, (∀ i, i < K → flag ls ((n + i : Nat) : Int) = flag ls (i : Int)) → perTo ls n K = true
  | 0, _ => rfl
  | K + 1, h => by
    rw [perTo_succ, perTo_of (fun i hi => h i (by omega)), h K (by omega)]; simp
/-- n divides the cycle, and the leap years are the same n years later. -/
def perB (C : Nat) (ls : List Int) (n : Nat) : Bool := decide (C % n = 0) && perTo ls n (C - n)
theorem perB_self (C : Nat) (ls : List Int) : perB C ls C = true := by
  unfold perB; rw [Nat.sub_self, Nat.mod_self]; rfl
def FlagsPost (w : World) (C : Nat) (ls : List Int) (e : Ending) (w' : World) : Prop := ∃ g, e = .returned (.slice (some ⟨g, 0, none⟩) C C) ∧ MarksAt w' g C ls ∧ Below w.heap.size w w'
set_option maxHeartbeats 4000000 in
theorem compile_Flags (w : World) (s : ByteArray) (f : Int) (C : Nat) (a1 a2 : Option Addr) (n1 c1 n2 c2 : Nat) (ms : List Mon) (ls : List Int) (ok : CalOk s f C ms ls) (h : CalAt w a1 a2 n1 n2 ms ls) :
    Calls Try.prog 25 #[.agg #[.string s, .int .i64 f, .int .i64 (C : Int), .slice a1 n1 c1, .slice a2 n2 c2]] w (FlagsPost w C ls) := by
  have hmk := make_marks C (by have := ok.cy2; omega)
  have cy1 : 1 ≤ C := by have := ok.cy1; omega
  have cy2 : C ≤ 3000 := by have := ok.cy2; omega
  have L2 := Lib.hid h.2.1
  have M2 := h.2.2.1
  have H := Lib.hid h; have OK := Lib.hid ok; clear h ok
  go_enter Try.func25, Try.ntmps25
  go_wp2_with fail
  clear hmk
  have a0 := (At.new w (.cells #[.string s, .int .i64 f, .int .i64 (C : Int), .slice a1 n1 c1, .slice a2 n2 c2] 30)).alloc (.cells (boolCells (marks C [])) 4)
  have ag := At.new1 w (.cells #[.string s, .int .i64 f, .int .i64 (C : Int), .slice a1 n1 c1, .slice a2 n2 c2] 30) (.cells (boolCells (marks C [])) 4)
  have b0 : Below w.heap.size w ((w.alloc (.cells #[.string s, .int .i64 f, .int .i64 (C : Int), .slice a1 n1 c1, .slice a2 n2 c2] 30)).alloc (.cells (boolCells (marks C [])) 4)) := by (repeat' (first | exact Below.refl _ _ | assumption | refine Below.drew ?_ | refine below_drewN ?_ _ | refine below_new ?_ _ | refine below_set ?_ ?_ _ | refine below_then ?_ (by assumption) | refine below_drawn ?_ (by assumption) | exact Nat.le_refl _ | omega | (simp; done) | (simp; omega)))
  generalize World.alloc (World.alloc w _) _ = W0 at a0 ag b0 ⊢
  obtain ⟨g, hg⟩ : ∃ g, g = w.heap.size + 1 := ⟨_, rfl⟩
  rw [← hg] at ag ⊢
  have hg1 : w.heap.size < g := by omega
  clear hg
  have r4 : W0.cell? ⟨w.heap.size, 4, none⟩ = some (.slice a2 n2 c2) := a0.cell 4
  go_wp2_with fail
  clear r4 a0
  go_loopw [5, 12] (fun _ i wr => ∃ k : Nat, k ≤ n2 ∧ i = .int .i64 k ∧ At wr g (.cells (boolCells (marks C (ls.take k))) 4) ∧ Below w.heap.size w wr) (fun _ i _ => n2 - (intOf i).toNat)
  case atStart => exact ⟨0, by omega, rfl, ag, b0⟩
  case round =>
    clear ag b0
    obtain ⟨k, hk, rfl, ag, b0⟩ := hrel
    by_cases hlt : k < n2
    · obtain ⟨b, off, y, rfl, hbB, cy, hx, y3, y4⟩ := (H.out.then_ b0).2.at_ hlt
      obtain ⟨q1, q2⟩ := OK.out.leaps y (List.mem_of_getElem? hx)
      obtain ⟨j, rfl⟩ : ∃ j : Nat, y = (j : Int) + 1 := ⟨(y - 1).toNat, by omega⟩
      have hst := Lib.hid (marks_set C (ls.take k) _ j rfl)
      have hto := Lib.hid (take_one hx)
      have hcg := (ag.cell j).trans (marks_at C (ls.take k) j (by omega))
      have hfg := ag.frozen j
      have hjC : j < C := by omega
      have AG := Lib.hid ag
      clear hx ag
      generalize flag (ls.take k) (j : Int) = bb at hcg
      go_wp2_with fail
      go_roundw
      case rel => exact ⟨k + 1, by omega, by go_num, by rw [hto.out, ← hst.out]; exact AG.out.store j _, below_set b0 (by simp only; omega) _⟩
      case measure => first | (simp [intOf]; done) | (simp [intOf]; omega)
    · obtain rfl : n2 = k := by omega
      rw [List.take_of_length_le (show ls.length ≤ n2 by have := L2.out; omega)] at ag
      go_wp2_with fail
      go_ret
      exact ⟨g, rfl, ag, b0⟩
set_option maxHeartbeats 2000000 in
theorem slices_Equal (w : World) (g C n K1 c1 K2 c2 : Nat) (p1 p2 : Option Addr) (ls : List Int) (hn : n ≤ C) (hC : C ≤ 3000) (hk1 : K1 = C - n) (hk2 : K2 = C - n) (hp1 : 0 < C - n → p1 = some ⟨g, n, none⟩) (hp2 : 0 < C - n → p2 = some ⟨g, 0, none⟩) (hg : MarksAt w g C ls) :
    Calls Try.prog 26 #[.slice p1 K1 c1, .slice p2 K2 c2] w fun e w' => e = .returned (.bool (perTo ls n (C - n))) ∧ Drawn w w' := by
  subst hk1 hk2
  have HG := Lib.hid hg; clear hg
  have H1 := Lib.hid hp1; have H2 := Lib.hid hp2; clear hp1 hp2
  obtain ⟨K, hK⟩ : ∃ K, K = C - n := ⟨_, rfl⟩
  obtain ⟨R, hR⟩ : ∃ R, R = perTo ls n K := ⟨_, rfl⟩
  rw [← hK] at H1 H2 ⊢
  rw [← hR]
  have HR := Lib.hid hR; clear hR
  have HKE := Lib.hid hK
  have hK3 : K ≤ 3000 := by omega
  clear hK
  go_enter Try.func26, Try.ntmps26
  go_wp2_with fail
  go_loopw [5, 13] (fun _ i wr => ∃ k : Nat, k ≤ K ∧ i = .int .i64 k ∧ perTo ls n k = true ∧ Drawn w wr) (fun _ i _ => K - (intOf i).toNat)
  case atStart => exact ⟨0, by omega, rfl, rfl, Drawn.refl _⟩
  case round =>
    obtain ⟨k, hk, rfl, hper, hd⟩ := hrel
    have HPE := Lib.hid hper; have HD := Lib.hid hd
    obtain ⟨W2, rfl⟩ : ∃ W2, W2 = wr := ⟨_, rfl⟩
    have ag : MarksAt W2 g C ls := by obtain ⟨nd, rfl⟩ := hd; exact At.drewN HG.out nd
    clear hd hper
    by_cases hlt : k < K
    · have hKn : n + k < C := by have := HKE.out; omega
      obtain rfl := H1.out (by omega)
      obtain rfl := H2.out (by omega)
      have x1 := (At.cell ag (n + k)).trans (marks_at C ls (n + k) (by omega))
      have x2 := (At.cell ag k).trans (marks_at C ls k (by omega))
      have hgl := At.lt ag
      have HS := Lib.hid (perTo_succ ls n k)
      generalize flag ls ((n + k : Nat) : Int) = bA at *
      generalize flag ls ((k : Nat) : Int) = bB at *
      by_cases hq : bA = bB
      · subst hq
        have HN := Lib.hid (show perTo ls n (k + 1) = true by rw [HS.out, HPE.out]; simp)
        go_wp2_with fail
        go_quiet (fail)
        go_wp2_with fail
        go_roundw
        case rel => exact ⟨k + 1, by omega, by go_num, HN.out, by first | exact HD.out.drewN _ | exact HD.out⟩
        case measure => first | (simp [intOf]; done) | (simp [intOf]; omega)
      · have hne : (bA == bB) = false := by simpa using hq
        have HF := Lib.hid (show R = false by rw [HR.out]; exact perTo_false (k := k + 1) (by rw [HS.out, HPE.out]; simpa using hq) K (by omega))
        clear hq
        go_wp2_with fail
        go_quiet (fail)
        go_wp2_with fail
        go_ret
        exact ⟨by rw [HF.out]; rfl, by first | exact HD.out.drewN _ | exact HD.out⟩
    · obtain rfl : k = K := by omega
      have HF := Lib.hid (show R = true by rw [HR.out]; exact HPE.out)
      go_wp2_with fail
      go_ret
      exact ⟨by rw [HF.out]; rfl, HD.out⟩
end Go.Proofs.Ytjpbkkoflaajcaa
