/- Contracts of zone.Instants and zone.One. -/
import Derived.Test.YtjpbkkoflaajcabDoorZone6
import Derived.Test.YtjpbkkoflaajcabDoorQuiet
import Derived.Deep.AppendLies
namespace Go.Proofs.YtjpbkkoflaajcabDoor
set_option linter.unusedVariables false
set_option maxRecDepth 100000
open Go.RowKit

def instErr (s : ByteArray) (f : Int) (xs : List Chg) (day ms : Int) : Int := if zoneErr s f xs ≠ 0 then zoneErr s f xs else if inB (-4000000) 4000000 day = false then 3 else if inB 0 86399999 ms = false then 1 else 0
def instList (s : ByteArray) (f : Int) (xs : List Chg) (day ms : Int) : List Int := if instErr s f xs day ms ≠ 0 then [] else instGo (day * 86400000 + ms) none f xs
def InstPost (s : ByteArray) (f : Int) (xs : List Chg) (day ms : Int) (w : World) (e : Ending) (w' : World) : Prop :=
  ∃ a n c, e = .returned (.tuple #[.slice a n c, .int .i64 (instErr s f xs day ms)]) ∧ n ≤ c ∧ c ≤ 9223372036854775807 ∧ Ints w' w'.heap.size a n (instList s f xs day ms) ∧ Below w.heap.size w w'
theorem ints_none (w : World) (B : Nat) : Ints w B none 0 [] := ⟨rfl, by omega, by simp, fun h => absurd h (by omega)⟩
theorem instPost_err {s : ByteArray} {f : Int} {xs : List Chg} {day ms E : Int} {w w' : World} (h : instErr s f xs day ms = E) (h0 : E ≠ 0) (hb : Below w.heap.size w w') : InstPost s f xs day ms w (.returned (.tuple #[.slice none 0 0, .int .i64 E])) w' := by
  subst h
  refine ⟨none, 0, 0, rfl, by omega, by omega, ?_, hb⟩
  rw [instList, if_pos h0]
  exact ints_none _ _
set_option maxHeartbeats 8000000 in
theorem zone_Instants (w : World) (s : ByteArray) (f : Int) (a : Option Addr) (n c : Nat) (xs : List Chg) (day ms : Int) (hs : s.size ≤ 9223372036854775807) (f1 : -9223372036854775808 ≤ f) (f2 : f ≤ 9223372036854775807) (h : Changes w w.heap.size a n xs) :
    Calls Tryd.prog 8 #[.agg #[.string s, .int .i64 f, .slice a n c], .int .i64 day, .int .i64 ms] w (InstPost s f xs day ms w) := by
  obtain ⟨i0, hi, hz0, hz1, hz2⟩ := info_parts Tryd.infoInt6
  have L1 := Lib.hid h.len
  have m1 := h.max
  have H := Lib.hid h; clear h
  have HO := Lib.hid (show instErr s f xs day ms = if zoneErr s f xs ≠ 0 then zoneErr s f xs else if inB (-4000000) 4000000 day = false then 3 else if inB 0 86399999 ms = false then 1 else 0 from rfl)
  go_enter Tryd.func8, Tryd.ntmps8
  go_wp2_with fail
  have a0 := At.new w (.cells #[.string s, .int .i64 f, .slice a n c] 24)
  have b0 : Below w.heap.size w (w.alloc (.cells #[.string s, .int .i64 f, .slice a n c] 24)) := by (repeat' (first | exact Below.refl _ _ | assumption | refine Below.drew ?_ | refine below_drewN ?_ _ | refine below_new ?_ _ | refine below_set ?_ ?_ _ | refine below_then ?_ (by assumption) | refine below_drawn ?_ (by assumption) | exact Nat.le_refl _ | omega | (simp; done) | (simp; omega)))
  generalize World.alloc w _ = W0 at a0 b0 ⊢
  refine (zone_Check _ _ _ _ _ _ xs hs f1 f2 (H.out.then_ b0)).mono ?_
  by_cases q : zoneErr s f xs = 0
  case neg =>
    have hf := Lib.hid (HO.out.trans (if_pos q))
    have q' : (zoneErr s f xs != 0) = true := by simpa using q
    have Q := Lib.hid q
    generalize zoneErr s f xs = E at hf q' Q ⊢
    rintro e w1 ⟨rfl, hb⟩
    clear q HO
    go_wp2_with fail
    go_ret2
    exact instPost_err hf.out Q.out (below_then b0 hb)
  have hf := Lib.hid (HO.out.trans (if_neg (by omega)))
  have ok := zoneOk_of q
  rw [q]
  clear q HO
  rintro e w1 ⟨rfl, hb⟩
  replace a0 := a0.then_ hb
  replace b0 := below_then b0 hb
  clear hb
  rcases inB_cases (-4000000) 4000000 day with ⟨hd, dd1, dd2⟩ | ⟨hd, _⟩
  case inr =>
    have hf2 := Lib.hid (hf.out.trans (if_pos hd))
    go_wp2_with fail
    refine (line_Is _ _).mono ?_; rw [hd]; rintro e w2 ⟨rfl, rfl⟩
    go_wp2_with fail
    go_ret2
    exact instPost_err hf2.out (by omega) b0
  have hf2 := Lib.hid (hf.out.trans (if_neg (by rw [hd]; simp)))
  rcases inB_cases 0 86399999 ms with ⟨hm, mm1, mm2⟩ | ⟨hm, hm'⟩
  case inr =>
    have hf3 := Lib.hid (hf2.out.trans (if_pos hm))
    have hq : ms < 0 ∨ (0 ≤ ms ∧ 86400000 ≤ ms) := by omega
    clear hm hm'
    rcases hq with hq | ⟨hq, hq'⟩
    all_goals
      go_wp2_with fail
      refine (line_Is _ _).mono ?_; rw [hd]; rintro e w2 ⟨rfl, rfl⟩
      go_wp2_with fail
      go_ret2
      exact instPost_err hf3.out (by omega) b0
  have HE := Lib.hid (hf2.out.trans (if_neg (by rw [hm]; simp)))
  have OK := Lib.hid ok
  clear hm hf hf2 ok
  have hlen := OK.out.len
  have hfb := offB_bound OK.out.first
  obtain ⟨fb1, fb2⟩ := hfb
  have hn200 : n ≤ 200 := by have := L1.out; omega
  go_wp2_with fail
  refine (line_Is _ _).mono ?_; rw [hd]; rintro e w2 ⟨rfl, rfl⟩
  generalize hloc : day * 86400000 + ms = loc
  have lc1 : -345600000000000 ≤ loc ∧ loc ≤ 345600086400000 := by omega
  obtain ⟨lc1, lc2⟩ := lc1
  have HL := Lib.hid (show instList s f xs day ms = instGo loc none f xs by rw [instList, if_neg (by rw [HE.out]; omega), hloc])
  clear hd hlen
  go_wp2_with fail
  go_loopw [10, 11, 12, 13] (fun v vi _ _ wr => ∃ (j : Nat) (zs : List Int), j ≤ n + 1 ∧ vi = .int .i64 ((j : Int) - 1) ∧ wr.ownsRow (w.heap.size + 1) 3 1 v zs.length (zs.map (Value.int .i64)) ∧ zs ++ instAt loc f xs j = instGo loc none f xs ∧ (∀ z ∈ zs, instB z = true) ∧ zs.length ≤ j ∧ At wr w.heap.size (.cells #[.string s, .int .i64 f, .slice a n c] 24) ∧ Below w.heap.size w wr) (fun _ vi _ _ _ => n + 1 - (intOf vi + 1).toNat)
  case atStart => exact ⟨0, [], by omega, rfl, World.ownsRow_nil _ _ _ _, rfl, by simp, by simp, a0, b0⟩
  case round =>
    clear a0 b0
    obtain ⟨j, zs, hj, rfl, hown, hspec, hall, hzl, a0, b0⟩ := hrel
    have HSP := Lib.hid hspec; have HALL := Lib.hid hall; have OWN := Lib.hid hown; have HZL := Lib.hid hzl
    clear hspec hall hown hzl
    have x1 : wr.cell? ⟨w.heap.size, 1, none⟩ = some (.int .i64 f) := a0.cell 1
    have x2 : wr.cell? ⟨w.heap.size, 2, none⟩ = some (.slice a n c) := a0.cell 2
    have hlw := a0.lt
    by_cases hlt : j ≤ n
    case neg =>
      obtain rfl : j = n + 1 := by omega
      have HF := Lib.hid (show zs = instList s f xs day ms by rw [HL.out, ← HSP.out, instAt_last (by have := L1.out; omega), List.append_nil])
      obtain ⟨aa, cc, rfl, hc1, hc2, hI⟩ := own_ints OWN.out (fun z hz => by have := instB_bound (HALL.out z hz); unfold I64; omega) rfl
      have HI := Lib.hid hI; clear hI
      go_wp2_with fail
      go_ret2
      refine ⟨aa, zs.length, cc, by rw [HE.out]; rfl, hc1, hc2, ?_, b0⟩
      rw [← HF.out]; exact HI.out
    have A0 := Lib.hid a0; have B0 := Lib.hid b0; clear a0 b0
    rcases Nat.eq_zero_or_pos j with rfl | hjp
    · have hw0 : IntKind.i64.wrap (loc - f) = loc - f := IntWalk.i64_in _ (by omega)
      have STEPH := Lib.hid (instAt_zero (loc := loc) (f := f) (xs := xs))
      go_upto_region 17 with fail
      go_cut [86] from 52 to 87 (fun cnd wx => cnd = .bool (instC loc none f ((xs[0]?).map (·.1))) ∧ Drawn wr wx)
      case first =>
        rcases Bool.eq_false_or_eq_true (instB (loc - f)) with hin | hin
        case inr =>
          have HB := Lib.hid (show instC loc none f ((xs[0]?).map (·.1)) = false by unfold instC; rw [hin]; rfl)
          go_wp2_with fail
          refine (line_IsInstant _ _ (by omega) (by omega)).mono ?_; rw [hin]; rintro e w3 ⟨rfl, ⟨nd, rfl⟩⟩
          go_wp2_with fail
          go_meet
          case rel => exact ⟨by rw [HB.out] <;> first | rfl | (simp; done) | (simp; omega), ⟨_, rfl⟩⟩
        by_cases hn0 : n = 0
        · subst hn0
          have HB := Lib.hid (show instC loc none f ((xs[0]?).map (·.1)) = true by rw [List.length_eq_zero_iff.1 L1.out]; unfold instC; rw [hin]; rfl)
          go_wp2_with fail
          refine (line_IsInstant _ _ (by omega) (by omega)).mono ?_; rw [hin]; rintro e w3 ⟨rfl, ⟨nd, rfl⟩⟩
          go_wp2_with fail
          go_meet
          case rel => exact ⟨by rw [HB.out] <;> first | rfl | (simp; done) | (simp; omega), ⟨_, rfl⟩⟩
        · have hn0' : ((0 : Int) == (n : Int)) = false := by simp; omega
          obtain ⟨b, off, rfl, hbB, hcs⟩ := (H.out.below B0.out (Nat.le_refl _)).open_ (by omega)
          obtain ⟨ta, oa, la, c0, _, _, hx, _⟩ := hcs 0 (by omega)
          simp only [Nat.zero_mul, Nat.add_zero] at c0
          have hnp : (0 : Int) < (n : Int) := by omega
          have HB0 := Lib.hid (show instC loc none f ((xs[0]?).map (·.1)) = decide (loc - f < ta) by rw [hx]; unfold instC; rw [hin]; rfl)
          clear hcs hx
          by_cases hta : loc - f < ta
          · have HB := Lib.hid (show instC loc none f ((xs[0]?).map (·.1)) = true by rw [HB0.out, decide_eq_true hta])
            go_wp2_with fail
            refine (line_IsInstant _ _ (by omega) (by omega)).mono ?_; rw [hin]; rintro e w3 ⟨rfl, ⟨nd, rfl⟩⟩
            go_wp2_with fail
            go_meet
            case rel => exact ⟨by rw [HB.out] <;> first | rfl | (simp; done) | (simp; omega), ⟨_, rfl⟩⟩
          · have HB := Lib.hid (show instC loc none f ((xs[0]?).map (·.1)) = false by rw [HB0.out, decide_eq_false hta])
            go_wp2_with fail
            refine (line_IsInstant _ _ (by omega) (by omega)).mono ?_; rw [hin]; rintro e w3 ⟨rfl, ⟨nd, rfl⟩⟩
            go_wp2_with fail
            go_meet
            case rel => exact ⟨by rw [HB.out] <;> first | rfl | (simp; done) | (simp; omega), ⟨_, rfl⟩⟩
      case rest =>
      obtain ⟨rfl, ⟨nd, rfl⟩⟩ := hcut
      have a1 : At (wr.drewN nd) w.heap.size (.cells #[.string s, .int .i64 f, .slice a n c] 24) := A0.out
      have b1 : Below w.heap.size w (wr.drewN nd) := below_drewN B0.out nd
      have own1 : (wr.drewN nd).ownsRow (w.heap.size + 1) 3 1 u10 zs.length (zs.map (Value.int .i64)) := OWN.out
      generalize wr.drewN nd = W3 at a1 b1 own1 ⊢
      obtain ⟨C, hC⟩ : ∃ C, C = instC loc none f ((xs[0]?).map (·.1)) := ⟨_, rfl⟩
      rw [← hC]
      have HC := Lib.hid hC
      have HIN := Lib.hid (show C = true → instB (loc - f) = true by
        intro h; rw [h] at hC; unfold instC at hC; rw [eq_comm, Bool.and_eq_true] at hC; exact hC.1)
      clear hC
      generalize hT : loc - f = T at *
      clear hT
      cases C with
      | false =>
        go_wp2_with fail
        go_roundw
        case rel =>
          refine ⟨1, zs, by omega, by go_num, own1, ?_, HALL.out, by have := HZL.out; omega, a1, b1⟩
          rw [← HSP.out, STEPH.out, ← HC.out]; simp
        case measure => first | (simp [intOf]; done) | (simp [intOf]; omega)
      | true =>
        have hwl : w.heap.size + 1 ≤ W3.heap.size := by have := a1.lt; omega
        have A1 := Lib.hid a1; have B1 := Lib.hid b1; have OWN1 := Lib.hid own1
        clear a1 b1 own1
        go_upto_region 18 with fail
        go_wp2_with (at_builtin; refine wpList_append_own _ rfl _ _ 29 rfl (w.heap.size + 1) 3 i0 (.int .i64 0) 1 8 Tryd.underlying29 hi hz0 hz1 hz2 rfl (by decide) _ _ _ rfl (OWN1.out.alloc _) ⟨W3.heap.size, 0, none⟩ 1 1 [.int .i64 T] rfl rfl (World.news_of_block (cs := #[.int .i64 T]) (t := 3) (fr := (0, 0)) (heap_alloc_new W3 _)) (by simp [Value.oneCell']) (by have := HZL.out; unfold maxLen; omega) (by have := HZL.out; omega) (by first | omega | (simp; omega)) ?_; intro v' w4 hown' hgrow _)
        have a2 := (A1.out.alloc (.cells #[.int .i64 T] 3)).grown6 hgrow (own_near OWN1.out (by omega))
        have b2 : Below w.heap.size w w4 := (below_new B1.out (.cells #[.int .i64 T] 3)).grown hgrow (by first | omega | (simp; omega) | (simp; have := hwl; omega)) (fun b hb => by
          rcases Nat.lt_or_ge b (w.heap.size + 1) with h | h
          · exact absurd hb.symm (own_near OWN1.out h)
          · omega)
        have OWN2 := Lib.hid hown'
        clear hown' hgrow OWN1
        go_wp2_with fail
        go_roundw
        case rel =>
          refine ⟨1, zs ++ [T], by omega, by go_num, ?_, ?_, ?_, by have h := HZL.out; rw [List.length_append, List.length_singleton]; omega, a2, b2⟩
          · rw [List.length_append, List.map_append]; exact OWN2.out
          · rw [← HSP.out, STEPH.out, ← HC.out]; simp
          · intro z hz
            rcases List.mem_append.1 hz with hz | hz
            · exact HALL.out z hz
            · rw [List.mem_singleton] at hz; subst hz; exact HIN.out (by first | rfl | trivial)
        case measure => first | (simp [intOf]; done) | (simp [intOf]; omega)
    · obtain ⟨m, rfl⟩ : ∃ m, j = m + 1 := ⟨j - 1, by omega⟩
      have hzl := HZL.out
      have e1 : ((m + 1 : Nat) : Int) - 1 = (m : Int) := by omega
      rw [e1]
      obtain ⟨b, off, rfl, hbB, hcs⟩ := (H.out.below B0.out (Nat.le_refl _)).open_ (by omega)
      obtain ⟨ta, oa, la, c0, c1, _, hx, ta1, ta2, oa1, oa2, _⟩ := hcs m (by omega)
      have hxl := OK.out.each _ (List.mem_of_getElem? hx)
      obtain ⟨ob1, ob2⟩ := offB_bound hxl.2
      simp only at ob1 ob2
      have hmn : m < n := by omega
      have hmn2 : (m : Int) < (n : Int) := by omega
      have hw0 : IntKind.i64.wrap (loc - oa) = loc - oa := IntWalk.i64_in _ (by omega)
      have hw1 : IntKind.i64.wrap ((m : Int) + 1) = (m : Int) + 1 := IntWalk.i64_in _ (by omega)
      have tn : ((m : Int) + 1).toNat = m + 1 := by omega
      have STEPH := Lib.hid (instAt_succ (loc := loc) (f := f) hx)
      have HCS := Lib.hid hcs
      clear hxl hx hcs e1
      go_upto_region 17 with fail
      go_cut [86] from 52 to 87 (fun cnd wx => cnd = .bool (instC loc (some ta) oa ((xs[m + 1]?).map (·.1))) ∧ Drawn wr wx)
      case first =>
        rcases Bool.eq_false_or_eq_true (instB (loc - oa)) with hin | hin
        case inr =>
          have HB := Lib.hid (show instC loc (some ta) oa ((xs[m + 1]?).map (·.1)) = false by unfold instC; rw [hin]; rfl)
          go_wp2_with fail
          refine (line_IsInstant _ _ (by omega) (by omega)).mono ?_; rw [hin]; rintro e w3 ⟨rfl, ⟨nd, rfl⟩⟩
          go_wp2_with fail
          go_meet
          case rel => exact ⟨by rw [HB.out] <;> first | rfl | (simp; done) | (simp; omega), ⟨_, rfl⟩⟩
        by_cases hlo : ta ≤ loc - oa
        case neg =>
          have HB := Lib.hid (show instC loc (some ta) oa ((xs[m + 1]?).map (·.1)) = false by unfold instC loOk; rw [hin]; simp only [decide_eq_false hlo]; rfl)
          go_wp2_with fail
          refine (line_IsInstant _ _ (by omega) (by omega)).mono ?_; rw [hin]; rintro e w3 ⟨rfl, ⟨nd, rfl⟩⟩
          go_wp2_with fail
          go_meet
          case rel => exact ⟨by rw [HB.out] <;> first | rfl | (simp; done) | (simp; omega), ⟨_, rfl⟩⟩
        by_cases hml : m + 1 = n
        · have HB := Lib.hid (show instC loc (some ta) oa ((xs[m + 1]?).map (·.1)) = true by rw [List.getElem?_eq_none (by have := L1.out; omega)]; unfold instC loOk; rw [hin]; simp only [decide_eq_true hlo]; rfl)
          have hml' : ((m : Int) + 1 == (n : Int)) = true := by simp; omega
          go_wp2_with fail
          refine (line_IsInstant _ _ (by omega) (by omega)).mono ?_; rw [hin]; rintro e w3 ⟨rfl, ⟨nd, rfl⟩⟩
          go_wp2_with fail
          go_meet
          case rel => exact ⟨by rw [HB.out] <;> first | rfl | (simp; done) | (simp; omega), ⟨_, rfl⟩⟩
        · have hml' : ((m : Int) + 1 == (n : Int)) = false := by simp; omega
          obtain ⟨tb, ob, lb, c3, _, _, hx2, _⟩ := HCS.out (m + 1) (by omega)
          have hml2 : (m : Int) + 1 < (n : Int) := by omega
          have hml3 : m + 1 < n := by omega
          have HB0 := Lib.hid (show instC loc (some ta) oa ((xs[m + 1]?).map (·.1)) = decide (loc - oa < tb) by rw [hx2]; unfold instC loOk; rw [hin]; simp only [decide_eq_true hlo]; rfl)
          clear hx2
          by_cases htb : loc - oa < tb
          · have HB := Lib.hid (show instC loc (some ta) oa ((xs[m + 1]?).map (·.1)) = true by rw [HB0.out, decide_eq_true htb])
            go_wp2_with fail
            refine (line_IsInstant _ _ (by omega) (by omega)).mono ?_; rw [hin]; rintro e w3 ⟨rfl, ⟨nd, rfl⟩⟩
            go_wp2_with fail
            go_meet
            case rel => exact ⟨by rw [HB.out] <;> first | rfl | (simp; done) | (simp; omega), ⟨_, rfl⟩⟩
          · have HB := Lib.hid (show instC loc (some ta) oa ((xs[m + 1]?).map (·.1)) = false by rw [HB0.out, decide_eq_false htb])
            go_wp2_with fail
            refine (line_IsInstant _ _ (by omega) (by omega)).mono ?_; rw [hin]; rintro e w3 ⟨rfl, ⟨nd, rfl⟩⟩
            go_wp2_with fail
            go_meet
            case rel => exact ⟨by rw [HB.out] <;> first | rfl | (simp; done) | (simp; omega), ⟨_, rfl⟩⟩
      case rest =>
      obtain ⟨rfl, ⟨nd, rfl⟩⟩ := hcut
      have a1 : At (wr.drewN nd) w.heap.size (.cells #[.string s, .int .i64 f, .slice (some ⟨b, off, none⟩) n c] 24) := A0.out
      have b1 : Below w.heap.size w (wr.drewN nd) := below_drewN B0.out nd
      have own1 : (wr.drewN nd).ownsRow (w.heap.size + 1) 3 1 u10 zs.length (zs.map (Value.int .i64)) := OWN.out
      generalize wr.drewN nd = W3 at a1 b1 own1 ⊢
      obtain ⟨C, hC⟩ : ∃ C, C = instC loc (some ta) oa ((xs[m + 1]?).map (·.1)) := ⟨_, rfl⟩
      rw [← hC]
      have HC := Lib.hid hC
      have HIN := Lib.hid (show C = true → instB (loc - oa) = true by
        intro h; rw [h] at hC; unfold instC at hC; rw [eq_comm, Bool.and_eq_true] at hC; exact hC.1)
      clear hC
      generalize hT : loc - oa = T at *
      clear hT hw0 hw1 tn c0 c1 HCS
      cases C with
      | false =>
        go_wp2_with fail
        go_roundw
        case rel =>
          refine ⟨m + 1 + 1, zs, by omega, by go_num, own1, ?_, HALL.out, by have := HZL.out; omega, a1, b1⟩
          rw [← HSP.out, STEPH.out, ← HC.out]; simp
        case measure => first | (simp [intOf]; done) | (simp [intOf]; omega)
      | true =>
        have hwl : w.heap.size + 1 ≤ W3.heap.size := by have := a1.lt; omega
        have A1 := Lib.hid a1; have B1 := Lib.hid b1; have OWN1 := Lib.hid own1
        clear a1 b1 own1
        go_upto_region 18 with fail
        go_wp2_with (at_builtin; refine wpList_append_own _ rfl _ _ 29 rfl (w.heap.size + 1) 3 i0 (.int .i64 0) 1 8 Tryd.underlying29 hi hz0 hz1 hz2 rfl (by decide) _ _ _ rfl (OWN1.out.alloc _) ⟨W3.heap.size, 0, none⟩ 1 1 [.int .i64 T] rfl rfl (World.news_of_block (cs := #[.int .i64 T]) (t := 3) (fr := (0, 0)) (heap_alloc_new W3 _)) (by simp [Value.oneCell']) (by have := HZL.out; unfold maxLen; omega) (by have := HZL.out; omega) (by first | omega | (simp; omega)) ?_; intro v' w4 hown' hgrow _)
        have a2 := (A1.out.alloc (.cells #[.int .i64 T] 3)).grown6 hgrow (own_near OWN1.out (by omega))
        have b2 : Below w.heap.size w w4 := (below_new B1.out (.cells #[.int .i64 T] 3)).grown hgrow (by first | omega | (simp; omega) | (simp; have := hwl; omega)) (fun b hb => by
          rcases Nat.lt_or_ge b (w.heap.size + 1) with h | h
          · exact absurd hb.symm (own_near OWN1.out h)
          · omega)
        have OWN2 := Lib.hid hown'
        clear hown' hgrow OWN1
        go_wp2_with fail
        go_roundw
        case rel =>
          refine ⟨m + 1 + 1, zs ++ [T], by omega, by go_num, ?_, ?_, ?_, by have h := HZL.out; rw [List.length_append, List.length_singleton]; omega, a2, b2⟩
          · rw [List.length_append, List.map_append]; exact OWN2.out
          · rw [← HSP.out, STEPH.out, ← HC.out]; simp
          · intro z hz
            rcases List.mem_append.1 hz with hz | hz
            · exact HALL.out z hz
            · rw [List.mem_singleton] at hz; subst hz; exact HIN.out (by first | rfl | trivial)
        case measure => first | (simp [intOf]; done) | (simp [intOf]; omega)
end Go.Proofs.YtjpbkkoflaajcabDoor
