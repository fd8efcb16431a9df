/- Several texts in one: Apart, Years. -/
import Derived.Test.YtlbjmpdonnlieaaGreatDoorMgG
import Derived.Test.YtlbjmpdonnlieaaGreatDoorMgA
import Derived.RegionTactic
import Derived.ChangeAlike
import Derived.Laws.MakeOwn
import Derived.StillTailTactics
set_option linter.unusedSimpArgs false
namespace Go.Proofs.YtlbjmpdonnlieaaGreatDoor
set_option linter.unusedVariables false
set_option maxRecDepth 100000
open Go.RowKit
theorem ref_yes (b : Bool) (w : World) : Calls Tryz.prog 62 #[.bool b] w fun e w' => e = .returned (.int .i64 (bif b then 1 else 0)) ∧ w = w' := by
  cases b
  all_goals
    go_enter Tryz.func62, Tryz.ntmps62
    go_wp2_with fail
    go_ret
    exact ⟨rfl, rfl⟩
theorem Tryz.infoBool : (Tryz.prog.info? 4).map (fun i => (i.zero, i.size, i.bytes)) = some (some (.bool false), 1, 1) := by kernel_rfl
def marks (C : Nat) (ls : List Int) : List Bool := (List.range C).map fun (i : Nat) => flag ls (i : Int)
def boolCells (l : List Bool) : Array Value := (l.map Value.bool).toArray
theorem marks_none (C : Nat) : madeCells #[Value.bool false] (C * 1) = boolCells (marks C []) := by
  apply Array.ext'
  simp [madeCells, boolCells, marks, flag, Array.toList_range, Nat.mod_one]
theorem marks_at (C : Nat) (ls : List Int) (i : Nat) (h : i < C) : (boolCells (marks C ls))[i]? = some (.bool (flag ls i)) := by
  simp [boolCells, marks, h]
theorem marks_set (C : Nat) (ls : List Int) (y : Int) (k : Nat) (hk : y = (k : Int) + 1) : (boolCells (marks C ls)).setIfInBounds k (.bool true) = boolCells (marks C (ls ++ [y])) := by
  apply Array.ext'
  simp only [boolCells, marks, Array.toList_setIfInBounds, List.map_map]
  apply List.ext_getElem?
  intro i
  rw [List.getElem?_set]
  by_cases hi : i < C
  · by_cases hki : k = i
    · subst hki
      rw [if_pos rfl, if_pos (by simp [hi])]
      simp [hi, flag, hk]
    · rw [if_neg hki]
      have : ¬ (i : Int) + 1 = y := by omega
      simp [hi, flag, this]
  · rw [List.getElem?_eq_none (by simp; omega)]
    by_cases hki : k = i
    · rw [if_pos hki, if_neg (by simp; omega)]
      rw [List.getElem?_eq_none (by simp; omega)]
    · rw [if_neg hki, List.getElem?_eq_none (by simp; omega)]
theorem make_marks (C : Nat) (hC : C ≤ 3000) (W : World) : (Instr.makeSlice 40 (.int .i64 (C : Int)) (.int .i64 (C : Int))).run Tryz.prog W = .ok (.slice (some ⟨W.heap.size, 0, none⟩) C C) (W.alloc (.cells (boolCells (marks C [])) 4)) := by
  obtain ⟨i0, hi, hz0, hz1, hz2⟩ := info_parts Tryz.infoBool
  have h := run_make (P := Tryz.prog) W 40 4 i0 (.bool false) Tryz.underlying40 hi hz0 .i64 .i64 (C : Int) (C : Int) (by omega) (by omega) (by rw [hz2]; omega) (by omega)
  rw [hz1] at h
  simp only [Int.toNat_natCast] at h
  rw [h]
  show Result.ok _ (W.alloc (.cells (madeCells #[Value.bool false] (C * 1)) _)) = _
  rw [marks_none]
def Aparted (w : World) (s : ByteArray) (f : Int) (C : Nat) (a1 a2 : Option Addr) (n1 c1 n2 c2 : Nat) (ms : List Mon) (ls : List Int) (e : Ending) (w' : World) : Prop :=
  ∃ g, e = .returned (.agg #[.string s, .int .i64 f, .int .i64 (C : Int), .slice a1 n1 c1, .slice a2 n2 c2, .slice (some ⟨g, 0, none⟩) C C, .int .i64 (shortOf ms), .int .i64 (longOf ms), .int .i64 (daysTo (shortOf ms) (longOf ms) ls (C : Int))]) ∧ At w' g (.cells (boolCells (marks C ls)) 4) ∧ Below w.heap.size w w'
def Kept (w : World) (s : ByteArray) (f : Int) (C : Nat) (a1 a2 : Option Addr) (n1 c1 n2 c2 : Nat) (ms : List Mon) (ls : List Int) (wr : World) : Prop :=
  At wr w.heap.size (.cells #[.string s, .int .i64 f, .int .i64 (C : Int), .slice a1 n1 c1, .slice a2 n2 c2] 39) ∧ At wr (w.heap.size + 1) (.cells #[.string ⟨#[]⟩, .int .i64 0, .int .i64 0, .slice none 0 0, .slice none 0 0, .slice none 0 0, .int .i64 0, .int .i64 0, .int .i64 0] 43) ∧ Below w.heap.size w wr
theorem Kept.set {w : World} {s : ByteArray} {f : Int} {C : Nat} {a1 a2 : Option Addr} {n1 c1 n2 c2 : Nat} {ms : List Mon} {ls : List Int} {wr : World} (h : Kept w s f C a1 a2 n1 c1 n2 c2 ms ls wr) {p : Addr} (hp : w.heap.size + 1 < p.block) (u : Value) : Kept w s f C a1 a2 n1 c1 n2 c2 ms ls (wr.setCell p u) :=
  ⟨h.1.apart (by omega) u, h.2.1.apart (by omega) u, below_set h.2.2 (by omega) u⟩
theorem Kept.alloc {w : World} {s : ByteArray} {f : Int} {C : Nat} {a1 a2 : Option Addr} {n1 c1 n2 c2 : Nat} {ms : List Mon} {ls : List Int} {wr : World} (h : Kept w s f C a1 a2 n1 c1 n2 c2 ms ls wr) (o : Obj) : Kept w s f C a1 a2 n1 c1 n2 c2 ms ls (wr.alloc o) :=
  ⟨h.1.alloc o, h.2.1.alloc o, below_new h.2.2 o⟩
theorem Kept.drew {w : World} {s : ByteArray} {f : Int} {C : Nat} {a1 a2 : Option Addr} {n1 c1 n2 c2 : Nat} {ms : List Mon} {ls : List Int} {wr : World} (h : Kept w s f C a1 a2 n1 c1 n2 c2 ms ls wr) : Kept w s f C a1 a2 n1 c1 n2 c2 ms ls wr.drew :=
  ⟨h.1.drew, h.2.1.drew, h.2.2.drew⟩
set_option maxHeartbeats 4000000 in
theorem ref_Apart (w : World) (s : ByteArray) (f : Int) (C : Nat) (a1 a2 : Option Addr) (n1 c1 n2 c2 : Nat) (ms : List Mon) (ls : List Int) (ok : CalOk s f C ms ls) (h : CalAt w a1 a2 n1 n2 ms ls) :
    Calls Tryz.prog 41 #[.agg #[.string s, .int .i64 f, .int .i64 (C : Int), .slice a1 n1 c1, .slice a2 n2 c2]] w (Aparted w s f C a1 a2 n1 c1 n2 c2 ms ls) := by
  have hmk := make_marks C (by have := ok.cy2; omega)
  have cy1 : 1 ≤ C := by have := ok.cy1; omega
  have cy2 : C ≤ 3000 := by have := ok.cy2; omega
  have ml2 := ok.ml2
  have L1 := Lib.hid h.1.len; have L2 := Lib.hid h.2.1
  have M2 := h.2.2.1
  have hct := ok.count.2
  rw [L2.out] at hct
  rw [L1.out] at ml2
  have H := Lib.hid h; have OK := Lib.hid ok; clear h ok
  go_enter Tryz.func41, Tryz.ntmps41
  go_wp2_with fail
  go_region
  all_goals clear hmk
  · generalize hW : World.drew _ = W2
    have k0 : Kept w s f C a1 a2 n1 c1 n2 c2 ms ls W2 := by
      exact q90
    have ag : At W2 (w.heap.size + 1 + 1) (.cells (boolCells (marks C [])) 4) := by rw [← hW]; exact ((At.new2 w _ _ _).alloc _).drew
    have ay : At W2 (w.heap.size + 1 + 1 + 1) (.cells #[.string s, .int .i64 f, .int .i64 (C : Int), .slice a1 n1 c1, .slice a2 n2 c2, .slice (some ⟨w.heap.size + 1 + 1, 0, none⟩) C C, .int .i64 0, .int .i64 0, .int .i64 0] 43) := by rw [← hW]; exact (At.new3 w _ _ _ _).drew
    clear hW
    obtain ⟨yb, hyb⟩ : ∃ yb, yb = w.heap.size + 1 + 1 + 1 := ⟨_, rfl⟩
    obtain ⟨g, hg⟩ : ∃ g, g = w.heap.size + 1 + 1 := ⟨_, rfl⟩
    rw [← hyb] at ay ⊢
    rw [← hg] at ay ag ⊢
    have hgy : yb ≠ g := by omega
    have hg1 : w.heap.size + 1 < g := by omega
    have hy1 : w.heap.size + 1 < yb := by omega
    have r4 := k0.1.cell 4
    simp at r4
    clear hyb hg
    go_wp2_with fail
    go_loopw [5, 18] (fun _ i wr => ∃ k : Nat, k ≤ n2 ∧ i = .int .i64 k ∧ At wr g (.cells (boolCells (marks C (ls.take k))) 4) ∧ At wr yb (.cells #[.string s, .int .i64 f, .int .i64 (C : Int), .slice a1 n1 c1, .slice a2 n2 c2, .slice (some ⟨g, 0, none⟩) C C, .int .i64 0, .int .i64 0, .int .i64 0] 43) ∧ Kept w s f C a1 a2 n1 c1 n2 c2 ms ls wr) (fun _ i _ => n2 - (intOf i).toNat)
    case atStart => exact ⟨0, by omega, rfl, ag, ay, k0⟩
    case round =>
      clear ag ay k0
      obtain ⟨k, hk, rfl, ag, ay, k0⟩ := hrel
      by_cases hlt : k < n2
      · obtain ⟨b, off, y, rfl, hbB, cy, hx, y3, y4⟩ := (H.out.then_ k0.2.2).2.at_ hlt
        obtain ⟨q1, q2⟩ := OK.out.leaps y (List.mem_of_getElem? hx)
        obtain ⟨j, rfl⟩ : ∃ j : Nat, y = (j : Int) + 1 := ⟨(y - 1).toNat, by omega⟩
        have hst := Lib.hid (marks_set C (ls.take k) _ j rfl)
        have hto := Lib.hid (take_one hx)
        have hcg := (ag.cell j).trans (marks_at C (ls.take k) j (by omega))
        have hfg := ag.frozen j
        have d5 := ay.cell 5
        simp at d5
        have hjC : j < C := by omega
        clear hx
        generalize flag (ls.take k) (j : Int) = bb at hcg
        go_wp2_with fail
        go_roundw
        case rel => exact ⟨k + 1, by omega, by go_num, by rw [hto.out, ← hst.out]; exact ag.store j _, ay.apart (by simpa using hgy) _, k0.set (by simpa using hg1) _⟩
        case measure => simp [intOf]; omega
      · obtain rfl : n2 = k := by omega
        rw [List.take_of_length_le (by rw [L2.out]; exact Nat.le_refl _)] at ag
        have r3 := k0.1.cell 3
        simp at r3
        go_wp2_with fail
        clear r3
        go_loopw [7, 31] (fun _ i wr => ∃ k : Nat, k ≤ n1 ∧ i = .int .i64 k ∧ At wr g (.cells (boolCells (marks C ls)) 4) ∧ At wr yb (.cells #[.string s, .int .i64 f, .int .i64 (C : Int), .slice a1 n1 c1, .slice a2 n2 c2, .slice (some ⟨g, 0, none⟩) C C, .int .i64 (shortOf (ms.take k)), .int .i64 (longOf (ms.take k)), .int .i64 0] 43) ∧ Kept w s f C a1 a2 n1 c1 n2 c2 ms ls wr) (fun _ i _ => n1 - (intOf i).toNat)
        case atStart => exact ⟨0, by omega, rfl, ag, ay, k0⟩
        case round =>
          clear ag ay k0
          obtain ⟨k, hk, rfl, ag, ay, k0⟩ := hrel
          obtain ⟨A1, A2, B1, B2⟩ := sums_bound (ms.take k) fun x hx => OK.out.lens x (List.mem_of_mem_take hx)
          rw [List.length_take, L1.out] at A2 B2
          have A3 : shortOf (ms.take k) ≤ 8000 := by omega
          have B3 : longOf (ms.take k) ≤ 8000 := by omega
          clear A2 B2
          by_cases hlt2 : k < n1
          · obtain ⟨b, off, rfl, hbB, hcs⟩ := (H.out.then_ k0.2.2).1.open_ (by omega)
            obtain ⟨t, p, q, c0, c3, c4, hx, hs, f1, f2, g1, g2⟩ := hcs k hlt2
            have e1 := Lib.hid (show shortOf (ms.take (k + 1)) = shortOf (ms.take k) + p by rw [take_one hx, shortOf_snoc])
            have e2 := Lib.hid (show longOf (ms.take (k + 1)) = longOf (ms.take k) + q by rw [take_one hx, longOf_snoc])
            obtain ⟨b1, b2, b3, b4⟩ := OK.out.lens _ (List.mem_of_getElem? hx)
            simp only at b1 b2 b3 b4
            clear hcs hx
            have hyl := ay.lt
            have d6 := ay.cell 6; have d7 := ay.cell 7
            simp at d6 d7
            have z6 := ay.frozen 6; have z7 := ay.frozen 7
            generalize shortOf (ms.take k) = A at *
            generalize longOf (ms.take k) = B at *
            go_wp2_with fail
            go_roundw
            case rel =>
              refine ⟨k + 1, by omega, by go_num, ((ag.apart (by simpa using Ne.symm hgy) _).apart (by simpa using Ne.symm hgy) _).alloc _, ?_, ((k0.set (by simpa using hy1) _).set (by simpa using hy1) _).alloc _⟩
              rw [e1.out, e2.out]
              exact ((ay.store 6 _).store 7 _).alloc _
            case measure => simp [intOf]; omega
          · obtain rfl : n1 = k := by omega
            have et : ms.take n1 = ms := List.take_of_length_le (by rw [L1.out]; exact Nat.le_refl _)
            rw [et] at A1 A3 B1 B3 ay
            clear et
            have d5 := ay.cell 5
            simp at d5
            go_wp2_with fail
            clear d5
            have HD0 := Lib.hid (daysTo_zero (shortOf ms) (longOf ms) ls (fun z hz => (OK.out.leaps z hz).1))
            go_loopw [9, 55] (fun _ i wr => ∃ k : Nat, k ≤ C ∧ i = .int .i64 k ∧ At wr g (.cells (boolCells (marks C ls)) 4) ∧ At wr yb (.cells #[.string s, .int .i64 f, .int .i64 (C : Int), .slice a1 n1 c1, .slice a2 n2 c2, .slice (some ⟨g, 0, none⟩) C C, .int .i64 (shortOf ms), .int .i64 (longOf ms), .int .i64 (daysTo (shortOf ms) (longOf ms) ls (k : Int))] 43) ∧ Kept w s f C a1 a2 n1 c1 n2 c2 ms ls wr) (fun _ i _ => C - (intOf i).toNat)
            case atStart => exact ⟨0, by omega, rfl, ag, by rw [show ((0 : Nat) : Int) = 0 from rfl, HD0.out]; exact ay, k0⟩
            case round =>
              clear ag ay k0
              obtain ⟨j, hj, rfl, ag, ay, k0⟩ := hrel
              by_cases hlt3 : j < C
              · have hcg := (ag.cell j).trans (marks_at C ls j hlt3)
                have hdb := daysTo_bound (shortOf ms) (longOf ms) ls (j : Int) (by omega) (by omega) OK.out.sh1 OK.out.sh2 OK.out.lo1 OK.out.lo2 OK.out.sorted (fun z hz => (OK.out.leaps z hz).1)
                obtain ⟨db1, db2⟩ := hdb
                have hds := Lib.hid (daysTo_succ (shortOf ms) (longOf ms) ls (j : Int) OK.out.sorted)
                obtain ⟨bb, hbb⟩ : ∃ bb, bb = flag ls (j : Int) := ⟨_, rfl⟩
                rw [← hbb] at hcg hds
                clear hbb
                have d6 := ay.cell 6; have d7 := ay.cell 7; have d8 := ay.cell 8
                simp at d6 d7 d8
                have z8 := ay.frozen 8
                generalize daysTo (shortOf ms) (longOf ms) ls (j : Int) = T at *
                have sh1 := OK.out.sh1; have sh2 := OK.out.sh2; have lo1 := OK.out.lo1; have lo2 := OK.out.lo2
                have t1 : IntKind.i64.wrap (T + shortOf ms) = T + shortOf ms := IntWalk.i64_in _ (by omega)
                have t2 : IntKind.i64.wrap (T + longOf ms) = T + longOf ms := IntWalk.i64_in _ (by omega)
                cases bb
                all_goals
                  go_wp2_with fail
                  (refine wp_region_still_tail 9 (by kernel_rfl) (by kernel_rfl) ?_; simp only [List.take_succ_cons, List.take_zero, List.drop_succ_cons, List.drop_zero]; change wpStill _ _ (World.drew wr) _ _ _; (repeat (first | still_step | still_call ((ref_yes _ _).mono fun _ _ ⟨he, hw⟩ => ⟨he, hw.symm⟩))); refine wpStill_nil ?_; change wpList _ _ _ _ _ (World.drew wr))
                  clear t1 t2
                  go_wp2_with fail
                  go_roundw
                  case rel =>
                    refine ⟨j + 1, by omega, by go_num, (ag.apart (by simpa using Ne.symm hgy) _).drew, ?_, (k0.set (by simpa using hy1) _).drew⟩
                    exact q106
                  case measure => simp [intOf]; omega
              · exact q1
  · generalize hW : World.drew _ = W2
    have k0 : Kept w s f C a1 a2 n1 c1 n2 c2 ms ls W2 := by
      exact q90
    have ay : At W2 (w.heap.size + 1 + 1) (.cells #[.string s, .int .i64 f, .int .i64 (C : Int), .slice a1 n1 c1, .slice a2 n2 c2, .slice (some ⟨w.heap.size + 1 + 1 + 1, 0, none⟩) C C, .int .i64 0, .int .i64 0, .int .i64 0] 43) := by rw [← hW]; exact ((At.new2 w _ _ _).alloc _).drew
    have ag : At W2 (w.heap.size + 1 + 1 + 1) (.cells (boolCells (marks C [])) 4) := by rw [← hW]; exact (At.new3 w _ _ _ _).drew
    clear hW
    obtain ⟨yb, hyb⟩ : ∃ yb, yb = w.heap.size + 1 + 1 := ⟨_, rfl⟩
    obtain ⟨g, hg⟩ : ∃ g, g = w.heap.size + 1 + 1 + 1 := ⟨_, rfl⟩
    rw [← hg] at ay ag ⊢
    rw [← hyb] at ay ⊢
    have hgy : yb ≠ g := by omega
    have hg1 : w.heap.size + 1 < g := by omega
    have hy1 : w.heap.size + 1 < yb := by omega
    have r4 := k0.1.cell 4
    simp at r4
    clear hyb hg
    go_wp2_with fail
    go_loopw [5, 18] (fun _ i wr => ∃ k : Nat, k ≤ n2 ∧ i = .int .i64 k ∧ At wr g (.cells (boolCells (marks C (ls.take k))) 4) ∧ At wr yb (.cells #[.string s, .int .i64 f, .int .i64 (C : Int), .slice a1 n1 c1, .slice a2 n2 c2, .slice (some ⟨g, 0, none⟩) C C, .int .i64 0, .int .i64 0, .int .i64 0] 43) ∧ Kept w s f C a1 a2 n1 c1 n2 c2 ms ls wr) (fun _ i _ => n2 - (intOf i).toNat)
    case atStart => exact ⟨0, by omega, rfl, ag, ay, k0⟩
    case round =>
      clear ag ay k0
      obtain ⟨k, hk, rfl, ag, ay, k0⟩ := hrel
      by_cases hlt : k < n2
      · obtain ⟨b, off, y, rfl, hbB, cy, hx, y3, y4⟩ := (H.out.then_ k0.2.2).2.at_ hlt
        obtain ⟨q1, q2⟩ := OK.out.leaps y (List.mem_of_getElem? hx)
        obtain ⟨j, rfl⟩ : ∃ j : Nat, y = (j : Int) + 1 := ⟨(y - 1).toNat, by omega⟩
        have hst := Lib.hid (marks_set C (ls.take k) _ j rfl)
        have hto := Lib.hid (take_one hx)
        have hcg := (ag.cell j).trans (marks_at C (ls.take k) j (by omega))
        have hfg := ag.frozen j
        have d5 := ay.cell 5
        simp at d5
        have hjC : j < C := by omega
        clear hx
        generalize flag (ls.take k) (j : Int) = bb at hcg
        go_wp2_with fail
        go_roundw
        case rel => exact ⟨k + 1, by omega, by go_num, by rw [hto.out, ← hst.out]; exact ag.store j _, ay.apart (by simpa using hgy) _, k0.set (by simpa using hg1) _⟩
        case measure => simp [intOf]; omega
      · obtain rfl : n2 = k := by omega
        rw [List.take_of_length_le (by rw [L2.out]; exact Nat.le_refl _)] at ag
        have r3 := k0.1.cell 3
        simp at r3
        go_wp2_with fail
        clear r3
        go_loopw [7, 31] (fun _ i wr => ∃ k : Nat, k ≤ n1 ∧ i = .int .i64 k ∧ At wr g (.cells (boolCells (marks C ls)) 4) ∧ At wr yb (.cells #[.string s, .int .i64 f, .int .i64 (C : Int), .slice a1 n1 c1, .slice a2 n2 c2, .slice (some ⟨g, 0, none⟩) C C, .int .i64 (shortOf (ms.take k)), .int .i64 (longOf (ms.take k)), .int .i64 0] 43) ∧ Kept w s f C a1 a2 n1 c1 n2 c2 ms ls wr) (fun _ i _ => n1 - (intOf i).toNat)
        case atStart => exact ⟨0, by omega, rfl, ag, ay, k0⟩
        case round =>
          clear ag ay k0
          obtain ⟨k, hk, rfl, ag, ay, k0⟩ := hrel
          obtain ⟨A1, A2, B1, B2⟩ := sums_bound (ms.take k) fun x hx => OK.out.lens x (List.mem_of_mem_take hx)
          rw [List.length_take, L1.out] at A2 B2
          have A3 : shortOf (ms.take k) ≤ 8000 := by omega
          have B3 : longOf (ms.take k) ≤ 8000 := by omega
          clear A2 B2
          by_cases hlt2 : k < n1
          · obtain ⟨b, off, rfl, hbB, hcs⟩ := (H.out.then_ k0.2.2).1.open_ (by omega)
            obtain ⟨t, p, q, c0, c3, c4, hx, hs, f1, f2, g1, g2⟩ := hcs k hlt2
            have e1 := Lib.hid (show shortOf (ms.take (k + 1)) = shortOf (ms.take k) + p by rw [take_one hx, shortOf_snoc])
            have e2 := Lib.hid (show longOf (ms.take (k + 1)) = longOf (ms.take k) + q by rw [take_one hx, longOf_snoc])
            obtain ⟨b1, b2, b3, b4⟩ := OK.out.lens _ (List.mem_of_getElem? hx)
            simp only at b1 b2 b3 b4
            clear hcs hx
            have hyl := ay.lt
            have d6 := ay.cell 6; have d7 := ay.cell 7
            simp at d6 d7
            have z6 := ay.frozen 6; have z7 := ay.frozen 7
            generalize shortOf (ms.take k) = A at *
            generalize longOf (ms.take k) = B at *
            go_wp2_with fail
            go_roundw
            case rel =>
              refine ⟨k + 1, by omega, by go_num, ((ag.apart (by simpa using Ne.symm hgy) _).apart (by simpa using Ne.symm hgy) _).alloc _, ?_, ((k0.set (by simpa using hy1) _).set (by simpa using hy1) _).alloc _⟩
              rw [e1.out, e2.out]
              exact ((ay.store 6 _).store 7 _).alloc _
            case measure => simp [intOf]; omega
          · obtain rfl : n1 = k := by omega
            have et : ms.take n1 = ms := List.take_of_length_le (by rw [L1.out]; exact Nat.le_refl _)
            rw [et] at A1 A3 B1 B3 ay
            clear et
            have d5 := ay.cell 5
            simp at d5
            go_wp2_with fail
            clear d5
            have HD0 := Lib.hid (daysTo_zero (shortOf ms) (longOf ms) ls (fun z hz => (OK.out.leaps z hz).1))
            go_loopw [9, 55] (fun _ i wr => ∃ k : Nat, k ≤ C ∧ i = .int .i64 k ∧ At wr g (.cells (boolCells (marks C ls)) 4) ∧ At wr yb (.cells #[.string s, .int .i64 f, .int .i64 (C : Int), .slice a1 n1 c1, .slice a2 n2 c2, .slice (some ⟨g, 0, none⟩) C C, .int .i64 (shortOf ms), .int .i64 (longOf ms), .int .i64 (daysTo (shortOf ms) (longOf ms) ls (k : Int))] 43) ∧ Kept w s f C a1 a2 n1 c1 n2 c2 ms ls wr) (fun _ i _ => C - (intOf i).toNat)
            case atStart => exact ⟨0, by omega, rfl, ag, by rw [show ((0 : Nat) : Int) = 0 from rfl, HD0.out]; exact ay, k0⟩
            case round =>
              clear ag ay k0
              obtain ⟨j, hj, rfl, ag, ay, k0⟩ := hrel
              by_cases hlt3 : j < C
              · have hcg := (ag.cell j).trans (marks_at C ls j hlt3)
                have hdb := daysTo_bound (shortOf ms) (longOf ms) ls (j : Int) (by omega) (by omega) OK.out.sh1 OK.out.sh2 OK.out.lo1 OK.out.lo2 OK.out.sorted (fun z hz => (OK.out.leaps z hz).1)
                obtain ⟨db1, db2⟩ := hdb
                have hds := Lib.hid (daysTo_succ (shortOf ms) (longOf ms) ls (j : Int) OK.out.sorted)
                obtain ⟨bb, hbb⟩ : ∃ bb, bb = flag ls (j : Int) := ⟨_, rfl⟩
                rw [← hbb] at hcg hds
                clear hbb
                have d6 := ay.cell 6; have d7 := ay.cell 7; have d8 := ay.cell 8
                simp at d6 d7 d8
                have z8 := ay.frozen 8
                generalize daysTo (shortOf ms) (longOf ms) ls (j : Int) = T at *
                have sh1 := OK.out.sh1; have sh2 := OK.out.sh2; have lo1 := OK.out.lo1; have lo2 := OK.out.lo2
                have t1 : IntKind.i64.wrap (T + shortOf ms) = T + shortOf ms := IntWalk.i64_in _ (by omega)
                have t2 : IntKind.i64.wrap (T + longOf ms) = T + longOf ms := IntWalk.i64_in _ (by omega)
                cases bb
                all_goals
                  go_wp2_with fail
                  (refine wp_region_still_tail 9 (by kernel_rfl) (by kernel_rfl) ?_; simp only [List.take_succ_cons, List.take_zero, List.drop_succ_cons, List.drop_zero]; change wpStill _ _ (World.drew wr) _ _ _; (repeat (first | still_step | still_call ((ref_yes _ _).mono fun _ _ ⟨he, hw⟩ => ⟨he, hw.symm⟩))); refine wpStill_nil ?_; change wpList _ _ _ _ _ (World.drew wr))
                  clear t1 t2
                  go_wp2_with fail
                  go_roundw
                  case rel =>
                    refine ⟨j + 1, by omega, by go_num, (ag.apart (by simpa using Ne.symm hgy) _).drew, ?_, (k0.set (by simpa using hy1) _).drew⟩
                    exact q106
                  case measure => simp [intOf]; omega
              · exact q1
def MarksAt (w : World) (g C : Nat) (ls : List Int) : Prop := At w g (.cells (boolCells (marks C ls)) 4)
theorem MarksAt.then_ {w w' : World} {g C : Nat} {ls : List Int} (h : MarksAt w g C ls) (k : Below w.heap.size w w') : MarksAt w' g C ls := At.then_ h k
theorem ref_Mod_at (a b p : Int) (hp : a % b = p) (w : World) (h1 : -9223372036854775808 ≤ a) (h2 : a ≤ 9223372036854775807) (h3 : 1 ≤ b) (h4 : b ≤ 9223372036854775807) :
    Calls Tryz.prog 61 #[.int .i64 a, .int .i64 b] w fun e w' => e = .returned (.int .i64 p) ∧ w = w' := by
  subst hp; exact ref_Mod a b w h1 h2 h3 h4
theorem years_IsLeap (w : World) (s : ByteArray) (f : Int) (C : Nat) (a1 a2 : Option Addr) (n1 c1 n2 c2 : Nat) (ms : List Mon) (ls : List Int) (g : Nat) (y : Int) (S L T : Int) (cy1 : 1 ≤ C) (cy2 : C ≤ 3000) (y1 : -100000000 ≤ y) (y2 : y ≤ 100000000) (hg : MarksAt w g C ls) :
    Calls Tryz.prog 94 #[.agg #[.string s, .int .i64 f, .int .i64 (C : Int), .slice a1 n1 c1, .slice a2 n2 c2, .slice (some ⟨g, 0, none⟩) C C, .int .i64 S, .int .i64 L, .int .i64 T], .int .i64 y] w fun e w' => e = .returned (.bool (flag ls (placeOf C y))) ∧ Below w.heap.size w w' := by
  obtain ⟨p1, p2⟩ := placeOf_in C y (by omega)
  obtain ⟨p, hp⟩ : ∃ p : Nat, placeOf C y = (p : Int) := ⟨(placeOf C y).toNat, by omega⟩
  rw [hp] at p1 p2 ⊢
  have hpC : p < C := by omega
  have hcg := (At.cell hg p).trans (marks_at C ls p hpC)
  have hgl := At.lt hg
  have HP := Lib.hid (show (y - 1) % (C : Int) = (p : Int) from hp)
  clear hp hg
  have t0 : IntKind.i64.wrap (y - 1) = y - 1 := IntWalk.i64_in _ (by omega)
  have t1 : -9223372036854775808 ≤ y - 1 := by omega
  have t2 : y - 1 ≤ 9223372036854775807 := by omega
  have t3 : 1 ≤ (C : Int) := by omega
  have t4 : (C : Int) ≤ 9223372036854775807 := by omega
  generalize flag ls (p : Int) = bb at hcg ⊢
  go_enter Tryz.func94, Tryz.ntmps94
  go_wp2_with fail
  go_quiet ((go_at_call 61; exact quiet_left (ref_Mod_at _ _ (p : Int) HP.out _ t1 t2 t3 t4)))
  clear t0
  go_wp2_with fail
  go_ret
  exact ⟨rfl, by exact bl⟩
theorem years_Length (w : World) (s : ByteArray) (f : Int) (C : Nat) (a1 a2 : Option Addr) (n1 c1 n2 c2 : Nat) (ms : List Mon) (ls : List Int) (g : Nat) (y : Int) (S L T : Int) (cy1 : 1 ≤ C) (cy2 : C ≤ 3000) (y1 : -100000000 ≤ y) (y2 : y ≤ 100000000) (hg : MarksAt w g C ls) :
    Calls Tryz.prog 49 #[.agg #[.string s, .int .i64 f, .int .i64 (C : Int), .slice a1 n1 c1, .slice a2 n2 c2, .slice (some ⟨g, 0, none⟩) C C, .int .i64 S, .int .i64 L, .int .i64 T], .int .i64 y] w fun e w' => e = .returned (.int .i64 (lenY S L (flag ls (placeOf C y)))) ∧ Below w.heap.size w w' := by
  have HG := Lib.hid hg; clear hg
  obtain ⟨bb, hbb⟩ : ∃ bb, bb = flag ls (placeOf C y) := ⟨_, rfl⟩
  rw [← hbb]
  have HBB := Lib.hid hbb; clear hbb
  go_enter Tryz.func49, Tryz.ntmps49
  go_wp2_with fail
  refine (years_IsLeap _ s f C a1 a2 n1 c1 n2 c2 ms ls g y S L T cy1 cy2 y1 y2 (HG.out.then_ (below_new (Below.refl _ _) _))).mono ?_
  rw [← HBB.out]
  rintro e w1 ⟨rfl, hb⟩
  have a0 := (At.new w (.cells #[.string s, .int .i64 f, .int .i64 (C : Int), .slice a1 n1 c1, .slice a2 n2 c2, .slice (some ⟨g, 0, none⟩) C C, .int .i64 S, .int .i64 L, .int .i64 T] 43)).then_ hb
  have b0 : Below w.heap.size w w1 := by exact bl
  clear hb HBB
  have d6 := a0.cell 6; have d7 := a0.cell 7
  simp at d6 d7
  cases bb
  all_goals
    go_wp2_with fail
    refine (ref_yes _ _).mono ?_; simp only [cond_true, cond_false]; rintro e w2 ⟨rfl, rfl⟩
    go_wp2_with fail
    go_ret
    exact ⟨rfl, b0⟩
theorem years_Month (w : World) (s : ByteArray) (f : Int) (C : Nat) (a1 a2 : Option Addr) (n1 c1 n2 c2 : Nat) (ms : List Mon) (ls : List Int) (g : Nat) (y : Int) (S L T : Int) (k : Nat) (x : Mon) (cy1 : 1 ≤ C) (cy2 : C ≤ 3000) (y1 : -100000000 ≤ y) (y2 : y ≤ 100000000) (hg : MarksAt w g C ls) (h : CalAt w a1 a2 n1 n2 ms ls) (hn1 : n1 ≤ 20) (hx : ms[k]? = some x) :
    Calls Tryz.prog 50 #[.agg #[.string s, .int .i64 f, .int .i64 (C : Int), .slice a1 n1 c1, .slice a2 n2 c2, .slice (some ⟨g, 0, none⟩) C C, .int .i64 S, .int .i64 L, .int .i64 T], .int .i64 y, .int .i64 ((k : Int) + 1)] w fun e w' => e = .returned (.int .i64 (mlenOf x (flag ls (placeOf C y)))) ∧ Below w.heap.size w w' := by
  have HG := Lib.hid hg; clear hg
  have hk : k < n1 := by have := (List.getElem?_eq_some_iff.1 hx).1; have := h.1.len; omega
  have H := Lib.hid h; clear h
  have HX := Lib.hid hx; clear hx
  obtain ⟨bb, hbb⟩ : ∃ bb, bb = flag ls (placeOf C y) := ⟨_, rfl⟩
  rw [← hbb]
  have HBB := Lib.hid hbb; clear hbb
  have tk : ((k : Int) + 1 - 1) = (k : Int) := by omega
  go_enter Tryz.func50, Tryz.ntmps50
  go_wp2_with fail
  refine (years_IsLeap _ s f C a1 a2 n1 c1 n2 c2 ms ls g y S L T cy1 cy2 y1 y2 (HG.out.then_ (below_new (Below.refl _ _) _))).mono ?_
  rw [← HBB.out]
  rintro e w1 ⟨rfl, hb⟩
  have a0 := (At.new w (.cells #[.string s, .int .i64 f, .int .i64 (C : Int), .slice a1 n1 c1, .slice a2 n2 c2, .slice (some ⟨g, 0, none⟩) C C, .int .i64 S, .int .i64 L, .int .i64 T] 43)).then_ hb
  have b0 : Below w.heap.size w w1 := by exact bl
  clear hb HBB
  have d3 := a0.cell 3
  simp at d3
  obtain ⟨b, off, rfl, hbB, hcs⟩ := (H.out.then_ b0).1.open_ (by omega)
  obtain ⟨t, p, q, c0, c3, c4, hx', hs, f1, f2, g1, g2⟩ := hcs k hk
  obtain rfl : x = (t, p, q) := by have := HX.out.symm.trans hx'; injection this
  clear hcs hx' a0
  cases bb
  all_goals
    go_wp2_with fail
    go_ret
    exact ⟨rfl, b0⟩
theorem place_at (C : Nat) (q : Int) (i : Nat) (h : i < C) : placeOf C (1 + q * (C : Int) + (i : Int)) = (i : Int) := by
  unfold placeOf
  rw [show 1 + q * (C : Int) + (i : Int) - 1 = (i : Int) + (C : Int) * q by rw [Int.mul_comm]; omega, Int.add_mul_emod_self_left]
  exact Int.emod_eq_of_lt (by omega) (by omega)
set_option maxHeartbeats 1000000 in
theorem years_NewYear (w : World) (s : ByteArray) (f : Int) (C : Nat) (a1 a2 : Option Addr) (n1 c1 n2 c2 : Nat) (ms : List Mon) (ls : List Int) (g : Nat) (y : Int) (ok : CalOk s f C ms ls) (y1 : -20000 ≤ y) (y2 : y ≤ 20000) (hg : MarksAt w g C ls) :
    Calls Tryz.prog 134 #[.agg #[.string s, .int .i64 f, .int .i64 (C : Int), .slice a1 n1 c1, .slice a2 n2 c2, .slice (some ⟨g, 0, none⟩) C C, .int .i64 (shortOf ms), .int .i64 (longOf ms), .int .i64 (daysTo (shortOf ms) (longOf ms) ls (C : Int))], .int .i64 y] w fun e w' => e = .returned (.int .i64 (nyOf (shortOf ms) (longOf ms) f C ls y)) ∧ Below w.heap.size w w' := by
  have cy1 : 1 ≤ C := by have := ok.cy1; omega
  have cy2 : C ≤ 3000 := by have := ok.cy2; omega
  obtain ⟨p1, p2⟩ := placeOf_in C y (by omega)
  obtain ⟨p, hp⟩ : ∃ p : Nat, placeOf C y = (p : Int) := ⟨(placeOf C y).toNat, by omega⟩
  have hpC : p < C := by omega
  obtain ⟨q, hq⟩ : ∃ q, q = (y - 1) / (C : Int) := ⟨_, rfl⟩
  have hqb : -20001 ≤ q ∧ q ≤ 20001 := by
    rw [hq]
    constructor
    · rw [Int.le_ediv_iff_mul_le (by omega)]
      have h3 : -20001 * (C : Int) ≤ -20001 * 1 := by omega
      omega
    · refine Int.ediv_le_of_le_mul (by omega) ?_
      have h3 : 20001 * 1 ≤ 20001 * (C : Int) := by omega
      omega
  have hyq : y = 1 + q * (C : Int) + (p : Int) := by
    have h1 : (C : Int) * ((y - 1) / (C : Int)) + (y - 1) % (C : Int) = y - 1 := Int.mul_ediv_add_emod _ _
    rw [← hq] at h1
    have h2 : (y - 1) % (C : Int) = (p : Int) := hp
    rw [h2, Int.mul_comm] at h1
    omega
  have hny : nyOf (shortOf ms) (longOf ms) f C ls y = f + q * daysTo (shortOf ms) (longOf ms) ls C + daysTo (shortOf ms) (longOf ms) ls p := by
    unfold nyOf; rw [← hq]
    have h2 : (y - 1) % (C : Int) = (p : Int) := hp
    rw [h2]
  obtain ⟨T, hT⟩ : ∃ T, T = daysTo (shortOf ms) (longOf ms) ls C := ⟨_, rfl⟩
  have hTb := daysTo_bound (shortOf ms) (longOf ms) ls (C : Int) (by omega) (by omega) ok.sh1 ok.sh2 ok.lo1 ok.lo2 ok.sorted (fun z hz => (ok.leaps z hz).1)
  rw [← hT] at hny hTb ⊢
  have m1 := mul_in q T 20001 24000000 (by omega) (by omega) (by omega) (by omega)
  have m2 : -30000 ≤ q * (C : Int) ∧ q * (C : Int) ≤ 30000 := by omega
  have ep1 := ok.ep1; have ep2 := ok.ep2
  rw [hny]
  have hqf := Lib.hid hq.symm
  have HYQ := Lib.hid hyq
  have OK := Lib.hid ok; have HG := Lib.hid hg
  clear hny hq hp hg hT ok hyq
  obtain ⟨m1, m1'⟩ := m1
  obtain ⟨m2, m2'⟩ := m2
  obtain ⟨hT1, hT2⟩ := hTb
  obtain ⟨q1, q2⟩ := hqb
  have HD0 := Lib.hid (daysTo_zero (shortOf ms) (longOf ms) ls (fun z hz => (OK.out.leaps z hz).1))
  go_enter Tryz.func134, Tryz.ntmps134
  go_wp2_with fail
  refine (ref_Floor _ _ _ (by omega) (by omega) (by omega) (by omega)).mono ?_; rw [hqf.out]; rintro e w1 ⟨rfl, rfl⟩
  have a0 := At.new w (.cells #[.string s, .int .i64 f, .int .i64 (C : Int), .slice a1 n1 c1, .slice a2 n2 c2, .slice (some ⟨g, 0, none⟩) C C, .int .i64 (shortOf ms), .int .i64 (longOf ms), .int .i64 T] 43)
  have b0 := below_new (Below.refl w.heap.size w) (.cells #[.string s, .int .i64 f, .int .i64 (C : Int), .slice a1 n1 c1, .slice a2 n2 c2, .slice (some ⟨g, 0, none⟩) C C, .int .i64 (shortOf ms), .int .i64 (longOf ms), .int .i64 T] 43)
  generalize World.alloc w _ = W1 at a0 b0 ⊢
  have d1 := a0.cell 1; have d2 := a0.cell 2; have d8 := a0.cell 8
  simp at d1 d2 d8
  go_wp2_with fail
  clear d1 d2 d8
  go_loopw [6, 7] (fun t k wr => ∃ i : Nat, i ≤ p ∧ k = .int .i64 (1 + q * (C : Int) + (i : Int)) ∧ t = .int .i64 (f + q * T + daysTo (shortOf ms) (longOf ms) ls (i : Int)) ∧ At wr w.heap.size (.cells #[.string s, .int .i64 f, .int .i64 (C : Int), .slice a1 n1 c1, .slice a2 n2 c2, .slice (some ⟨g, 0, none⟩) C C, .int .i64 (shortOf ms), .int .i64 (longOf ms), .int .i64 T] 43) ∧ Below w.heap.size w wr) (fun _ k _ => (y - intOf k).toNat)
  case atStart => exact ⟨0, by omega, by simp, by rw [show ((0 : Nat) : Int) = 0 from rfl, HD0.out]; simp, a0, b0⟩
  case round =>
    clear a0 b0
    obtain ⟨i, hi, rfl, rfl, a0, b0⟩ := hrel
    have hdb := daysTo_bound (shortOf ms) (longOf ms) ls (i : Int) (by omega) (by omega) OK.out.sh1 OK.out.sh2 OK.out.lo1 OK.out.lo2 OK.out.sorted (fun z hz => (OK.out.leaps z hz).1)
    obtain ⟨db1, db2⟩ := hdb
    by_cases hlt : i < p
    · have hds := Lib.hid (daysTo_succ (shortOf ms) (longOf ms) ls (i : Int) OK.out.sorted)
      have hpl := Lib.hid (place_at C q i (by omega))
      have hky : 1 + q * (C : Int) + (i : Int) < y := by have := HYQ.out; omega
      have d0 := a0.cell 0; have d1 := a0.cell 1; have d2 := a0.cell 2; have d3 := a0.cell 3; have d4 := a0.cell 4; have d5 := a0.cell 5; have d6 := a0.cell 6; have d7 := a0.cell 7; have d8 := a0.cell 8; simp at d0 d1 d2 d3 d4 d5 d6 d7 d8
      generalize daysTo (shortOf ms) (longOf ms) ls (i : Int) = D at *
      go_wp2_with fail
      refine (years_Length _ s f C a1 a2 n1 c1 n2 c2 ms ls g _ _ _ _ cy1 cy2 (by omega) (by omega) (HG.out.then_ b0)).mono ?_
      rw [hpl.out]
      rintro e w2 ⟨rfl, hb⟩
      replace a0 := a0.then_ hb
      replace b0 := below_then b0 hb
      clear hb d0 d1 d2 d3 d4 d5 d6 d7 d8
      have sh1 := OK.out.sh1; have sh2 := OK.out.sh2; have lo1 := OK.out.lo1; have lo2 := OK.out.lo2
      have hlb : 0 ≤ lenY (shortOf ms) (longOf ms) (flag ls (i : Int)) ∧ lenY (shortOf ms) (longOf ms) (flag ls (i : Int)) ≤ 8000 := by
        unfold lenY; cases flag ls (i : Int) <;> simp only [cond_true, cond_false] <;> omega
      obtain ⟨lb1, lb2⟩ := hlb
      generalize lenY (shortOf ms) (longOf ms) (flag ls (i : Int)) = Z at *
      go_wp2_with fail
      go_roundw
      case rel => exact ⟨i + 1, by omega, by go_num, by rw [show ((i + 1 : Nat) : Int) = (i : Int) + 1 by omega, hds.out]; go_num, a0, b0⟩
      case measure => simp [intOf]; omega
    · obtain rfl : p = i := by omega
      have hky : ¬ 1 + q * (C : Int) + (p : Int) < y := by have := HYQ.out; omega
      go_wp2_with fail
      go_ret
      exact ⟨rfl, b0⟩
end Go.Proofs.YtlbjmpdonnlieaaGreatDoor
