/- Several texts in one: Apart, Years. -/
import Derived.Test.YtdmkghgachapaabGreatDoorMgG
import Derived.Test.YtdmkghgachapaabGreatDoorMgA
import Derived.RegionTactic
import Derived.ChangeAlike
import Derived.Laws.MakeOwn
import Derived.StillTailTactics
set_option linter.unusedSimpArgs false
namespace Go.Proofs.YtdmkghgachapaabGreatDoor
set_option linter.unusedVariables false
set_option maxRecDepth 100000
open Go.RowKit
theorem ref_yes (b : Bool) (w : World) : Calls Tryz.prog 97 #[.bool b] w fun e w' => e = .returned (.int .i64 (bif b then 1 else 0)) ∧ w = w' := by
  cases b
  all_goals
    go_enter Tryz.func97, Tryz.ntmps97
    go_wp2_with fail
    go_ret
    exact ⟨rfl, rfl⟩
theorem Tryz.infoBool : (Tryz.prog.info? 4).map (fun i => (i.zero, i.size, i.bytes)) = some (some (.bool false), 1, 1) := by kernel_rfl
def marks (C : Nat) (ls : List Int) : List Bool := (List.range C).map fun (i : Nat) => flag ls (i : Int)
def boolCells (l : List Bool) : Array Value := (l.map Value.bool).toArray
theorem marks_none (C : Nat) : madeCells #[Value.bool false] (C * 1) = boolCells (marks C []) := by
  apply Array.ext'
  simp [madeCells, boolCells, marks, flag, Array.toList_range, Nat.mod_one]
theorem marks_at (C : Nat) (ls : List Int) (i : Nat) (h : i < C) : (boolCells (marks C ls))[i]? = some (.bool (flag ls i)) := by
  simp [boolCells, marks, h]
theorem marks_set (C : Nat) (ls : List Int) (y : Int) (k : Nat) (hk : y = (k : Int) + 1) : (boolCells (marks C ls)).setIfInBounds k (.bool true) = boolCells (marks C (ls ++ [y])) := by
  apply Array.ext'
  simp only [boolCells, marks, Array.toList_setIfInBounds, List.map_map]
  apply List.ext_getElem?
  intro i
  rw [List.getElem?_set]
  by_cases hi : i < C
  · by_cases hki : k = i
    · subst hki
      rw [if_pos rfl, if_pos (by simp [hi])]
      simp [hi, flag, hk]
    · rw [if_neg hki]
      have : ¬ (i : Int) + 1 = y := by omega
      simp [hi, flag, this]
  · rw [List.getElem?_eq_none (by simp; omega)]
    by_cases hki : k = i
    · rw [if_pos hki, if_neg (by simp; omega)]
      rw [List.getElem?_eq_none (by simp; omega)]
    · rw [if_neg hki, List.getElem?_eq_none (by simp; omega)]
theorem make_marks (C : Nat) (hC : C ≤ 3000) (W : World) : (Instr.makeSlice 97 (.int .i64 (C : Int)) (.int .i64 (C : Int))).run Tryz.prog W = .ok (.slice (some ⟨W.heap.size, 0, none⟩) C C) (W.alloc (.cells (boolCells (marks C [])) 4)) := by
  obtain ⟨i0, hi, hz0, hz1, hz2⟩ := info_parts Tryz.infoBool
  have h := run_make (P := Tryz.prog) W 97 4 i0 (.bool false) Tryz.underlying97 hi hz0 .i64 .i64 (C : Int) (C : Int) (by omega) (by omega) (by rw [hz2]; omega) (by omega)
  rw [hz1] at h
  simp only [Int.toNat_natCast] at h
  rw [h]
  show Result.ok _ (W.alloc (.cells (madeCells #[Value.bool false] (C * 1)) _)) = _
  rw [marks_none]
def Aparted (w : World) (s : ByteArray) (f : Int) (C : Nat) (a1 a2 : Option Addr) (n1 c1 n2 c2 : Nat) (ms : List Mon) (ls : List Int) (e : Ending) (w' : World) : Prop :=
  ∃ g, e = .returned (.agg #[.string s, .int .i64 f, .int .i64 (C : Int), .slice a1 n1 c1, .slice a2 n2 c2, .slice (some ⟨g, 0, none⟩) C C, .int .i64 (shortOf ms), .int .i64 (longOf ms), .int .i64 (daysTo (shortOf ms) (longOf ms) ls (C : Int))]) ∧ At w' g (.cells (boolCells (marks C ls)) 4) ∧ Below w.heap.size w w'
def Kept (w : World) (s : ByteArray) (f : Int) (C : Nat) (a1 a2 : Option Addr) (n1 c1 n2 c2 : Nat) (ms : List Mon) (ls : List Int) (wr : World) : Prop :=
  At wr w.heap.size (.cells #[.string s, .int .i64 f, .int .i64 (C : Int), .slice a1 n1 c1, .slice a2 n2 c2] 92) ∧ At wr (w.heap.size + 1) (.cells #[.string ⟨#[]⟩, .int .i64 0, .int .i64 0, .slice none 0 0, .slice none 0 0, .slice none 0 0, .int .i64 0, .int .i64 0, .int .i64 0] 100) ∧ Below w.heap.size w wr
theorem Kept.set {w : World} {s : ByteArray} {f : Int} {C : Nat} {a1 a2 : Option Addr} {n1 c1 n2 c2 : Nat} {ms : List Mon} {ls : List Int} {wr : World} (h : Kept w s f C a1 a2 n1 c1 n2 c2 ms ls wr) {p : Addr} (hp : w.heap.size + 1 < p.block) (u : Value) : Kept w s f C a1 a2 n1 c1 n2 c2 ms ls (wr.setCell p u) :=
  ⟨h.1.apart (by omega) u, h.2.1.apart (by omega) u, below_set h.2.2 (by omega) u⟩
theorem Kept.alloc {w : World} {s : ByteArray} {f : Int} {C : Nat} {a1 a2 : Option Addr} {n1 c1 n2 c2 : Nat} {ms : List Mon} {ls : List Int} {wr : World} (h : Kept w s f C a1 a2 n1 c1 n2 c2 ms ls wr) (o : Obj) : Kept w s f C a1 a2 n1 c1 n2 c2 ms ls (wr.alloc o) :=
  ⟨h.1.alloc o, h.2.1.alloc o, below_new h.2.2 o⟩
theorem Kept.drew {w : World} {s : ByteArray} {f : Int} {C : Nat} {a1 a2 : Option Addr} {n1 c1 n2 c2 : Nat} {ms : List Mon} {ls : List Int} {wr : World} (h : Kept w s f C a1 a2 n1 c1 n2 c2 ms ls wr) : Kept w s f C a1 a2 n1 c1 n2 c2 ms ls wr.drew :=
  ⟨h.1.drew, h.2.1.drew, h.2.2.drew⟩
set_option maxHeartbeats 4000000 in
theorem ref_Apart (w : World) (s : ByteArray) (f : Int) (C : Nat) (a1 a2 : Option Addr) (n1 c1 n2 c2 : Nat) (ms : List Mon) (ls : List Int) (ok : CalOk s f C ms ls) (h : CalAt w a1 a2 n1 n2 ms ls) :
    Calls Tryz.prog 75 #[.agg #[.string s, .int .i64 f, .int .i64 (C : Int), .slice a1 n1 c1, .slice a2 n2 c2]] w (Aparted w s f C a1 a2 n1 c1 n2 c2 ms ls) := by
  have hmk := make_marks C (by have := ok.cy2; omega)
  have cy1 : 1 ≤ C := by have := ok.cy1; omega
  have cy2 : C ≤ 3000 := by have := ok.cy2; omega
  have ml2 := ok.ml2
  have L1 := Lib.hid h.1.len; have L2 := Lib.hid h.2.1
  have M2 := h.2.2.1
  have hct := ok.count.2
  rw [L2.out] at hct
  rw [L1.out] at ml2
  have H := Lib.hid h; have OK := Lib.hid ok; clear h ok
  go_enter Tryz.func75, Tryz.ntmps75
  go_wp2_with fail
  go_region
  all_goals clear hmk
  · generalize hW : World.drew _ = W2
    have k0 : Kept w s f C a1 a2 n1 c1 n2 c2 ms ls W2 := by
      rw [← hW]
      exact Kept.drew ⟨(((At.new w _).alloc _).alloc _).alloc _, ((At.new1 w _ _).alloc _).alloc _, by (repeat' (first | exact bxR _ _ | assumption | refine bxD ?_ | refine bxN ?_ _ | refine bxA ?_ _ | refine bxS ?_ ?_ _ | refine bxT ?_ (by assumption) | refine bxW ?_ (by assumption) | exact Nat.le_refl _ | omega | (simp; done) | (simp; omega)))⟩
    have ag : At W2 (w.heap.size + 1 + 1) (.cells (boolCells (marks C [])) 4) := by rw [← hW]; exact ((At.new2 w _ _ _).alloc _).drew
    have ay : At W2 (w.heap.size + 1 + 1 + 1) (.cells #[.string s, .int .i64 f, .int .i64 (C : Int), .slice a1 n1 c1, .slice a2 n2 c2, .slice (some ⟨w.heap.size + 1 + 1, 0, none⟩) C C, .int .i64 0, .int .i64 0, .int .i64 0] 100) := by rw [← hW]; exact (At.new3 w _ _ _ _).drew
    clear hW
    obtain ⟨yb, hyb⟩ : ∃ yb, yb = w.heap.size + 1 + 1 + 1 := ⟨_, rfl⟩
    obtain ⟨g, hg⟩ : ∃ g, g = w.heap.size + 1 + 1 := ⟨_, rfl⟩
    rw [← hyb] at ay ⊢
    rw [← hg] at ay ag ⊢
    have hgy : yb ≠ g := by omega
    have hg1 : w.heap.size + 1 < g := by omega
    have hy1 : w.heap.size + 1 < yb := by omega
    have r4 := k0.1.cell 4
    simp at r4
    clear hyb hg
    go_wp2_with fail
    go_loopw [5, 18] (fun _ i wr => ∃ k : Nat, k ≤ n2 ∧ i = .int .i64 k ∧ At wr g (.cells (boolCells (marks C (ls.take k))) 4) ∧ At wr yb (.cells #[.string s, .int .i64 f, .int .i64 (C : Int), .slice a1 n1 c1, .slice a2 n2 c2, .slice (some ⟨g, 0, none⟩) C C, .int .i64 0, .int .i64 0, .int .i64 0] 100) ∧ Kept w s f C a1 a2 n1 c1 n2 c2 ms ls wr) (fun _ i _ => n2 - (intOf i).toNat)
    case atStart => exact ⟨0, by omega, rfl, ag, ay, k0⟩
    case round =>
      clear ag ay k0
      obtain ⟨k, hk, rfl, ag, ay, k0⟩ := hrel
      by_cases hlt : k < n2
      · obtain ⟨b, off, y, rfl, hbB, cy, hx, y3, y4⟩ := (H.out.then_ k0.2.2).2.at_ hlt
        obtain ⟨q1, q2⟩ := OK.out.leaps y (List.mem_of_getElem? hx)
        obtain ⟨j, rfl⟩ : ∃ j : Nat, y = (j : Int) + 1 := ⟨(y - 1).toNat, by omega⟩
        have hst := Lib.hid (marks_set C (ls.take k) _ j rfl)
        have hto := Lib.hid (take_one hx)
        have hcg := (ag.cell j).trans (marks_at C (ls.take k) j (by omega))
        have hfg := ag.frozen j
        have d5 := ay.cell 5
        simp at d5
        have hjC : j < C := by omega
        clear hx
        generalize flag (ls.take k) (j : Int) = bb at hcg
        go_wp2_with fail
        go_roundw
        case rel => exact ⟨k + 1, by omega, by go_num, by rw [hto.out, ← hst.out]; exact ag.store j _, ay.apart (by simpa using hgy) _, k0.set (by simpa using hg1) _⟩
        case measure => simp [intOf]; omega
      · obtain rfl : n2 = k := by omega
        rw [List.take_of_length_le (by rw [L2.out]; exact Nat.le_refl _)] at ag
        have r3 := k0.1.cell 3
        simp at r3
        go_wp2_with fail
        clear r3
        go_loopw [7, 31] (fun _ i wr => ∃ k : Nat, k ≤ n1 ∧ i = .int .i64 k ∧ At wr g (.cells (boolCells (marks C ls)) 4) ∧ At wr yb (.cells #[.string s, .int .i64 f, .int .i64 (C : Int), .slice a1 n1 c1, .slice a2 n2 c2, .slice (some ⟨g, 0, none⟩) C C, .int .i64 (shortOf (ms.take k)), .int .i64 (longOf (ms.take k)), .int .i64 0] 100) ∧ Kept w s f C a1 a2 n1 c1 n2 c2 ms ls wr) (fun _ i _ => n1 - (intOf i).toNat)
        case atStart => exact ⟨0, by omega, rfl, ag, ay, k0⟩
        case round =>
          clear ag ay k0
          obtain ⟨k, hk, rfl, ag, ay, k0⟩ := hrel
          obtain ⟨A1, A2, B1, B2⟩ := sums_bound (ms.take k) fun x hx => OK.out.lens x (List.mem_of_mem_take hx)
          rw [List.length_take, L1.out] at A2 B2
          have A3 : shortOf (ms.take k) ≤ 8000 := by omega
          have B3 : longOf (ms.take k) ≤ 8000 := by omega
          clear A2 B2
          by_cases hlt2 : k < n1
          · obtain ⟨b, off, rfl, hbB, hcs⟩ := (H.out.then_ k0.2.2).1.open_ (by omega)
            obtain ⟨t, p, q, c0, c3, c4, hx, hs, f1, f2, g1, g2⟩ := hcs k hlt2
            have e1 := Lib.hid (show shortOf (ms.take (k + 1)) = shortOf (ms.take k) + p by rw [take_one hx, shortOf_snoc])
            have e2 := Lib.hid (show longOf (ms.take (k + 1)) = longOf (ms.take k) + q by rw [take_one hx, longOf_snoc])
            obtain ⟨b1, b2, b3, b4⟩ := OK.out.lens _ (List.mem_of_getElem? hx)
            simp only at b1 b2 b3 b4
            clear hcs hx
            have hyl := ay.lt
            have d6 := ay.cell 6; have d7 := ay.cell 7
            simp at d6 d7
            have z6 := ay.frozen 6; have z7 := ay.frozen 7
            generalize shortOf (ms.take k) = A at *
            generalize longOf (ms.take k) = B at *
            go_wp2_with fail
            go_roundw
            case rel =>
              refine ⟨k + 1, by omega, by go_num, ((ag.apart (by simpa using Ne.symm hgy) _).apart (by simpa using Ne.symm hgy) _).alloc _, ?_, ((k0.set (by simpa using hy1) _).set (by simpa using hy1) _).alloc _⟩
              rw [e1.out, e2.out]
              exact ((ay.store 6 _).store 7 _).alloc _
            case measure => simp [intOf]; omega
          · obtain rfl : n1 = k := by omega
            have et : ms.take n1 = ms := List.take_of_length_le (by rw [L1.out]; exact Nat.le_refl _)
            rw [et] at A1 A3 B1 B3 ay
            clear et
            have d5 := ay.cell 5
            simp at d5
            go_wp2_with fail
            clear d5
            have HD0 := Lib.hid (daysTo_zero (shortOf ms) (longOf ms) ls (fun z hz => (OK.out.leaps z hz).1))
            go_loopw [9, 55] (fun _ i wr => ∃ k : Nat, k ≤ C ∧ i = .int .i64 k ∧ At wr g (.cells (boolCells (marks C ls)) 4) ∧ At wr yb (.cells #[.string s, .int .i64 f, .int .i64 (C : Int), .slice a1 n1 c1, .slice a2 n2 c2, .slice (some ⟨g, 0, none⟩) C C, .int .i64 (shortOf ms), .int .i64 (longOf ms), .int .i64 (daysTo (shortOf ms) (longOf ms) ls (k : Int))] 100) ∧ Kept w s f C a1 a2 n1 c1 n2 c2 ms ls wr) (fun _ i _ => C - (intOf i).toNat)
            case atStart => exact ⟨0, by omega, rfl, ag, by rw [show ((0 : Nat) : Int) = 0 from rfl, HD0.out]; exact ay, k0⟩
            case round =>
              clear ag ay k0
              obtain ⟨j, hj, rfl, ag, ay, k0⟩ := hrel
              by_cases hlt3 : j < C
              · have hcg := (ag.cell j).trans (marks_at C ls j hlt3)
                have hdb := daysTo_bound (shortOf ms) (longOf ms) ls (j : Int) (by omega) (by omega) OK.out.sh1 OK.out.sh2 OK.out.lo1 OK.out.lo2 OK.out.sorted (fun z hz => (OK.out.leaps z hz).1)
                obtain ⟨db1, db2⟩ := hdb
                have hds := Lib.hid (daysTo_succ (shortOf ms) (longOf ms) ls (j : Int) OK.out.sorted)
                obtain ⟨bb, hbb⟩ : ∃ bb, bb = flag ls (j : Int) := ⟨_, rfl⟩
                rw [← hbb] at hcg hds
                clear hbb
                have d6 := ay.cell 6; have d7 := ay.cell 7; have d8 := ay.cell 8
                simp at d6 d7 d8
                have z8 := ay.frozen 8
                generalize daysTo (shortOf ms) (longOf ms) ls (j : Int) = T at *
                have sh1 := OK.out.sh1; have sh2 := OK.out.sh2; have lo1 := OK.out.lo1; have lo2 := OK.out.lo2
                have t1 : IntKind.i64.wrap (T + shortOf ms) = T + shortOf ms := IntWalk.i64_in _ (by omega)
                have t2 : IntKind.i64.wrap (T + longOf ms) = T + longOf ms := IntWalk.i64_in _ (by omega)
                cases bb
                all_goals
                  go_wp2_with fail
                  (refine wp_region_still_tail 9 (by kernel_rfl) (by kernel_rfl) ?_; simp only [List.take_succ_cons, List.take_zero, List.drop_succ_cons, List.drop_zero]; change wpStill _ _ (World.drew wr) _ _ _; (repeat (first | still_step | still_call ((ref_yes _ _).mono fun _ _ ⟨he, hw⟩ => ⟨he, hw.symm⟩))); refine wpStill_nil ?_; change wpList _ _ _ _ _ (World.drew wr))
                  clear t1 t2
                  go_wp2_with fail
                  go_roundw
                  case rel =>
                    refine ⟨j + 1, by omega, by go_num, (ag.apart (by simpa using Ne.symm hgy) _).drew, ?_, (k0.set (by simpa using hy1) _).drew⟩
                    rw [show ((j + 1 : Nat) : Int) = (j : Int) + 1 by omega, hds.out]
                    exact (ay.store 8 _).drew
                  case measure => simp [intOf]; omega
              · obtain rfl : C = j := by omega
                have d0 := ay.cell 0; have d1 := ay.cell 1; have d2 := ay.cell 2; have d3 := ay.cell 3; have d4 := ay.cell 4; have d5 := ay.cell 5; have d6 := ay.cell 6; have d7 := ay.cell 7; have d8 := ay.cell 8; simp at d0 d1 d2 d3 d4 d5 d6 d7 d8
                have kk := k0.2.1
                have e0 := kk.cell 0; have e1 := kk.cell 1; have e2 := kk.cell 2; have e3 := kk.cell 3; have e4 := kk.cell 4; have e5 := kk.cell 5; have e6 := kk.cell 6; have e7 := kk.cell 7; have e8 := kk.cell 8; simp at e0 e1 e2 e3 e4 e5 e6 e7 e8
                have z0 := kk.frozen 0; have z1 := kk.frozen 1; have z2 := kk.frozen 2; have z3 := kk.frozen 3; have z4 := kk.frozen 4; have z5 := kk.frozen 5; have z6 := kk.frozen 6; have z7 := kk.frozen 7; have z8 := kk.frozen 8
                clear hct ml2
                go_wp2_with fail
                have ar := kk.store9 (.string s) (.int .i64 f) (.int .i64 (C : Int)) (.slice a1 n1 c1) (.slice a2 n2 c2) (.slice (some ⟨g, 0, none⟩) C C) (.int .i64 (shortOf ms)) (.int .i64 (longOf ms)) (.int .i64 (daysTo (shortOf ms) (longOf ms) ls (C : Int)))
                have ag9 := ag.apart9 (p := w.heap.size + 1) (by omega) (.string s) (.int .i64 f) (.int .i64 (C : Int)) (.slice a1 n1 c1) (.slice a2 n2 c2) (.slice (some ⟨g, 0, none⟩) C C) (.int .i64 (shortOf ms)) (.int .i64 (longOf ms)) (.int .i64 (daysTo (shortOf ms) (longOf ms) ls (C : Int)))
                have b9 := below_set9 k0.2.2 (p := w.heap.size + 1) (by omega) (.string s) (.int .i64 f) (.int .i64 (C : Int)) (.slice a1 n1 c1) (.slice a2 n2 c2) (.slice (some ⟨g, 0, none⟩) C C) (.int .i64 (shortOf ms)) (.int .i64 (longOf ms)) (.int .i64 (daysTo (shortOf ms) (longOf ms) ls (C : Int)))
                clear d0 d1 d2 d3 d4 d5 d6 d7 d8 e0 e1 e2 e3 e4 e5 e6 e7 e8 z0 z1 z2 z3 z4 z5 z6 z7 z8
                generalize World.setCell (World.setCell _ _ _) _ _ = W3 at ar ag9 b9 ⊢
                have e0 := ar.cell 0; have e1 := ar.cell 1; have e2 := ar.cell 2; have e3 := ar.cell 3; have e4 := ar.cell 4; have e5 := ar.cell 5; have e6 := ar.cell 6; have e7 := ar.cell 7; have e8 := ar.cell 8; simp at e0 e1 e2 e3 e4 e5 e6 e7 e8
                exact bodyPost_ret (v := .agg #[.string s, .int .i64 f, .int .i64 (C : Int), .slice a1 n1 c1, .slice a2 n2 c2, .slice (some ⟨g, 0, none⟩) C C, .int .i64 (shortOf ms), .int .i64 (longOf ms), .int .i64 (daysTo (shortOf ms) (longOf ms) ls (C : Int))]) (by simp [results, Tryz.results75, go_sem, e0, e1, e2, e3, e4, e5, e6, e7, e8]) rfl ⟨g, rfl, ag9, b9⟩
  · generalize hW : World.drew _ = W2
    have k0 : Kept w s f C a1 a2 n1 c1 n2 c2 ms ls W2 := by
      rw [← hW]
      exact Kept.drew ⟨(((At.new w _).alloc _).alloc _).alloc _, ((At.new1 w _ _).alloc _).alloc _, by (repeat' (first | exact bxR _ _ | assumption | refine bxD ?_ | refine bxN ?_ _ | refine bxA ?_ _ | refine bxS ?_ ?_ _ | refine bxT ?_ (by assumption) | refine bxW ?_ (by assumption) | exact Nat.le_refl _ | omega | (simp; done) | (simp; omega)))⟩
    have ay : At W2 (w.heap.size + 1 + 1) (.cells #[.string s, .int .i64 f, .int .i64 (C : Int), .slice a1 n1 c1, .slice a2 n2 c2, .slice (some ⟨w.heap.size + 1 + 1 + 1, 0, none⟩) C C, .int .i64 0, .int .i64 0, .int .i64 0] 100) := by rw [← hW]; exact ((At.new2 w _ _ _).alloc _).drew
    have ag : At W2 (w.heap.size + 1 + 1 + 1) (.cells (boolCells (marks C [])) 4) := by rw [← hW]; exact (At.new3 w _ _ _ _).drew
    clear hW
    obtain ⟨yb, hyb⟩ : ∃ yb, yb = w.heap.size + 1 + 1 := ⟨_, rfl⟩
    obtain ⟨g, hg⟩ : ∃ g, g = w.heap.size + 1 + 1 + 1 := ⟨_, rfl⟩
    rw [← hg] at ay ag ⊢
    rw [← hyb] at ay ⊢
    have hgy : yb ≠ g := by omega
    have hg1 : w.heap.size + 1 < g := by omega
    have hy1 : w.heap.size + 1 < yb := by omega
    have r4 := k0.1.cell 4
    simp at r4
    clear hyb hg
    go_wp2_with fail
    go_loopw [5, 18] (fun _ i wr => ∃ k : Nat, k ≤ n2 ∧ i = .int .i64 k ∧ At wr g (.cells (boolCells (marks C (ls.take k))) 4) ∧ At wr yb (.cells #[.string s, .int .i64 f, .int .i64 (C : Int), .slice a1 n1 c1, .slice a2 n2 c2, .slice (some ⟨g, 0, none⟩) C C, .int .i64 0, .int .i64 0, .int .i64 0] 100) ∧ Kept w s f C a1 a2 n1 c1 n2 c2 ms ls wr) (fun _ i _ => n2 - (intOf i).toNat)
    case atStart => exact ⟨0, by omega, rfl, ag, ay, k0⟩
    case round =>
      clear ag ay k0
      obtain ⟨k, hk, rfl, ag, ay, k0⟩ := hrel
      by_cases hlt : k < n2
      · obtain ⟨b, off, y, rfl, hbB, cy, hx, y3, y4⟩ := (H.out.then_ k0.2.2).2.at_ hlt
        obtain ⟨q1, q2⟩ := OK.out.leaps y (List.mem_of_getElem? hx)
        obtain ⟨j, rfl⟩ : ∃ j : Nat, y = (j : Int) + 1 := ⟨(y - 1).toNat, by omega⟩
        have hst := Lib.hid (marks_set C (ls.take k) _ j rfl)
        have hto := Lib.hid (take_one hx)
        have hcg := (ag.cell j).trans (marks_at C (ls.take k) j (by omega))
        have hfg := ag.frozen j
        have d5 := ay.cell 5
        simp at d5
        have hjC : j < C := by omega
        clear hx
        generalize flag (ls.take k) (j : Int) = bb at hcg
        go_wp2_with fail
        go_roundw
        case rel => exact ⟨k + 1, by omega, by go_num, by rw [hto.out, ← hst.out]; exact ag.store j _, ay.apart (by simpa using hgy) _, k0.set (by simpa using hg1) _⟩
        case measure => simp [intOf]; omega
      · obtain rfl : n2 = k := by omega
        rw [List.take_of_length_le (by rw [L2.out]; exact Nat.le_refl _)] at ag
        have r3 := k0.1.cell 3
        simp at r3
        go_wp2_with fail
        clear r3
        go_loopw [7, 31] (fun _ i wr => ∃ k : Nat, k ≤ n1 ∧ i = .int .i64 k ∧ At wr g (.cells (boolCells (marks C ls)) 4) ∧ At wr yb (.cells #[.string s, .int .i64 f, .int .i64 (C : Int), .slice a1 n1 c1, .slice a2 n2 c2, .slice (some ⟨g, 0, none⟩) C C, .int .i64 (shortOf (ms.take k)), .int .i64 (longOf (ms.take k)), .int .i64 0] 100) ∧ Kept w s f C a1 a2 n1 c1 n2 c2 ms ls wr) (fun _ i _ => n1 - (intOf i).toNat)
        case atStart => exact ⟨0, by omega, rfl, ag, ay, k0⟩
        case round =>
          clear ag ay k0
          obtain ⟨k, hk, rfl, ag, ay, k0⟩ := hrel
          obtain ⟨A1, A2, B1, B2⟩ := sums_bound (ms.take k) fun x hx => OK.out.lens x (List.mem_of_mem_take hx)
          rw [List.length_take, L1.out] at A2 B2
          have A3 : shortOf (ms.take k) ≤ 8000 := by omega
          have B3 : longOf (ms.take k) ≤ 8000 := by omega
          clear A2 B2
          by_cases hlt2 : k < n1
          · obtain ⟨b, off, rfl, hbB, hcs⟩ := (H.out.then_ k0.2.2).1.open_ (by omega)
            obtain ⟨t, p, q, c0, c3, c4, hx, hs, f1, f2, g1, g2⟩ := hcs k hlt2
            have e1 := Lib.hid (show shortOf (ms.take (k + 1)) = shortOf (ms.take k) + p by rw [take_one hx, shortOf_snoc])
            have e2 := Lib.hid (show longOf (ms.take (k + 1)) = longOf (ms.take k) + q by rw [take_one hx, longOf_snoc])
            obtain ⟨b1, b2, b3, b4⟩ := OK.out.lens _ (List.mem_of_getElem? hx)
            simp only at b1 b2 b3 b4
            clear hcs hx
            have hyl := ay.lt
            have d6 := ay.cell 6; have d7 := ay.cell 7
            simp at d6 d7
            have z6 := ay.frozen 6; have z7 := ay.frozen 7
            generalize shortOf (ms.take k) = A at *
            generalize longOf (ms.take k) = B at *
            go_wp2_with fail
            go_roundw
            case rel =>
              refine ⟨k + 1, by omega, by go_num, ((ag.apart (by simpa using Ne.symm hgy) _).apart (by simpa using Ne.symm hgy) _).alloc _, ?_, ((k0.set (by simpa using hy1) _).set (by simpa using hy1) _).alloc _⟩
              rw [e1.out, e2.out]
              exact ((ay.store 6 _).store 7 _).alloc _
            case measure => simp [intOf]; omega
          · obtain rfl : n1 = k := by omega
            have et : ms.take n1 = ms := List.take_of_length_le (by rw [L1.out]; exact Nat.le_refl _)
            rw [et] at A1 A3 B1 B3 ay
            clear et
            have d5 := ay.cell 5
            simp at d5
            go_wp2_with fail
            clear d5
            have HD0 := Lib.hid (daysTo_zero (shortOf ms) (longOf ms) ls (fun z hz => (OK.out.leaps z hz).1))
            go_loopw [9, 55] (fun _ i wr => ∃ k : Nat, k ≤ C ∧ i = .int .i64 k ∧ At wr g (.cells (boolCells (marks C ls)) 4) ∧ At wr yb (.cells #[.string s, .int .i64 f, .int .i64 (C : Int), .slice a1 n1 c1, .slice a2 n2 c2, .slice (some ⟨g, 0, none⟩) C C, .int .i64 (shortOf ms), .int .i64 (longOf ms), .int .i64 (daysTo (shortOf ms) (longOf ms) ls (k : Int))] 100) ∧ Kept w s f C a1 a2 n1 c1 n2 c2 ms ls wr) (fun _ i _ => C - (intOf i).toNat)
            case atStart => exact ⟨0, by omega, rfl, ag, by rw [show ((0 : Nat) : Int) = 0 from rfl, HD0.out]; exact ay, k0⟩
            case round =>
              clear ag ay k0
              obtain ⟨j, hj, rfl, ag, ay, k0⟩ := hrel
              by_cases hlt3 : j < C
              · have hcg := (ag.cell j).trans (marks_at C ls j hlt3)
                have hdb := daysTo_bound (shortOf ms) (longOf ms) ls (j : Int) (by omega) (by omega) OK.out.sh1 OK.out.sh2 OK.out.lo1 OK.out.lo2 OK.out.sorted (fun z hz => (OK.out.leaps z hz).1)
                obtain ⟨db1, db2⟩ := hdb
                have hds := Lib.hid (daysTo_succ (shortOf ms) (longOf ms) ls (j : Int) OK.out.sorted)
                obtain ⟨bb, hbb⟩ : ∃ bb, bb = flag ls (j : Int) := ⟨_, rfl⟩
                rw [← hbb] at hcg hds
                clear hbb
                have d6 := ay.cell 6; have d7 := ay.cell 7; have d8 := ay.cell 8
                simp at d6 d7 d8
                have z8 := ay.frozen 8
                generalize daysTo (shortOf ms) (longOf ms) ls (j : Int) = T at *
                have sh1 := OK.out.sh1; have sh2 := OK.out.sh2; have lo1 := OK.out.lo1; have lo2 := OK.out.lo2
                have t1 : IntKind.i64.wrap (T + shortOf ms) = T + shortOf ms := IntWalk.i64_in _ (by omega)
                have t2 : IntKind.i64.wrap (T + longOf ms) = T + longOf ms := IntWalk.i64_in _ (by omega)
                cases bb
                all_goals
                  go_wp2_with fail
                  (refine wp_region_still_tail 9 (by kernel_rfl) (by kernel_rfl) ?_; simp only [List.take_succ_cons, List.take_zero, List.drop_succ_cons, List.drop_zero]; change wpStill _ _ (World.drew wr) _ _ _; (repeat (first | still_step | still_call ((ref_yes _ _).mono fun _ _ ⟨he, hw⟩ => ⟨he, hw.symm⟩))); refine wpStill_nil ?_; change wpList _ _ _ _ _ (World.drew wr))
                  clear t1 t2
                  go_wp2_with fail
                  go_roundw
                  case rel =>
                    refine ⟨j + 1, by omega, by go_num, (ag.apart (by simpa using Ne.symm hgy) _).drew, ?_, (k0.set (by simpa using hy1) _).drew⟩
                    rw [show ((j + 1 : Nat) : Int) = (j : Int) + 1 by omega, hds.out]
                    exact (ay.store 8 _).drew
                  case measure => simp [intOf]; omega
              · obtain rfl : C = j := by omega
                have d0 := ay.cell 0; have d1 := ay.cell 1; have d2 := ay.cell 2; have d3 := ay.cell 3; have d4 := ay.cell 4; have d5 := ay.cell 5; have d6 := ay.cell 6; have d7 := ay.cell 7; have d8 := ay.cell 8; simp at d0 d1 d2 d3 d4 d5 d6 d7 d8
                have kk := k0.2.1
                have e0 := kk.cell 0; have e1 := kk.cell 1; have e2 := kk.cell 2; have e3 := kk.cell 3; have e4 := kk.cell 4; have e5 := kk.cell 5; have e6 := kk.cell 6; have e7 := kk.cell 7; have e8 := kk.cell 8; simp at e0 e1 e2 e3 e4 e5 e6 e7 e8
                have z0 := kk.frozen 0; have z1 := kk.frozen 1; have z2 := kk.frozen 2; have z3 := kk.frozen 3; have z4 := kk.frozen 4; have z5 := kk.frozen 5; have z6 := kk.frozen 6; have z7 := kk.frozen 7; have z8 := kk.frozen 8
                clear hct ml2
                go_wp2_with fail
                have ar := kk.store9 (.string s) (.int .i64 f) (.int .i64 (C : Int)) (.slice a1 n1 c1) (.slice a2 n2 c2) (.slice (some ⟨g, 0, none⟩) C C) (.int .i64 (shortOf ms)) (.int .i64 (longOf ms)) (.int .i64 (daysTo (shortOf ms) (longOf ms) ls (C : Int)))
                have ag9 := ag.apart9 (p := w.heap.size + 1) (by omega) (.string s) (.int .i64 f) (.int .i64 (C : Int)) (.slice a1 n1 c1) (.slice a2 n2 c2) (.slice (some ⟨g, 0, none⟩) C C) (.int .i64 (shortOf ms)) (.int .i64 (longOf ms)) (.int .i64 (daysTo (shortOf ms) (longOf ms) ls (C : Int)))
                have b9 := below_set9 k0.2.2 (p := w.heap.size + 1) (by omega) (.string s) (.int .i64 f) (.int .i64 (C : Int)) (.slice a1 n1 c1) (.slice a2 n2 c2) (.slice (some ⟨g, 0, none⟩) C C) (.int .i64 (shortOf ms)) (.int .i64 (longOf ms)) (.int .i64 (daysTo (shortOf ms) (longOf ms) ls (C : Int)))
                clear d0 d1 d2 d3 d4 d5 d6 d7 d8 e0 e1 e2 e3 e4 e5 e6 e7 e8 z0 z1 z2 z3 z4 z5 z6 z7 z8
                generalize World.setCell (World.setCell _ _ _) _ _ = W3 at ar ag9 b9 ⊢
                have e0 := ar.cell 0; have e1 := ar.cell 1; have e2 := ar.cell 2; have e3 := ar.cell 3; have e4 := ar.cell 4; have e5 := ar.cell 5; have e6 := ar.cell 6; have e7 := ar.cell 7; have e8 := ar.cell 8; simp at e0 e1 e2 e3 e4 e5 e6 e7 e8
                exact bodyPost_ret (v := .agg #[.string s, .int .i64 f, .int .i64 (C : Int), .slice a1 n1 c1, .slice a2 n2 c2, .slice (some ⟨g, 0, none⟩) C C, .int .i64 (shortOf ms), .int .i64 (longOf ms), .int .i64 (daysTo (shortOf ms) (longOf ms) ls (C : Int))]) (by simp [results, Tryz.results75, go_sem, e0, e1, e2, e3, e4, e5, e6, e7, e8]) rfl ⟨g, rfl, ag9, b9⟩
end Go.Proofs.YtdmkghgachapaabGreatDoor

set_option linter.unusedSimpArgs false
namespace Go.Proofs.YtdmkghgachapaabGreatDoor
set_option linter.unusedVariables false
set_option maxRecDepth 100000
open Go.RowKit
def MarksAt (w : World) (g C : Nat) (ls : List Int) : Prop := At w g (.cells (boolCells (marks C ls)) 4)
theorem MarksAt.then_ {w w' : World} {g C : Nat} {ls : List Int} (h : MarksAt w g C ls) (k : Below w.heap.size w w') : MarksAt w' g C ls := At.then_ h k
end Go.Proofs.YtdmkghgachapaabGreatDoor
