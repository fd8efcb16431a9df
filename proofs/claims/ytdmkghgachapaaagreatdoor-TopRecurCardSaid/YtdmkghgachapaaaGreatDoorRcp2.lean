/- Contract of recur.show: the text of a recurrence. -/
import Derived.Test.YtdmkghgachapaaaGreatDoorRcp1
import Derived.Test.YtdmkghgachapaaaGreatDoorMgQ
import Derived.Deep.Cut
import Derived.Test.YtdmkghgachapaaaGreatDoorLexSeq
namespace Go.Proofs.YtdmkghgachapaaaGreatDoor
set_option linter.unusedVariables false
set_option maxRecDepth 100000
open Go.RowKit Go.Shelf

/-- The words of the units lie in the package's variable. -/
def UnitsAt (w : World) : Prop := ∀ k, k < 5 → w.cell? ⟨0, k, none⟩ = some (.string ⟨(unitS (k : Int)).toArray⟩)
theorem UnitsAt.below {w w' : World} (h : UnitsAt w) (hb : Below w.heap.size w w') : UnitsAt w' := fun k hk => by
  have h1 := h k hk
  exact (hb.cell (p := ⟨0, k, none⟩) (World.block_lt_of_cell? _ _ h1)).trans h1
abbrev recV (u ev f cn un : Int) (a1 a2 a3 : Option Addr) (n1 n2 n3 c1 c2 c3 : Nat) : Array Value := #[.int .i64 u, .int .i64 ev, .int .i64 f, .int .i64 cn, .int .i64 un, .slice a1 n1 c1, .slice a2 n2 c2, .slice a3 n3 c3]
abbrev recO (u ev f cn un : Int) (a1 a2 a3 : Option Addr) (n1 n2 n3 c1 c2 c3 : Nat) : Obj := .cells (recV u ev f cn un a1 a2 a3 n1 n2 n3 c1 c2 c3) 24
def headS (u ev f un : Int) : List UInt8 := [101, 118, 101, 114, 121, 32] ++ Lib.itoa ev ++ [32] ++ unitS u ++ [32, 102, 114, 111, 109, 32] ++ Lib.itoa f ++ [32, 117, 110, 116, 105, 108, 32] ++ Lib.itoa un
theorem recS_head (u ev f cn un : Int) (ws ms ns : List Int) : recS u ev f cn un ws ms ns = headS u ev f un ++ glue 32 (timesP cn) ++ glue 32 (partP wWeek ws) ++ glue 32 (partP wMonth ms) ++ glue 32 (partP wMonths ns) := by
  unfold recS recP headS
  rw [glue_app, glue_app, glue_app, glue_app]
  simp [glue]
theorem glue_list (w : List UInt8) (l : List Int) (h : l ≠ []) : glue 32 (partP w l) = [32] ++ w ++ [32] ++ numsS l := by
  unfold partP; rw [if_neg h]; simp [glue]
theorem unitS_len (u : Int) : (unitS u).length ≤ 5 := by
  unfold unitS
  rw [List.getD_eq_getElem?_getD]
  match u.toNat with
  | 0 => decide
  | 1 => decide
  | 2 => decide
  | 3 => decide
  | 4 => decide
  | k + 5 => simp
/-- The text so far, ahead of list j. -/
def accT (T : List UInt8) (ws ms ns : List Int) : Nat → List UInt8
  | 0 => T
  | 1 => T ++ glue 32 (partP wWeek ws)
  | 2 => T ++ glue 32 (partP wWeek ws) ++ glue 32 (partP wMonth ms)
  | _ => T ++ glue 32 (partP wWeek ws) ++ glue 32 (partP wMonth ms) ++ glue 32 (partP wMonths ns)
theorem glue_none (w : List UInt8) (l : List Int) (h : l = []) : glue 32 (partP w l) = [] := by unfold partP; rw [if_pos h]; rfl
theorem own_len0 {l : List Int} {n : Nat} (h : l.length = n) : (l = [] ↔ n = 0) := by
  rw [← h, List.length_eq_zero_iff]
set_option maxHeartbeats 8000000 in
theorem recur_show (w : World) (k : Nat) (hk : k < 5) (ev f cn un : Int) (a1 a2 a3 : Option Addr) (n1 n2 n3 c1 c2 c3 : Nat) (ws ms ns : List Int) (he : I64 ev) (hf : I64 f) (hc : I64 cn) (hu : I64 un)
    (h1 : Ints w w.heap.size a1 n1 ws) (h2 : Ints w w.heap.size a2 n2 ms) (h3 : Ints w w.heap.size a3 n3 ns) (m1 : n1 ≤ 4398046511104) (m2 : n2 ≤ 4398046511104) (m3 : n3 ≤ 4398046511104) (hp : Pow w) (hun : UnitsAt w) :
    Calls Tryz.prog 15 #[.agg (recV (k : Int) ev f cn un a1 a2 a3 n1 n2 n3 c1 c2 c3)] w fun e w' => e = .returned (.string ⟨(recS (k : Int) ev f cn un ws ms ns).toArray⟩) ∧ Below w.heap.size w w' := by
  have L1 := Lib.hid h1.1; have L2 := Lib.hid h2.1; have L3 := Lib.hid h3.1
  have q1 := numsS_len ws h1.2.2.1; have q2 := numsS_len ms h2.2.2.1; have q3 := numsS_len ns h3.2.2.1
  rw [L1.out] at q1; rw [L2.out] at q2; rw [L3.out] at q3
  have H1 := Lib.hid h1; have H2 := Lib.hid h2; have H3 := Lib.hid h3
  have HP := Lib.hid hp; have HU := Lib.hid hun
  have CI := Lib.hid (fun (W : World) (hW : Below w.heap.size w W) (x : Int) (hx : I64 x) => lib_Itoa x W hx.1 hx.2 (HP.out.below hW))
  have le := itoa_len21 he; have lf := itoa_len21 hf; have lc := itoa_len21 hc; have lu := itoa_len21 hu; have lk := unitS_len (k : Int)
  have HE := Lib.hid he; have HF := Lib.hid hf; have HC := Lib.hid hc; have HUN := Lib.hid hu
  obtain ⟨P, hP⟩ : ∃ P, P = headS (k : Int) ev f un := ⟨_, rfl⟩
  have hPl : P.length ≤ 200 := by rw [hP]; unfold headS; simp; omega
  have HPD := Lib.hid hP
  obtain ⟨RES, hRES⟩ : ∃ R, R = recS (k : Int) ev f cn un ws ms ns := ⟨_, rfl⟩
  rw [← hRES]
  have HRES := Lib.hid (show RES = P ++ glue 32 (timesP cn) ++ glue 32 (partP wWeek ws) ++ glue 32 (partP wMonth ms) ++ glue 32 (partP wMonths ns) from by rw [hRES, hP, recS_head])
  unfold headS at hP
  obtain ⟨E, hEe⟩ : ∃ E, E = Lib.itoa ev := ⟨_, rfl⟩
  obtain ⟨F, hFe⟩ : ∃ F, F = Lib.itoa f := ⟨_, rfl⟩
  obtain ⟨U, hUe⟩ : ∃ U, U = Lib.itoa un := ⟨_, rfl⟩
  obtain ⟨C, hCe⟩ : ∃ C, C = Lib.itoa cn := ⟨_, rfl⟩
  obtain ⟨US, hUS⟩ : ∃ q, q = unitS (k : Int) := ⟨_, rfl⟩
  have iE : itoaS ev = ⟨E.toArray⟩ := by rw [hEe]; rfl
  have iF : itoaS f = ⟨F.toArray⟩ := by rw [hFe]; rfl
  have iU : itoaS un = ⟨U.toArray⟩ := by rw [hUe]; rfl
  have iC : itoaS cn = ⟨C.toArray⟩ := by rw [hCe]; rfl
  rw [← hEe, ← hFe, ← hUe, ← hUS] at hP
  rw [← hEe] at le; rw [← hFe] at lf; rw [← hCe] at lc; rw [← hUe] at lu; rw [← hUS] at lk
  obtain ⟨x1, e1⟩ : ∃ q, q = [101, 118, 101, 114, 121, 32] ++ E := ⟨_, rfl⟩
  obtain ⟨x2, e2⟩ : ∃ q, q = x1 ++ [32] := ⟨_, rfl⟩
  obtain ⟨x3, e3⟩ : ∃ q, q = x2 ++ US := ⟨_, rfl⟩
  obtain ⟨x4, e4⟩ : ∃ q, q = x3 ++ [32, 102, 114, 111, 109, 32] := ⟨_, rfl⟩
  obtain ⟨x5, e5⟩ : ∃ q, q = x4 ++ F := ⟨_, rfl⟩
  obtain ⟨x6, e6⟩ : ∃ q, q = x5 ++ [32, 117, 110, 116, 105, 108, 32] := ⟨_, rfl⟩
  have e7 : x6 ++ U = P := by rw [hP, e6, e5, e4, e3, e2, e1]
  have l1 : x1.length ≤ 30 := by rw [e1]; simp; omega
  have l2 : x2.length ≤ 31 := by rw [e2]; simp; omega
  have l3 : x3.length ≤ 40 := by rw [e3]; simp; omega
  have l4 : x4.length ≤ 50 := by rw [e4]; simp; omega
  have l5 : x5.length ≤ 80 := by rw [e5]; simp; omega
  have l6 : x6.length ≤ 90 := by rw [e6]; simp; omega
  have p1 := addL [101, 118, 101, 114, 121, 32] E x1 e1.symm (by omega)
  have p2 := addL x1 [32] x2 e2.symm (by omega)
  have p3 := addL x2 US x3 e3.symm (by omega)
  have p4 := addL x3 [32, 102, 114, 111, 109, 32] x4 e4.symm (by omega)
  have p5 := addL x4 F x5 e5.symm (by omega)
  have p6 := addL x5 [32, 117, 110, 116, 105, 108, 32] x6 e6.symm (by omega)
  have p7 := addL x6 U P e7 (by omega)
  have HUS := Lib.hid hUS
  have HCE := Lib.hid hCe
  have IE := Lib.hid iE; have IF := Lib.hid iF; have IU := Lib.hid iU; have IC := Lib.hid iC
  clear hP hRES hEe hFe hUe hCe hUS e1 e2 e3 e4 e5 e6 e7 l1 l2 l3 l4 l5 l6 iE iF iU iC h1 h2 h3 hp hun he hf hc hu
  have o0 := One.new w (recO (k : Int) ev f cn un a1 a2 a3 n1 n2 n3 c1 c2 c3)
  have hk0 : (0 : Int) ≤ (k : Int) := by omega
  have hk5 : (k : Int) < 5 := by omega
  go_enter Tryz.func15, Tryz.ntmps15
  go_wp2_with fail
  generalize World.alloc w _ = W0 at o0 ⊢
  have O0 := Lib.hid o0
  go_upto_region 1 with fail
  have CIE := Lib.hid (fun (W : World) (hW : Below w.heap.size w W) => show Calls Tryz.prog 28 #[.int .i64 ev] W fun e w' => e = .returned (.string ⟨E.toArray⟩) ∧ Below W.heap.size W w' from by rw [← IE.out]; exact CI.out W hW ev HE.out)
  have CIF := Lib.hid (fun (W : World) (hW : Below w.heap.size w W) => show Calls Tryz.prog 28 #[.int .i64 f] W fun e w' => e = .returned (.string ⟨F.toArray⟩) ∧ Below W.heap.size W w' from by rw [← IF.out]; exact CI.out W hW f HF.out)
  have CIU := Lib.hid (fun (W : World) (hW : Below w.heap.size w W) => show Calls Tryz.prog 28 #[.int .i64 un] W fun e w' => e = .returned (.string ⟨U.toArray⟩) ∧ Below W.heap.size W w' from by rw [← IU.out]; exact CI.out W hW un HUN.out)
  have CIC := Lib.hid (fun (W : World) (hW : Below w.heap.size w W) => show Calls Tryz.prog 28 #[.int .i64 cn] W fun e w' => e = .returned (.string ⟨C.toArray⟩) ∧ Below W.heap.size W w' from by rw [← IC.out]; exact CI.out W hW cn HC.out)
  have GU := Lib.hid (fun (W : World) (hW : Below w.heap.size w W) => show W.cell? ⟨0, k, none⟩ = some (.string ⟨US.toArray⟩) from by rw [HUS.out]; exact (HU.out.below hW) k hk)
  (refine region_class (One w (recO (k : Int) ev f cn un a1 a2 a3 n1 n2 n3 c1 c2 c3)) (by kernel_rfl) (by kernel_rfl) (O0.out.drew) ?_; repeat ((first | (refine class_take ?_ (by rfl) ?_ ?_; rotate_left; focus (intro wq hq; ((have x0 := hq.1.cell 0; have x1 := hq.1.cell 1; have x2 := hq.1.cell 2; have x4 := hq.1.cell 4; have xg := GU.out _ hq.2; have hq2 : Below w.heap.size w wq := hq.2)); go_simp; first | done | with_reducible rfl | ((go_at_call 28; (first | (with_reducible refine (CIE.out _ hq2).mono ?_) | (with_reducible refine (CIF.out _ hq2).mono ?_) | (with_reducible refine (CIU.out _ hq2).mono ?_)); rintro e w' ⟨rfl, hb⟩; refine ⟨?_, hq.step hb⟩; with_reducible rfl)))) | refine class_skip (by rfl) ?_); try simp only [Act.put, List.setIfInBounds_toArray, List.set_cons_zero, List.set_cons_succ]))
  refine wpQuiet_nil ?_
  intro W1 hW1
  clear p1 p2 p3 p4 p5 p6 p7 IE IF IU HE HF HUN O0 o0
  have O1 := Lib.hid hW1
  clear hW1
  obtain ⟨T, hT⟩ : ∃ T, T = P ++ glue 32 (timesP cn) := ⟨_, rfl⟩
  have HT := Lib.hid hT
  have hTl : T.length ≤ 300 := by
    rw [hT]
    unfold timesP
    split
    · simp [glue]; omega
    · rw [← HCE.out]; simp [glue]; omega
  rw [← hT] at HRES
  clear hT
  have o1 := O1.out.1
  have x0 := o1.cell 0; have x1 := o1.cell 1; have x2 := o1.cell 2; have x3 := o1.cell 3; have x4 := o1.cell 4; have x5 := o1.cell 5; have x6 := o1.cell 6; have x7 := o1.cell 7; simp at x0 x1 x2 x3 x4 x5 x6 x7
  have hl := o1.lt
  clear o1
  go_upto_if 28 with fail
  go_cut [3] from 4 (fun v wx => v = .string ⟨T.toArray⟩ ∧ One w (recO (k : Int) ev f cn un a1 a2 a3 n1 n2 n3 c1 c2 c3) wx)
  case first =>
    by_cases hcn : cn = 0
    · have hce : (cn != 0) = false := by simpa using hcn
      obtain rfl : T = P := by rw [HT.out, timesP, if_pos hcn, glue, List.append_nil]
      clear hcn
      go_wp2_with fail
      go_meet
      case rel => exact ⟨rfl, O1.out⟩
    · have hce : (cn != 0) = true := by simpa using hcn
      have hTP : P ++ ([32, 116, 105, 109, 101, 115, 32] ++ C) = T := by rw [HT.out, timesP, if_neg hcn, ← HCE.out]; simp [glue]
      obtain ⟨tc, htc⟩ : ∃ q, q = [32, 116, 105, 109, 101, 115, 32] ++ C := ⟨_, rfl⟩
      have htl : tc.length ≤ 30 := by rw [htc]; simp; omega
      rw [← htc] at hTP
      have p1 := addL [32, 116, 105, 109, 101, 115, 32] C tc htc.symm (by omega)
      have p2 := addL P tc T hTP (by omega)
      clear hcn hTP htc
      go_wp2_with (go_at_call 28; refine (CIC.out _ O1.out.2).mono ?_; rintro e w2 ⟨rfl, hb⟩)
      go_meet
      case rel => exact ⟨rfl, O1.out.step hb⟩
  case rest =>
  obtain ⟨rfl, o2⟩ := hcut
  clear x0 x1 x2 x3 x4 x5 x6 x7 hl O1
  obtain ⟨W2, rfl⟩ : ∃ q, q = wc := ⟨_, rfl⟩
  have B2 := Lib.hid o2.2
  have o3 := o2.1
  have x0 := o3.cell 0; have x1 := o3.cell 1; have x2 := o3.cell 2; have x3 := o3.cell 3; have x4 := o3.cell 4; have x5 := o3.cell 5; have x6 := o3.cell 6; have x7 := o3.cell 7; simp at x0 x1 x2 x3 x4 x5 x6 x7
  clear o2 o3
  have ACL := Lib.hid (show ∀ j, j ≤ 3 → ∀ A, A = accT T ws ms ns j → A.length ≤ 400000000000000 from by
    have g : ∀ (w : List UInt8) (l : List Int), w.length ≤ 9 → (numsS l).length ≤ 96757023244288 → (glue 32 (partP w l)).length ≤ 96757023244300 := by
      intro w l hw hl
      unfold partP
      split
      · simp [glue]
      · simp [glue]; omega
    have g1 := g wWeek ws (by decide) (by omega)
    have g2 := g wMonth ms (by decide) (by omega)
    have g3 := g wMonths ns (by decide) (by omega)
    intro j hj A hA
    subst hA
    rcases (show j = 0 ∨ j = 1 ∨ j = 2 ∨ j = 3 by omega) with rfl | rfl | rfl | rfl
    · show T.length ≤ _; omega
    · simp only [accT, List.length_append]; omega
    · simp only [accT, List.length_append]; omega
    · simp only [accT, List.length_append]; omega)
  clear q1 q2 q3
  go_wp2_with fail
  clear x0 x1 x2 x3 x4 x5 x6 x7
  go_loopw [3, 42] (fun t i wr => ∃ (j : Nat) (q : Int), q = (j : Int) ∧ j ≤ 3 ∧ t = .string ⟨(accT T ws ms ns j).toArray⟩ ∧ i = .int .i64 q ∧ Below w.heap.size w wr) (fun t i _ => 3 - (intOf i).toNat)
  case atStart => exact ⟨0, 0, rfl, by omega, rfl, rfl, B2.out⟩
  case round =>
    clear B2
    obtain ⟨j, q, hq, hj, rfl, rfl, hbel⟩ := hrel
    have BEL := Lib.hid hbel
    by_cases hlt : j < 3
    · rcases (show j = 0 ∨ j = 1 ∨ j = 2 by omega) with rfl | rfl | rfl
      · obtain rfl : q = 0 := by omega
        clear hlt hj hq hbel
        have ixn : ∀ V : World, (Instr.index 67 (.agg #[.slice a1 n1 c1, .slice a2 n2 c2, .slice a3 n3 c3]) (.int .i64 0)).run Tryz.prog V = .ok (.slice a1 n1 c1) V := fun _ => by kernel_rfl
        have ixw : ∀ V : World, (Instr.index 68 (.agg #[.string ⟨#[119, 101, 101, 107, 100, 97, 121, 115]⟩, .string ⟨#[109, 111, 110, 116, 104, 100, 97, 121, 115]⟩, .string ⟨#[109, 111, 110, 116, 104, 115]⟩]) (.int .i64 0)).run Tryz.prog V = .ok (.string ⟨#[119, 101, 101, 107, 100, 97, 121, 115]⟩) V := fun _ => by kernel_rfl
        have hll : ws.length = n1 := L1.out
        by_cases hz : n1 = 0
        · have hE : accT T ws ms ns 1 = accT T ws ms ns 0 := by simp only [accT, glue_none wWeek ws ((own_len0 hll).2 hz), List.append_nil]
          have HE2 := Lib.hid hE
          clear hE hll
          subst hz
          go_wp2_with fail
          go_roundw
          case rel => exact ⟨1, 1, rfl, by omega, by rw [HE2.out], (by first | rfl | go_num), BEL.out⟩
          case measure => simp [intOf]
        · obtain ⟨NS, hNS⟩ : ∃ q, q = numsS ws := ⟨_, rfl⟩
          have CJ := Lib.hid (show ∀ V : World, Below w.heap.size w V → Calls Tryz.prog 29 #[.slice a1 n1 c1] V fun e w' => e = .returned (.string ⟨NS.toArray⟩) ∧ Below V.heap.size V w' from fun V hV => by rw [hNS]; exact recur_join V a1 n1 c1 ws ((H1.out.below hV (Nat.le_refl _)).more hV.size) (by omega) m1 (HP.out.below hV))
          obtain ⟨A0, hA0⟩ : ∃ q, q = accT T ws ms ns 0 := ⟨_, rfl⟩
          obtain ⟨A1, hA1⟩ : ∃ q, q = accT T ws ms ns 1 := ⟨_, rfl⟩
          have hAA : A0 ++ ([32] ++ wWeek ++ [32] ++ NS) = A1 := by rw [hA0, hA1, hNS, ← glue_list wWeek ws (fun e => hz ((own_len0 hll).1 e))]; rfl
          have hNl : NS.length ≤ 22 * n1 := by rw [hNS, ← hll]; exact numsS_len ws H1.out.2.2.1
          have hAl : A1.length ≤ 400000000000000 := ACL.out 1 (by omega) A1 hA1
          have HA1 := Lib.hid hA1
          rw [← hA0]
          obtain ⟨tw, htw⟩ : ∃ q, q = [32] ++ wWeek := ⟨_, rfl⟩
          obtain ⟨tx, htx⟩ : ∃ q, q = tw ++ [32] := ⟨_, rfl⟩
          obtain ⟨ty, hty⟩ : ∃ q, q = tx ++ NS := ⟨_, rfl⟩
          have hwl : tw.length ≤ 20 := by rw [htw]; decide
          have hxl : tx.length ≤ 21 := by rw [htx]; simp; omega
          have hyl : ty.length ≤ 100000000000021 := by rw [hty]; simp; omega
          rw [← htw, ← htx, ← hty] at hAA
          have p1 := addL [32] wWeek tw htw.symm (by omega)
          have p2 := addL tw [32] tx htx.symm (by omega)
          have p3 := addL tx NS ty hty.symm (by omega)
          have p4 := addL A0 ty A1 hAA (by omega)
          have hg : 0 < n1 := by omega
          clear hz hll hNS hA0 hA1 hAA htw htx hty hwl hxl hyl hNl hAl
          go_upto_region 8 with fail
          refine wp_region_held_drew (S := (fun _ => True)) (by kernel_rfl) ?_ (fun hHeld => ?_)
          · (try dsimp only); all_goals trivial
          refine lex_take (i := 0) (v := ?_) rfl (by kernel_rfl) (by kernel_rfl) (by kernel_rfl) (fun _ _ _ h => h) (by rfl) ?_ (by assumption) ?_
          rotate_left
          · (intro w hSw; (try dsimp only at hSw); go_simp; try with_reducible rfl)
          try simp only [Act.put, List.setIfInBounds_toArray, List.set_cons_zero, List.set_cons_succ]
          refine lex_take (i := 1) (v := ?_) rfl (by kernel_rfl) (by kernel_rfl) (by kernel_rfl) (fun _ _ _ h => h) (by rfl) ?_ (by assumption) ?_
          rotate_left
          · (intro w hSw; (try dsimp only at hSw); go_simp; try with_reducible rfl)
          try simp only [Act.put, List.setIfInBounds_toArray, List.set_cons_zero, List.set_cons_succ]
          refine lex_take (i := 2) (v := ?_) rfl (by kernel_rfl) (by kernel_rfl) (by kernel_rfl) (fun _ _ _ h => h) (by rfl) ?_ (by assumption) ?_
          rotate_left
          · (intro w hSw; (try dsimp only at hSw); go_simp; try with_reducible rfl)
          try simp only [Act.put, List.setIfInBounds_toArray, List.set_cons_zero, List.set_cons_succ]
          refine lex_take (i := 3) (v := ?_) rfl (by kernel_rfl) (by kernel_rfl) (by kernel_rfl) (fun _ _ _ h => h) (by rfl) ?_ (by assumption) ?_
          rotate_left
          · (intro w hSw; (try dsimp only at hSw); go_simp; try with_reducible rfl)
          try simp only [Act.put, List.setIfInBounds_toArray, List.set_cons_zero, List.set_cons_succ]
          refine lex_take (i := 4) (v := ?_) rfl (by kernel_rfl) (by kernel_rfl) (by kernel_rfl) (fun _ _ _ h => h) (by rfl) ?_ (by assumption) ?_
          rotate_left
          · (intro w hSw; (try dsimp only at hSw); go_simp; try with_reducible rfl)
          try simp only [Act.put, List.setIfInBounds_toArray, List.set_cons_zero, List.set_cons_succ]
          refine lex_take (i := 5) (v := ?_) rfl (by kernel_rfl) (by kernel_rfl) (by kernel_rfl) (fun _ _ _ h => h) (by rfl) ?_ (by assumption) ?_
          rotate_left
          · (intro w hSw; (try dsimp only at hSw); go_simp; try with_reducible rfl)
          try simp only [Act.put, List.setIfInBounds_toArray, List.set_cons_zero, List.set_cons_succ]
          refine lex_take (i := 6) (v := ?_) rfl (by kernel_rfl) (by kernel_rfl) (by kernel_rfl) (fun _ _ _ h => h) (by rfl) ?_ (by assumption) ?_
          rotate_left
          · (intro w hSw; (try dsimp only at hSw); go_simp; try with_reducible rfl)
          try simp only [Act.put, List.setIfInBounds_toArray, List.set_cons_zero, List.set_cons_succ]
          refine lex_step (i := 7) rfl (by kernel_rfl) (by rfl) (fun Kx hKx => ?_)
          (go_simp; go_at_call 29; (with_reducible refine (CJ.out _ BEL.out.drew).mono ?_); rintro e w3 ⟨rfl, hb⟩; try go_wp2_with fail)
          refine hKx.out _ _ ?_ (fun hHeld => ?_)
          · (try dsimp only); all_goals trivial
          clear hKx Kx
          try simp only [Act.put, List.setIfInBounds_toArray, List.set_cons_zero, List.set_cons_succ]
          have B3 := Lib.hid (below_then BEL.out.drew hb)
          clear hb BEL hHeld
          refine lex_seq (fun _ => trivial) 8 rfl (by kernel_rfl) ?_
          simp only [List.drop_succ_cons, List.drop_zero]
          go_wp2_with fail
          go_roundw
          case rel => exact ⟨1, 1, rfl, by omega, by rw [← HA1.out], (by first | rfl | go_num), B3.out⟩
          case measure => simp [intOf]
      · obtain rfl : q = 1 := by omega
        clear hlt hj hq hbel
        have ixn : ∀ V : World, (Instr.index 67 (.agg #[.slice a1 n1 c1, .slice a2 n2 c2, .slice a3 n3 c3]) (.int .i64 1)).run Tryz.prog V = .ok (.slice a2 n2 c2) V := fun _ => by kernel_rfl
        have ixw : ∀ V : World, (Instr.index 68 (.agg #[.string ⟨#[119, 101, 101, 107, 100, 97, 121, 115]⟩, .string ⟨#[109, 111, 110, 116, 104, 100, 97, 121, 115]⟩, .string ⟨#[109, 111, 110, 116, 104, 115]⟩]) (.int .i64 1)).run Tryz.prog V = .ok (.string ⟨#[109, 111, 110, 116, 104, 100, 97, 121, 115]⟩) V := fun _ => by kernel_rfl
        have hll : ms.length = n2 := L2.out
        by_cases hz : n2 = 0
        · have hE : accT T ws ms ns 2 = accT T ws ms ns 1 := by simp only [accT, glue_none wMonth ms ((own_len0 hll).2 hz), List.append_nil]
          have HE2 := Lib.hid hE
          clear hE hll
          subst hz
          go_wp2_with fail
          go_roundw
          case rel => exact ⟨2, 2, rfl, by omega, by rw [HE2.out], (by first | rfl | go_num), BEL.out⟩
          case measure => simp [intOf]
        · obtain ⟨NS, hNS⟩ : ∃ q, q = numsS ms := ⟨_, rfl⟩
          have CJ := Lib.hid (show ∀ V : World, Below w.heap.size w V → Calls Tryz.prog 29 #[.slice a2 n2 c2] V fun e w' => e = .returned (.string ⟨NS.toArray⟩) ∧ Below V.heap.size V w' from fun V hV => by rw [hNS]; exact recur_join V a2 n2 c2 ms ((H2.out.below hV (Nat.le_refl _)).more hV.size) (by omega) m2 (HP.out.below hV))
          obtain ⟨A0, hA0⟩ : ∃ q, q = accT T ws ms ns 1 := ⟨_, rfl⟩
          obtain ⟨A1, hA1⟩ : ∃ q, q = accT T ws ms ns 2 := ⟨_, rfl⟩
          have hAA : A0 ++ ([32] ++ wMonth ++ [32] ++ NS) = A1 := by rw [hA0, hA1, hNS, ← glue_list wMonth ms (fun e => hz ((own_len0 hll).1 e))]; rfl
          have hNl : NS.length ≤ 22 * n2 := by rw [hNS, ← hll]; exact numsS_len ms H2.out.2.2.1
          have hAl : A1.length ≤ 400000000000000 := ACL.out 2 (by omega) A1 hA1
          have HA1 := Lib.hid hA1
          rw [← hA0]
          obtain ⟨tw, htw⟩ : ∃ q, q = [32] ++ wMonth := ⟨_, rfl⟩
          obtain ⟨tx, htx⟩ : ∃ q, q = tw ++ [32] := ⟨_, rfl⟩
          obtain ⟨ty, hty⟩ : ∃ q, q = tx ++ NS := ⟨_, rfl⟩
          have hwl : tw.length ≤ 20 := by rw [htw]; decide
          have hxl : tx.length ≤ 21 := by rw [htx]; simp; omega
          have hyl : ty.length ≤ 100000000000021 := by rw [hty]; simp; omega
          rw [← htw, ← htx, ← hty] at hAA
          have p1 := addL [32] wMonth tw htw.symm (by omega)
          have p2 := addL tw [32] tx htx.symm (by omega)
          have p3 := addL tx NS ty hty.symm (by omega)
          have p4 := addL A0 ty A1 hAA (by omega)
          have hg : 0 < n2 := by omega
          clear hz hll hNS hA0 hA1 hAA htw htx hty hwl hxl hyl hNl hAl
          go_upto_region 8 with fail
          refine wp_region_held_drew (S := (fun _ => True)) (by kernel_rfl) ?_ (fun hHeld => ?_)
          · (try dsimp only); all_goals trivial
          refine lex_take (i := 0) (v := ?_) rfl (by kernel_rfl) (by kernel_rfl) (by kernel_rfl) (fun _ _ _ h => h) (by rfl) ?_ (by assumption) ?_
          rotate_left
          · (intro w hSw; (try dsimp only at hSw); go_simp; try with_reducible rfl)
          try simp only [Act.put, List.setIfInBounds_toArray, List.set_cons_zero, List.set_cons_succ]
          refine lex_take (i := 1) (v := ?_) rfl (by kernel_rfl) (by kernel_rfl) (by kernel_rfl) (fun _ _ _ h => h) (by rfl) ?_ (by assumption) ?_
          rotate_left
          · (intro w hSw; (try dsimp only at hSw); go_simp; try with_reducible rfl)
          try simp only [Act.put, List.setIfInBounds_toArray, List.set_cons_zero, List.set_cons_succ]
          refine lex_take (i := 2) (v := ?_) rfl (by kernel_rfl) (by kernel_rfl) (by kernel_rfl) (fun _ _ _ h => h) (by rfl) ?_ (by assumption) ?_
          rotate_left
          · (intro w hSw; (try dsimp only at hSw); go_simp; try with_reducible rfl)
          try simp only [Act.put, List.setIfInBounds_toArray, List.set_cons_zero, List.set_cons_succ]
          refine lex_take (i := 3) (v := ?_) rfl (by kernel_rfl) (by kernel_rfl) (by kernel_rfl) (fun _ _ _ h => h) (by rfl) ?_ (by assumption) ?_
          rotate_left
          · (intro w hSw; (try dsimp only at hSw); go_simp; try with_reducible rfl)
          try simp only [Act.put, List.setIfInBounds_toArray, List.set_cons_zero, List.set_cons_succ]
          refine lex_take (i := 4) (v := ?_) rfl (by kernel_rfl) (by kernel_rfl) (by kernel_rfl) (fun _ _ _ h => h) (by rfl) ?_ (by assumption) ?_
          rotate_left
          · (intro w hSw; (try dsimp only at hSw); go_simp; try with_reducible rfl)
          try simp only [Act.put, List.setIfInBounds_toArray, List.set_cons_zero, List.set_cons_succ]
          refine lex_take (i := 5) (v := ?_) rfl (by kernel_rfl) (by kernel_rfl) (by kernel_rfl) (fun _ _ _ h => h) (by rfl) ?_ (by assumption) ?_
          rotate_left
          · (intro w hSw; (try dsimp only at hSw); go_simp; try with_reducible rfl)
          try simp only [Act.put, List.setIfInBounds_toArray, List.set_cons_zero, List.set_cons_succ]
          refine lex_take (i := 6) (v := ?_) rfl (by kernel_rfl) (by kernel_rfl) (by kernel_rfl) (fun _ _ _ h => h) (by rfl) ?_ (by assumption) ?_
          rotate_left
          · (intro w hSw; (try dsimp only at hSw); go_simp; try with_reducible rfl)
          try simp only [Act.put, List.setIfInBounds_toArray, List.set_cons_zero, List.set_cons_succ]
          refine lex_step (i := 7) rfl (by kernel_rfl) (by rfl) (fun Kx hKx => ?_)
          (go_simp; go_at_call 29; (with_reducible refine (CJ.out _ BEL.out.drew).mono ?_); rintro e w3 ⟨rfl, hb⟩; try go_wp2_with fail)
          refine hKx.out _ _ ?_ (fun hHeld => ?_)
          · (try dsimp only); all_goals trivial
          clear hKx Kx
          try simp only [Act.put, List.setIfInBounds_toArray, List.set_cons_zero, List.set_cons_succ]
          have B3 := Lib.hid (below_then BEL.out.drew hb)
          clear hb BEL hHeld
          refine lex_seq (fun _ => trivial) 8 rfl (by kernel_rfl) ?_
          simp only [List.drop_succ_cons, List.drop_zero]
          go_wp2_with fail
          go_roundw
          case rel => exact ⟨2, 2, rfl, by omega, by rw [← HA1.out], (by first | rfl | go_num), B3.out⟩
          case measure => simp [intOf]
      · obtain rfl : q = 2 := by omega
        clear hlt hj hq hbel
        have ixn : ∀ V : World, (Instr.index 67 (.agg #[.slice a1 n1 c1, .slice a2 n2 c2, .slice a3 n3 c3]) (.int .i64 2)).run Tryz.prog V = .ok (.slice a3 n3 c3) V := fun _ => by kernel_rfl
        have ixw : ∀ V : World, (Instr.index 68 (.agg #[.string ⟨#[119, 101, 101, 107, 100, 97, 121, 115]⟩, .string ⟨#[109, 111, 110, 116, 104, 100, 97, 121, 115]⟩, .string ⟨#[109, 111, 110, 116, 104, 115]⟩]) (.int .i64 2)).run Tryz.prog V = .ok (.string ⟨#[109, 111, 110, 116, 104, 115]⟩) V := fun _ => by kernel_rfl
        have hll : ns.length = n3 := L3.out
        by_cases hz : n3 = 0
        · have hE : accT T ws ms ns 3 = accT T ws ms ns 2 := by simp only [accT, glue_none wMonths ns ((own_len0 hll).2 hz), List.append_nil]
          have HE2 := Lib.hid hE
          clear hE hll
          subst hz
          go_wp2_with fail
          go_roundw
          case rel => exact ⟨3, 3, rfl, by omega, by rw [HE2.out], (by first | rfl | go_num), BEL.out⟩
          case measure => simp [intOf]
        · obtain ⟨NS, hNS⟩ : ∃ q, q = numsS ns := ⟨_, rfl⟩
          have CJ := Lib.hid (show ∀ V : World, Below w.heap.size w V → Calls Tryz.prog 29 #[.slice a3 n3 c3] V fun e w' => e = .returned (.string ⟨NS.toArray⟩) ∧ Below V.heap.size V w' from fun V hV => by rw [hNS]; exact recur_join V a3 n3 c3 ns ((H3.out.below hV (Nat.le_refl _)).more hV.size) (by omega) m3 (HP.out.below hV))
          obtain ⟨A0, hA0⟩ : ∃ q, q = accT T ws ms ns 2 := ⟨_, rfl⟩
          obtain ⟨A1, hA1⟩ : ∃ q, q = accT T ws ms ns 3 := ⟨_, rfl⟩
          have hAA : A0 ++ ([32] ++ wMonths ++ [32] ++ NS) = A1 := by rw [hA0, hA1, hNS, ← glue_list wMonths ns (fun e => hz ((own_len0 hll).1 e))]; rfl
          have hNl : NS.length ≤ 22 * n3 := by rw [hNS, ← hll]; exact numsS_len ns H3.out.2.2.1
          have hAl : A1.length ≤ 400000000000000 := ACL.out 3 (by omega) A1 hA1
          have HA1 := Lib.hid hA1
          rw [← hA0]
          obtain ⟨tw, htw⟩ : ∃ q, q = [32] ++ wMonths := ⟨_, rfl⟩
          obtain ⟨tx, htx⟩ : ∃ q, q = tw ++ [32] := ⟨_, rfl⟩
          obtain ⟨ty, hty⟩ : ∃ q, q = tx ++ NS := ⟨_, rfl⟩
          have hwl : tw.length ≤ 20 := by rw [htw]; decide
          have hxl : tx.length ≤ 21 := by rw [htx]; simp; omega
          have hyl : ty.length ≤ 100000000000021 := by rw [hty]; simp; omega
          rw [← htw, ← htx, ← hty] at hAA
          have p1 := addL [32] wMonths tw htw.symm (by omega)
          have p2 := addL tw [32] tx htx.symm (by omega)
          have p3 := addL tx NS ty hty.symm (by omega)
          have p4 := addL A0 ty A1 hAA (by omega)
          have hg : 0 < n3 := by omega
          clear hz hll hNS hA0 hA1 hAA htw htx hty hwl hxl hyl hNl hAl
          go_upto_region 8 with fail
          refine wp_region_held_drew (S := (fun _ => True)) (by kernel_rfl) ?_ (fun hHeld => ?_)
          · (try dsimp only); all_goals trivial
          refine lex_take (i := 0) (v := ?_) rfl (by kernel_rfl) (by kernel_rfl) (by kernel_rfl) (fun _ _ _ h => h) (by rfl) ?_ (by assumption) ?_
          rotate_left
          · (intro w hSw; (try dsimp only at hSw); go_simp; try with_reducible rfl)
          try simp only [Act.put, List.setIfInBounds_toArray, List.set_cons_zero, List.set_cons_succ]
          refine lex_take (i := 1) (v := ?_) rfl (by kernel_rfl) (by kernel_rfl) (by kernel_rfl) (fun _ _ _ h => h) (by rfl) ?_ (by assumption) ?_
          rotate_left
          · (intro w hSw; (try dsimp only at hSw); go_simp; try with_reducible rfl)
          try simp only [Act.put, List.setIfInBounds_toArray, List.set_cons_zero, List.set_cons_succ]
          refine lex_take (i := 2) (v := ?_) rfl (by kernel_rfl) (by kernel_rfl) (by kernel_rfl) (fun _ _ _ h => h) (by rfl) ?_ (by assumption) ?_
          rotate_left
          · (intro w hSw; (try dsimp only at hSw); go_simp; try with_reducible rfl)
          try simp only [Act.put, List.setIfInBounds_toArray, List.set_cons_zero, List.set_cons_succ]
          refine lex_take (i := 3) (v := ?_) rfl (by kernel_rfl) (by kernel_rfl) (by kernel_rfl) (fun _ _ _ h => h) (by rfl) ?_ (by assumption) ?_
          rotate_left
          · (intro w hSw; (try dsimp only at hSw); go_simp; try with_reducible rfl)
          try simp only [Act.put, List.setIfInBounds_toArray, List.set_cons_zero, List.set_cons_succ]
          refine lex_take (i := 4) (v := ?_) rfl (by kernel_rfl) (by kernel_rfl) (by kernel_rfl) (fun _ _ _ h => h) (by rfl) ?_ (by assumption) ?_
          rotate_left
          · (intro w hSw; (try dsimp only at hSw); go_simp; try with_reducible rfl)
          try simp only [Act.put, List.setIfInBounds_toArray, List.set_cons_zero, List.set_cons_succ]
          refine lex_take (i := 5) (v := ?_) rfl (by kernel_rfl) (by kernel_rfl) (by kernel_rfl) (fun _ _ _ h => h) (by rfl) ?_ (by assumption) ?_
          rotate_left
          · (intro w hSw; (try dsimp only at hSw); go_simp; try with_reducible rfl)
          try simp only [Act.put, List.setIfInBounds_toArray, List.set_cons_zero, List.set_cons_succ]
          refine lex_take (i := 6) (v := ?_) rfl (by kernel_rfl) (by kernel_rfl) (by kernel_rfl) (fun _ _ _ h => h) (by rfl) ?_ (by assumption) ?_
          rotate_left
          · (intro w hSw; (try dsimp only at hSw); go_simp; try with_reducible rfl)
          try simp only [Act.put, List.setIfInBounds_toArray, List.set_cons_zero, List.set_cons_succ]
          refine lex_step (i := 7) rfl (by kernel_rfl) (by rfl) (fun Kx hKx => ?_)
          (go_simp; go_at_call 29; (with_reducible refine (CJ.out _ BEL.out.drew).mono ?_); rintro e w3 ⟨rfl, hb⟩; try go_wp2_with fail)
          refine hKx.out _ _ ?_ (fun hHeld => ?_)
          · (try dsimp only); all_goals trivial
          clear hKx Kx
          try simp only [Act.put, List.setIfInBounds_toArray, List.set_cons_zero, List.set_cons_succ]
          have B3 := Lib.hid (below_then BEL.out.drew hb)
          clear hb BEL hHeld
          refine lex_seq (fun _ => trivial) 8 rfl (by kernel_rfl) ?_
          simp only [List.drop_succ_cons, List.drop_zero]
          go_wp2_with fail
          go_roundw
          case rel => exact ⟨3, 3, rfl, by omega, by rw [← HA1.out], (by first | rfl | go_num), B3.out⟩
          case measure => simp [intOf]
    · obtain rfl : j = 3 := by omega
      obtain rfl : q = 3 := by omega
      clear hlt hj hq hbel
      have hR : accT T ws ms ns 3 = RES := by rw [HRES.out]; rfl
      rw [hR]
      clear hR
      go_wp2_with fail
      go_ret
      exact ⟨rfl, BEL.out⟩
end Go.Proofs.YtdmkghgachapaaaGreatDoor
