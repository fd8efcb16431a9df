/- Contract of the reference's PatternFull. -/
import Derived.Test.YtjjmbnflhldoeacPat4
namespace Go.Proofs.Ytjjmbnflhldoeac
set_option linter.unusedVariables false
set_option maxRecDepth 100000
open Go.RowKit Go.Shelf

def alnumS : ByteArray := ⟨#[97,98,99,100,101,102,103,104,105,106,107,108,109,110,111,112,113,114,115,116,117,118,119,120,121,122,65,66,67,68,69,70,71,72,73,74,75,76,77,78,79,80,81,82,83,84,85,86,87,88,89,90,48,49,50,51,52,53,54,55,56,57]⟩
theorem join_fin : ∀ n : Fin 256, (decide (n.val = 45) || decide (127 < n.val) || decide (0 ≤ Lib.indexByte alnumS.data.toList (UInt8.ofNat n.val))) = joinsB (UInt8.ofNat n.val) := by decide
theorem join_idx (c : UInt8) : (decide (c.toNat = 45) || decide (127 < c.toNat) || decide (0 ≤ Lib.indexByte alnumS.data.toList c)) = joinsB c := by
  have h := join_fin ⟨c.toNat, c.toNat_lt⟩
  have e : UInt8.ofNat c.toNat = c := by simp
  simp only [e] at h
  exact h
theorem well_prev : ∀ (ps : List Pc) (b : Bool) (k : Nat) (s : List UInt8), wellP b ps → ps[k + 1]? = some (false, s) → prevOf ps (k + 1) = true
  | [], _, _, _, _, h => by simp at h
  | x :: r, b, 0, s, hw, h => by
    rw [wellP] at hw
    cases r with
    | nil => simp at h
    | cons y r' =>
      have : y = (false, s) := by simpa using h
      subst this
      rw [wellP] at hw
      have h2 := hw.2.1
      simp at h2
      show ((((x :: (false, s) :: r')[0]?).map (·.1)).getD false) = true
      simpa using h2.2
  | x :: r, b, k + 1, s, hw, h => by
    rw [wellP] at hw
    have := well_prev r _ k s hw.2 (by simpa using h)
    rw [prevOf_succ] at this ⊢
    simpa using this
def cntM (ps : List Pc) : Nat := countK 2 ps + countK 4 ps
theorem cnt_item {ps : List Pc} {s : List UInt8} {kn : Int} (j : Int) (hk : (kindOf s).1 = kn) : countK j (ps ++ [(true, s)]) = countK j ps + (if kn = j then 1 else 0) := by
  rw [count_snoc]; simp [hk]
theorem cnt_text {ps : List Pc} {s : List UInt8} (j : Int) : countK j (ps ++ [(false, s)]) = countK j ps := by
  rw [count_snoc]; simp
theorem first_of {s : List UInt8} {n : Nat} (h : (kindOf s).1 = (n : Int)) (h1 : 1 ≤ n) (h5 : n ≤ 5) : 0 < s.length ∧ (s.getD 0 0).toNat = (if n = 1 then 121 else if n = 2 then 109 else if n = 3 then 100 else if n = 4 then 110 else 119) := by
  have hm := (kind_iff s).1 (by omega)
  have key : ∀ x ∈ namesP, 0 < x.length ∧ (x.getD 0 0).toNat = (if (kindOf x).1 = 1 then 121 else if (kindOf x).1 = 2 then 109 else if (kindOf x).1 = 3 then 100 else if (kindOf x).1 = 4 then 110 else 119) := by decide
  have hk := key s hm
  rw [h] at hk
  refine ⟨hk.1, hk.2.trans ?_⟩
  have : n = 1 ∨ n = 2 ∨ n = 3 ∨ n = 4 ∨ n = 5 := by omega
  rcases this with rfl | rfl | rfl | rfl | rfl <;> rfl
set_option maxHeartbeats 16000000 in
theorem ref_PatternFull (w : World) (ps : List Pc) (a : Option Addr) (n c : Nat) (h : RowsOf 2 encPc w w.heap.size a n ps) (hw : wellP false ps) (hn : n ≤ 1000) :
    Calls Try.prog 7 #[.slice a n c] w fun e w' => e = .returned (.bool (fullB ps)) ∧ Below w.heap.size w w' := by
  have LN := Lib.hid h.1
  have H := Lib.hid h; clear h
  have WM := Lib.hid (well_mem ps false hw)
  have WPV := Lib.hid (fun k s => well_prev ps false k s hw)
  clear hw
  go_enter Try.func7, Try.ntmps7
  go_wp2_with fail
  go_loopw [3, 4, 5, 6, 12] (fun y m d x i wr => ∃ k : Nat, k ≤ n ∧ y = .int .i64 (countK 1 (ps.take k) : Int) ∧ m = .int .i64 (cntM (ps.take k) : Int) ∧ d = .int .i64 (countK 3 (ps.take k) : Int) ∧ x = .int .i64 (countK 5 (ps.take k) : Int) ∧ i = .int .i64 k ∧ badAny false ps = badAny (prevOf ps k) (ps.drop k) ∧ Below w.heap.size w wr) (fun _ _ _ _ i _ => n - (intOf i).toNat)
  case atStart => exact ⟨0, by omega, rfl, rfl, rfl, rfl, rfl, rfl, Below.refl _ _⟩
  case round =>
    obtain ⟨k, hk, rfl, rfl, rfl, rfl, rfl, hbad, hb⟩ := hrel
    have HBD := Lib.hid hbad; clear hbad
    have HB := Lib.hid hb
    have l1 := countK_le 1 (ps.take k); have l2 := countK_le 2 (ps.take k); have l3 := countK_le 3 (ps.take k); have l4 := countK_le 4 (ps.take k); have l5 := countK_le 5 (ps.take k)
    have lt := (List.length_take_le k ps)
    have lm : cntM (ps.take k) = countK 2 (ps.take k) + countK 4 (ps.take k) := rfl
    obtain ⟨cy, hcy⟩ : ∃ d, d = countK 1 (ps.take k) := ⟨_, rfl⟩
    obtain ⟨cm, hcm⟩ : ∃ d, d = cntM (ps.take k) := ⟨_, rfl⟩
    obtain ⟨cd, hcd⟩ : ∃ d, d = countK 3 (ps.take k) := ⟨_, rfl⟩
    obtain ⟨cw, hcw⟩ : ∃ d, d = countK 5 (ps.take k) := ⟨_, rfl⟩
    have by1 : cy ≤ 1000 := by omega
    have bm1 : cm ≤ 2000 := by omega
    have bd1 : cd ≤ 1000 := by omega
    have bw1 : cw ≤ 1000 := by omega
    rw [← hcy, ← hcm, ← hcd, ← hcw]
    have HCY := Lib.hid hcy; have HCM := Lib.hid hcm; have HCD := Lib.hid hcd; have HCW := Lib.hid hcw
    clear l1 l2 l3 l4 l5 lt lm hcy hcm hcd hcw
    by_cases hlt : k < n
    · obtain ⟨b0, off, rfl, hbB, hcs⟩ := pc_cells (H.out.below hb (Nat.le_refl _)) (by omega)
      obtain ⟨t, s, hx, hc0, hc1⟩ := hcs k hlt
      have hmem := WM.out _ (List.mem_of_getElem? hx)
      have HST := Lib.hid (bad_step hx)
      have HTK := Lib.hid (take_pc hx)
      have hzw := hb.size
      have hbz : b0 < wr.heap.size := by omega
      have hX := Lib.hid hx
      clear hx hb
      -- what stands before
      obtain ⟨pb, hpb⟩ : ∃ pb, pb = prevOf ps k := ⟨_, rfl⟩
      have hprev : (k = 0 ∧ pb = false) ∨ ∃ k', k = k' + 1 ∧ wr.cell? ⟨b0, off + k' * 2, none⟩ = some (.bool pb) := by
        rcases k with _ | k'
        · exact .inl ⟨rfl, hpb⟩
        · obtain ⟨t', s', hx', hc', _⟩ := hcs k' (by omega)
          refine .inr ⟨k', rfl, ?_⟩
          rw [hc', hpb, prevOf_succ, hx']; rfl
      have HPB := Lib.hid hpb
      clear hcs hpb
      have hss := pt_size s
      obtain ⟨S, hS⟩ : ∃ S : ByteArray, S = ⟨s.toArray⟩ := ⟨_, rfl⟩
      rw [← hS] at hc1 hss
      cases t with
      | true =>
        simp only [if_true] at hmem
        obtain ⟨kn, hkn, hk1, hk5⟩ := kind_in hmem
        have hfs := first_of hkn hk1 hk5
        have hS0 : 0 < S.size := by omega
        have hg : S[0] = s.getD 0 0 := get0 S hS hS0
        have hg2 := hfs.2
        rw [← hg] at hg2
        have B2 := Lib.hid (below_new HB.out (.cells #[.bool true, .string S] 38))
        clear hfs hmem hg hS
        have hkk : kn = 1 ∨ kn = 2 ∨ kn = 3 ∨ kn = 4 ∨ kn = 5 := by omega
        rcases hkk with rfl | rfl | rfl | rfl | rfl
        · have hgn : S[0].toNat = 121 := by rw [hg2]; rfl
          have f0 : ((S[0].toNat : Int) == 121) = true := by simp; omega
          have K1 := Lib.hid (show (countK 1 (ps.take (k + 1)) : Int) = (cy : Int) + 1 by rw [HTK.out, cnt_item 1 hkn, HCY.out]; simp)
          have KM := Lib.hid (show (cntM (ps.take (k + 1)) : Int) = (cm : Int) by rw [HTK.out, HCM.out]; unfold cntM; rw [cnt_item 2 hkn, cnt_item 4 hkn]; (try simp); (try omega))
          have K3 := Lib.hid (show (countK 3 (ps.take (k + 1)) : Int) = (cd : Int) by rw [HTK.out, cnt_item 3 hkn, HCD.out]; simp)
          have K5 := Lib.hid (show (countK 5 (ps.take (k + 1)) : Int) = (cw : Int) by rw [HTK.out, cnt_item 5 hkn, HCW.out]; simp)
          clear hkn hk1 hk5 hg2 hgn
          rcases hprev with ⟨rfl, rfl⟩ | ⟨k', rfl, hpc⟩
          · simp only [Nat.zero_mul, Nat.add_zero] at hc0 hc1
            go_wp2_with fail
            go_roundw
            case rel => exact ⟨1, by omega, congrArg (Value.int .i64) K1.out.symm, congrArg (Value.int .i64) KM.out.symm, congrArg (Value.int .i64) K3.out.symm, congrArg (Value.int .i64) K5.out.symm, rfl, by rw [HBD.out, HST.out, ← HPB.out]; rfl, B2.out⟩
            case measure => simp [intOf]; omega
          · cases pb with
            | false =>
              go_wp2_with fail
              go_roundw
              case rel => exact ⟨k' + 1 + 1, by omega, congrArg (Value.int .i64) K1.out.symm, congrArg (Value.int .i64) KM.out.symm, congrArg (Value.int .i64) K3.out.symm, congrArg (Value.int .i64) K5.out.symm, by go_num, by rw [HBD.out, HST.out, ← HPB.out]; rfl, B2.out⟩
              case measure => simp [intOf]; omega
            | true =>
              have HF := Lib.hid (show fullB ps = false by unfold fullB; rw [HBD.out, HST.out, ← HPB.out]; rfl)
              go_wp2_with fail
              go_ret
              exact ⟨ret_bool HF.out.symm, B2.out⟩
        · have hgn : S[0].toNat = 109 := by rw [hg2]; rfl
          have f0 : ((S[0].toNat : Int) == 121) = false := by simp; omega
          have f1 : ((S[0].toNat : Int) == 109) = true := by simp; omega
          have K1 := Lib.hid (show (countK 1 (ps.take (k + 1)) : Int) = (cy : Int) by rw [HTK.out, cnt_item 1 hkn, HCY.out]; simp)
          have KM := Lib.hid (show (cntM (ps.take (k + 1)) : Int) = (cm : Int) + 1 by rw [HTK.out, HCM.out]; unfold cntM; rw [cnt_item 2 hkn, cnt_item 4 hkn]; (try simp); (try omega))
          have K3 := Lib.hid (show (countK 3 (ps.take (k + 1)) : Int) = (cd : Int) by rw [HTK.out, cnt_item 3 hkn, HCD.out]; simp)
          have K5 := Lib.hid (show (countK 5 (ps.take (k + 1)) : Int) = (cw : Int) by rw [HTK.out, cnt_item 5 hkn, HCW.out]; simp)
          clear hkn hk1 hk5 hg2 hgn
          rcases hprev with ⟨rfl, rfl⟩ | ⟨k', rfl, hpc⟩
          · simp only [Nat.zero_mul, Nat.add_zero] at hc0 hc1
            go_wp2_with fail
            go_roundw
            case rel => exact ⟨1, by omega, congrArg (Value.int .i64) K1.out.symm, congrArg (Value.int .i64) KM.out.symm, congrArg (Value.int .i64) K3.out.symm, congrArg (Value.int .i64) K5.out.symm, rfl, by rw [HBD.out, HST.out, ← HPB.out]; rfl, B2.out⟩
            case measure => simp [intOf]; omega
          · cases pb with
            | false =>
              go_wp2_with fail
              go_roundw
              case rel => exact ⟨k' + 1 + 1, by omega, congrArg (Value.int .i64) K1.out.symm, congrArg (Value.int .i64) KM.out.symm, congrArg (Value.int .i64) K3.out.symm, congrArg (Value.int .i64) K5.out.symm, by go_num, by rw [HBD.out, HST.out, ← HPB.out]; rfl, B2.out⟩
              case measure => simp [intOf]; omega
            | true =>
              have HF := Lib.hid (show fullB ps = false by unfold fullB; rw [HBD.out, HST.out, ← HPB.out]; rfl)
              go_wp2_with fail
              go_ret
              exact ⟨ret_bool HF.out.symm, B2.out⟩
        · have hgn : S[0].toNat = 100 := by rw [hg2]; rfl
          have f0 : ((S[0].toNat : Int) == 121) = false := by simp; omega
          have f1 : ((S[0].toNat : Int) == 109) = false := by simp; omega
          have f2 : ((S[0].toNat : Int) == 110) = false := by simp; omega
          have f3 : ((S[0].toNat : Int) == 100) = true := by simp; omega
          have K1 := Lib.hid (show (countK 1 (ps.take (k + 1)) : Int) = (cy : Int) by rw [HTK.out, cnt_item 1 hkn, HCY.out]; simp)
          have KM := Lib.hid (show (cntM (ps.take (k + 1)) : Int) = (cm : Int) by rw [HTK.out, HCM.out]; unfold cntM; rw [cnt_item 2 hkn, cnt_item 4 hkn]; (try simp); (try omega))
          have K3 := Lib.hid (show (countK 3 (ps.take (k + 1)) : Int) = (cd : Int) + 1 by rw [HTK.out, cnt_item 3 hkn, HCD.out]; simp)
          have K5 := Lib.hid (show (countK 5 (ps.take (k + 1)) : Int) = (cw : Int) by rw [HTK.out, cnt_item 5 hkn, HCW.out]; simp)
          clear hkn hk1 hk5 hg2 hgn
          rcases hprev with ⟨rfl, rfl⟩ | ⟨k', rfl, hpc⟩
          · simp only [Nat.zero_mul, Nat.add_zero] at hc0 hc1
            go_wp2_with fail
            go_roundw
            case rel => exact ⟨1, by omega, congrArg (Value.int .i64) K1.out.symm, congrArg (Value.int .i64) KM.out.symm, congrArg (Value.int .i64) K3.out.symm, congrArg (Value.int .i64) K5.out.symm, rfl, by rw [HBD.out, HST.out, ← HPB.out]; rfl, B2.out⟩
            case measure => simp [intOf]; omega
          · cases pb with
            | false =>
              go_wp2_with fail
              go_roundw
              case rel => exact ⟨k' + 1 + 1, by omega, congrArg (Value.int .i64) K1.out.symm, congrArg (Value.int .i64) KM.out.symm, congrArg (Value.int .i64) K3.out.symm, congrArg (Value.int .i64) K5.out.symm, by go_num, by rw [HBD.out, HST.out, ← HPB.out]; rfl, B2.out⟩
              case measure => simp [intOf]; omega
            | true =>
              have HF := Lib.hid (show fullB ps = false by unfold fullB; rw [HBD.out, HST.out, ← HPB.out]; rfl)
              go_wp2_with fail
              go_ret
              exact ⟨ret_bool HF.out.symm, B2.out⟩
        · have hgn : S[0].toNat = 110 := by rw [hg2]; rfl
          have f0 : ((S[0].toNat : Int) == 121) = false := by simp; omega
          have f1 : ((S[0].toNat : Int) == 109) = false := by simp; omega
          have f2 : ((S[0].toNat : Int) == 110) = true := by simp; omega
          have K1 := Lib.hid (show (countK 1 (ps.take (k + 1)) : Int) = (cy : Int) by rw [HTK.out, cnt_item 1 hkn, HCY.out]; simp)
          have KM := Lib.hid (show (cntM (ps.take (k + 1)) : Int) = (cm : Int) + 1 by rw [HTK.out, HCM.out]; unfold cntM; rw [cnt_item 2 hkn, cnt_item 4 hkn]; (try simp); (try omega))
          have K3 := Lib.hid (show (countK 3 (ps.take (k + 1)) : Int) = (cd : Int) by rw [HTK.out, cnt_item 3 hkn, HCD.out]; simp)
          have K5 := Lib.hid (show (countK 5 (ps.take (k + 1)) : Int) = (cw : Int) by rw [HTK.out, cnt_item 5 hkn, HCW.out]; simp)
          clear hkn hk1 hk5 hg2 hgn
          rcases hprev with ⟨rfl, rfl⟩ | ⟨k', rfl, hpc⟩
          · simp only [Nat.zero_mul, Nat.add_zero] at hc0 hc1
            go_wp2_with fail
            go_roundw
            case rel => exact ⟨1, by omega, congrArg (Value.int .i64) K1.out.symm, congrArg (Value.int .i64) KM.out.symm, congrArg (Value.int .i64) K3.out.symm, congrArg (Value.int .i64) K5.out.symm, rfl, by rw [HBD.out, HST.out, ← HPB.out]; rfl, B2.out⟩
            case measure => simp [intOf]; omega
          · cases pb with
            | false =>
              go_wp2_with fail
              go_roundw
              case rel => exact ⟨k' + 1 + 1, by omega, congrArg (Value.int .i64) K1.out.symm, congrArg (Value.int .i64) KM.out.symm, congrArg (Value.int .i64) K3.out.symm, congrArg (Value.int .i64) K5.out.symm, by go_num, by rw [HBD.out, HST.out, ← HPB.out]; rfl, B2.out⟩
              case measure => simp [intOf]; omega
            | true =>
              have HF := Lib.hid (show fullB ps = false by unfold fullB; rw [HBD.out, HST.out, ← HPB.out]; rfl)
              go_wp2_with fail
              go_ret
              exact ⟨ret_bool HF.out.symm, B2.out⟩
        · have hgn : S[0].toNat = 119 := by rw [hg2]; rfl
          have f0 : ((S[0].toNat : Int) == 121) = false := by simp; omega
          have f1 : ((S[0].toNat : Int) == 109) = false := by simp; omega
          have f2 : ((S[0].toNat : Int) == 110) = false := by simp; omega
          have f3 : ((S[0].toNat : Int) == 100) = false := by simp; omega
          have K1 := Lib.hid (show (countK 1 (ps.take (k + 1)) : Int) = (cy : Int) by rw [HTK.out, cnt_item 1 hkn, HCY.out]; simp)
          have KM := Lib.hid (show (cntM (ps.take (k + 1)) : Int) = (cm : Int) by rw [HTK.out, HCM.out]; unfold cntM; rw [cnt_item 2 hkn, cnt_item 4 hkn]; (try simp); (try omega))
          have K3 := Lib.hid (show (countK 3 (ps.take (k + 1)) : Int) = (cd : Int) by rw [HTK.out, cnt_item 3 hkn, HCD.out]; simp)
          have K5 := Lib.hid (show (countK 5 (ps.take (k + 1)) : Int) = (cw : Int) + 1 by rw [HTK.out, cnt_item 5 hkn, HCW.out]; simp)
          clear hkn hk1 hk5 hg2 hgn
          rcases hprev with ⟨rfl, rfl⟩ | ⟨k', rfl, hpc⟩
          · simp only [Nat.zero_mul, Nat.add_zero] at hc0 hc1
            go_wp2_with fail
            go_roundw
            case rel => exact ⟨1, by omega, congrArg (Value.int .i64) K1.out.symm, congrArg (Value.int .i64) KM.out.symm, congrArg (Value.int .i64) K3.out.symm, congrArg (Value.int .i64) K5.out.symm, rfl, by rw [HBD.out, HST.out, ← HPB.out]; rfl, B2.out⟩
            case measure => simp [intOf]; omega
          · cases pb with
            | false =>
              go_wp2_with fail
              go_roundw
              case rel => exact ⟨k' + 1 + 1, by omega, congrArg (Value.int .i64) K1.out.symm, congrArg (Value.int .i64) KM.out.symm, congrArg (Value.int .i64) K3.out.symm, congrArg (Value.int .i64) K5.out.symm, by go_num, by rw [HBD.out, HST.out, ← HPB.out]; rfl, B2.out⟩
              case measure => simp [intOf]; omega
            | true =>
              have HF := Lib.hid (show fullB ps = false by unfold fullB; rw [HBD.out, HST.out, ← HPB.out]; rfl)
              go_wp2_with fail
              go_ret
              exact ⟨ret_bool HF.out.symm, B2.out⟩
      | false =>
        simp only [Bool.false_eq_true, if_false] at hmem
        have hsl : 0 < s.length := List.length_pos_iff.2 hmem
        have hS0 : 0 < S.size := by omega
        obtain ⟨c0, hc0'⟩ : ∃ c0, c0 = s.getD 0 0 := ⟨_, rfl⟩
        have hg : S[0] = c0 := by rw [hc0']; exact get0 S hS hS0
        have B2 := Lib.hid (below_new HB.out (.cells #[.bool false, .string S] 38))
        have HBP := Lib.hid (show badP pb (false, s) = (pb && joinsB c0) by unfold badP; rw [hc0']; rfl)
        have K1 := Lib.hid (show (countK 1 (ps.take (k + 1)) : Int) = (cy : Int) by rw [HTK.out, cnt_text, HCY.out])
        have KM := Lib.hid (show (cntM (ps.take (k + 1)) : Int) = (cm : Int) by rw [HTK.out, HCM.out]; unfold cntM; rw [cnt_text, cnt_text])
        have K3 := Lib.hid (show (countK 3 (ps.take (k + 1)) : Int) = (cd : Int) by rw [HTK.out, cnt_text, HCD.out])
        have K5 := Lib.hid (show (countK 5 (ps.take (k + 1)) : Int) = (cw : Int) by rw [HTK.out, cnt_text, HCW.out])
        clear hmem hsl hc0' hS
        rcases hprev with ⟨rfl, rfl⟩ | ⟨k', rfl, hpc⟩
        · simp only [Nat.zero_mul, Nat.add_zero] at hc0 hc1
          clear hg
          go_wp2_with fail
          go_roundw
          case rel => exact ⟨1, by omega, congrArg (Value.int .i64) K1.out.symm, congrArg (Value.int .i64) KM.out.symm, congrArg (Value.int .i64) K3.out.symm, congrArg (Value.int .i64) K5.out.symm, rfl, by rw [HBD.out, HST.out, ← HPB.out]; rfl, B2.out⟩
          case measure => simp [intOf]; omega
        · obtain rfl : pb = true := by rw [HPB.out]; exact WPV.out k' s hX.out
          have hji := join_idx c0
          rw [← hg] at hji
          have HIX := Lib.hid (fun W => Any.strings_IndexByte Try.laysn137 alnumS (S[0].toNat : Int) W)
          have hcc : ((S[0].toNat : Int).toNat).toUInt8 = S[0] := by simp
          have HCC := Lib.hid hcc
          have hjc : joinsB S[0] = joinsB c0 := by rw [hg]
          have HJC := Lib.hid hjc
          clear hcc hjc hg
          have h255 : S[0].toNat < 256 := S[0].toNat_lt
          by_cases h45 : S[0].toNat = 45
          · have hj : joinsB S[0] = true := by rw [← hji, decide_eq_true h45]; rfl
            have HF := Lib.hid (show fullB ps = false by unfold fullB; rw [HBD.out, HST.out, ← HPB.out, HBP.out, ← HJC.out, hj]; rfl)
            have e1 : ((S[0].toNat : Int) == 45) = true := by simp; omega
            clear hji hj HIX
            go_wp2_with fail
            go_ret
            exact ⟨ret_bool HF.out.symm, B2.out⟩
          have e1 : ((S[0].toNat : Int) == 45) = false := by simp; omega
          by_cases h127 : 127 < S[0].toNat
          · have hj : joinsB S[0] = true := by rw [← hji, decide_eq_true h127]; simp
            have HF := Lib.hid (show fullB ps = false by unfold fullB; rw [HBD.out, HST.out, ← HPB.out, HBP.out, ← HJC.out, hj]; rfl)
            have e2 : (127 : Int) < S[0].toNat := by omega
            clear hji hj HIX h45
            go_wp2_with fail
            go_ret
            exact ⟨ret_bool HF.out.symm, B2.out⟩
          have e2 : ¬ (127 : Int) < S[0].toNat := by omega
          have e2' : (S[0].toNat : Int) ≤ 127 := by omega
          rw [decide_eq_false h45, decide_eq_false h127] at hji
          clear h45 h127
          obtain ⟨ix, hix⟩ : ∃ ix : Int, ix = Lib.indexByte alnumS.data.toList S[0] := ⟨_, rfl⟩
          rw [← hix] at hji
          have HI := Lib.hid (fun W => show Calls Try.prog 11 #[.string alnumS, .int .u8 (S[0].toNat : Int)] W (fun e w' => e = .returned (.int .i64 ix) ∧ w' = W) from by
            have := HIX.out W
            rw [HCC.out, ← hix] at this
            exact this)
          clear hix HIX HCC
          by_cases hp : 0 ≤ ix
          · have hj : joinsB S[0] = true := by rw [← hji, decide_eq_true hp]; rfl
            have HF := Lib.hid (show fullB ps = false by unfold fullB; rw [HBD.out, HST.out, ← HPB.out, HBP.out, ← HJC.out, hj]; rfl)
            clear hji hj
            go_wp2_with fail
            refine (HI.out _).mono ?_
            rintro e w' ⟨rfl, rfl⟩
            go_wp2_with fail
            go_ret
            exact ⟨ret_bool HF.out.symm, B2.out⟩
          · have hj : joinsB S[0] = false := by rw [← hji, decide_eq_false hp]; rfl
            have HF := Lib.hid (show badAny false ps = badAny (prevOf ps (k' + 1 + 1)) (ps.drop (k' + 1 + 1)) by rw [HBD.out, HST.out, ← HPB.out, HBP.out, ← HJC.out, hj]; rfl)
            have hp' : ix < 0 := by omega
            clear hji hj
            go_wp2_with fail
            refine (HI.out _).mono ?_
            rintro e w' ⟨rfl, rfl⟩
            go_wp2_with fail
            go_roundw
            case rel => exact ⟨k' + 1 + 1, by omega, congrArg (Value.int .i64) K1.out.symm, congrArg (Value.int .i64) KM.out.symm, congrArg (Value.int .i64) K3.out.symm, congrArg (Value.int .i64) K5.out.symm, by go_num, HF.out, B2.out⟩
            case measure => simp [intOf]; omega
    · obtain rfl : k = n := by omega
      have HF := Lib.hid (show fullB ps = (decide (cy = 1) && decide (cd = 1) && decide (cm = 1) && decide (cw ≤ 1)) by
        have ht : ps.take k = ps := List.take_of_length_le (by rw [LN.out]; exact Nat.le_refl _)
        rw [HCY.out, HCM.out, HCD.out, HCW.out, ht]
        unfold fullB; rw [HBD.out, List.drop_of_length_le (by rw [LN.out]; exact Nat.le_refl _)]; rfl)
      clear hb
      by_cases q1 : cy = 1
      · have e1 : ((cy : Int) == 1) = true := by simp; omega
        by_cases q2 : cm = 1
        · have e2 : ((cm : Int) == 1) = true := by simp; omega
          by_cases q3 : cd = 1
          · have e3 : ((cd : Int) == 1) = true := by simp; omega
            by_cases q5 : cw ≤ 1
            · have HR := Lib.hid (show fullB ps = true by rw [HF.out, decide_eq_true q1, decide_eq_true q2, decide_eq_true q3, decide_eq_true q5]; rfl)
              have e5 : (cw : Int) < 2 := by omega
              clear q1 q2 q3 q5
              go_wp2_with fail
              go_ret
              exact ⟨ret_bool (by rw [HR.out] <;> first | rfl | (simp; omega)), HB.out⟩
            · have HR := Lib.hid (show fullB ps = false by rw [HF.out, decide_eq_false q5]; simp)
              have e5 : 2 ≤ (cw : Int) := by omega
              clear q1 q2 q3 q5
              go_wp2_with fail
              go_ret
              exact ⟨ret_bool (by rw [HR.out] <;> first | rfl | (simp; omega)), HB.out⟩
          · have HR := Lib.hid (show fullB ps = false by rw [HF.out, decide_eq_false q3]; simp)
            have e3 : ((cd : Int) == 1) = false := by simp; omega
            clear q1 q2 q3
            go_wp2_with fail
            go_ret
            exact ⟨ret_bool HR.out.symm, HB.out⟩
        · have HR := Lib.hid (show fullB ps = false by rw [HF.out, decide_eq_false q2]; simp)
          have e2 : ((cm : Int) == 1) = false := by simp; omega
          clear q1 q2
          go_wp2_with fail
          go_ret
          exact ⟨ret_bool HR.out.symm, HB.out⟩
      · have HR := Lib.hid (show fullB ps = false by rw [HF.out, decide_eq_false q1]; simp)
        have e1 : ((cy : Int) == 1) = false := by simp; omega
        clear q1
        go_wp2_with fail
        go_ret
        exact ⟨ret_bool HR.out.symm, HB.out⟩
end Go.Proofs.Ytjjmbnflhldoeac
