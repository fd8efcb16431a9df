/- Contract of pattern.full. -/
import Derived.Test.YtjjmbnflhldoeacPat2
namespace Go.Proofs.Ytjjmbnflhldoeac
set_option linter.unusedVariables false
set_option maxRecDepth 100000
open Go.RowKit Go.Shelf

def prevOf (ps : List Pc) : Nat → Bool
  | 0 => false
  | k + 1 => ((ps[k]?).map (·.1)).getD false
theorem prevOf_succ (ps : List Pc) (k : Nat) : prevOf ps (k + 1) = ((ps[k]?).map (·.1)).getD false := rfl
theorem get0 {s : List UInt8} : ∀ (S : ByteArray), S = ⟨s.toArray⟩ → ∀ h : 0 < S.size, S[0] = s.getD 0 0 := by
  rintro _ rfl h
  have h1 := str_get _ 0 h
  have e : (⟨s.toArray⟩ : ByteArray).data.toList = s := by simp
  rw [e] at h1
  rw [List.getD_eq_getElem?_getD, h1]; rfl
theorem drop_pc {α : Type} {xs : List α} {k : Nat} {x : α} (h : xs[k]? = some x) : xs.drop k = x :: xs.drop (k + 1) := by
  obtain ⟨hk, rfl⟩ := List.getElem?_eq_some_iff.1 h
  exact List.drop_eq_getElem_cons hk
theorem bad_step {ps : List Pc} {k : Nat} {x : Pc} (h : ps[k]? = some x) : badAny (prevOf ps k) (ps.drop k) = (badP (prevOf ps k) x || badAny (prevOf ps (k + 1)) (ps.drop (k + 1))) := by
  rw [drop_pc h, badAny]
  have : prevOf ps (k + 1) = x.1 := by rw [prevOf_succ, h]; rfl
  rw [this]
theorem well_mem : ∀ (ps : List Pc) (b : Bool), wellP b ps → ∀ x ∈ ps, if x.1 then (kindOf x.2).1 ≠ 0 else x.2 ≠ []
  | [], _, _, x, hx => by cases hx
  | y :: r, b, h, x, hx => by
    rw [wellP] at h
    rcases List.mem_cons.1 hx with rfl | hx
    · have := h.1
      split
      · rename_i hy; rw [if_pos hy] at this; exact this
      · rename_i hy; rw [if_neg hy] at this; exact this.1
    · exact well_mem r _ h.2 x hx
theorem kind_in {l : List UInt8} (h : (kindOf l).1 ≠ 0) : ∃ n : Nat, (kindOf l).1 = (n : Int) ∧ 1 ≤ n ∧ n ≤ 5 := by
  have hm := (kind_iff l).1 h
  have key : ∀ x ∈ namesP, (kindOf x).1 = ((kindOf x).1.toNat : Int) ∧ 1 ≤ (kindOf x).1.toNat ∧ (kindOf x).1.toNat ≤ 5 := by decide
  exact ⟨_, (key l hm).1, (key l hm).2.1, (key l hm).2.2⟩
def cnts (ps : List Pc) : Array Value := #[.int .i64 (countK 0 ps : Int), .int .i64 (countK 1 ps : Int), .int .i64 (countK 2 ps : Int), .int .i64 (countK 3 ps : Int), .int .i64 (countK 4 ps : Int), .int .i64 (countK 5 ps : Int)]
theorem cnts_at (ps : List Pc) (n : Nat) (h : n < 6) : (cnts ps)[n]? = some (.int .i64 (countK n ps : Int)) := by
  match n, h with
  | 0, _ => rfl
  | 1, _ => rfl
  | 2, _ => rfl
  | 3, _ => rfl
  | 4, _ => rfl
  | 5, _ => rfl
theorem count_snoc (k : Int) (ps : List Pc) (x : Pc) : countK k (ps ++ [x]) = countK k ps + (if x.1 && decide ((kindOf x.2).1 = k) then 1 else 0) := by
  unfold countK; rw [List.countP_append]
  congr 1
  rw [List.countP_singleton]
theorem cnts_item {ps : List Pc} {x : Pc} {n : Nat} (hx : x.1 = true) (hk : (kindOf x.2).1 = (n : Int)) (h : n < 6) : (cnts ps).setIfInBounds n (.int .i64 ((countK n ps : Int) + 1)) = cnts (ps ++ [x]) := by
  have key : ∀ j : Int, countK j (ps ++ [x]) = countK j ps + (if (n : Int) = j then 1 else 0) := by
    intro j; rw [count_snoc, hx, hk]; simp
  unfold cnts
  simp only [key]
  match n, h with
  | 0, _ => simp
  | 1, _ => simp
  | 2, _ => simp
  | 3, _ => simp
  | 4, _ => simp
  | 5, _ => simp
theorem cnts_text {ps : List Pc} {x : Pc} (hx : x.1 = false) : cnts (ps ++ [x]) = cnts ps := by
  have key : ∀ j : Int, countK j (ps ++ [x]) = countK j ps := by intro j; rw [count_snoc, hx]; simp
  unfold cnts
  simp only [key]
theorem take_pc {ps : List Pc} {k : Nat} {x : Pc} (h : ps[k]? = some x) : ps.take (k + 1) = ps.take k ++ [x] := by rw [List.take_add_one, h]; rfl
theorem countK_le (k : Int) (ps : List Pc) : countK k ps ≤ ps.length := List.countP_le_length
theorem pc_cells {w : World} {B : Nat} {a : Option Addr} {n : Nat} {ps : List Pc} (h : RowsOf 2 encPc w B a n ps) (hn : 0 < n) :
    ∃ b off, a = some ⟨b, off, none⟩ ∧ b < B ∧ ∀ k, k < n → ∃ t s, ps[k]? = some (t, s) ∧ w.cell? ⟨b, off + k * 2, none⟩ = some (.bool t) ∧ w.cell? ⟨b, off + k * 2 + 1, none⟩ = some (.string ⟨s.toArray⟩) := by
  obtain ⟨b, off, e, hlt, hc⟩ := h.2.2 hn
  refine ⟨b, off, e, hlt, fun k hk => ?_⟩
  have hl : k < ps.length := by rw [h.1]; exact hk
  have hx := List.getElem?_eq_getElem hl
  exact ⟨ps[k].1, ps[k].2, hx, hc k _ hx 0 _ rfl, hc k _ hx 1 _ rfl⟩
set_option maxHeartbeats 8000000 in
theorem pt_full (w : World) (ps : List Pc) (a : Option Addr) (n c : Nat) (h : RowsOf 2 encPc w w.heap.size a n ps) (hw : wellP false ps) (hn : n ≤ 1000) :
    Calls Try.prog 9 #[.slice a n c] w fun e w' => e = .returned (.bool (fullB ps)) ∧ Below w.heap.size w w' := by
  have LN := Lib.hid h.1
  have H := Lib.hid h; clear h
  have WM := Lib.hid (well_mem ps false hw); clear hw
  have at0 := At.new w (.cells (cnts []) 46)
  have HC0 := Lib.hid at0; clear at0
  go_enter Try.func9, Try.ntmps9
  go_wp2_with fail
  go_loopw [10] (fun i wr => ∃ k : Nat, k ≤ n ∧ i = .int .i64 k ∧ badAny false ps = badAny (prevOf ps k) (ps.drop k) ∧ At wr w.heap.size (.cells (cnts (ps.take k)) 46) ∧ Below w.heap.size w wr) (fun i _ => n - (intOf i).toNat)
  case atStart => exact ⟨0, by omega, rfl, rfl, HC0.out, below_new (Below.refl _ _) _⟩
  case round =>
    clear HC0
    obtain ⟨k, hk, rfl, hbad, hat, hb⟩ := hrel
    have HBD := Lib.hid hbad; clear hbad
    have AT := Lib.hid hat; have HB := Lib.hid hb
    by_cases hlt : k < n
    · obtain ⟨b0, off, rfl, hbB, hcs⟩ := pc_cells (H.out.below hb (Nat.le_refl _)) (by omega)
      obtain ⟨t, s, hx, hc0, hc1⟩ := hcs k hlt
      have hmem := WM.out _ (List.mem_of_getElem? hx)
      have HST := Lib.hid (bad_step hx)
      have HTK := Lib.hid (take_pc hx)
      have hzw := hb.size
      have hlw := hat.lt
      have hbz : b0 < wr.heap.size := by omega
      have hX := Lib.hid hx
      clear hx hat hb
      -- what stands before
      obtain ⟨pb, hpb⟩ : ∃ pb, pb = prevOf ps k := ⟨_, rfl⟩
      have hprev : (k = 0 ∧ pb = false) ∨ ∃ k', k = k' + 1 ∧ wr.cell? ⟨b0, off + k' * 2, none⟩ = some (.bool pb) := by
        rcases k with _ | k'
        · exact .inl ⟨rfl, hpb⟩
        · obtain ⟨t', s', hx', hc', _⟩ := hcs k' (by omega)
          refine .inr ⟨k', rfl, ?_⟩
          rw [hc', hpb, prevOf_succ, hx']; rfl
      have HPB := Lib.hid hpb
      clear hcs hpb
      cases t with
      | true =>
        simp only [if_true] at hmem
        obtain ⟨kn, hkn, hk1, hk5⟩ := kind_in hmem
        have HKN := Lib.hid hkn; clear hkn hmem
        have hkc : ∀ W, Calls Try.prog 14 #[.string ⟨s.toArray⟩] W fun e w' => e = .returned (.tuple #[.int .i64 (kn : Int), .int .i64 (kindOf s).2]) ∧ W = w' := by rw [← HKN.out]; exact pt_kind s
        obtain ⟨kw, hkw⟩ : ∃ kw, kw = (kindOf s).2 := ⟨_, rfl⟩
        rw [← hkw] at hkc
        have KC := Lib.hid hkc; clear hkc hkw
        obtain ⟨cn, hcn⟩ : ∃ cn : Nat, cn = countK kn (ps.take k) := ⟨_, rfl⟩
        have hcl : cn ≤ 1000 := by
          rw [hcn]; exact Nat.le_trans (countK_le _ _) (by rw [List.length_take]; omega)
        have HCI := Lib.hid (cnts_item (ps := ps.take k) (x := (true, s)) rfl HKN.out (by omega))
        rw [← hcn] at HCI
        have hcell : wr.cell? ⟨w.heap.size, kn, none⟩ = some (.int .i64 (cn : Int)) := by rw [hcn, AT.out.cell kn]; exact cnts_at _ kn (by omega)
        have hfr : wr.frozen? ⟨w.heap.size, kn, none⟩ = false := AT.out.frozen kn
        have hne : w.heap.size ≠ wr.heap.size := by omega
        clear hcn
        have hk6 : kn < 6 := by omega
        have hk6' : (kn : Int) < 6 := by omega
        have A2 := Lib.hid ((AT.out.store kn (.int .i64 ((cn : Int) + 1))).alloc (.cells #[.bool true, .string ⟨s.toArray⟩] 43))
        have B2 := Lib.hid (below_new (below_set HB.out (p := ⟨w.heap.size, kn, none⟩) (Nat.le_refl _) (.int .i64 ((cn : Int) + 1))) (.cells #[.bool true, .string ⟨s.toArray⟩] 43))
        rcases hprev with ⟨rfl, rfl⟩ | ⟨k', rfl, hpc⟩
        · simp only [Nat.zero_mul, Nat.add_zero] at hc0 hc1
          go_wp2_with fail
          refine (KC.out _).mono ?_
          rintro e w' ⟨rfl, rfl⟩
          go_wp2_with fail
          go_roundw
          case rel => exact ⟨1, by omega, rfl, by rw [HBD.out, HST.out, ← HPB.out]; rfl, by rw [HTK.out, ← HCI.out]; exact A2.out, B2.out⟩
          case measure => simp [intOf]; omega
        · cases pb with
          | false =>
            go_wp2_with fail
            refine (KC.out _).mono ?_
            rintro e w' ⟨rfl, rfl⟩
            go_wp2_with fail
            go_roundw
            case rel => exact ⟨k' + 1 + 1, by omega, by go_num, by rw [HBD.out, HST.out, ← HPB.out]; rfl, by rw [HTK.out, ← HCI.out]; exact A2.out, B2.out⟩
            case measure => simp [intOf]; omega
          | true =>
            have HF := Lib.hid (show fullB ps = false by unfold fullB; rw [HBD.out, HST.out, ← HPB.out]; rfl)
            go_wp2_with fail
            refine (KC.out _).mono ?_
            rintro e w' ⟨rfl, rfl⟩
            go_wp2_with fail
            go_ret
            exact ⟨ret_bool HF.out.symm, B2.out⟩
      | false =>
        simp only [Bool.false_eq_true, if_false] at hmem
        have hsl : 0 < s.length := List.length_pos_iff.2 hmem
        have hss := pt_size s
        obtain ⟨c0, hc0'⟩ : ∃ c0, c0 = s.getD 0 0 := ⟨_, rfl⟩
        obtain ⟨S, hS⟩ : ∃ S : ByteArray, S = ⟨s.toArray⟩ := ⟨_, rfl⟩
        rw [← hS] at hc1 hss
        have hS0 : 0 < S.size := by omega
        have hg : S[0] = c0 := by rw [hc0']; exact get0 S hS hS0
        have HG := Lib.hid (fun W => show Calls Try.prog 15 #[.int .u8 (S[0].toNat : Int)] W (fun e w' => e = .returned (.bool (joinsB c0)) ∧ W = w') from by rw [hg]; exact pt_joins c0 W)
        have HCT := Lib.hid (cnts_text (ps := ps.take k) (x := (false, s)) rfl)
        have A2 := Lib.hid (AT.out.alloc (.cells #[.bool false, .string S] 43))
        have B2 := Lib.hid (below_new HB.out (.cells #[.bool false, .string S] 43))
        have HBP := Lib.hid (show badP pb (false, s) = (pb && joinsB c0) by unfold badP; rw [hc0']; rfl)
        clear hmem hsl hss hc0' hg hS
        rcases hprev with ⟨rfl, rfl⟩ | ⟨k', rfl, hpc⟩
        · simp only [Nat.zero_mul, Nat.add_zero] at hc0 hc1
          go_wp2_with fail
          go_roundw
          case rel => exact ⟨1, by omega, rfl, by rw [HBD.out, HST.out, ← HPB.out]; rfl, by rw [HTK.out, HCT.out]; exact A2.out, B2.out⟩
          case measure => simp [intOf]; omega
        · cases pb with
          | false =>
            go_wp2_with fail
            go_roundw
            case rel => exact ⟨k' + 1 + 1, by omega, by go_num, by rw [HBD.out, HST.out, ← HPB.out]; rfl, by rw [HTK.out, HCT.out]; exact A2.out, B2.out⟩
            case measure => simp [intOf]; omega
          | true =>
            cases hj : joinsB c0 with
            | true =>
              have HF := Lib.hid (show fullB ps = false by unfold fullB; rw [HBD.out, HST.out, ← HPB.out, HBP.out, hj]; rfl)
              go_wp2_with fail
              refine (HG.out _).mono ?_
              rw [hj]
              rintro e w' ⟨rfl, rfl⟩
              go_wp2_with fail
              go_ret
              exact ⟨ret_bool HF.out.symm, B2.out⟩
            | false =>
              have HF := Lib.hid (show badAny false ps = badAny (prevOf ps (k' + 1 + 1)) (ps.drop (k' + 1 + 1)) by rw [HBD.out, HST.out, ← HPB.out, HBP.out, hj]; rfl)
              go_wp2_with fail
              refine (HG.out _).mono ?_
              rw [hj]
              rintro e w' ⟨rfl, rfl⟩
              clear hj
              go_wp2_with fail
              go_roundw
              case rel => exact ⟨k' + 1 + 1, by omega, by go_num, HF.out, by rw [HTK.out, HCT.out]; exact A2.out, B2.out⟩
              case measure => simp [intOf]; omega
    · obtain rfl : k = n := by omega
      have hat' := hat
      rw [List.take_of_length_le (by rw [LN.out]; exact Nat.le_refl _)] at hat'
      have HF := Lib.hid (show fullB ps = (decide (countK 1 ps = 1) && decide (countK 3 ps = 1) && decide (countK 2 ps + countK 4 ps = 1) && decide (countK 5 ps ≤ 1)) by
        unfold fullB; rw [HBD.out, List.drop_of_length_le (by rw [LN.out]; exact Nat.le_refl _)]; rfl)
      have l1 := countK_le 1 ps; have l2 := countK_le 2 ps; have l3 := countK_le 3 ps; have l4 := countK_le 4 ps; have l5 := countK_le 5 ps
      rw [LN.out] at l1 l2 l3 l4 l5
      obtain ⟨d1, hd1⟩ : ∃ d, d = countK 1 ps := ⟨_, rfl⟩
      obtain ⟨d2, hd2⟩ : ∃ d, d = countK 2 ps := ⟨_, rfl⟩
      obtain ⟨d3, hd3⟩ : ∃ d, d = countK 3 ps := ⟨_, rfl⟩
      obtain ⟨d4, hd4⟩ : ∃ d, d = countK 4 ps := ⟨_, rfl⟩
      obtain ⟨d5, hd5⟩ : ∃ d, d = countK 5 ps := ⟨_, rfl⟩
      have x1 : wr.cell? ⟨w.heap.size, 1, none⟩ = some (.int .i64 (d1 : Int)) := by rw [hd1, hat'.cell 1]; rfl
      have x2 : wr.cell? ⟨w.heap.size, 2, none⟩ = some (.int .i64 (d2 : Int)) := by rw [hd2, hat'.cell 2]; rfl
      have x3 : wr.cell? ⟨w.heap.size, 3, none⟩ = some (.int .i64 (d3 : Int)) := by rw [hd3, hat'.cell 3]; rfl
      have x4 : wr.cell? ⟨w.heap.size, 4, none⟩ = some (.int .i64 (d4 : Int)) := by rw [hd4, hat'.cell 4]; rfl
      have x5 : wr.cell? ⟨w.heap.size, 5, none⟩ = some (.int .i64 (d5 : Int)) := by rw [hd5, hat'.cell 5]; rfl
      have HF2 := HF.out
      rw [← hd1] at HF2 l1
      rw [← hd2] at HF2 l2
      rw [← hd3] at HF2 l3
      rw [← hd4] at HF2 l4
      rw [← hd5] at HF2 l5
      replace HF := Lib.hid HF2
      clear HF2 hd1 hd2 hd3 hd4 hd5 hat hat' hb
      by_cases q1 : d1 = 1
      · by_cases q3 : d3 = 1
        · by_cases q2 : d2 + d4 = 1
          · have HR := Lib.hid (show fullB ps = decide (d5 ≤ 1) by rw [HF.out, decide_eq_true q1, decide_eq_true q3, decide_eq_true q2]; rfl)
            have e1 : ((d1 : Int) == 1) = true := by simp; omega
            have e3 : ((d3 : Int) == 1) = true := by simp; omega
            have e2 : ((d2 : Int) + (d4 : Int) == 1) = true := by simp; omega
            by_cases q5 : d5 ≤ 1
            · have HQ := Lib.hid (show fullB ps = true by rw [HR.out, decide_eq_true q5])
              have q5' : (d5 : Int) ≤ 1 := by omega
              clear q1 q2 q3 q5
              go_wp2_with fail
              go_ret
              exact ⟨ret_bool (by rw [HQ.out] <;> first | rfl | (simp; omega)), HB.out⟩
            · have HQ := Lib.hid (show fullB ps = false by rw [HR.out, decide_eq_false q5])
              have q5' : 1 < (d5 : Int) := by omega
              clear q1 q2 q3 q5
              go_wp2_with fail
              go_ret
              exact ⟨ret_bool (by rw [HQ.out] <;> first | rfl | (simp; omega)), HB.out⟩
          · have HR := Lib.hid (show fullB ps = false by rw [HF.out, decide_eq_false q2]; simp)
            have e1 : ((d1 : Int) == 1) = true := by simp; omega
            have e3 : ((d3 : Int) == 1) = true := by simp; omega
            have e2 : ((d2 : Int) + (d4 : Int) == 1) = false := by simp; omega
            clear q1 q2 q3
            go_wp2_with fail
            go_ret
            exact ⟨ret_bool HR.out.symm, HB.out⟩
        · have HR := Lib.hid (show fullB ps = false by rw [HF.out, decide_eq_false q3]; simp)
          have e1 : ((d1 : Int) == 1) = true := by simp; omega
          have e3 : ((d3 : Int) == 1) = false := by simp; omega
          clear q1 q3
          go_wp2_with fail
          go_ret
          exact ⟨ret_bool HR.out.symm, HB.out⟩
      · have HR := Lib.hid (show fullB ps = false by rw [HF.out, decide_eq_false q1]; simp)
        have e1 : ((d1 : Int) == 1) = false := by simp; omega
        clear q1
        go_wp2_with fail
        go_ret
        exact ⟨ret_bool HR.out.symm, HB.out⟩
end Go.Proofs.Ytjjmbnflhldoeac
