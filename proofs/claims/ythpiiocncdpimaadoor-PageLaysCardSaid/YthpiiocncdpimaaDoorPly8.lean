/- Contract of the closure that writes a line in the reference's PageLay. -/
import Derived.Test.YthpiiocncdpimaaDoorPly6
namespace Go.Proofs.YthpiiocncdpimaaDoor
set_option linter.unusedVariables false
set_option linter.unusedSimpArgs false
set_option maxRecDepth 100000
open Go.RowKit Go.Shelf

theorem max_keepC {w W : World} {p : Addr} {v : Value} (h : w.cell? p = some v) (hb : Below w.heap.size w W) : W.cell? p = some v := by
  rw [hb.cell (World.block_lt_of_cell? w _ h)]; exact h
theorem max_keep {w W : World} {b : Nat} {v : Value} (h : w.cell? ⟨b, 0, none⟩ = some v) (hb : Below w.heap.size w W) : W.cell? ⟨b, 0, none⟩ = some v := max_keepC h hb
theorem range_step (i n : Nat) (h : i < n) : List.range' i (n - i) = i :: List.range' (i + 1) (n - (i + 1)) := by
  rw [show n - i = (n - (i + 1)) + 1 by omega, List.range'_succ]
theorem spO_snoc (n : Nat) : spO (n + 1) = spO n ++ [32] := by unfold spO; rw [List.replicate_succ']
set_option maxHeartbeats 16000000 in
theorem ref_row (w : World) (Dn wb n1 : Nat) (Ws : List Nat) (ra : Option Addr) (rc : Nat) (r : List ByteArray) (f n : Nat) (hD : w.cell? ⟨Dn, 0, none⟩ = some (.slice (some ⟨wb, 0, none⟩) n1 n1)) (hw : Ints w w.heap.size (some ⟨wb, 0, none⟩) n1 (nz Ws)) (hWl : Ws.length = n1) (hr : Strs w w.heap.size ra n1 r)
    (h1 : 1 ≤ n1) (h12 : n1 ≤ 12) (hf : f ≤ n) (hn : n ≤ n1) (hf1 : 1 ≤ f) (hs : ∀ c, (cellO r c).size ≤ 200) (hrc : ∀ c, c < n1 → rcN (cellO r c) ≤ Ws.getD c 0) (hWs : ∀ c, Ws.getD c 0 ≤ 200) :
    Calls Tryd.prog 38 #[.slice ra n1 rc, .int .i64 (f : Int), .int .i64 (n : Int), .pointer (some ⟨Dn, 0, none⟩)] w fun e w' => e = .returned (.string ⟨(txtO Ws (cellO r) (0 :: List.range' f (n - f))).toArray⟩) ∧ Below w.heap.size w w' := by
  obtain ⟨TX, hTX⟩ : ∃ TX, TX = txtO Ws (cellO r) (0 :: List.range' f (n - f)) := ⟨_, rfl⟩
  rw [← hTX]
  obtain ⟨LN, hLN⟩ : ∃ LN, LN = lineR Ws (cellO r) f (n - f) := ⟨_, rfl⟩
  have HTX := Lib.hid (show TX = trimO LN ++ [10] by rw [hTX, hLN]; unfold txtO; rw [line_same])
  have HD := Lib.hid (fun (W : World) (hW : Below w.heap.size w W) => show W.cell? ⟨Dn, 0, none⟩ = some (.slice (some ⟨wb, 0, none⟩) n1 n1) from max_keep hD hW)
  have HWC := Lib.hid (fun (W : World) (hW : Below w.heap.size w W) (c : Nat) (hc : c < n1) => show W.cell? ⟨wb, c, none⟩ = some (.int .i64 (Ws.getD c 0 : Nat)) ∧ wb < W.heap.size from by
    obtain ⟨b, off, e, hb, hcell⟩ := nat_at (cs := Ws) (by rw [hWl]; exact hw) (k := c) (by rw [hWl]; exact hc)
    injection e with e; injection e with e1 e2; subst e1 e2
    rw [Nat.zero_add] at hcell
    exact ⟨max_keepC hcell hW, Nat.lt_of_lt_of_le hb hW.size⟩)
  have HSC := Lib.hid (fun (W : World) (hW : Below w.heap.size w W) => (hr.below hW (Nat.le_refl _)).of_le hW.size)
  have HS := Lib.hid hs; have HRC := Lib.hid hrc; have HWS := Lib.hid hWs
  have HLN := Lib.hid hLN
  have hra := hr.2.2.2 (by omega)
  obtain ⟨rb, ro, rfl, hrb, hrcell⟩ := hra
  have HRCL := Lib.hid (fun (W : World) (hW : Below w.heap.size w W) (c : Nat) (hc : c < n1) => show W.cell? ⟨rb, ro + c, none⟩ = some (.string (cellO r c)) ∧ rb < W.heap.size from ⟨max_keepC (hrcell c hc) hW, Nat.lt_of_lt_of_le hrb hW.size⟩)
  clear hTX hLN hD hw hr hs hrc hWs hrcell hrb
  obtain ⟨r0, hr0⟩ : ∃ r0, cellO r 0 = (⟨r0.toArray⟩ : ByteArray) := ⟨(cellO r 0).data.toList, (bS_of _).symm⟩
  have hr0d : (cellO r 0).data.toList = r0 := by rw [hr0, bS_list]
  have hr0l : r0.length ≤ 200 := by have := HS.out 0; rw [hr0, bS_size] at this; exact this
  obtain ⟨q0, hq0⟩ : ∃ q, q = rcN (cellO r 0) := ⟨_, rfl⟩
  obtain ⟨w0, hw0⟩ : ∃ x, x = Ws.getD 0 0 := ⟨_, rfl⟩
  have hqw : q0 ≤ w0 := by rw [hq0, hw0]; exact HRC.out 0 (by omega)
  have hw0l : w0 ≤ 200 := by rw [hw0]; exact HWS.out 0
  have CR0 := Lib.hid (lib_RuneCount (cellO r 0) w (by have := HS.out 0; omega))
  rw [← hq0, hr0] at CR0
  have x0 := HRCL.out w (Below.refl _ _) 0 (by omega)
  rw [Nat.add_zero, hr0] at x0
  obtain ⟨x0, xl⟩ := x0
  have HLN2 := Lib.hid (show LN = (r0 ++ spO (w0 - q0)) ++ (List.range' f (n - f)).flatMap fun i => [32, 32] ++ padO Ws (cellO r) i by
    rw [HLN.out]; unfold lineR
    rw [show padO Ws (cellO r) 0 = r0 ++ spO (w0 - q0) by unfold padO; rw [hr0d, hw0, hq0]])
  have HW0 := Lib.hid hw0
  clear hr0 hr0d hq0 hw0
  go_enter Tryd.func38, Tryd.ntmps38
  go_upto_region 3 with (refine CR0.out.mono ?_; rintro e w1 ⟨rfl, hb1⟩)
  have HB1 := Lib.hid hb1
  clear hb1 x0 CR0
  go_loopw [8, 9] (fun s kv wr => ∃ (k : Nat) (l : List UInt8), kv = .int .i64 k ∧ s = .string ⟨l.toArray⟩ ∧ q0 ≤ k ∧ k ≤ w0 ∧ l = r0 ++ spO (k - q0) ∧ Below w.heap.size w wr) (fun _ kv _ => w0 - (intOf kv).toNat)
  case atStart => exact ⟨q0, r0, rfl, rfl, Nat.le_refl _, hqw, by rw [Nat.sub_self]; unfold spO; simp, HB1.out⟩
  case round =>
    obtain ⟨k, l, rfl, rfl, hk1, hk2, hl, hb⟩ := hrel
    have hll : l.length ≤ 400 := by rw [hl, List.length_append]; unfold spO; rw [List.length_replicate]; omega
    have x1 := HD.out wr hb
    obtain ⟨x2, x3⟩ := HWC.out wr hb 0 (by omega)
    rw [← HW0.out] at x2
    by_cases hlt : k < w0
    · obtain ⟨l2, hl2⟩ : ∃ l2, l2 = l ++ [32] := ⟨_, rfl⟩
      have a1 := addL l [32] l2 hl2.symm (by rw [hl2, List.length_append]; simp; omega)
      have HL2 := Lib.hid (show l2 = r0 ++ spO (k + 1 - q0) by rw [hl2, hl, show k + 1 - q0 = (k - q0) + 1 by omega, spO_snoc]; simp)
      clear hl hl2
      go_wp2_with fail
      go_roundw
      case rel => exact ⟨k + 1, l2, by go_num, rfl, by omega, by omega, HL2.out, hb⟩
      case measure => simp [intOf]; omega
    · obtain rfl : k = w0 := by omega
      have HLN3 := Lib.hid (show LN = l ++ (List.range' f (n - f)).flatMap fun i => [32, 32] ++ padO Ws (cellO r) i by rw [HLN2.out, hl])
      have HB2 := Lib.hid hb
      clear hl hb hlt
      go_upto_region 7 with fail
      clear x1 x2 x3
      go_loopw [8, 10, 11] (fun s iv kv wx => ∃ (i : Nat) (l : List UInt8), iv = .int .i64 i ∧ s = .string ⟨l.toArray⟩ ∧ f ≤ i ∧ i ≤ n ∧ LN = l ++ (List.range' i (n - i)).flatMap (fun i => [32, 32] ++ padO Ws (cellO r) i) ∧ l.length ≤ 400 + (i - f) * 402 ∧ Below w.heap.size w wx ∧ (∃ V, V = kv)) (fun _ iv _ _ => n - (intOf iv).toNat)
      case atStart => exact ⟨f, l, rfl, rfl, Nat.le_refl _, hf, HLN3.out, by omega, HB2.out, ⟨_, rfl⟩⟩
      case round =>
        obtain ⟨i, l, rfl, rfl, hi1, hi2, hln, hll, hb, ⟨V11, rfl⟩⟩ := hrel
        have HLL := Lib.hid hln
        have hll2 : l.length ≤ 400 + 12 * 402 := Nat.le_trans hll (by have := Nat.mul_le_mul_right 402 (show i - f ≤ 12 by omega); omega)
        by_cases hlt : i < n
        · have hin : i < n1 := by omega
          obtain ⟨x1, x2⟩ := HRCL.out wr hb i hin
          obtain ⟨ri, hri⟩ : ∃ ri, cellO r i = (⟨ri.toArray⟩ : ByteArray) := ⟨(cellO r i).data.toList, (bS_of _).symm⟩
          have hrid : (cellO r i).data.toList = ri := by rw [hri, bS_list]
          have hril : ri.length ≤ 200 := by have := HS.out i; rw [hri, bS_size] at this; exact this
          obtain ⟨qi, hqi⟩ : ∃ q, q = rcN (cellO r i) := ⟨_, rfl⟩
          obtain ⟨wi, hwi⟩ : ∃ x, x = Ws.getD i 0 := ⟨_, rfl⟩
          have hqwi : qi ≤ wi := by rw [hqi, hwi]; exact HRC.out i hin
          have hwil : wi ≤ 200 := by rw [hwi]; exact HWS.out i
          have CRi := Lib.hid (fun W => lib_RuneCount (cellO r i) W (by have := HS.out i; omega))
          rw [← hqi, hri] at CRi
          rw [hri] at x1
          obtain ⟨s2, hs2⟩ : ∃ s, s = [32, 32] ++ ri := ⟨_, rfl⟩
          obtain ⟨l2, hl2⟩ : ∃ l2, l2 = l ++ s2 := ⟨_, rfl⟩
          have hs2l : s2.length ≤ 202 := by rw [hs2, List.length_append]; simp; omega
          have hl2l : l2.length ≤ l.length + 202 := by rw [hl2, List.length_append]; omega
          have a1 := addL [32, 32] ri s2 hs2.symm (by omega)
          have a2 := addL l s2 l2 hl2.symm (by omega)
          have HWI := Lib.hid hwi
          have HLI := Lib.hid (show LN = (l2 ++ spO (wi - qi)) ++ (List.range' (i + 1) (n - (i + 1))).flatMap (fun i => [32, 32] ++ padO Ws (cellO r) i) by
            rw [hln, range_step i n hlt, List.flatMap_cons, show padO Ws (cellO r) i = ri ++ spO (wi - qi) by unfold padO; rw [hrid, hwi, hqi], hl2, hs2]
            simp)
          have HB3 := Lib.hid hb
          clear hri hrid hqi hwi hs2 hl2 hln
          go_upto_region 11 with (refine (CRi.out _).mono ?_; rintro e w2 ⟨rfl, hb2⟩)
          have HB4 := Lib.hid (below_then HB3.out hb2)
          clear hb hb2 x1 x2 CRi
          go_loopw [8, 11] (fun s kv wy => ∃ (k : Nat) (l' : List UInt8), kv = .int .i64 k ∧ s = .string ⟨l'.toArray⟩ ∧ qi ≤ k ∧ k ≤ wi ∧ l' = l2 ++ spO (k - qi) ∧ Below w.heap.size w wy) (fun _ kv _ => wi - (intOf kv).toNat)
          case atStart => exact ⟨qi, l2, rfl, rfl, Nat.le_refl _, hqwi, by rw [Nat.sub_self]; unfold spO; simp, HB4.out⟩
          case round =>
            obtain ⟨k, l', rfl, rfl, hk1, hk2, hl', hb⟩ := hrel
            have hll' : l'.length ≤ l2.length + 200 := by rw [hl', List.length_append]; unfold spO; rw [List.length_replicate]; omega
            have x1 := HD.out wr hb
            obtain ⟨x2, x3⟩ := HWC.out wr hb i hin
            rw [← HWI.out] at x2
            by_cases hlt2 : k < wi
            · obtain ⟨l3, hl3⟩ : ∃ l3, l3 = l' ++ [32] := ⟨_, rfl⟩
              have a3 := addL l' [32] l3 hl3.symm (by rw [hl3, List.length_append]; simp; omega)
              have HL3 := Lib.hid (show l3 = l2 ++ spO (k + 1 - qi) by rw [hl3, hl', show k + 1 - qi = (k - qi) + 1 by omega, spO_snoc]; simp)
              clear hl' hl3
              go_wp2_with fail
              go_roundw
              case rel => exact ⟨k + 1, l3, by go_num, rfl, by omega, by omega, HL3.out, hb⟩
              case measure => simp [intOf]; omega
            · obtain rfl : k = wi := by omega
              have HLJ := Lib.hid (show LN = l' ++ (List.range' (i + 1) (n - (i + 1))).flatMap (fun i => [32, 32] ++ padO Ws (cellO r) i) by rw [HLI.out, hl'])
              clear hl'
              go_wp2_with fail
              go_roundw
              case rel => exact ⟨i + 1, l', by go_num, rfl, by omega, by omega, HLJ.out, by rw [show i + 1 - f = (i - f) + 1 by omega, Nat.succ_mul]; omega, hb, ⟨_, rfl⟩⟩
              case measure => simp [intOf]; omega
        · obtain rfl : i = n := by omega
          have hfin : LN = l := by rw [hln, Nat.sub_self]; simp
          subst hfin
          have CT := Lib.hid (fun W => lib_TrimR LN W (by omega))
          have htl := trimO_le LN
          obtain ⟨tr, htr⟩ : ∃ t, t = trimO LN := ⟨_, rfl⟩
          rw [← htr] at CT htl
          obtain ⟨t2, ht2⟩ : ∃ t, t = tr ++ [10] := ⟨_, rfl⟩
          have a1 := addL tr [10] t2 ht2.symm (by rw [ht2, List.length_append]; simp; omega)
          have HFIN := Lib.hid (show t2 = TX by rw [HTX.out, ht2, htr])
          clear hln hlt htr ht2
          go_wp2_with fail
          refine (CT.out _).mono ?_
          rintro e w5 ⟨rfl, rfl⟩
          go_wp2_with fail
          go_ret
          exact ⟨by rw [← HFIN.out]; rfl, hb⟩
end Go.Proofs.YthpiiocncdpimaaDoor
