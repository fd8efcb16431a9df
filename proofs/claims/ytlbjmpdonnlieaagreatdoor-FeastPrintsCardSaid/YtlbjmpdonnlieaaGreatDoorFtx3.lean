/- Contracts of the reference's grade, kidText and FeastText. -/
import Derived.Test.YtlbjmpdonnlieaaGreatDoorFtx2
namespace Go.Proofs.YtlbjmpdonnlieaaGreatDoor
set_option linter.unusedVariables false
set_option linter.unusedSimpArgs false
set_option maxRecDepth 100000
open Go.RowKit Go.Shelf

theorem ref_grade (k : Int) (w : World) : Calls Tryz.prog 99 #[.int .i64 k] w fun e w' => e = .returned (.int .i64 (lvF k + 1)) ∧ w = w' := by
  by_cases h : k = 9 ∨ k = 10 ∨ k = 11 ∨ k = 8 ∨ k = 12 ∨ k = 7
  · rcases h with rfl | rfl | rfl | rfl | rfl | rfl
    all_goals
      go_enter Tryz.func99, Tryz.ntmps99
      go_wp2_with fail
      go_ret
      exact ⟨rfl, rfl⟩
  · have ho := Lib.hid (show lvF k = 4 by unfold lvF; rw [if_neg (by omega), if_neg (by omega), if_neg (by omega), if_neg (by omega)])
    have h7 := kne (show k ≠ 7 by omega)
    have h8 := kne (show k ≠ 8 by omega)
    have h9 := kne (show k ≠ 9 by omega)
    have h10 := kne (show k ≠ 10 by omega)
    have h11 := kne (show k ≠ 11 by omega)
    have h12 := kne (show k ≠ 12 by omega)
    clear h
    go_enter Tryz.func99, Tryz.ntmps99
    go_wp2_with fail
    go_ret
    exact ⟨ret_int (by rw [ho.out]; rfl), rfl⟩
set_option maxHeartbeats 2000000 in
theorem ref_kidText (V : World) (k x y : Int) (s : ByteArray) (ad : Option Addr) (n c : Nat) (T : List UInt8) (j : Int) (hT : T.length ≤ 4800) (h : ∀ V', Below V.heap.size V V' → Calls Tryz.prog 25 #[.agg (fV k x y s ad n c)] V' (ShowPost T V')) :
    Calls Tryz.prog 54 #[.agg (fV k x y s ad n c), .int .i64 (j + 1)] V (ShowPost (parF j k T) V) := by
  unfold ShowPost at h ⊢
  have H := Lib.hid h; clear h
  obtain ⟨l, hl⟩ : ∃ l, l = lvF k := ⟨_, rfl⟩
  have CG := Lib.hid (fun W => ref_grade k W)
  rw [← hl] at CG
  obtain ⟨R, hR⟩ : ∃ R, R = parF j k T := ⟨_, rfl⟩
  rw [← hR]
  have HR : (l < j ∧ Hid (R = [40] ++ T ++ [41])) ∨ (j ≤ l ∧ Hid (R = T)) := by
    by_cases h : l < j
    · exact .inl ⟨h, by rw [hR]; unfold parF; rw [← hl, if_pos h]; rfl⟩
    · exact .inr ⟨by omega, by rw [hR]; unfold parF; rw [← hl, if_neg h]; rfl⟩
  clear hl hR
  have e1 := add_list [40] T ([40] ++ T) rfl (by simp only [List.length_cons, List.length_nil]; omega)
  have e2 := add_list ([40] ++ T) [41] ([40] ++ T ++ [41]) rfl (by simp only [List.length_append, List.length_cons, List.length_nil]; omega)
  generalize [40] ++ T = B1 at *
  generalize B1 ++ [41] = B2 at *
  have o0 := One.new V (fO k x y s ad n c)
  rcases HR with ⟨h, HR⟩ | ⟨h, HR⟩
  case inl =>
    have hd : decide (l < j) = true := decide_eq_true h
    clear h
    go_enter Tryz.func54, Tryz.ntmps54
    go_upto_region 1 with fail
    generalize World.alloc V _ = W0 at o0 ⊢
    have hq0 : Below V.heap.size V W0 := o0.2
    have o1 := o0.1
    have d0 := o1.cell 0; have d1 := o1.cell 1; have d2 := o1.cell 2; have d3 := o1.cell 3; have d4 := o1.cell 4; simp at d0 d1 d2 d3 d4
    go_upto_region 2 with (go_at_call 25; refine (H.out _ hq0).mono ?_; rintro e w1 ⟨rfl, hb⟩)
    have hq1 := below_then hq0 hb
    have f0 : w1.cell? ⟨V.heap.size, 0, none⟩ = some (.int .i64 k) := (o1.then_ hb).cell 0
    clear d0 d1 d2 d3 d4 o1 o0 hb
    go_wp2_with (go_at_call 99; refine (CG.out _).mono ?_; rintro e w2 ⟨rfl, rfl⟩)
    go_ret
    exact ⟨by rw [HR.out]; rfl, hq1⟩
  case inr =>
    have hd : decide (l < j) = false := decide_eq_false (by omega)
    clear h
    go_enter Tryz.func54, Tryz.ntmps54
    go_upto_region 1 with fail
    generalize World.alloc V _ = W0 at o0 ⊢
    have hq0 : Below V.heap.size V W0 := o0.2
    have o1 := o0.1
    have d0 := o1.cell 0; have d1 := o1.cell 1; have d2 := o1.cell 2; have d3 := o1.cell 3; have d4 := o1.cell 4; simp at d0 d1 d2 d3 d4
    go_upto_region 2 with (go_at_call 25; refine (H.out _ hq0).mono ?_; rintro e w1 ⟨rfl, hb⟩)
    have hq1 := below_then hq0 hb
    have f0 : w1.cell? ⟨V.heap.size, 0, none⟩ = some (.int .i64 k) := (o1.then_ hb).cell 0
    clear d0 d1 d2 d3 d4 o1 o0 hb
    go_wp2_with (go_at_call 99; refine (CG.out _).mono ?_; rintro e w2 ⟨rfl, rfl⟩)
    go_ret
    exact ⟨by rw [HR.out]; rfl, hq1⟩
abbrev TextGoal (w : World) (t : Fst) (ad : Option Addr) (len cap : Nat) : Prop := Calls Tryz.prog 25 #[.agg (fV t.kind t.va t.vb t.nm ad len cap)] w (ShowPost (txtF t) w)
set_option maxHeartbeats 16000000 in
theorem ref_FeastText : ∀ (t : Fst) (w : World) (ad : Option Addr) (len cap : Nat), fstOk t → FSub w w.heap.size t ad len → len ≤ cap → cap ≤ 9223372036854775807 → (txtF t).length ≤ 4800 → Pow w → TextGoal w t ad len cap := by
  intro t
  refine Fst.all (P := fun t => ∀ (w : World) (ad : Option Addr) (len cap : Nat), fstOk t → FSub w w.heap.size t ad len → len ≤ cap → cap ≤ 9223372036854775807 → (txtF t).length ≤ 4800 → Pow w → TextGoal w t ad len cap) ?_ t
  intro k a b s ks ih w ad len cap hok hsub hlc hcap hsz ht
  obtain ⟨⟨a1, a2⟩, ⟨b1, b2⟩, hs⟩ := num_in hok
  obtain ⟨k1, k2, hkn, hl2⟩ := formB_len (fstOk_node hok).1
  have hkid := txtF_kid (k := k) (a := a) (b := b) (s := s) hl2
  have hlen := hsub.len.1
  obtain ⟨IA, hIA⟩ : ∃ l, l = Lib.itoa a := ⟨_, rfl⟩
  obtain ⟨IB, hIB⟩ : ∃ l, l = Lib.itoa b := ⟨_, rfl⟩
  have lA : IA.length ≤ 21 := by rw [hIA]; exact itoa_small a1 a2
  have lB : IB.length ≤ 21 := by rw [hIB]; exact itoa_small b1 b2
  have CA := Lib.hid (fun (W : World) (hW : Below w.heap.size w W) => show Calls Tryz.prog 53 #[.int .i64 a] W (fun e w' => e = .returned (.string ⟨IA.toArray⟩) ∧ Below W.heap.size W w') from by rw [hIA]; exact lib_Itoa a W (by omega) (by omega) (ht.below hW))
  have CB := Lib.hid (fun (W : World) (hW : Below w.heap.size w W) => show Calls Tryz.prog 53 #[.int .i64 b] W (fun e w' => e = .returned (.string ⟨IB.toArray⟩) ∧ Below W.heap.size W w') from by rw [hIB]; exact lib_Itoa b W (by omega) (by omega) (ht.below hW))
  obtain ⟨sl, hsl⟩ : ∃ sl, s.data.toList = sl := ⟨_, rfl⟩
  have hss : s = ⟨sl.toArray⟩ := by rw [← hsl]
  rw [hsl] at hs
  obtain ⟨B, hB⟩ : ∃ B, B = txtF (.node k a b s ks) := ⟨_, rfl⟩
  rw [← hB] at hsz hkid
  have KIDS := Lib.hid (fun (t : Fst) (ht : t ∈ ks) => fstOks_mem (fstOk_node hok).2.2.2 ht)
  unfold TextGoal
  simp only [Fst.kind, Fst.va, Fst.vb, Fst.nm]
  rw [← hB]
  subst hss
  have HIA := Lib.hid hIA; have HIB := Lib.hid hIB
  have HB := Lib.hid hB; have HKID := Lib.hid hkid; have HLEN := Lib.hid hlen; have HKN := Lib.hid hkn; have HSUB := Lib.hid hsub
  have HT := Lib.hid ht; have IH := Lib.hid ih; have HL2 := Lib.hid hl2; have HSZ := Lib.hid hsz; have HKK := Lib.hid (And.intro k1 k2)
  clear hok hsub hkid hlen hIA hIB hsl hB hkn hl2 ht ih hsz k1 k2
  have u0 := At.new w (fO k a b ⟨sl.toArray⟩ ad len cap)
  have q1 := below_new (Below.refl w.heap.size w) (fO k a b ⟨sl.toArray⟩ ad len cap)
  go_enter Tryz.func25, Tryz.ntmps25
  go_upto_region 1 with fail
  obtain ⟨T, hT⟩ : ∃ T, T = w.heap.size := ⟨_, rfl⟩
  rw [← hT] at u0 ⊢
  generalize World.alloc w _ = W1 at u0 q1 ⊢
  clear hT
  have SH := Lib.hid u0
  have Q1 := Lib.hid q1
  clear u0 q1
  (refine region_class (Below W1.heap.size W1) (by kernel_rfl) (by kernel_rfl) ((Below.refl _ _).drew) ?_; repeat ((first | (refine class_take ?_ (by rfl) ?_ ?_; rotate_left; focus (intro wq hq; ((have hs := SH.out.then_ hq; have hqw := below_then Q1.out hq; have f1 : wq.cell? ⟨T, 1, none⟩ = some (.int .i64 a) := hs.cell 1; have f2 : wq.cell? ⟨T, 2, none⟩ = some (.int .i64 b) := hs.cell 2)); go_simp; first | done | with_reducible rfl | ((first | (go_at_call 53; (with_reducible refine (CA.out _ hqw).mono ?_); rintro e w' ⟨rfl, hb⟩; refine ⟨?_, below_then hq hb⟩; with_reducible rfl) | (go_at_call 53; (with_reducible refine (CB.out _ hqw).mono ?_); rintro e w' ⟨rfl, hb⟩; refine ⟨?_, below_then hq hb⟩; with_reducible rfl))))) | refine class_skip (by rfl) ?_); try simp only [Act.put, List.setIfInBounds_toArray, List.set_cons_zero, List.set_cons_succ]))
  refine wpQuiet_nil ?_
  intro W2 hW2
  have Q2 := Lib.hid (below_then Q1.out hW2)
  have S2 := Lib.hid (SH.out.then_ hW2)
  clear hW2 SH Q1 CA CB
  have s2 := S2.out
  have d0 := s2.cell 0; have d1 := s2.cell 1; have d2 := s2.cell 2; have d3 := s2.cell 3; have d4 := s2.cell 4; simp at d0 d1 d2 d3 d4
  clear s2
  unfold ShowPost
  have hlb := HSZ.out
  obtain ⟨k1, k2⟩ := HKK.out
  rcases kind_of k1 k2 with rfl | rfl | rfl | rfl | rfl | rfl | rfl | rfl | rfl | rfl | rfl | rfl
  all_goals clear k1 k2
  · -- 1
    have hl0 : len = 0 := by have h1 := HLEN.out; have h2 := HKN.out; have h3 : kidsN 1 = 0 := rfl; omega
    obtain rfl : ks = [] := List.length_eq_zero_iff.1 (by have h1 := HLEN.out; omega)
    have HBB := Lib.hid (show B = [100, 97, 116, 101, 32] ++ sl ++ [32] ++ IA ++ [32] ++ IB from by rw [HB.out, txtF_0, HIA.out, HIB.out]; rfl)
    obtain ⟨L1, hL1⟩ : ∃ S, [100, 97, 116, 101, 32] ++ sl = S := ⟨_, rfl⟩
    obtain ⟨L2, hL2⟩ : ∃ S, L1 ++ [32] = S := ⟨_, rfl⟩
    obtain ⟨L3, hL3⟩ : ∃ S, L2 ++ IA = S := ⟨_, rfl⟩
    obtain ⟨L4, hL4⟩ : ∃ S, L3 ++ [32] = S := ⟨_, rfl⟩
    have zL1 : L1.length ≤ 5040 := by rw [← hL1]; (simp only [List.length_append]; try simp only [List.length_cons, List.length_nil]); omega
    have eL1 := add_list ([100, 97, 116, 101, 32]) (sl) L1 hL1 (by (try simp only [List.length_cons, List.length_nil]); omega)
    have zL2 : L2.length ≤ 5080 := by rw [← hL2]; (simp only [List.length_append]; try simp only [List.length_cons, List.length_nil]); omega
    have eL2 := add_list L1 ([32]) L2 hL2 (by (try simp only [List.length_cons, List.length_nil]); omega)
    have zL3 : L3.length ≤ 5120 := by rw [← hL3]; (simp only [List.length_append]; try simp only [List.length_cons, List.length_nil]); omega
    have eL3 := add_list L2 (IA) L3 hL3 (by (try simp only [List.length_cons, List.length_nil]); omega)
    have zL4 : L4.length ≤ 5160 := by rw [← hL4]; (simp only [List.length_append]; try simp only [List.length_cons, List.length_nil]); omega
    have eL4 := add_list L3 ([32]) L4 hL4 (by (try simp only [List.length_cons, List.length_nil]); omega)
    have eL5 := add_list L4 (IB) B (by have := HBB.out.symm; rw [hL1, hL2, hL3, hL4] at this; exact this) (by (try simp only [List.length_cons, List.length_nil]); omega)
    clear hL1 hL2 hL3 hL4
    clear hl0
    go_wp2_with fail
    go_ret
    exact ⟨rfl, Q2.out⟩
  · -- 2
    have hl0 : len = 0 := by have h1 := HLEN.out; have h2 := HKN.out; have h3 : kidsN 2 = 0 := rfl; omega
    obtain rfl : ks = [] := List.length_eq_zero_iff.1 (by have h1 := HLEN.out; omega)
    have HBB := Lib.hid (show B = [109, 111, 110, 116, 104, 32] ++ sl ++ [32] ++ IA from by rw [HB.out, txtF_0, HIA.out]; rfl)
    obtain ⟨L1, hL1⟩ : ∃ S, [109, 111, 110, 116, 104, 32] ++ sl = S := ⟨_, rfl⟩
    obtain ⟨L2, hL2⟩ : ∃ S, L1 ++ [32] = S := ⟨_, rfl⟩
    have zL1 : L1.length ≤ 5040 := by rw [← hL1]; (simp only [List.length_append]; try simp only [List.length_cons, List.length_nil]); omega
    have eL1 := add_list ([109, 111, 110, 116, 104, 32]) (sl) L1 hL1 (by (try simp only [List.length_cons, List.length_nil]); omega)
    have zL2 : L2.length ≤ 5080 := by rw [← hL2]; (simp only [List.length_append]; try simp only [List.length_cons, List.length_nil]); omega
    have eL2 := add_list L1 ([32]) L2 hL2 (by (try simp only [List.length_cons, List.length_nil]); omega)
    have eL3 := add_list L2 (IA) B (by have := HBB.out.symm; rw [hL1, hL2] at this; exact this) (by (try simp only [List.length_cons, List.length_nil]); omega)
    clear hL1 hL2
    clear hl0
    go_wp2_with fail
    go_ret
    exact ⟨rfl, Q2.out⟩
  · -- 3
    have hl0 : len = 0 := by have h1 := HLEN.out; have h2 := HKN.out; have h3 : kidsN 3 = 0 := rfl; omega
    obtain rfl : ks = [] := List.length_eq_zero_iff.1 (by have h1 := HLEN.out; omega)
    have HBB := Lib.hid (show B = [119, 101, 101, 107, 100, 97, 121, 32] ++ IA from by rw [HB.out, txtF_0, HIA.out]; rfl)
    have eL1 := add_list ([119, 101, 101, 107, 100, 97, 121, 32]) (IA) B (by have := HBB.out.symm; exact this) (by (try simp only [List.length_cons, List.length_nil]); omega)
    clear hl0
    go_wp2_with fail
    go_ret
    exact ⟨rfl, Q2.out⟩
  · -- 4
    have hl0 : len = 0 := by have h1 := HLEN.out; have h2 := HKN.out; have h3 : kidsN 4 = 0 := rfl; omega
    obtain rfl : ks = [] := List.length_eq_zero_iff.1 (by have h1 := HLEN.out; omega)
    have HBB := Lib.hid (show B = [101, 118, 101, 114, 121, 32] ++ IA ++ [32] ++ IB from by rw [HB.out, txtF_0, HIA.out, HIB.out]; rfl)
    obtain ⟨L1, hL1⟩ : ∃ S, [101, 118, 101, 114, 121, 32] ++ IA = S := ⟨_, rfl⟩
    obtain ⟨L2, hL2⟩ : ∃ S, L1 ++ [32] = S := ⟨_, rfl⟩
    have zL1 : L1.length ≤ 5040 := by rw [← hL1]; (simp only [List.length_append]; try simp only [List.length_cons, List.length_nil]); omega
    have eL1 := add_list ([101, 118, 101, 114, 121, 32]) (IA) L1 hL1 (by (try simp only [List.length_cons, List.length_nil]); omega)
    have zL2 : L2.length ≤ 5080 := by rw [← hL2]; (simp only [List.length_append]; try simp only [List.length_cons, List.length_nil]); omega
    have eL2 := add_list L1 ([32]) L2 hL2 (by (try simp only [List.length_cons, List.length_nil]); omega)
    have eL3 := add_list L2 (IB) B (by have := HBB.out.symm; rw [hL1, hL2] at this; exact this) (by (try simp only [List.length_cons, List.length_nil]); omega)
    clear hL1 hL2
    clear hl0
    go_wp2_with fail
    go_ret
    exact ⟨rfl, Q2.out⟩
  · -- 5
    have hl0 : len = 0 := by have h1 := HLEN.out; have h2 := HKN.out; have h3 : kidsN 5 = 0 := rfl; omega
    obtain rfl : ks = [] := List.length_eq_zero_iff.1 (by have h1 := HLEN.out; omega)
    have HBB := Lib.hid (show B = [100, 97, 121, 32] ++ IA from by rw [HB.out, txtF_0, HIA.out]; rfl)
    have eL1 := add_list ([100, 97, 121, 32]) (IA) B (by have := HBB.out.symm; exact this) (by (try simp only [List.length_cons, List.length_nil]); omega)
    clear hl0
    go_wp2_with fail
    go_ret
    exact ⟨rfl, Q2.out⟩
  · -- 6
    have hl0 : len = 0 := by have h1 := HLEN.out; have h2 := HKN.out; have h3 : kidsN 6 = 0 := rfl; omega
    obtain rfl : ks = [] := List.length_eq_zero_iff.1 (by have h1 := HLEN.out; omega)
    have HBB := Lib.hid (show B = [100, 97, 121, 115, 32] ++ IA ++ [32] ++ IB from by rw [HB.out, txtF_0, HIA.out, HIB.out]; rfl)
    obtain ⟨L1, hL1⟩ : ∃ S, [100, 97, 121, 115, 32] ++ IA = S := ⟨_, rfl⟩
    obtain ⟨L2, hL2⟩ : ∃ S, L1 ++ [32] = S := ⟨_, rfl⟩
    have zL1 : L1.length ≤ 5040 := by rw [← hL1]; (simp only [List.length_append]; try simp only [List.length_cons, List.length_nil]); omega
    have eL1 := add_list ([100, 97, 121, 115, 32]) (IA) L1 hL1 (by (try simp only [List.length_cons, List.length_nil]); omega)
    have zL2 : L2.length ≤ 5080 := by rw [← hL2]; (simp only [List.length_append]; try simp only [List.length_cons, List.length_nil]); omega
    have eL2 := add_list L1 ([32]) L2 hL2 (by (try simp only [List.length_cons, List.length_nil]); omega)
    have eL3 := add_list L2 (IB) B (by have := HBB.out.symm; rw [hL1, hL2] at this; exact this) (by (try simp only [List.length_cons, List.length_nil]); omega)
    clear hL1 hL2
    clear hl0
    go_wp2_with fail
    go_ret
    exact ⟨rfl, Q2.out⟩
  · -- 7
    obtain rfl : len = 1 := by have h1 := HLEN.out; have h2 := HKN.out; have h3 : kidsN 7 = 1 := rfl; omega
    obtain ⟨bb, off, rfl, hbB, hcs⟩ := HSUB.out.kid (by omega)
    obtain ⟨k0', x0', y0', s0', ks0', ad0', n0', cc0, hx0, ⟨p00, p01, p02, p03, p04, j01, j02⟩, hk0⟩ := hcs 0 (by omega)
    simp only [Fst.kind, Fst.va, Fst.vb, Fst.nm, Nat.zero_mul, Nat.one_mul, Nat.add_zero] at p00 p01 p02 p03 p04
    have hm0 : Fst.node k0' x0' y0' s0' ks0' ∈ ks := List.mem_of_getElem? hx0
    have hzk0 := Nat.le_trans (HKID.out _ hm0) hlb
    have KA0 := Lib.hid (show KidAt w bb off k0' x0' y0' s0' ad0' n0' cc0 from ⟨hbB, p00, p01, p02, p03, p04⟩)
    obtain ⟨KT, hKT⟩ : ∃ X, X = parF 3 k0' (txtF (.node k0' x0' y0' s0' ks0')) := ⟨_, rfl⟩
    have lKT : KT.length ≤ 4802 := by rw [hKT]; have := (parF_len 3 k0' (txtF (.node k0' x0' y0' s0' ks0'))).2; omega
    have HC0 := Lib.hid (fun (V : World) (hV : Below w.heap.size w V) => show Calls Tryz.prog 54 #[.agg (fV k0' x0' y0' s0' ad0' n0' cc0), .int .i64 4] V (ShowPost KT V) from by
      rw [hKT]
      refine ref_kidText V k0' x0' y0' s0' ad0' n0' cc0 (txtF (.node k0' x0' y0' s0' ks0')) 3 (by omega) (fun V' hV' => ?_)
      have hVV := below_then hV hV'
      have h := IH.out _ hm0 V' ad0' n0' cc0 (KIDS.out _ hm0) ((hk0.below hVV (Nat.le_refl _)).more hVV.size) j01 j02 hzk0 (HT.out.below hVV)
      unfold TextGoal at h
      simp only [Fst.kind, Fst.va, Fst.vb, Fst.nm] at h
      exact h)
    unfold ShowPost at HC0
    clear p00 p01 p02 p03 p04 hk0 hzk0
    obtain ⟨t', rfl⟩ : ∃ t', ks = [t'] := by
      have := HLEN.out
      match ks, this with
      | [x], _ => exact ⟨x, rfl⟩
    obtain rfl : t' = .node k0' x0' y0' s0' ks0' := by simpa using hx0
    clear hcs hx0 hm0 j01 j02
    have HKT := Lib.hid (show KT = parF (lvF 7) k0' (txtF (.node k0' x0' y0' s0' ks0')) from hKT)
    clear hKT
    by_cases ha : a < 0
    · have hd : decide (a < 0) = true := decide_eq_true ha
      obtain ⟨ID, hID⟩ : ∃ X, X = IA.drop 1 := ⟨_, rfl⟩
      have lD : ID.length ≤ 21 := by rw [hID, List.length_drop]; omega
      have hia1 : 1 ≤ IA.length := by rw [HIA.out]; exact itoa_neg ha
      have sq := slice_low ⟨IA.toArray⟩ ⟨ID.toArray⟩ 1 (by omega) (by rw [arr_size]; omega) (by rw [hID]; exact drop_str IA)
      have HBB := Lib.hid (show B = KT ++ [32, 45, 32] ++ ID from by rw [HB.out, txtF_1, hID, HIA.out, HKT.out]; show oneF 7 a b sl _ = _; unfold oneF; rw [if_pos rfl, if_pos ha]; rfl)
      obtain ⟨L1, hL1⟩ : ∃ S, KT ++ [32, 45, 32] = S := ⟨_, rfl⟩
      have zL1 : L1.length ≤ 5040 := by rw [← hL1]; (simp only [List.length_append]; try simp only [List.length_cons, List.length_nil]); omega
      have eL1 := add_list KT ([32, 45, 32]) L1 hL1 (by (try simp only [List.length_cons, List.length_nil]); omega)
      have eL2 := add_list L1 (ID) B (by have := HBB.out.symm; rw [hL1] at this; exact this) (by (try simp only [List.length_cons, List.length_nil]); omega)
      clear hL1
      clear hID ha
      go_upto_region 17 with fail
      (refine region_class (Below W2.heap.size W2) (by kernel_rfl) (by kernel_rfl) ((Below.refl _ _).drew) ?_; repeat ((first | (refine class_take ?_ (by rfl) ?_ ?_; rotate_left; focus (intro wq hq; ((have hs := S2.out.then_ hq; have hqw := below_then Q2.out hq; have f3 : wq.cell? ⟨T, 3, none⟩ = some (.string ⟨sl.toArray⟩) := hs.cell 3; have f4 : wq.cell? ⟨T, 4, none⟩ = some (.slice (some ⟨bb, off, none⟩) 1 cap) := hs.cell 4; obtain ⟨gl, p0, p1, p2, p3, p4⟩ := KA0.out.then_ hqw)); go_simp; first | done | with_reducible rfl | ((go_at_call 54; (with_reducible refine (HC0.out _ hqw).mono ?_); rintro e w' ⟨rfl, hb⟩; refine ⟨?_, below_then hq hb⟩; with_reducible rfl)))) | refine class_skip (by rfl) ?_); try simp only [Act.put, List.setIfInBounds_toArray, List.set_cons_zero, List.set_cons_succ]))
      refine wpQuiet_nil ?_
      intro W3 hW3
      go_wp2_with fail
      go_ret
      exact ⟨rfl, below_then Q2.out hW3⟩
    · have hd : decide (a < 0) = false := decide_eq_false ha
      have HBB := Lib.hid (show B = KT ++ [32, 43, 32] ++ IA from by rw [HB.out, txtF_1, HIA.out, HKT.out]; show oneF 7 a b sl _ = _; unfold oneF; rw [if_pos rfl, if_neg ha]; rfl)
      obtain ⟨L1, hL1⟩ : ∃ S, KT ++ [32, 43, 32] = S := ⟨_, rfl⟩
      have zL1 : L1.length ≤ 5040 := by rw [← hL1]; (simp only [List.length_append]; try simp only [List.length_cons, List.length_nil]); omega
      have eL1 := add_list KT ([32, 43, 32]) L1 hL1 (by (try simp only [List.length_cons, List.length_nil]); omega)
      have eL2 := add_list L1 (IA) B (by have := HBB.out.symm; rw [hL1] at this; exact this) (by (try simp only [List.length_cons, List.length_nil]); omega)
      clear hL1
      clear ha
      obtain ⟨gl, p0, p1, p2, p3, p4⟩ := KA0.out.then_ Q2.out
      go_wp2_with (go_at_call 54; refine (HC0.out _ Q2.out).mono ?_; rintro e w' ⟨rfl, hb⟩)
      go_ret
      exact ⟨rfl, below_then Q2.out hb⟩
  · -- 8
    obtain rfl : len = 1 := by have h1 := HLEN.out; have h2 := HKN.out; have h3 : kidsN 8 = 1 := rfl; omega
    obtain ⟨bb, off, rfl, hbB, hcs⟩ := HSUB.out.kid (by omega)
    obtain ⟨k0', x0', y0', s0', ks0', ad0', n0', cc0, hx0, ⟨p00, p01, p02, p03, p04, j01, j02⟩, hk0⟩ := hcs 0 (by omega)
    simp only [Fst.kind, Fst.va, Fst.vb, Fst.nm, Nat.zero_mul, Nat.one_mul, Nat.add_zero] at p00 p01 p02 p03 p04
    have hm0 : Fst.node k0' x0' y0' s0' ks0' ∈ ks := List.mem_of_getElem? hx0
    have hzk0 := Nat.le_trans (HKID.out _ hm0) hlb
    have KA0 := Lib.hid (show KidAt w bb off k0' x0' y0' s0' ad0' n0' cc0 from ⟨hbB, p00, p01, p02, p03, p04⟩)
    obtain ⟨KT, hKT⟩ : ∃ X, X = parF 2 k0' (txtF (.node k0' x0' y0' s0' ks0')) := ⟨_, rfl⟩
    have lKT : KT.length ≤ 4802 := by rw [hKT]; have := (parF_len 2 k0' (txtF (.node k0' x0' y0' s0' ks0'))).2; omega
    have HC0 := Lib.hid (fun (V : World) (hV : Below w.heap.size w V) => show Calls Tryz.prog 54 #[.agg (fV k0' x0' y0' s0' ad0' n0' cc0), .int .i64 3] V (ShowPost KT V) from by
      rw [hKT]
      refine ref_kidText V k0' x0' y0' s0' ad0' n0' cc0 (txtF (.node k0' x0' y0' s0' ks0')) 2 (by omega) (fun V' hV' => ?_)
      have hVV := below_then hV hV'
      have h := IH.out _ hm0 V' ad0' n0' cc0 (KIDS.out _ hm0) ((hk0.below hVV (Nat.le_refl _)).more hVV.size) j01 j02 hzk0 (HT.out.below hVV)
      unfold TextGoal at h
      simp only [Fst.kind, Fst.va, Fst.vb, Fst.nm] at h
      exact h)
    unfold ShowPost at HC0
    clear p00 p01 p02 p03 p04 hk0 hzk0
    obtain ⟨t', rfl⟩ : ∃ t', ks = [t'] := by
      have := HLEN.out
      match ks, this with
      | [x], _ => exact ⟨x, rfl⟩
    obtain rfl : t' = .node k0' x0' y0' s0' ks0' := by simpa using hx0
    clear hcs hx0 hm0 j01 j02
    have HKT := Lib.hid (show KT = parF (lvF 8) k0' (txtF (.node k0' x0' y0' s0' ks0')) from hKT)
    clear hKT
    have HBB := Lib.hid (show B = [111, 110, 32] ++ IA ++ [32] ++ KT from by rw [HB.out, txtF_1, HIA.out, HKT.out]; rfl)
    obtain ⟨L1, hL1⟩ : ∃ S, [111, 110, 32] ++ IA = S := ⟨_, rfl⟩
    obtain ⟨L2, hL2⟩ : ∃ S, L1 ++ [32] = S := ⟨_, rfl⟩
    have zL1 : L1.length ≤ 5040 := by rw [← hL1]; (simp only [List.length_append]; try simp only [List.length_cons, List.length_nil]); omega
    have eL1 := add_list ([111, 110, 32]) (IA) L1 hL1 (by (try simp only [List.length_cons, List.length_nil]); omega)
    have zL2 : L2.length ≤ 5080 := by rw [← hL2]; (simp only [List.length_append]; try simp only [List.length_cons, List.length_nil]); omega
    have eL2 := add_list L1 ([32]) L2 hL2 (by (try simp only [List.length_cons, List.length_nil]); omega)
    have eL3 := add_list L2 (KT) B (by have := HBB.out.symm; rw [hL1, hL2] at this; exact this) (by (try simp only [List.length_cons, List.length_nil]); omega)
    clear hL1 hL2
    obtain ⟨gl, p0, p1, p2, p3, p4⟩ := KA0.out.then_ Q2.out
    go_wp2_with (go_at_call 54; refine (HC0.out _ Q2.out).mono ?_; rintro e w' ⟨rfl, hb⟩)
    go_ret
    exact ⟨rfl, below_then Q2.out hb⟩
  · -- 9
    obtain rfl : len = 2 := by have h1 := HLEN.out; have h2 := HKN.out; have h3 : kidsN 9 = 2 := rfl; omega
    obtain ⟨bb, off, rfl, hbB, hcs⟩ := HSUB.out.kid (by omega)
    obtain ⟨k0', x0', y0', s0', ks0', ad0', n0', cc0, hx0, ⟨p00, p01, p02, p03, p04, j01, j02⟩, hk0⟩ := hcs 0 (by omega)
    simp only [Fst.kind, Fst.va, Fst.vb, Fst.nm, Nat.zero_mul, Nat.one_mul, Nat.add_zero] at p00 p01 p02 p03 p04
    have hm0 : Fst.node k0' x0' y0' s0' ks0' ∈ ks := List.mem_of_getElem? hx0
    have hzk0 := Nat.le_trans (HKID.out _ hm0) hlb
    have KA0 := Lib.hid (show KidAt w bb off k0' x0' y0' s0' ad0' n0' cc0 from ⟨hbB, p00, p01, p02, p03, p04⟩)
    obtain ⟨KT, hKT⟩ : ∃ X, X = parF 0 k0' (txtF (.node k0' x0' y0' s0' ks0')) := ⟨_, rfl⟩
    have lKT : KT.length ≤ 4802 := by rw [hKT]; have := (parF_len 0 k0' (txtF (.node k0' x0' y0' s0' ks0'))).2; omega
    have HC0 := Lib.hid (fun (V : World) (hV : Below w.heap.size w V) => show Calls Tryz.prog 54 #[.agg (fV k0' x0' y0' s0' ad0' n0' cc0), .int .i64 1] V (ShowPost KT V) from by
      rw [hKT]
      refine ref_kidText V k0' x0' y0' s0' ad0' n0' cc0 (txtF (.node k0' x0' y0' s0' ks0')) 0 (by omega) (fun V' hV' => ?_)
      have hVV := below_then hV hV'
      have h := IH.out _ hm0 V' ad0' n0' cc0 (KIDS.out _ hm0) ((hk0.below hVV (Nat.le_refl _)).more hVV.size) j01 j02 hzk0 (HT.out.below hVV)
      unfold TextGoal at h
      simp only [Fst.kind, Fst.va, Fst.vb, Fst.nm] at h
      exact h)
    unfold ShowPost at HC0
    clear p00 p01 p02 p03 p04 hk0 hzk0
    obtain ⟨k1', x1', y1', s1', ks1', ad1', n1', cc1, hx1, ⟨p10, p11, p12, p13, p14, j11, j12⟩, hk1⟩ := hcs 1 (by omega)
    simp only [Fst.kind, Fst.va, Fst.vb, Fst.nm, Nat.zero_mul, Nat.one_mul, Nat.add_zero] at p10 p11 p12 p13 p14
    have hm1 : Fst.node k1' x1' y1' s1' ks1' ∈ ks := List.mem_of_getElem? hx1
    have hzk1 := Nat.le_trans (HKID.out _ hm1) hlb
    have KA1 := Lib.hid (show KidAt w bb (off + 5) k1' x1' y1' s1' ad1' n1' cc1 from ⟨hbB, p10, p11, p12, p13, p14⟩)
    obtain ⟨KU, hKU⟩ : ∃ X, X = parF 1 k1' (txtF (.node k1' x1' y1' s1' ks1')) := ⟨_, rfl⟩
    have lKU : KU.length ≤ 4802 := by rw [hKU]; have := (parF_len 1 k1' (txtF (.node k1' x1' y1' s1' ks1'))).2; omega
    have HC1 := Lib.hid (fun (V : World) (hV : Below w.heap.size w V) => show Calls Tryz.prog 54 #[.agg (fV k1' x1' y1' s1' ad1' n1' cc1), .int .i64 2] V (ShowPost KU V) from by
      rw [hKU]
      refine ref_kidText V k1' x1' y1' s1' ad1' n1' cc1 (txtF (.node k1' x1' y1' s1' ks1')) 1 (by omega) (fun V' hV' => ?_)
      have hVV := below_then hV hV'
      have h := IH.out _ hm1 V' ad1' n1' cc1 (KIDS.out _ hm1) ((hk1.below hVV (Nat.le_refl _)).more hVV.size) j11 j12 hzk1 (HT.out.below hVV)
      unfold TextGoal at h
      simp only [Fst.kind, Fst.va, Fst.vb, Fst.nm] at h
      exact h)
    unfold ShowPost at HC1
    clear p10 p11 p12 p13 p14 hk1 hzk1
    obtain ⟨t', u', rfl⟩ : ∃ t' u', ks = [t', u'] := by
      have := HLEN.out
      match ks, this with
      | [x, y], _ => exact ⟨x, y, rfl⟩
    obtain rfl : t' = .node k0' x0' y0' s0' ks0' := by simpa using hx0
    obtain rfl : u' = .node k1' x1' y1' s1' ks1' := by simpa using hx1
    have HKT := Lib.hid (show KT = parF (lvF 9) k0' (txtF (.node k0' x0' y0' s0' ks0')) from hKT)
    have HKU := Lib.hid (show KU = parF (lvF 9 + 1) k1' (txtF (.node k1' x1' y1' s1' ks1')) from hKU)
    clear hcs hx0 hm0 hx1 hm1 j01 j02 j11 j12 hKT hKU
    have HBB := Lib.hid (show B = KT ++ [32, 111, 114, 32] ++ KU from by rw [HB.out, txtF_2, HKT.out, HKU.out]; simp [twoF, wordF, Fst.kind])
    obtain ⟨L1, hL1⟩ : ∃ S, KT ++ [32, 111, 114, 32] = S := ⟨_, rfl⟩
    have zL1 : L1.length ≤ 5040 := by rw [← hL1]; (simp only [List.length_append]; try simp only [List.length_cons, List.length_nil]); omega
    have eL1 := add_list KT ([32, 111, 114, 32]) L1 hL1 (by (try simp only [List.length_cons, List.length_nil]); omega)
    have eL2 := add_list L1 (KU) B (by have := HBB.out.symm; rw [hL1] at this; exact this) (by (try simp only [List.length_cons, List.length_nil]); omega)
    clear hL1
    go_upto_region 24 with fail
    (refine region_class (Below W2.heap.size W2) (by kernel_rfl) (by kernel_rfl) ((Below.refl _ _).drew) ?_; repeat ((first | (refine class_take ?_ (by rfl) ?_ ?_; rotate_left; focus (intro wq hq; ((have hs := S2.out.then_ hq; have hqw := below_then Q2.out hq; have f3 : wq.cell? ⟨T, 3, none⟩ = some (.string ⟨sl.toArray⟩) := hs.cell 3; have f4 : wq.cell? ⟨T, 4, none⟩ = some (.slice (some ⟨bb, off, none⟩) 2 cap) := hs.cell 4; obtain ⟨gl, p0, p1, p2, p3, p4⟩ := KA0.out.then_ hqw; obtain ⟨gl2, r0, r1, r2, r3, r4⟩ := KA1.out.then_ hqw)); go_simp; first | done | with_reducible rfl | ((first | (go_at_call 54; (with_reducible refine (HC0.out _ hqw).mono ?_); rintro e w' ⟨rfl, hb⟩; refine ⟨?_, below_then hq hb⟩; with_reducible rfl) | (go_at_call 54; (with_reducible refine (HC1.out _ hqw).mono ?_); rintro e w' ⟨rfl, hb⟩; refine ⟨?_, below_then hq hb⟩; with_reducible rfl))))) | refine class_skip (by rfl) ?_); try simp only [Act.put, List.setIfInBounds_toArray, List.set_cons_zero, List.set_cons_succ]))
    refine wpQuiet_nil ?_
    intro W3 hW3
    go_wp2_with fail
    go_ret
    exact ⟨rfl, below_then Q2.out hW3⟩
  · -- 10
    obtain rfl : len = 2 := by have h1 := HLEN.out; have h2 := HKN.out; have h3 : kidsN 10 = 2 := rfl; omega
    obtain ⟨bb, off, rfl, hbB, hcs⟩ := HSUB.out.kid (by omega)
    obtain ⟨k0', x0', y0', s0', ks0', ad0', n0', cc0, hx0, ⟨p00, p01, p02, p03, p04, j01, j02⟩, hk0⟩ := hcs 0 (by omega)
    simp only [Fst.kind, Fst.va, Fst.vb, Fst.nm, Nat.zero_mul, Nat.one_mul, Nat.add_zero] at p00 p01 p02 p03 p04
    have hm0 : Fst.node k0' x0' y0' s0' ks0' ∈ ks := List.mem_of_getElem? hx0
    have hzk0 := Nat.le_trans (HKID.out _ hm0) hlb
    have KA0 := Lib.hid (show KidAt w bb off k0' x0' y0' s0' ad0' n0' cc0 from ⟨hbB, p00, p01, p02, p03, p04⟩)
    obtain ⟨KT, hKT⟩ : ∃ X, X = parF 1 k0' (txtF (.node k0' x0' y0' s0' ks0')) := ⟨_, rfl⟩
    have lKT : KT.length ≤ 4802 := by rw [hKT]; have := (parF_len 1 k0' (txtF (.node k0' x0' y0' s0' ks0'))).2; omega
    have HC0 := Lib.hid (fun (V : World) (hV : Below w.heap.size w V) => show Calls Tryz.prog 54 #[.agg (fV k0' x0' y0' s0' ad0' n0' cc0), .int .i64 2] V (ShowPost KT V) from by
      rw [hKT]
      refine ref_kidText V k0' x0' y0' s0' ad0' n0' cc0 (txtF (.node k0' x0' y0' s0' ks0')) 1 (by omega) (fun V' hV' => ?_)
      have hVV := below_then hV hV'
      have h := IH.out _ hm0 V' ad0' n0' cc0 (KIDS.out _ hm0) ((hk0.below hVV (Nat.le_refl _)).more hVV.size) j01 j02 hzk0 (HT.out.below hVV)
      unfold TextGoal at h
      simp only [Fst.kind, Fst.va, Fst.vb, Fst.nm] at h
      exact h)
    unfold ShowPost at HC0
    clear p00 p01 p02 p03 p04 hk0 hzk0
    obtain ⟨k1', x1', y1', s1', ks1', ad1', n1', cc1, hx1, ⟨p10, p11, p12, p13, p14, j11, j12⟩, hk1⟩ := hcs 1 (by omega)
    simp only [Fst.kind, Fst.va, Fst.vb, Fst.nm, Nat.zero_mul, Nat.one_mul, Nat.add_zero] at p10 p11 p12 p13 p14
    have hm1 : Fst.node k1' x1' y1' s1' ks1' ∈ ks := List.mem_of_getElem? hx1
    have hzk1 := Nat.le_trans (HKID.out _ hm1) hlb
    have KA1 := Lib.hid (show KidAt w bb (off + 5) k1' x1' y1' s1' ad1' n1' cc1 from ⟨hbB, p10, p11, p12, p13, p14⟩)
    obtain ⟨KU, hKU⟩ : ∃ X, X = parF 2 k1' (txtF (.node k1' x1' y1' s1' ks1')) := ⟨_, rfl⟩
    have lKU : KU.length ≤ 4802 := by rw [hKU]; have := (parF_len 2 k1' (txtF (.node k1' x1' y1' s1' ks1'))).2; omega
    have HC1 := Lib.hid (fun (V : World) (hV : Below w.heap.size w V) => show Calls Tryz.prog 54 #[.agg (fV k1' x1' y1' s1' ad1' n1' cc1), .int .i64 3] V (ShowPost KU V) from by
      rw [hKU]
      refine ref_kidText V k1' x1' y1' s1' ad1' n1' cc1 (txtF (.node k1' x1' y1' s1' ks1')) 2 (by omega) (fun V' hV' => ?_)
      have hVV := below_then hV hV'
      have h := IH.out _ hm1 V' ad1' n1' cc1 (KIDS.out _ hm1) ((hk1.below hVV (Nat.le_refl _)).more hVV.size) j11 j12 hzk1 (HT.out.below hVV)
      unfold TextGoal at h
      simp only [Fst.kind, Fst.va, Fst.vb, Fst.nm] at h
      exact h)
    unfold ShowPost at HC1
    clear p10 p11 p12 p13 p14 hk1 hzk1
    obtain ⟨t', u', rfl⟩ : ∃ t' u', ks = [t', u'] := by
      have := HLEN.out
      match ks, this with
      | [x, y], _ => exact ⟨x, y, rfl⟩
    obtain rfl : t' = .node k0' x0' y0' s0' ks0' := by simpa using hx0
    obtain rfl : u' = .node k1' x1' y1' s1' ks1' := by simpa using hx1
    have HKT := Lib.hid (show KT = parF (lvF 10) k0' (txtF (.node k0' x0' y0' s0' ks0')) from hKT)
    have HKU := Lib.hid (show KU = parF (lvF 10 + 1) k1' (txtF (.node k1' x1' y1' s1' ks1')) from hKU)
    clear hcs hx0 hm0 hx1 hm1 j01 j02 j11 j12 hKT hKU
    have HBB := Lib.hid (show B = KT ++ [32, 97, 110, 100, 32] ++ KU from by rw [HB.out, txtF_2, HKT.out, HKU.out]; simp [twoF, wordF, Fst.kind])
    obtain ⟨L1, hL1⟩ : ∃ S, KT ++ [32, 97, 110, 100, 32] = S := ⟨_, rfl⟩
    have zL1 : L1.length ≤ 5040 := by rw [← hL1]; (simp only [List.length_append]; try simp only [List.length_cons, List.length_nil]); omega
    have eL1 := add_list KT ([32, 97, 110, 100, 32]) L1 hL1 (by (try simp only [List.length_cons, List.length_nil]); omega)
    have eL2 := add_list L1 (KU) B (by have := HBB.out.symm; rw [hL1] at this; exact this) (by (try simp only [List.length_cons, List.length_nil]); omega)
    clear hL1
    go_upto_region 26 with fail
    (refine region_class (Below W2.heap.size W2) (by kernel_rfl) (by kernel_rfl) ((Below.refl _ _).drew) ?_; repeat ((first | (refine class_take ?_ (by rfl) ?_ ?_; rotate_left; focus (intro wq hq; ((have hs := S2.out.then_ hq; have hqw := below_then Q2.out hq; have f3 : wq.cell? ⟨T, 3, none⟩ = some (.string ⟨sl.toArray⟩) := hs.cell 3; have f4 : wq.cell? ⟨T, 4, none⟩ = some (.slice (some ⟨bb, off, none⟩) 2 cap) := hs.cell 4; obtain ⟨gl, p0, p1, p2, p3, p4⟩ := KA0.out.then_ hqw; obtain ⟨gl2, r0, r1, r2, r3, r4⟩ := KA1.out.then_ hqw)); go_simp; first | done | with_reducible rfl | ((first | (go_at_call 54; (with_reducible refine (HC0.out _ hqw).mono ?_); rintro e w' ⟨rfl, hb⟩; refine ⟨?_, below_then hq hb⟩; with_reducible rfl) | (go_at_call 54; (with_reducible refine (HC1.out _ hqw).mono ?_); rintro e w' ⟨rfl, hb⟩; refine ⟨?_, below_then hq hb⟩; with_reducible rfl))))) | refine class_skip (by rfl) ?_); try simp only [Act.put, List.setIfInBounds_toArray, List.set_cons_zero, List.set_cons_succ]))
    refine wpQuiet_nil ?_
    intro W3 hW3
    go_wp2_with fail
    go_ret
    exact ⟨rfl, below_then Q2.out hW3⟩
  · -- 11
    obtain rfl : len = 2 := by have h1 := HLEN.out; have h2 := HKN.out; have h3 : kidsN 11 = 2 := rfl; omega
    obtain ⟨bb, off, rfl, hbB, hcs⟩ := HSUB.out.kid (by omega)
    obtain ⟨k0', x0', y0', s0', ks0', ad0', n0', cc0, hx0, ⟨p00, p01, p02, p03, p04, j01, j02⟩, hk0⟩ := hcs 0 (by omega)
    simp only [Fst.kind, Fst.va, Fst.vb, Fst.nm, Nat.zero_mul, Nat.one_mul, Nat.add_zero] at p00 p01 p02 p03 p04
    have hm0 : Fst.node k0' x0' y0' s0' ks0' ∈ ks := List.mem_of_getElem? hx0
    have hzk0 := Nat.le_trans (HKID.out _ hm0) hlb
    have KA0 := Lib.hid (show KidAt w bb off k0' x0' y0' s0' ad0' n0' cc0 from ⟨hbB, p00, p01, p02, p03, p04⟩)
    obtain ⟨KT, hKT⟩ : ∃ X, X = parF 1 k0' (txtF (.node k0' x0' y0' s0' ks0')) := ⟨_, rfl⟩
    have lKT : KT.length ≤ 4802 := by rw [hKT]; have := (parF_len 1 k0' (txtF (.node k0' x0' y0' s0' ks0'))).2; omega
    have HC0 := Lib.hid (fun (V : World) (hV : Below w.heap.size w V) => show Calls Tryz.prog 54 #[.agg (fV k0' x0' y0' s0' ad0' n0' cc0), .int .i64 2] V (ShowPost KT V) from by
      rw [hKT]
      refine ref_kidText V k0' x0' y0' s0' ad0' n0' cc0 (txtF (.node k0' x0' y0' s0' ks0')) 1 (by omega) (fun V' hV' => ?_)
      have hVV := below_then hV hV'
      have h := IH.out _ hm0 V' ad0' n0' cc0 (KIDS.out _ hm0) ((hk0.below hVV (Nat.le_refl _)).more hVV.size) j01 j02 hzk0 (HT.out.below hVV)
      unfold TextGoal at h
      simp only [Fst.kind, Fst.va, Fst.vb, Fst.nm] at h
      exact h)
    unfold ShowPost at HC0
    clear p00 p01 p02 p03 p04 hk0 hzk0
    obtain ⟨k1', x1', y1', s1', ks1', ad1', n1', cc1, hx1, ⟨p10, p11, p12, p13, p14, j11, j12⟩, hk1⟩ := hcs 1 (by omega)
    simp only [Fst.kind, Fst.va, Fst.vb, Fst.nm, Nat.zero_mul, Nat.one_mul, Nat.add_zero] at p10 p11 p12 p13 p14
    have hm1 : Fst.node k1' x1' y1' s1' ks1' ∈ ks := List.mem_of_getElem? hx1
    have hzk1 := Nat.le_trans (HKID.out _ hm1) hlb
    have KA1 := Lib.hid (show KidAt w bb (off + 5) k1' x1' y1' s1' ad1' n1' cc1 from ⟨hbB, p10, p11, p12, p13, p14⟩)
    obtain ⟨KU, hKU⟩ : ∃ X, X = parF 2 k1' (txtF (.node k1' x1' y1' s1' ks1')) := ⟨_, rfl⟩
    have lKU : KU.length ≤ 4802 := by rw [hKU]; have := (parF_len 2 k1' (txtF (.node k1' x1' y1' s1' ks1'))).2; omega
    have HC1 := Lib.hid (fun (V : World) (hV : Below w.heap.size w V) => show Calls Tryz.prog 54 #[.agg (fV k1' x1' y1' s1' ad1' n1' cc1), .int .i64 3] V (ShowPost KU V) from by
      rw [hKU]
      refine ref_kidText V k1' x1' y1' s1' ad1' n1' cc1 (txtF (.node k1' x1' y1' s1' ks1')) 2 (by omega) (fun V' hV' => ?_)
      have hVV := below_then hV hV'
      have h := IH.out _ hm1 V' ad1' n1' cc1 (KIDS.out _ hm1) ((hk1.below hVV (Nat.le_refl _)).more hVV.size) j11 j12 hzk1 (HT.out.below hVV)
      unfold TextGoal at h
      simp only [Fst.kind, Fst.va, Fst.vb, Fst.nm] at h
      exact h)
    unfold ShowPost at HC1
    clear p10 p11 p12 p13 p14 hk1 hzk1
    obtain ⟨t', u', rfl⟩ : ∃ t' u', ks = [t', u'] := by
      have := HLEN.out
      match ks, this with
      | [x, y], _ => exact ⟨x, y, rfl⟩
    obtain rfl : t' = .node k0' x0' y0' s0' ks0' := by simpa using hx0
    obtain rfl : u' = .node k1' x1' y1' s1' ks1' := by simpa using hx1
    have HKT := Lib.hid (show KT = parF (lvF 11) k0' (txtF (.node k0' x0' y0' s0' ks0')) from hKT)
    have HKU := Lib.hid (show KU = parF (lvF 11 + 1) k1' (txtF (.node k1' x1' y1' s1' ks1')) from hKU)
    clear hcs hx0 hm0 hx1 hm1 j01 j02 j11 j12 hKT hKU
    have HBB := Lib.hid (show B = KT ++ [32, 110, 111, 116, 32] ++ KU from by rw [HB.out, txtF_2, HKT.out, HKU.out]; simp [twoF, wordF, Fst.kind])
    obtain ⟨L1, hL1⟩ : ∃ S, KT ++ [32, 110, 111, 116, 32] = S := ⟨_, rfl⟩
    have zL1 : L1.length ≤ 5040 := by rw [← hL1]; (simp only [List.length_append]; try simp only [List.length_cons, List.length_nil]); omega
    have eL1 := add_list KT ([32, 110, 111, 116, 32]) L1 hL1 (by (try simp only [List.length_cons, List.length_nil]); omega)
    have eL2 := add_list L1 (KU) B (by have := HBB.out.symm; rw [hL1] at this; exact this) (by (try simp only [List.length_cons, List.length_nil]); omega)
    clear hL1
    go_upto_region 27 with fail
    (refine region_class (Below W2.heap.size W2) (by kernel_rfl) (by kernel_rfl) ((Below.refl _ _).drew) ?_; repeat ((first | (refine class_take ?_ (by rfl) ?_ ?_; rotate_left; focus (intro wq hq; ((have hs := S2.out.then_ hq; have hqw := below_then Q2.out hq; have f3 : wq.cell? ⟨T, 3, none⟩ = some (.string ⟨sl.toArray⟩) := hs.cell 3; have f4 : wq.cell? ⟨T, 4, none⟩ = some (.slice (some ⟨bb, off, none⟩) 2 cap) := hs.cell 4; obtain ⟨gl, p0, p1, p2, p3, p4⟩ := KA0.out.then_ hqw; obtain ⟨gl2, r0, r1, r2, r3, r4⟩ := KA1.out.then_ hqw)); go_simp; first | done | with_reducible rfl | ((first | (go_at_call 54; (with_reducible refine (HC0.out _ hqw).mono ?_); rintro e w' ⟨rfl, hb⟩; refine ⟨?_, below_then hq hb⟩; with_reducible rfl) | (go_at_call 54; (with_reducible refine (HC1.out _ hqw).mono ?_); rintro e w' ⟨rfl, hb⟩; refine ⟨?_, below_then hq hb⟩; with_reducible rfl))))) | refine class_skip (by rfl) ?_); try simp only [Act.put, List.setIfInBounds_toArray, List.set_cons_zero, List.set_cons_succ]))
    refine wpQuiet_nil ?_
    intro W3 hW3
    go_wp2_with fail
    go_ret
    exact ⟨rfl, below_then Q2.out hW3⟩
  · -- 12
    obtain rfl : len = 1 := by have h1 := HLEN.out; have h2 := HKN.out; have h3 : kidsN 12 = 1 := rfl; omega
    obtain ⟨bb, off, rfl, hbB, hcs⟩ := HSUB.out.kid (by omega)
    obtain ⟨k0', x0', y0', s0', ks0', ad0', n0', cc0, hx0, ⟨p00, p01, p02, p03, p04, j01, j02⟩, hk0⟩ := hcs 0 (by omega)
    simp only [Fst.kind, Fst.va, Fst.vb, Fst.nm, Nat.zero_mul, Nat.one_mul, Nat.add_zero] at p00 p01 p02 p03 p04
    have hm0 : Fst.node k0' x0' y0' s0' ks0' ∈ ks := List.mem_of_getElem? hx0
    have hzk0 := Nat.le_trans (HKID.out _ hm0) hlb
    have KA0 := Lib.hid (show KidAt w bb off k0' x0' y0' s0' ad0' n0' cc0 from ⟨hbB, p00, p01, p02, p03, p04⟩)
    obtain ⟨KT, hKT⟩ : ∃ X, X = parF 2 k0' (txtF (.node k0' x0' y0' s0' ks0')) := ⟨_, rfl⟩
    have lKT : KT.length ≤ 4802 := by rw [hKT]; have := (parF_len 2 k0' (txtF (.node k0' x0' y0' s0' ks0'))).2; omega
    have HC0 := Lib.hid (fun (V : World) (hV : Below w.heap.size w V) => show Calls Tryz.prog 54 #[.agg (fV k0' x0' y0' s0' ad0' n0' cc0), .int .i64 3] V (ShowPost KT V) from by
      rw [hKT]
      refine ref_kidText V k0' x0' y0' s0' ad0' n0' cc0 (txtF (.node k0' x0' y0' s0' ks0')) 2 (by omega) (fun V' hV' => ?_)
      have hVV := below_then hV hV'
      have h := IH.out _ hm0 V' ad0' n0' cc0 (KIDS.out _ hm0) ((hk0.below hVV (Nat.le_refl _)).more hVV.size) j01 j02 hzk0 (HT.out.below hVV)
      unfold TextGoal at h
      simp only [Fst.kind, Fst.va, Fst.vb, Fst.nm] at h
      exact h)
    unfold ShowPost at HC0
    clear p00 p01 p02 p03 p04 hk0 hzk0
    obtain ⟨t', rfl⟩ : ∃ t', ks = [t'] := by
      have := HLEN.out
      match ks, this with
      | [x], _ => exact ⟨x, rfl⟩
    obtain rfl : t' = .node k0' x0' y0' s0' ks0' := by simpa using hx0
    clear hcs hx0 hm0 j01 j02
    have HKT := Lib.hid (show KT = parF (lvF 12) k0' (txtF (.node k0' x0' y0' s0' ks0')) from hKT)
    clear hKT
    have HBB := Lib.hid (show B = [110, 116, 104, 32] ++ IA ++ [32, 105, 110, 32] ++ sl ++ [32] ++ IB ++ [32] ++ KT from by rw [HB.out, txtF_1, HIA.out, HIB.out, HKT.out]; rfl)
    obtain ⟨L1, hL1⟩ : ∃ S, [110, 116, 104, 32] ++ IA = S := ⟨_, rfl⟩
    obtain ⟨L2, hL2⟩ : ∃ S, L1 ++ [32, 105, 110, 32] = S := ⟨_, rfl⟩
    obtain ⟨L3, hL3⟩ : ∃ S, L2 ++ sl = S := ⟨_, rfl⟩
    obtain ⟨L4, hL4⟩ : ∃ S, L3 ++ [32] = S := ⟨_, rfl⟩
    obtain ⟨L5, hL5⟩ : ∃ S, L4 ++ IB = S := ⟨_, rfl⟩
    obtain ⟨L6, hL6⟩ : ∃ S, L5 ++ [32] = S := ⟨_, rfl⟩
    have zL1 : L1.length ≤ 5040 := by rw [← hL1]; (simp only [List.length_append]; try simp only [List.length_cons, List.length_nil]); omega
    have eL1 := add_list ([110, 116, 104, 32]) (IA) L1 hL1 (by (try simp only [List.length_cons, List.length_nil]); omega)
    have zL2 : L2.length ≤ 5080 := by rw [← hL2]; (simp only [List.length_append]; try simp only [List.length_cons, List.length_nil]); omega
    have eL2 := add_list L1 ([32, 105, 110, 32]) L2 hL2 (by (try simp only [List.length_cons, List.length_nil]); omega)
    have zL3 : L3.length ≤ 5120 := by rw [← hL3]; (simp only [List.length_append]; try simp only [List.length_cons, List.length_nil]); omega
    have eL3 := add_list L2 (sl) L3 hL3 (by (try simp only [List.length_cons, List.length_nil]); omega)
    have zL4 : L4.length ≤ 5160 := by rw [← hL4]; (simp only [List.length_append]; try simp only [List.length_cons, List.length_nil]); omega
    have eL4 := add_list L3 ([32]) L4 hL4 (by (try simp only [List.length_cons, List.length_nil]); omega)
    have zL5 : L5.length ≤ 5200 := by rw [← hL5]; (simp only [List.length_append]; try simp only [List.length_cons, List.length_nil]); omega
    have eL5 := add_list L4 (IB) L5 hL5 (by (try simp only [List.length_cons, List.length_nil]); omega)
    have zL6 : L6.length ≤ 5240 := by rw [← hL6]; (simp only [List.length_append]; try simp only [List.length_cons, List.length_nil]); omega
    have eL6 := add_list L5 ([32]) L6 hL6 (by (try simp only [List.length_cons, List.length_nil]); omega)
    have eL7 := add_list L6 (KT) B (by have := HBB.out.symm; rw [hL1, hL2, hL3, hL4, hL5, hL6] at this; exact this) (by (try simp only [List.length_cons, List.length_nil]); omega)
    clear hL1 hL2 hL3 hL4 hL5 hL6
    go_upto_region 22 with fail
    (refine region_class (Below W2.heap.size W2) (by kernel_rfl) (by kernel_rfl) ((Below.refl _ _).drew) ?_; repeat ((first | (refine class_take ?_ (by rfl) ?_ ?_; rotate_left; focus (intro wq hq; ((have hs := S2.out.then_ hq; have hqw := below_then Q2.out hq; have f3 : wq.cell? ⟨T, 3, none⟩ = some (.string ⟨sl.toArray⟩) := hs.cell 3; have f4 : wq.cell? ⟨T, 4, none⟩ = some (.slice (some ⟨bb, off, none⟩) 1 cap) := hs.cell 4; obtain ⟨gl, p0, p1, p2, p3, p4⟩ := KA0.out.then_ hqw)); go_simp; first | done | with_reducible rfl | ((go_at_call 54; (with_reducible refine (HC0.out _ hqw).mono ?_); rintro e w' ⟨rfl, hb⟩; refine ⟨?_, below_then hq hb⟩; with_reducible rfl)))) | refine class_skip (by rfl) ?_); try simp only [Act.put, List.setIfInBounds_toArray, List.set_cons_zero, List.set_cons_succ]))
    refine wpQuiet_nil ?_
    intro W3 hW3
    go_wp2_with fail
    go_ret
    exact ⟨rfl, below_then Q2.out hW3⟩
end Go.Proofs.YtlbjmpdonnlieaaGreatDoor
