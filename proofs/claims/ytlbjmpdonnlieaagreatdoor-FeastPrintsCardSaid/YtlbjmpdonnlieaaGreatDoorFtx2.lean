/- Contract of feast.show. -/
import Derived.Test.YtlbjmpdonnlieaaGreatDoorFtx0
import Derived.Test.YtlbjmpdonnlieaaGreatDoorMgD
import Derived.Deep.CutRange
namespace Go.Proofs.YtlbjmpdonnlieaaGreatDoor
set_option linter.unusedVariables false
set_option linter.unusedSimpArgs false
set_option maxRecDepth 100000
open Go.RowKit Go.Shelf

theorem drop_str (l : List UInt8) : (⟨l.toArray⟩ : ByteArray).extract (1 : Int).toNat (⟨l.toArray⟩ : ByteArray).size = ⟨(l.drop 1).toArray⟩ := by
  apply ByteArray.ext
  apply Array.toList_inj.1
  have h : (⟨l.toArray⟩ : ByteArray).size = l.length := arr_size l
  simp [ByteArray.data_extract, h]
  exact List.take_of_length_le (by simp)
theorem itoa_neg {n : Int} (h : n < 0) : 1 ≤ (Lib.itoa n).length := by
  unfold Lib.itoa; rw [if_pos h]; simp
abbrev ShowGoal (w : World) (t : Fst) (ad : Option Addr) (len cap : Nat) (least : Int) : Prop := Calls Tryz.prog 52 #[.agg (fV t.kind t.va t.vb t.nm ad len cap), .int .i64 least] w (ShowPost (parF least t.kind (txtF t)) w)
set_option maxHeartbeats 16000000 in
theorem feast_show : ∀ (t : Fst) (w : World) (ad : Option Addr) (len cap : Nat) (least : Int), fstOk t → FSub w w.heap.size t ad len → len ≤ cap → cap ≤ 9223372036854775807 → (txtF t).length ≤ 4800 → 0 ≤ least → least ≤ 5 → Pow w → ShowGoal w t ad len cap least := by
  intro t
  refine Fst.all (P := fun t => ∀ (w : World) (ad : Option Addr) (len cap : Nat) (least : Int), fstOk t → FSub w w.heap.size t ad len → len ≤ cap → cap ≤ 9223372036854775807 → (txtF t).length ≤ 4800 → 0 ≤ least → least ≤ 5 → Pow w → ShowGoal w t ad len cap least) ?_ t
  intro k a b s ks ih w ad len cap least hok hsub hlc hcap hsz le0 le1 ht
  obtain ⟨⟨a1, a2⟩, ⟨b1, b2⟩, hs⟩ := num_in hok
  obtain ⟨k1, k2, hkn, hl2⟩ := formB_len (fstOk_node hok).1
  have hkid := txtF_kid (k := k) (a := a) (b := b) (s := s) hl2
  have hlen := hsub.len.1
  obtain ⟨IA, hIA⟩ : ∃ l, l = Lib.itoa a := ⟨_, rfl⟩
  obtain ⟨IB, hIB⟩ : ∃ l, l = Lib.itoa b := ⟨_, rfl⟩
  have lA : IA.length ≤ 21 := by rw [hIA]; exact itoa_small a1 a2
  have lB : IB.length ≤ 21 := by rw [hIB]; exact itoa_small b1 b2
  have CA := Lib.hid (fun (W : World) (hW : Below w.heap.size w W) => show Calls Tryz.prog 53 #[.int .i64 a] W (fun e w' => e = .returned (.string ⟨IA.toArray⟩) ∧ Below W.heap.size W w') from by rw [hIA]; exact lib_Itoa a W (by omega) (by omega) (ht.below hW))
  have CB := Lib.hid (fun (W : World) (hW : Below w.heap.size w W) => show Calls Tryz.prog 53 #[.int .i64 b] W (fun e w' => e = .returned (.string ⟨IB.toArray⟩) ∧ Below W.heap.size W w') from by rw [hIB]; exact lib_Itoa b W (by omega) (by omega) (ht.below hW))
  obtain ⟨own, hown⟩ : ∃ x, x = lvF k := ⟨_, rfl⟩
  have hob := lvF_in k
  have CV := Lib.hid (fun W => feast_level k W)
  rw [← hown] at hob CV
  obtain ⟨ho0, ho1⟩ := hob
  have HOWN := Lib.hid hown
  obtain ⟨sl, hsl⟩ : ∃ sl, s.data.toList = sl := ⟨_, rfl⟩
  have hss : s = ⟨sl.toArray⟩ := by rw [← hsl]
  rw [hsl] at hs
  obtain ⟨B, hB⟩ : ∃ B, B = txtF (.node k a b s ks) := ⟨_, rfl⟩
  rw [← hB] at hsz hkid
  have KIDS := Lib.hid (fun (t : Fst) (ht : t ∈ ks) => fstOks_mem (fstOk_node hok).2.2.2 ht)
  unfold ShowGoal
  simp only [Fst.kind, Fst.va, Fst.vb, Fst.nm]
  rw [← hB]
  obtain ⟨R, hR⟩ : ∃ R, R = parF least k B := ⟨_, rfl⟩
  rw [← hR]
  have HR : (own < least ∧ Hid (R = [40] ++ B ++ [41])) ∨ (least ≤ own ∧ Hid (R = B)) := by
    by_cases h : own < least
    · exact .inl ⟨h, by rw [hR]; unfold parF; rw [← hown, if_pos h]; rfl⟩
    · exact .inr ⟨by omega, by rw [hR]; unfold parF; rw [← hown, if_neg h]; rfl⟩
  have HRH := Lib.hid HR
  subst hss
  have HIA := Lib.hid hIA; have HIB := Lib.hid hIB; have HSL := Lib.hid hsl
  have HB := Lib.hid hB; have HKID := Lib.hid hkid; have HLEN := Lib.hid hlen; have HKN := Lib.hid hkn; have HSUB := Lib.hid hsub
  have HT := Lib.hid ht; have IH := Lib.hid ih; have HL2 := Lib.hid hl2; have HSZ := Lib.hid hsz; have HKK := Lib.hid (And.intro k1 k2)
  clear hok hsub hkid hlen hIA hIB hown hsl hB hR HR hkn hl2 ht ih hsz k1 k2
  have u0 := (At.new w (fO k a b ⟨sl.toArray⟩ ad len cap)).alloc (.cells #[.int .i64 own] 3)
  have u1 := At.new1 w (fO k a b ⟨sl.toArray⟩ ad len cap) (.cells #[.int .i64 own] 3)
  have q1 := below_new (below_new (Below.refl w.heap.size w) (fO k a b ⟨sl.toArray⟩ ad len cap)) (.cells #[.int .i64 own] 3)
  go_enter Tryz.func52, Tryz.ntmps52
  go_upto_region 2 with (go_at_call 96; refine (CV.out _).mono ?_; rintro e w' ⟨rfl, rfl⟩)
  obtain ⟨T, hT⟩ : ∃ T, T = w.heap.size := ⟨_, rfl⟩
  rw [← hT] at u0 u1 ⊢
  generalize World.alloc (World.alloc w _) _ = W1 at u0 u1 q1 ⊢
  clear hT CV
  have SH := Lib.hid (show ShowAt W1 T (T + 1) k a b ⟨sl.toArray⟩ ad len cap own from ⟨u0, u1⟩)
  have Q1 := Lib.hid q1
  clear u0 u1 q1
  (refine region_class (Below W1.heap.size W1) (by kernel_rfl) (by kernel_rfl) ((Below.refl _ _).drew) ?_; repeat ((first | (refine class_take ?_ (by rfl) ?_ ?_; rotate_left; focus (intro wq hq; ((have hs := SH.out.then_ hq; have hqw := below_then Q1.out hq; have f1 : wq.cell? ⟨T, 1, none⟩ = some (.int .i64 a) := hs.1.cell 1; have f2 : wq.cell? ⟨T, 2, none⟩ = some (.int .i64 b) := hs.1.cell 2)); go_simp; first | done | with_reducible rfl | ((first | (go_at_call 53; (with_reducible refine (CA.out _ hqw).mono ?_); rintro e w' ⟨rfl, hb⟩; refine ⟨?_, below_then hq hb⟩; with_reducible rfl) | (go_at_call 53; (with_reducible refine (CB.out _ hqw).mono ?_); rintro e w' ⟨rfl, hb⟩; refine ⟨?_, below_then hq hb⟩; with_reducible rfl))))) | refine class_skip (by rfl) ?_); try simp only [Act.put, List.setIfInBounds_toArray, List.set_cons_zero, List.set_cons_succ]))
  refine wpQuiet_nil ?_
  intro W2 hW2
  have Q2 := Lib.hid (below_then Q1.out hW2)
  have S2 := Lib.hid (SH.out.then_ hW2)
  clear hW2 SH Q1 CA CB
  have s2 := S2.out.1
  have d0 := s2.cell 0; have d1 := s2.cell 1; have d2 := s2.cell 2; have d3 := s2.cell 3; have d4 := s2.cell 4; simp at d0 d1 d2 d3 d4
  clear s2
  go_upto_region 4 with fail
  go_cut [9] from 20 (fun y wx => y = .string ⟨#[]⟩ ∧ W2 = wx)
  case first =>
    go_wp2_with fail
    go_meet
    case rel => exact ⟨rfl, rfl⟩
  case rest =>
  obtain ⟨rfl, rfl⟩ := hcut
  apply_assumption
  refine wp_seq_k ?_
  intro KK hKK
  go_cut [9] from 20 (fun y wx => y = .string ⟨B.toArray⟩ ∧ Below W2.heap.size W2 wx)
  case first =>
    clear hKK
    have hlb := HSZ.out
    obtain ⟨k1, k2⟩ := HKK.out
    clear HRH le0 le1
    rcases kind_of k1 k2 with rfl | rfl | rfl | rfl | rfl | rfl | rfl | rfl | rfl | rfl | rfl | rfl
    all_goals clear k1 k2
    · -- 1
      have hl0 : len = 0 := by have h1 := HLEN.out; have h2 := HKN.out; have h3 : kidsN 1 = 0 := rfl; omega
      obtain rfl : ks = [] := List.length_eq_zero_iff.1 (by have h1 := HLEN.out; omega)
      have HBB := Lib.hid (show B = [100, 97, 116, 101, 32] ++ sl ++ [32] ++ IA ++ [32] ++ IB from by rw [HB.out, txtF_0, HIA.out, HIB.out]; rfl)
      obtain ⟨L1, hL1⟩ : ∃ S, [100, 97, 116, 101, 32] ++ sl = S := ⟨_, rfl⟩
      obtain ⟨L2, hL2⟩ : ∃ S, L1 ++ [32] = S := ⟨_, rfl⟩
      obtain ⟨L3, hL3⟩ : ∃ S, L2 ++ IA = S := ⟨_, rfl⟩
      obtain ⟨L4, hL4⟩ : ∃ S, L3 ++ [32] = S := ⟨_, rfl⟩
      have zL1 : L1.length ≤ 5040 := by rw [← hL1]; (simp only [List.length_append]; try simp only [List.length_cons, List.length_nil]); omega
      have eL1 := add_list ([100, 97, 116, 101, 32]) (sl) L1 hL1 (by (try simp only [List.length_cons, List.length_nil]); omega)
      have zL2 : L2.length ≤ 5080 := by rw [← hL2]; (simp only [List.length_append]; try simp only [List.length_cons, List.length_nil]); omega
      have eL2 := add_list L1 ([32]) L2 hL2 (by (try simp only [List.length_cons, List.length_nil]); omega)
      have zL3 : L3.length ≤ 5120 := by rw [← hL3]; (simp only [List.length_append]; try simp only [List.length_cons, List.length_nil]); omega
      have eL3 := add_list L2 (IA) L3 hL3 (by (try simp only [List.length_cons, List.length_nil]); omega)
      have zL4 : L4.length ≤ 5160 := by rw [← hL4]; (simp only [List.length_append]; try simp only [List.length_cons, List.length_nil]); omega
      have eL4 := add_list L3 ([32]) L4 hL4 (by (try simp only [List.length_cons, List.length_nil]); omega)
      have eL5 := add_list L4 (IB) B (by have := HBB.out.symm; rw [hL1, hL2, hL3, hL4] at this; exact this) (by (try simp only [List.length_cons, List.length_nil]); omega)
      clear hL1 hL2 hL3 hL4
      clear hl0
      go_wp2_with fail
      go_meet
      case rel => exact ⟨rfl, Below.refl _ _⟩
    · -- 2
      have hl0 : len = 0 := by have h1 := HLEN.out; have h2 := HKN.out; have h3 : kidsN 2 = 0 := rfl; omega
      obtain rfl : ks = [] := List.length_eq_zero_iff.1 (by have h1 := HLEN.out; omega)
      have HBB := Lib.hid (show B = [109, 111, 110, 116, 104, 32] ++ sl ++ [32] ++ IA from by rw [HB.out, txtF_0, HIA.out]; rfl)
      obtain ⟨L1, hL1⟩ : ∃ S, [109, 111, 110, 116, 104, 32] ++ sl = S := ⟨_, rfl⟩
      obtain ⟨L2, hL2⟩ : ∃ S, L1 ++ [32] = S := ⟨_, rfl⟩
      have zL1 : L1.length ≤ 5040 := by rw [← hL1]; (simp only [List.length_append]; try simp only [List.length_cons, List.length_nil]); omega
      have eL1 := add_list ([109, 111, 110, 116, 104, 32]) (sl) L1 hL1 (by (try simp only [List.length_cons, List.length_nil]); omega)
      have zL2 : L2.length ≤ 5080 := by rw [← hL2]; (simp only [List.length_append]; try simp only [List.length_cons, List.length_nil]); omega
      have eL2 := add_list L1 ([32]) L2 hL2 (by (try simp only [List.length_cons, List.length_nil]); omega)
      have eL3 := add_list L2 (IA) B (by have := HBB.out.symm; rw [hL1, hL2] at this; exact this) (by (try simp only [List.length_cons, List.length_nil]); omega)
      clear hL1 hL2
      clear hl0
      go_wp2_with fail
      go_meet
      case rel => exact ⟨rfl, Below.refl _ _⟩
    · -- 3
      have hl0 : len = 0 := by have h1 := HLEN.out; have h2 := HKN.out; have h3 : kidsN 3 = 0 := rfl; omega
      obtain rfl : ks = [] := List.length_eq_zero_iff.1 (by have h1 := HLEN.out; omega)
      have HBB := Lib.hid (show B = [119, 101, 101, 107, 100, 97, 121, 32] ++ IA from by rw [HB.out, txtF_0, HIA.out]; rfl)
      have eL1 := add_list ([119, 101, 101, 107, 100, 97, 121, 32]) (IA) B (by have := HBB.out.symm; exact this) (by (try simp only [List.length_cons, List.length_nil]); omega)
      clear hl0
      go_wp2_with fail
      go_meet
      case rel => exact ⟨rfl, Below.refl _ _⟩
    · -- 4
      have hl0 : len = 0 := by have h1 := HLEN.out; have h2 := HKN.out; have h3 : kidsN 4 = 0 := rfl; omega
      obtain rfl : ks = [] := List.length_eq_zero_iff.1 (by have h1 := HLEN.out; omega)
      have HBB := Lib.hid (show B = [101, 118, 101, 114, 121, 32] ++ IA ++ [32] ++ IB from by rw [HB.out, txtF_0, HIA.out, HIB.out]; rfl)
      obtain ⟨L1, hL1⟩ : ∃ S, [101, 118, 101, 114, 121, 32] ++ IA = S := ⟨_, rfl⟩
      obtain ⟨L2, hL2⟩ : ∃ S, L1 ++ [32] = S := ⟨_, rfl⟩
      have zL1 : L1.length ≤ 5040 := by rw [← hL1]; (simp only [List.length_append]; try simp only [List.length_cons, List.length_nil]); omega
      have eL1 := add_list ([101, 118, 101, 114, 121, 32]) (IA) L1 hL1 (by (try simp only [List.length_cons, List.length_nil]); omega)
      have zL2 : L2.length ≤ 5080 := by rw [← hL2]; (simp only [List.length_append]; try simp only [List.length_cons, List.length_nil]); omega
      have eL2 := add_list L1 ([32]) L2 hL2 (by (try simp only [List.length_cons, List.length_nil]); omega)
      have eL3 := add_list L2 (IB) B (by have := HBB.out.symm; rw [hL1, hL2] at this; exact this) (by (try simp only [List.length_cons, List.length_nil]); omega)
      clear hL1 hL2
      clear hl0
      go_wp2_with fail
      go_meet
      case rel => exact ⟨rfl, Below.refl _ _⟩
    · -- 5
      have hl0 : len = 0 := by have h1 := HLEN.out; have h2 := HKN.out; have h3 : kidsN 5 = 0 := rfl; omega
      obtain rfl : ks = [] := List.length_eq_zero_iff.1 (by have h1 := HLEN.out; omega)
      have HBB := Lib.hid (show B = [100, 97, 121, 32] ++ IA from by rw [HB.out, txtF_0, HIA.out]; rfl)
      have eL1 := add_list ([100, 97, 121, 32]) (IA) B (by have := HBB.out.symm; exact this) (by (try simp only [List.length_cons, List.length_nil]); omega)
      clear hl0
      go_wp2_with fail
      go_meet
      case rel => exact ⟨rfl, Below.refl _ _⟩
    · -- 6
      have hl0 : len = 0 := by have h1 := HLEN.out; have h2 := HKN.out; have h3 : kidsN 6 = 0 := rfl; omega
      obtain rfl : ks = [] := List.length_eq_zero_iff.1 (by have h1 := HLEN.out; omega)
      have HBB := Lib.hid (show B = [100, 97, 121, 115, 32] ++ IA ++ [32] ++ IB from by rw [HB.out, txtF_0, HIA.out, HIB.out]; rfl)
      obtain ⟨L1, hL1⟩ : ∃ S, [100, 97, 121, 115, 32] ++ IA = S := ⟨_, rfl⟩
      obtain ⟨L2, hL2⟩ : ∃ S, L1 ++ [32] = S := ⟨_, rfl⟩
      have zL1 : L1.length ≤ 5040 := by rw [← hL1]; (simp only [List.length_append]; try simp only [List.length_cons, List.length_nil]); omega
      have eL1 := add_list ([100, 97, 121, 115, 32]) (IA) L1 hL1 (by (try simp only [List.length_cons, List.length_nil]); omega)
      have zL2 : L2.length ≤ 5080 := by rw [← hL2]; (simp only [List.length_append]; try simp only [List.length_cons, List.length_nil]); omega
      have eL2 := add_list L1 ([32]) L2 hL2 (by (try simp only [List.length_cons, List.length_nil]); omega)
      have eL3 := add_list L2 (IB) B (by have := HBB.out.symm; rw [hL1, hL2] at this; exact this) (by (try simp only [List.length_cons, List.length_nil]); omega)
      clear hL1 hL2
      clear hl0
      go_wp2_with fail
      go_meet
      case rel => exact ⟨rfl, Below.refl _ _⟩
    · -- 7
      obtain rfl : len = 1 := by have h1 := HLEN.out; have h2 := HKN.out; have h3 : kidsN 7 = 1 := rfl; omega
      obtain ⟨bb, off, rfl, hbB, hcs⟩ := HSUB.out.kid (by omega)
      obtain ⟨k0', x0', y0', s0', ks0', ad0', n0', cc0, hx0, ⟨p00, p01, p02, p03, p04, j01, j02⟩, hk0⟩ := hcs 0 (by omega)
      simp only [Fst.kind, Fst.va, Fst.vb, Fst.nm, Nat.zero_mul, Nat.one_mul, Nat.add_zero] at p00 p01 p02 p03 p04
      have hm0 : Fst.node k0' x0' y0' s0' ks0' ∈ ks := List.mem_of_getElem? hx0
      have hzk0 := Nat.le_trans (HKID.out _ hm0) hlb
      have KA0 := Lib.hid (show KidAt w bb off k0' x0' y0' s0' ad0' n0' cc0 from ⟨hbB, p00, p01, p02, p03, p04⟩)
      obtain ⟨KT, hKT⟩ : ∃ X, X = parF own k0' (txtF (.node k0' x0' y0' s0' ks0')) := ⟨_, rfl⟩
      have lKT : KT.length ≤ 4802 := by rw [hKT]; have := (parF_len (own) k0' (txtF (.node k0' x0' y0' s0' ks0'))).2; omega
      have HC0 := Lib.hid (fun (V : World) (hV : Below w.heap.size w V) => show Calls Tryz.prog 52 #[.agg (fV k0' x0' y0' s0' ad0' n0' cc0), .int .i64 (own)] V (ShowPost KT V) from by
        have h := IH.out _ hm0 V ad0' n0' cc0 (own) (KIDS.out _ hm0) ((hk0.below hV (Nat.le_refl _)).more hV.size) j01 j02 hzk0 (by omega) (by omega) (HT.out.below hV)
        unfold ShowGoal at h
        simp only [Fst.kind, Fst.va, Fst.vb, Fst.nm] at h
        rw [← hKT] at h; exact h)
      unfold ShowPost at HC0
      clear p00 p01 p02 p03 p04 hk0 hzk0
      obtain ⟨t', rfl⟩ : ∃ t', ks = [t'] := by
        have := HLEN.out
        match ks, this with
        | [x], _ => exact ⟨x, rfl⟩
      obtain rfl : t' = .node k0' x0' y0' s0' ks0' := by simpa using hx0
      clear hcs hx0 hm0 j01 j02
      have HKT := Lib.hid (show KT = parF (lvF 7) k0' (txtF (.node k0' x0' y0' s0' ks0')) by rw [hKT, HOWN.out])
      clear hKT
      obtain ⟨Bp, hBp⟩ : ∃ X, X = KT ++ [32, 43, 32] ++ IA := ⟨_, rfl⟩
      have HBP := Lib.hid (show Bp = KT ++ [32, 43, 32] ++ IA from by exact hBp)
      obtain ⟨P1, hP1⟩ : ∃ S, KT ++ [32, 43, 32] = S := ⟨_, rfl⟩
      have zP1 : P1.length ≤ 5040 := by rw [← hP1]; (simp only [List.length_append]; try simp only [List.length_cons, List.length_nil]); omega
      have eP1 := add_list KT ([32, 43, 32]) P1 hP1 (by (try simp only [List.length_cons, List.length_nil]); omega)
      have eP2 := add_list P1 (IA) Bp (by have := HBP.out.symm; rw [hP1] at this; exact this) (by (try simp only [List.length_cons, List.length_nil]); omega)
      clear hP1
      clear hBp
      by_cases ha : a < 0
      · have hd : decide (a < 0) = true := decide_eq_true ha
        obtain ⟨ID, hID⟩ : ∃ X, X = IA.drop 1 := ⟨_, rfl⟩
        have lD : ID.length ≤ 21 := by rw [hID, List.length_drop]; omega
        have hia1 : 1 ≤ IA.length := by rw [HIA.out]; exact itoa_neg ha
        have sq := slice_low ⟨IA.toArray⟩ ⟨ID.toArray⟩ 1 (by omega) (by rw [arr_size]; omega) (by rw [hID]; exact drop_str IA)
        have HBB := Lib.hid (show B = KT ++ [32, 45, 32] ++ ID from by rw [HB.out, txtF_1, hID, HIA.out, HKT.out]; show oneF 7 a b sl _ = _; unfold oneF; rw [if_pos rfl, if_pos ha]; rfl)
        obtain ⟨L1, hL1⟩ : ∃ S, KT ++ [32, 45, 32] = S := ⟨_, rfl⟩
        have zL1 : L1.length ≤ 5040 := by rw [← hL1]; (simp only [List.length_append]; try simp only [List.length_cons, List.length_nil]); omega
        have eL1 := add_list KT ([32, 45, 32]) L1 hL1 (by (try simp only [List.length_cons, List.length_nil]); omega)
        have eL2 := add_list L1 (ID) B (by have := HBB.out.symm; rw [hL1] at this; exact this) (by (try simp only [List.length_cons, List.length_nil]); omega)
        clear hL1
        clear hID ha
        go_upto_region 20 with fail
        (refine region_class (Below W2.heap.size W2) (by kernel_rfl) (by kernel_rfl) ((Below.refl _ _).drew) ?_; repeat ((first | (refine class_take ?_ (by rfl) ?_ ?_; rotate_left; focus (intro wq hq; ((have hs := S2.out.then_ hq; have hqw := below_then Q2.out hq; have f3 : wq.cell? ⟨T, 3, none⟩ = some (.string ⟨sl.toArray⟩) := hs.1.cell 3; have f4 : wq.cell? ⟨T, 4, none⟩ = some (.slice (some ⟨bb, off, none⟩) 1 cap) := hs.1.cell 4; have fo : wq.cell? ⟨T + 1, 0, none⟩ = some (.int .i64 own) := hs.2.cell 0; obtain ⟨gl, p0, p1, p2, p3, p4⟩ := KA0.out.then_ hqw)); go_simp; first | done | with_reducible rfl | ((go_at_call 52; (with_reducible refine (HC0.out _ hqw).mono ?_); rintro e w' ⟨rfl, hb⟩; refine ⟨?_, below_then hq hb⟩; with_reducible rfl)))) | refine class_skip (by rfl) ?_); try simp only [Act.put, List.setIfInBounds_toArray, List.set_cons_zero, List.set_cons_succ]))
        refine wpQuiet_nil ?_
        intro W3 hW3
        have g1 : W3.cell? ⟨T, 1, none⟩ = some (.int .i64 a) := (S2.out.then_ hW3).1.cell 1
        go_upto_region 22 with fail
        clear g1
        (refine region_class (Below W2.heap.size W2) (by kernel_rfl) (by kernel_rfl) (hW3.drew) ?_; repeat ((first | (refine class_take ?_ (by rfl) ?_ ?_; rotate_left; focus (intro wq hq; ((have hs := S2.out.then_ hq; have hqw := below_then Q2.out hq; have f3 : wq.cell? ⟨T, 3, none⟩ = some (.string ⟨sl.toArray⟩) := hs.1.cell 3; have f4 : wq.cell? ⟨T, 4, none⟩ = some (.slice (some ⟨bb, off, none⟩) 1 cap) := hs.1.cell 4; have fo : wq.cell? ⟨T + 1, 0, none⟩ = some (.int .i64 own) := hs.2.cell 0; obtain ⟨gl, p0, p1, p2, p3, p4⟩ := KA0.out.then_ hqw)); go_simp; first | done | with_reducible rfl | ((go_at_call 52; (with_reducible refine (HC0.out _ hqw).mono ?_); rintro e w' ⟨rfl, hb⟩; refine ⟨?_, below_then hq hb⟩; with_reducible rfl)))) | refine class_skip (by rfl) ?_); try simp only [Act.put, List.setIfInBounds_toArray, List.set_cons_zero, List.set_cons_succ]))
        refine wpQuiet_nil ?_
        intro W4 hW4
        go_wp2_with fail
        go_meet
        case rel => exact ⟨rfl, hW4⟩
      · have hd : decide (a < 0) = false := decide_eq_false ha
        have HBq := Lib.hid (show Bp = B by rw [HBP.out, HB.out, txtF_1, HIA.out, HKT.out]; show _ = oneF 7 a b sl _; unfold oneF; rw [if_pos rfl, if_neg ha]; rfl)
        clear ha
        go_upto_region 20 with fail
        (refine region_class (Below W2.heap.size W2) (by kernel_rfl) (by kernel_rfl) ((Below.refl _ _).drew) ?_; repeat ((first | (refine class_take ?_ (by rfl) ?_ ?_; rotate_left; focus (intro wq hq; ((have hs := S2.out.then_ hq; have hqw := below_then Q2.out hq; have f3 : wq.cell? ⟨T, 3, none⟩ = some (.string ⟨sl.toArray⟩) := hs.1.cell 3; have f4 : wq.cell? ⟨T, 4, none⟩ = some (.slice (some ⟨bb, off, none⟩) 1 cap) := hs.1.cell 4; have fo : wq.cell? ⟨T + 1, 0, none⟩ = some (.int .i64 own) := hs.2.cell 0; obtain ⟨gl, p0, p1, p2, p3, p4⟩ := KA0.out.then_ hqw)); go_simp; first | done | with_reducible rfl | ((go_at_call 52; (with_reducible refine (HC0.out _ hqw).mono ?_); rintro e w' ⟨rfl, hb⟩; refine ⟨?_, below_then hq hb⟩; with_reducible rfl)))) | refine class_skip (by rfl) ?_); try simp only [Act.put, List.setIfInBounds_toArray, List.set_cons_zero, List.set_cons_succ]))
        refine wpQuiet_nil ?_
        intro W3 hW3
        have g1 : W3.cell? ⟨T, 1, none⟩ = some (.int .i64 a) := (S2.out.then_ hW3).1.cell 1
        go_wp2_with fail
        go_meet
        case rel => exact ⟨by rw [HBq.out], hW3⟩
    · -- 8
      obtain rfl : len = 1 := by have h1 := HLEN.out; have h2 := HKN.out; have h3 : kidsN 8 = 1 := rfl; omega
      obtain ⟨bb, off, rfl, hbB, hcs⟩ := HSUB.out.kid (by omega)
      obtain ⟨k0', x0', y0', s0', ks0', ad0', n0', cc0, hx0, ⟨p00, p01, p02, p03, p04, j01, j02⟩, hk0⟩ := hcs 0 (by omega)
      simp only [Fst.kind, Fst.va, Fst.vb, Fst.nm, Nat.zero_mul, Nat.one_mul, Nat.add_zero] at p00 p01 p02 p03 p04
      have hm0 : Fst.node k0' x0' y0' s0' ks0' ∈ ks := List.mem_of_getElem? hx0
      have hzk0 := Nat.le_trans (HKID.out _ hm0) hlb
      have KA0 := Lib.hid (show KidAt w bb off k0' x0' y0' s0' ad0' n0' cc0 from ⟨hbB, p00, p01, p02, p03, p04⟩)
      obtain ⟨KT, hKT⟩ : ∃ X, X = parF own k0' (txtF (.node k0' x0' y0' s0' ks0')) := ⟨_, rfl⟩
      have lKT : KT.length ≤ 4802 := by rw [hKT]; have := (parF_len (own) k0' (txtF (.node k0' x0' y0' s0' ks0'))).2; omega
      have HC0 := Lib.hid (fun (V : World) (hV : Below w.heap.size w V) => show Calls Tryz.prog 52 #[.agg (fV k0' x0' y0' s0' ad0' n0' cc0), .int .i64 (own)] V (ShowPost KT V) from by
        have h := IH.out _ hm0 V ad0' n0' cc0 (own) (KIDS.out _ hm0) ((hk0.below hV (Nat.le_refl _)).more hV.size) j01 j02 hzk0 (by omega) (by omega) (HT.out.below hV)
        unfold ShowGoal at h
        simp only [Fst.kind, Fst.va, Fst.vb, Fst.nm] at h
        rw [← hKT] at h; exact h)
      unfold ShowPost at HC0
      clear p00 p01 p02 p03 p04 hk0 hzk0
      obtain ⟨t', rfl⟩ : ∃ t', ks = [t'] := by
        have := HLEN.out
        match ks, this with
        | [x], _ => exact ⟨x, rfl⟩
      obtain rfl : t' = .node k0' x0' y0' s0' ks0' := by simpa using hx0
      clear hcs hx0 hm0 j01 j02
      have HKT := Lib.hid (show KT = parF (lvF 8) k0' (txtF (.node k0' x0' y0' s0' ks0')) by rw [hKT, HOWN.out])
      clear hKT
      have HBB := Lib.hid (show B = [111, 110, 32] ++ IA ++ [32] ++ KT from by rw [HB.out, txtF_1, HIA.out, HKT.out]; rfl)
      obtain ⟨L1, hL1⟩ : ∃ S, [111, 110, 32] ++ IA = S := ⟨_, rfl⟩
      obtain ⟨L2, hL2⟩ : ∃ S, L1 ++ [32] = S := ⟨_, rfl⟩
      have zL1 : L1.length ≤ 5040 := by rw [← hL1]; (simp only [List.length_append]; try simp only [List.length_cons, List.length_nil]); omega
      have eL1 := add_list ([111, 110, 32]) (IA) L1 hL1 (by (try simp only [List.length_cons, List.length_nil]); omega)
      have zL2 : L2.length ≤ 5080 := by rw [← hL2]; (simp only [List.length_append]; try simp only [List.length_cons, List.length_nil]); omega
      have eL2 := add_list L1 ([32]) L2 hL2 (by (try simp only [List.length_cons, List.length_nil]); omega)
      have eL3 := add_list L2 (KT) B (by have := HBB.out.symm; rw [hL1, hL2] at this; exact this) (by (try simp only [List.length_cons, List.length_nil]); omega)
      clear hL1 hL2
      go_upto_region 24 with fail
      (refine region_class (Below W2.heap.size W2) (by kernel_rfl) (by kernel_rfl) ((Below.refl _ _).drew) ?_; repeat ((first | (refine class_take ?_ (by rfl) ?_ ?_; rotate_left; focus (intro wq hq; ((have hs := S2.out.then_ hq; have hqw := below_then Q2.out hq; have f3 : wq.cell? ⟨T, 3, none⟩ = some (.string ⟨sl.toArray⟩) := hs.1.cell 3; have f4 : wq.cell? ⟨T, 4, none⟩ = some (.slice (some ⟨bb, off, none⟩) 1 cap) := hs.1.cell 4; have fo : wq.cell? ⟨T + 1, 0, none⟩ = some (.int .i64 own) := hs.2.cell 0; obtain ⟨gl, p0, p1, p2, p3, p4⟩ := KA0.out.then_ hqw)); go_simp; first | done | with_reducible rfl | ((go_at_call 52; (with_reducible refine (HC0.out _ hqw).mono ?_); rintro e w' ⟨rfl, hb⟩; refine ⟨?_, below_then hq hb⟩; with_reducible rfl)))) | refine class_skip (by rfl) ?_); try simp only [Act.put, List.setIfInBounds_toArray, List.set_cons_zero, List.set_cons_succ]))
      refine wpQuiet_nil ?_
      intro W3 hW3
      go_wp2_with fail
      go_meet
      case rel => exact ⟨rfl, hW3⟩
    · -- 9
      obtain rfl : len = 2 := by have h1 := HLEN.out; have h2 := HKN.out; have h3 : kidsN 9 = 2 := rfl; omega
      obtain ⟨bb, off, rfl, hbB, hcs⟩ := HSUB.out.kid (by omega)
      obtain ⟨k0', x0', y0', s0', ks0', ad0', n0', cc0, hx0, ⟨p00, p01, p02, p03, p04, j01, j02⟩, hk0⟩ := hcs 0 (by omega)
      simp only [Fst.kind, Fst.va, Fst.vb, Fst.nm, Nat.zero_mul, Nat.one_mul, Nat.add_zero] at p00 p01 p02 p03 p04
      have hm0 : Fst.node k0' x0' y0' s0' ks0' ∈ ks := List.mem_of_getElem? hx0
      have hzk0 := Nat.le_trans (HKID.out _ hm0) hlb
      have KA0 := Lib.hid (show KidAt w bb off k0' x0' y0' s0' ad0' n0' cc0 from ⟨hbB, p00, p01, p02, p03, p04⟩)
      obtain ⟨KT, hKT⟩ : ∃ X, X = parF own k0' (txtF (.node k0' x0' y0' s0' ks0')) := ⟨_, rfl⟩
      have lKT : KT.length ≤ 4802 := by rw [hKT]; have := (parF_len (own) k0' (txtF (.node k0' x0' y0' s0' ks0'))).2; omega
      have HC0 := Lib.hid (fun (V : World) (hV : Below w.heap.size w V) => show Calls Tryz.prog 52 #[.agg (fV k0' x0' y0' s0' ad0' n0' cc0), .int .i64 (own)] V (ShowPost KT V) from by
        have h := IH.out _ hm0 V ad0' n0' cc0 (own) (KIDS.out _ hm0) ((hk0.below hV (Nat.le_refl _)).more hV.size) j01 j02 hzk0 (by omega) (by omega) (HT.out.below hV)
        unfold ShowGoal at h
        simp only [Fst.kind, Fst.va, Fst.vb, Fst.nm] at h
        rw [← hKT] at h; exact h)
      unfold ShowPost at HC0
      clear p00 p01 p02 p03 p04 hk0 hzk0
      obtain ⟨k1', x1', y1', s1', ks1', ad1', n1', cc1, hx1, ⟨p10, p11, p12, p13, p14, j11, j12⟩, hk1⟩ := hcs 1 (by omega)
      simp only [Fst.kind, Fst.va, Fst.vb, Fst.nm, Nat.zero_mul, Nat.one_mul, Nat.add_zero] at p10 p11 p12 p13 p14
      have hm1 : Fst.node k1' x1' y1' s1' ks1' ∈ ks := List.mem_of_getElem? hx1
      have hzk1 := Nat.le_trans (HKID.out _ hm1) hlb
      have KA1 := Lib.hid (show KidAt w bb (off + 5) k1' x1' y1' s1' ad1' n1' cc1 from ⟨hbB, p10, p11, p12, p13, p14⟩)
      obtain ⟨KU, hKU⟩ : ∃ X, X = parF (own + 1) k1' (txtF (.node k1' x1' y1' s1' ks1')) := ⟨_, rfl⟩
      have lKU : KU.length ≤ 4802 := by rw [hKU]; have := (parF_len ((own + 1)) k1' (txtF (.node k1' x1' y1' s1' ks1'))).2; omega
      have HC1 := Lib.hid (fun (V : World) (hV : Below w.heap.size w V) => show Calls Tryz.prog 52 #[.agg (fV k1' x1' y1' s1' ad1' n1' cc1), .int .i64 ((own + 1))] V (ShowPost KU V) from by
        have h := IH.out _ hm1 V ad1' n1' cc1 ((own + 1)) (KIDS.out _ hm1) ((hk1.below hV (Nat.le_refl _)).more hV.size) j11 j12 hzk1 (by omega) (by omega) (HT.out.below hV)
        unfold ShowGoal at h
        simp only [Fst.kind, Fst.va, Fst.vb, Fst.nm] at h
        rw [← hKU] at h; exact h)
      unfold ShowPost at HC1
      clear p10 p11 p12 p13 p14 hk1 hzk1
      obtain ⟨t', u', rfl⟩ : ∃ t' u', ks = [t', u'] := by
        have := HLEN.out
        match ks, this with
        | [x, y], _ => exact ⟨x, y, rfl⟩
      obtain rfl : t' = .node k0' x0' y0' s0' ks0' := by simpa using hx0
      obtain rfl : u' = .node k1' x1' y1' s1' ks1' := by simpa using hx1
      have HBB := Lib.hid (show KT ++ [32] ++ [111, 114] ++ [32] ++ KU = B by rw [HB.out, txtF_2, hKT, hKU, HOWN.out]; rfl)
      have HTWO := Lib.hid (show_two W2 T (T + 1) 9 a b ⟨sl.toArray⟩ bb off cap own k0' x0' y0' k1' x1' y1' s0' s1' ad0' ad1' n0' cc0 n1' cc1 KT KU [111, 114] S2.out (KA0.out.then_ Q2.out) (KA1.out.then_ Q2.out) ho0 ho1 (by decide) (by omega) (by omega) (fun V hV => HC0.out V (below_then Q2.out hV)) (fun V hV => HC1.out V (below_then Q2.out hV)))
      rw [HBB.out] at HTWO
      unfold ShowPost at HTWO
      clear hcs hx0 hm0 hx1 hm1 j01 j02 j11 j12 hKT hKU HBB HC0 HC1 KA0 KA1 lKT lKU
      go_wp2_with (go_at_call 97; refine HTWO.out.mono ?_; rintro e w' ⟨rfl, hb⟩)
      go_meet
      case rel => exact ⟨rfl, hb⟩
    · -- 10
      obtain rfl : len = 2 := by have h1 := HLEN.out; have h2 := HKN.out; have h3 : kidsN 10 = 2 := rfl; omega
      obtain ⟨bb, off, rfl, hbB, hcs⟩ := HSUB.out.kid (by omega)
      obtain ⟨k0', x0', y0', s0', ks0', ad0', n0', cc0, hx0, ⟨p00, p01, p02, p03, p04, j01, j02⟩, hk0⟩ := hcs 0 (by omega)
      simp only [Fst.kind, Fst.va, Fst.vb, Fst.nm, Nat.zero_mul, Nat.one_mul, Nat.add_zero] at p00 p01 p02 p03 p04
      have hm0 : Fst.node k0' x0' y0' s0' ks0' ∈ ks := List.mem_of_getElem? hx0
      have hzk0 := Nat.le_trans (HKID.out _ hm0) hlb
      have KA0 := Lib.hid (show KidAt w bb off k0' x0' y0' s0' ad0' n0' cc0 from ⟨hbB, p00, p01, p02, p03, p04⟩)
      obtain ⟨KT, hKT⟩ : ∃ X, X = parF own k0' (txtF (.node k0' x0' y0' s0' ks0')) := ⟨_, rfl⟩
      have lKT : KT.length ≤ 4802 := by rw [hKT]; have := (parF_len (own) k0' (txtF (.node k0' x0' y0' s0' ks0'))).2; omega
      have HC0 := Lib.hid (fun (V : World) (hV : Below w.heap.size w V) => show Calls Tryz.prog 52 #[.agg (fV k0' x0' y0' s0' ad0' n0' cc0), .int .i64 (own)] V (ShowPost KT V) from by
        have h := IH.out _ hm0 V ad0' n0' cc0 (own) (KIDS.out _ hm0) ((hk0.below hV (Nat.le_refl _)).more hV.size) j01 j02 hzk0 (by omega) (by omega) (HT.out.below hV)
        unfold ShowGoal at h
        simp only [Fst.kind, Fst.va, Fst.vb, Fst.nm] at h
        rw [← hKT] at h; exact h)
      unfold ShowPost at HC0
      clear p00 p01 p02 p03 p04 hk0 hzk0
      obtain ⟨k1', x1', y1', s1', ks1', ad1', n1', cc1, hx1, ⟨p10, p11, p12, p13, p14, j11, j12⟩, hk1⟩ := hcs 1 (by omega)
      simp only [Fst.kind, Fst.va, Fst.vb, Fst.nm, Nat.zero_mul, Nat.one_mul, Nat.add_zero] at p10 p11 p12 p13 p14
      have hm1 : Fst.node k1' x1' y1' s1' ks1' ∈ ks := List.mem_of_getElem? hx1
      have hzk1 := Nat.le_trans (HKID.out _ hm1) hlb
      have KA1 := Lib.hid (show KidAt w bb (off + 5) k1' x1' y1' s1' ad1' n1' cc1 from ⟨hbB, p10, p11, p12, p13, p14⟩)
      obtain ⟨KU, hKU⟩ : ∃ X, X = parF (own + 1) k1' (txtF (.node k1' x1' y1' s1' ks1')) := ⟨_, rfl⟩
      have lKU : KU.length ≤ 4802 := by rw [hKU]; have := (parF_len ((own + 1)) k1' (txtF (.node k1' x1' y1' s1' ks1'))).2; omega
      have HC1 := Lib.hid (fun (V : World) (hV : Below w.heap.size w V) => show Calls Tryz.prog 52 #[.agg (fV k1' x1' y1' s1' ad1' n1' cc1), .int .i64 ((own + 1))] V (ShowPost KU V) from by
        have h := IH.out _ hm1 V ad1' n1' cc1 ((own + 1)) (KIDS.out _ hm1) ((hk1.below hV (Nat.le_refl _)).more hV.size) j11 j12 hzk1 (by omega) (by omega) (HT.out.below hV)
        unfold ShowGoal at h
        simp only [Fst.kind, Fst.va, Fst.vb, Fst.nm] at h
        rw [← hKU] at h; exact h)
      unfold ShowPost at HC1
      clear p10 p11 p12 p13 p14 hk1 hzk1
      obtain ⟨t', u', rfl⟩ : ∃ t' u', ks = [t', u'] := by
        have := HLEN.out
        match ks, this with
        | [x, y], _ => exact ⟨x, y, rfl⟩
      obtain rfl : t' = .node k0' x0' y0' s0' ks0' := by simpa using hx0
      obtain rfl : u' = .node k1' x1' y1' s1' ks1' := by simpa using hx1
      have HBB := Lib.hid (show KT ++ [32] ++ [97, 110, 100] ++ [32] ++ KU = B by rw [HB.out, txtF_2, hKT, hKU, HOWN.out]; rfl)
      have HTWO := Lib.hid (show_two W2 T (T + 1) 10 a b ⟨sl.toArray⟩ bb off cap own k0' x0' y0' k1' x1' y1' s0' s1' ad0' ad1' n0' cc0 n1' cc1 KT KU [97, 110, 100] S2.out (KA0.out.then_ Q2.out) (KA1.out.then_ Q2.out) ho0 ho1 (by decide) (by omega) (by omega) (fun V hV => HC0.out V (below_then Q2.out hV)) (fun V hV => HC1.out V (below_then Q2.out hV)))
      rw [HBB.out] at HTWO
      unfold ShowPost at HTWO
      clear hcs hx0 hm0 hx1 hm1 j01 j02 j11 j12 hKT hKU HBB HC0 HC1 KA0 KA1 lKT lKU
      go_wp2_with (go_at_call 97; refine HTWO.out.mono ?_; rintro e w' ⟨rfl, hb⟩)
      go_meet
      case rel => exact ⟨rfl, hb⟩
    · -- 11
      obtain rfl : len = 2 := by have h1 := HLEN.out; have h2 := HKN.out; have h3 : kidsN 11 = 2 := rfl; omega
      obtain ⟨bb, off, rfl, hbB, hcs⟩ := HSUB.out.kid (by omega)
      obtain ⟨k0', x0', y0', s0', ks0', ad0', n0', cc0, hx0, ⟨p00, p01, p02, p03, p04, j01, j02⟩, hk0⟩ := hcs 0 (by omega)
      simp only [Fst.kind, Fst.va, Fst.vb, Fst.nm, Nat.zero_mul, Nat.one_mul, Nat.add_zero] at p00 p01 p02 p03 p04
      have hm0 : Fst.node k0' x0' y0' s0' ks0' ∈ ks := List.mem_of_getElem? hx0
      have hzk0 := Nat.le_trans (HKID.out _ hm0) hlb
      have KA0 := Lib.hid (show KidAt w bb off k0' x0' y0' s0' ad0' n0' cc0 from ⟨hbB, p00, p01, p02, p03, p04⟩)
      obtain ⟨KT, hKT⟩ : ∃ X, X = parF own k0' (txtF (.node k0' x0' y0' s0' ks0')) := ⟨_, rfl⟩
      have lKT : KT.length ≤ 4802 := by rw [hKT]; have := (parF_len (own) k0' (txtF (.node k0' x0' y0' s0' ks0'))).2; omega
      have HC0 := Lib.hid (fun (V : World) (hV : Below w.heap.size w V) => show Calls Tryz.prog 52 #[.agg (fV k0' x0' y0' s0' ad0' n0' cc0), .int .i64 (own)] V (ShowPost KT V) from by
        have h := IH.out _ hm0 V ad0' n0' cc0 (own) (KIDS.out _ hm0) ((hk0.below hV (Nat.le_refl _)).more hV.size) j01 j02 hzk0 (by omega) (by omega) (HT.out.below hV)
        unfold ShowGoal at h
        simp only [Fst.kind, Fst.va, Fst.vb, Fst.nm] at h
        rw [← hKT] at h; exact h)
      unfold ShowPost at HC0
      clear p00 p01 p02 p03 p04 hk0 hzk0
      obtain ⟨k1', x1', y1', s1', ks1', ad1', n1', cc1, hx1, ⟨p10, p11, p12, p13, p14, j11, j12⟩, hk1⟩ := hcs 1 (by omega)
      simp only [Fst.kind, Fst.va, Fst.vb, Fst.nm, Nat.zero_mul, Nat.one_mul, Nat.add_zero] at p10 p11 p12 p13 p14
      have hm1 : Fst.node k1' x1' y1' s1' ks1' ∈ ks := List.mem_of_getElem? hx1
      have hzk1 := Nat.le_trans (HKID.out _ hm1) hlb
      have KA1 := Lib.hid (show KidAt w bb (off + 5) k1' x1' y1' s1' ad1' n1' cc1 from ⟨hbB, p10, p11, p12, p13, p14⟩)
      obtain ⟨KU, hKU⟩ : ∃ X, X = parF (own + 1) k1' (txtF (.node k1' x1' y1' s1' ks1')) := ⟨_, rfl⟩
      have lKU : KU.length ≤ 4802 := by rw [hKU]; have := (parF_len ((own + 1)) k1' (txtF (.node k1' x1' y1' s1' ks1'))).2; omega
      have HC1 := Lib.hid (fun (V : World) (hV : Below w.heap.size w V) => show Calls Tryz.prog 52 #[.agg (fV k1' x1' y1' s1' ad1' n1' cc1), .int .i64 ((own + 1))] V (ShowPost KU V) from by
        have h := IH.out _ hm1 V ad1' n1' cc1 ((own + 1)) (KIDS.out _ hm1) ((hk1.below hV (Nat.le_refl _)).more hV.size) j11 j12 hzk1 (by omega) (by omega) (HT.out.below hV)
        unfold ShowGoal at h
        simp only [Fst.kind, Fst.va, Fst.vb, Fst.nm] at h
        rw [← hKU] at h; exact h)
      unfold ShowPost at HC1
      clear p10 p11 p12 p13 p14 hk1 hzk1
      obtain ⟨t', u', rfl⟩ : ∃ t' u', ks = [t', u'] := by
        have := HLEN.out
        match ks, this with
        | [x, y], _ => exact ⟨x, y, rfl⟩
      obtain rfl : t' = .node k0' x0' y0' s0' ks0' := by simpa using hx0
      obtain rfl : u' = .node k1' x1' y1' s1' ks1' := by simpa using hx1
      have HBB := Lib.hid (show KT ++ [32] ++ [110, 111, 116] ++ [32] ++ KU = B by rw [HB.out, txtF_2, hKT, hKU, HOWN.out]; rfl)
      have HTWO := Lib.hid (show_two W2 T (T + 1) 11 a b ⟨sl.toArray⟩ bb off cap own k0' x0' y0' k1' x1' y1' s0' s1' ad0' ad1' n0' cc0 n1' cc1 KT KU [110, 111, 116] S2.out (KA0.out.then_ Q2.out) (KA1.out.then_ Q2.out) ho0 ho1 (by decide) (by omega) (by omega) (fun V hV => HC0.out V (below_then Q2.out hV)) (fun V hV => HC1.out V (below_then Q2.out hV)))
      rw [HBB.out] at HTWO
      unfold ShowPost at HTWO
      clear hcs hx0 hm0 hx1 hm1 j01 j02 j11 j12 hKT hKU HBB HC0 HC1 KA0 KA1 lKT lKU
      go_wp2_with (go_at_call 97; refine HTWO.out.mono ?_; rintro e w' ⟨rfl, hb⟩)
      go_meet
      case rel => exact ⟨rfl, hb⟩
    · -- 12
      obtain rfl : len = 1 := by have h1 := HLEN.out; have h2 := HKN.out; have h3 : kidsN 12 = 1 := rfl; omega
      obtain ⟨bb, off, rfl, hbB, hcs⟩ := HSUB.out.kid (by omega)
      obtain ⟨k0', x0', y0', s0', ks0', ad0', n0', cc0, hx0, ⟨p00, p01, p02, p03, p04, j01, j02⟩, hk0⟩ := hcs 0 (by omega)
      simp only [Fst.kind, Fst.va, Fst.vb, Fst.nm, Nat.zero_mul, Nat.one_mul, Nat.add_zero] at p00 p01 p02 p03 p04
      have hm0 : Fst.node k0' x0' y0' s0' ks0' ∈ ks := List.mem_of_getElem? hx0
      have hzk0 := Nat.le_trans (HKID.out _ hm0) hlb
      have KA0 := Lib.hid (show KidAt w bb off k0' x0' y0' s0' ad0' n0' cc0 from ⟨hbB, p00, p01, p02, p03, p04⟩)
      obtain ⟨KT, hKT⟩ : ∃ X, X = parF own k0' (txtF (.node k0' x0' y0' s0' ks0')) := ⟨_, rfl⟩
      have lKT : KT.length ≤ 4802 := by rw [hKT]; have := (parF_len (own) k0' (txtF (.node k0' x0' y0' s0' ks0'))).2; omega
      have HC0 := Lib.hid (fun (V : World) (hV : Below w.heap.size w V) => show Calls Tryz.prog 52 #[.agg (fV k0' x0' y0' s0' ad0' n0' cc0), .int .i64 (own)] V (ShowPost KT V) from by
        have h := IH.out _ hm0 V ad0' n0' cc0 (own) (KIDS.out _ hm0) ((hk0.below hV (Nat.le_refl _)).more hV.size) j01 j02 hzk0 (by omega) (by omega) (HT.out.below hV)
        unfold ShowGoal at h
        simp only [Fst.kind, Fst.va, Fst.vb, Fst.nm] at h
        rw [← hKT] at h; exact h)
      unfold ShowPost at HC0
      clear p00 p01 p02 p03 p04 hk0 hzk0
      obtain ⟨t', rfl⟩ : ∃ t', ks = [t'] := by
        have := HLEN.out
        match ks, this with
        | [x], _ => exact ⟨x, rfl⟩
      obtain rfl : t' = .node k0' x0' y0' s0' ks0' := by simpa using hx0
      clear hcs hx0 hm0 j01 j02
      have HKT := Lib.hid (show KT = parF (lvF 12) k0' (txtF (.node k0' x0' y0' s0' ks0')) by rw [hKT, HOWN.out])
      clear hKT
      have HBB := Lib.hid (show B = [110, 116, 104, 32] ++ IA ++ [32, 105, 110, 32] ++ sl ++ [32] ++ IB ++ [32] ++ KT from by rw [HB.out, txtF_1, HIA.out, HIB.out, HKT.out]; rfl)
      obtain ⟨L1, hL1⟩ : ∃ S, [110, 116, 104, 32] ++ IA = S := ⟨_, rfl⟩
      obtain ⟨L2, hL2⟩ : ∃ S, L1 ++ [32, 105, 110, 32] = S := ⟨_, rfl⟩
      obtain ⟨L3, hL3⟩ : ∃ S, L2 ++ sl = S := ⟨_, rfl⟩
      obtain ⟨L4, hL4⟩ : ∃ S, L3 ++ [32] = S := ⟨_, rfl⟩
      obtain ⟨L5, hL5⟩ : ∃ S, L4 ++ IB = S := ⟨_, rfl⟩
      obtain ⟨L6, hL6⟩ : ∃ S, L5 ++ [32] = S := ⟨_, rfl⟩
      have zL1 : L1.length ≤ 5040 := by rw [← hL1]; (simp only [List.length_append]; try simp only [List.length_cons, List.length_nil]); omega
      have eL1 := add_list ([110, 116, 104, 32]) (IA) L1 hL1 (by (try simp only [List.length_cons, List.length_nil]); omega)
      have zL2 : L2.length ≤ 5080 := by rw [← hL2]; (simp only [List.length_append]; try simp only [List.length_cons, List.length_nil]); omega
      have eL2 := add_list L1 ([32, 105, 110, 32]) L2 hL2 (by (try simp only [List.length_cons, List.length_nil]); omega)
      have zL3 : L3.length ≤ 5120 := by rw [← hL3]; (simp only [List.length_append]; try simp only [List.length_cons, List.length_nil]); omega
      have eL3 := add_list L2 (sl) L3 hL3 (by (try simp only [List.length_cons, List.length_nil]); omega)
      have zL4 : L4.length ≤ 5160 := by rw [← hL4]; (simp only [List.length_append]; try simp only [List.length_cons, List.length_nil]); omega
      have eL4 := add_list L3 ([32]) L4 hL4 (by (try simp only [List.length_cons, List.length_nil]); omega)
      have zL5 : L5.length ≤ 5200 := by rw [← hL5]; (simp only [List.length_append]; try simp only [List.length_cons, List.length_nil]); omega
      have eL5 := add_list L4 (IB) L5 hL5 (by (try simp only [List.length_cons, List.length_nil]); omega)
      have zL6 : L6.length ≤ 5240 := by rw [← hL6]; (simp only [List.length_append]; try simp only [List.length_cons, List.length_nil]); omega
      have eL6 := add_list L5 ([32]) L6 hL6 (by (try simp only [List.length_cons, List.length_nil]); omega)
      have eL7 := add_list L6 (KT) B (by have := HBB.out.symm; rw [hL1, hL2, hL3, hL4, hL5, hL6] at this; exact this) (by (try simp only [List.length_cons, List.length_nil]); omega)
      clear hL1 hL2 hL3 hL4 hL5 hL6
      go_upto_region 6 with fail
      (refine region_class (Below W2.heap.size W2) (by kernel_rfl) (by kernel_rfl) ((Below.refl _ _).drew) ?_; repeat ((first | (refine class_take ?_ (by rfl) ?_ ?_; rotate_left; focus (intro wq hq; ((have hs := S2.out.then_ hq; have hqw := below_then Q2.out hq; have f3 : wq.cell? ⟨T, 3, none⟩ = some (.string ⟨sl.toArray⟩) := hs.1.cell 3; have f4 : wq.cell? ⟨T, 4, none⟩ = some (.slice (some ⟨bb, off, none⟩) 1 cap) := hs.1.cell 4; have fo : wq.cell? ⟨T + 1, 0, none⟩ = some (.int .i64 own) := hs.2.cell 0; obtain ⟨gl, p0, p1, p2, p3, p4⟩ := KA0.out.then_ hqw)); go_simp; first | done | with_reducible rfl | ((go_at_call 52; (with_reducible refine (HC0.out _ hqw).mono ?_); rintro e w' ⟨rfl, hb⟩; refine ⟨?_, below_then hq hb⟩; with_reducible rfl)))) | refine class_skip (by rfl) ?_); try simp only [Act.put, List.setIfInBounds_toArray, List.set_cons_zero, List.set_cons_succ]))
      refine wpQuiet_nil ?_
      intro W3 hW3
      go_wp2_with fail
      go_meet
      case rel => exact ⟨rfl, hW3⟩
  case rest =>
  obtain ⟨rfl, b3⟩ := hcut
  have fo : wc.cell? ⟨T + 1, 0, none⟩ = some (.int .i64 own) := (S2.out.then_ b3).2.cell 0
  have hlb := HSZ.out
  have e1 := add_list [40] B ([40] ++ B) rfl (by simp only [List.length_cons, List.length_nil]; omega)
  have e2 := add_list ([40] ++ B) [41] ([40] ++ B ++ [41]) rfl (by simp only [List.length_append, List.length_cons, List.length_nil]; omega)
  generalize [40] ++ B = B1 at *
  generalize B1 ++ [41] = B2 at *
  have Q3 := Lib.hid (below_then Q2.out b3)
  clear b3 d0 d1 d2 d3 d4 S2 Q2 HSUB IH
  rcases HRH.out with ⟨h, HR⟩ | ⟨h, HR⟩
  · have hd : decide (own < least) = true := decide_eq_true h
    go_wp2_with fail
    go_ret
    exact ⟨by rw [HR.out]; rfl, Q3.out⟩
  · have hd : decide (own < least) = false := decide_eq_false (by omega)
    go_wp2_with fail
    go_ret
    exact ⟨by rw [HR.out]; rfl, Q3.out⟩
end Go.Proofs.YtlbjmpdonnlieaaGreatDoor
