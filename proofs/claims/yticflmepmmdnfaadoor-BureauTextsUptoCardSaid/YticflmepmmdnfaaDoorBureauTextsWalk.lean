/- BureauTexts: the Go text returns true at every input within the bound, and writes nothing that was there. -/
import Derived.Test.YticflmepmmdnfaaDoorRows
import Derived.Test.YticflmepmmdnfaaDoorBur2
import Derived.Test.YticflmepmmdnfaaDoorBulk
import Derived.Test.YticflmepmmdnfaaDoorZoneBase
import Derived.Test.YticflmepmmdnfaaDoorLaid
namespace Go.Proofs.YticflmepmmdnfaaDoor.bureauTextsLaw
set_option linter.unusedVariables false
set_option linter.unusedSimpArgs false
set_option maxRecDepth 100000
open Go.RowKit Go.ChangeShapes Go.WideShapes Go.Shelf Num

theorem lit0 : zoneErr ⟨#[98, 97, 115, 101]⟩ 3600000 baseChg = 0 := by decide +kernel
theorem itoa0 : itoaS 0 = ⟨#[48]⟩ := by
  have : Lib.itoa 0 = [48] := by unfold Lib.itoa; rw [if_neg (by decide)]; show Lib.decDigits 0 = _; exact dd_zero
  unfold itoaS; rw [this]
theorem itoaB : itoaS 7200000 = ⟨#[55, 50, 48, 48, 48, 48, 48]⟩ := by
  have : Lib.itoa 7200000 = [55, 50, 48, 48, 48, 48, 48] := by
    unfold Lib.itoa; rw [if_neg (by decide)]
    show Lib.decDigits 7200000 = _
    rw [dd_snoc _ (by omega), dd_snoc _ (by omega), dd_snoc _ (by omega), dd_snoc _ (by omega), dd_snoc _ (by omega), dd_snoc _ (by omega), dd_one _ (by omega)]
    rfl
  unfold itoaS; rw [this]
theorem litS : burS ⟨#[98, 97, 115, 101]⟩ 0 baseChg = ⟨#[98, 97, 115, 101, 32, 48, 32, 48, 32, 55, 50, 48, 48, 48, 48, 48, 32, 83, 85, 77]⟩ := by
  unfold burS burL baseChg chT headT
  simp only [List.length_cons, List.length_nil, List.take_succ_cons, List.take_zero, List.flatMap_cons, List.flatMap_nil, List.take_nil, Int.le_refl, if_true]
  rw [itoa0, itoaB]
  decide +kernel
theorem litE : burE ⟨#[98, 97, 115, 101]⟩ 3600000 0 baseChg = 0 ∧ burX ⟨#[98, 97, 115, 101]⟩ 3600000 0 baseChg = ⟨#[98, 97, 115, 101, 32, 48, 32, 48, 32, 55, 50, 48, 48, 48, 48, 48, 32, 83, 85, 77]⟩ := by
  obtain ⟨e1, e2⟩ := burE_ok (f := 3600000) (fr := 0) lit0 (by decide +kernel) (by rw [litS]; decide +kernel)
  exact ⟨e1, by rw [e2, litS]⟩
set_option maxHeartbeats 16000000 in
theorem core (w : World) (s : ByteArray) (f fr : Int) (a : Option Addr) (n c : Nat) (xs : List Chg) (hs : s.size ≤ 1048576) (f1 : -9223372036854775808 ≤ f) (f2 : f ≤ 9223372036854775807) (g1 : -9223372036854775808 ≤ fr) (g2 : fr ≤ 9223372036854775807) (hn : n ≤ 1048576) (hx : ∀ x ∈ xs, x.2.2.size ≤ 1048576) (h : Changes w w.heap.size a n xs) (ht : Pow w) :
    Calls Tryd.prog 5 #[.agg #[.string s, .int .i64 f, .slice a n c], .int .i64 fr] w fun e w' => e = .returned (.bool true) ∧ Below w.heap.size w w' := by
  have LN := Lib.hid h.len
  have HZL := Lib.hid (burL_len hs g1 g2 h.2 hx)
  have H := Lib.hid h; clear h
  have HT := Lib.hid ht; clear ht
  have K5 := Lib.hid hx; clear hx
  have CT := Lib.hid (fun W (hb : Below w.heap.size w W) => bur_Text W s f fr a n c xs hs f1 f2 g1 g2 hn K5.out (H.out.then_ hb) (HT.out.below hb))
  have CZ := Lib.hid (fun W (hb : Below w.heap.size w W) => ref_ZoneError W s f a n c xs (by omega) f1 f2 (H.out.then_ hb))
  go_enter Tryd.func5, Tryd.ntmps5
  go_wp2_with fail
  refine (law_base _).mono ?_
  rintro e w1 ⟨ab, rfl, hcb, hb⟩
  have o1 := (One.new w (.cells #[.string s, .int .i64 f, .slice a n c] 24)).step hb
  have HCB := Lib.hid hcb
  have O1 := Lib.hid o1; clear hb hcb o1
  go_wp2_with fail
  refine (bur_Text _ _ _ 0 _ _ _ baseChg (by decide) (by omega) (by omega) (by omega) (by omega) (by omega) (by decide +kernel) HCB.out (HT.out.below O1.out.2)).mono ?_
  unfold BurText
  rw [litE.1, litE.2]
  rintro e w2 ⟨rfl, hb⟩
  have o2 := O1.out.step hb
  obtain ⟨x0, x1, x2⟩ := o2.cells3
  have O2 := Lib.hid o2; clear hb o2 O1 HCB
  go_wp2_with fail
  refine (CT.out _ O2.out.2).mono ?_
  unfold BurText
  by_cases hz : zoneErr s f xs = 0
  · have HZ := Lib.hid hz
    by_cases hi : instB fr = true
    · have HI := Lib.hid hi
      by_cases h3 : 200 < (burS s fr xs).size
      · have H3 := Lib.hid h3
        rw [(burE_long hz hi h3).1, (burE_long hz hi h3).2]
        clear hz hi h3
        rintro e w3 ⟨rfl, hb⟩
        have o3 := O2.out.step hb
        clear x0 x1 x2
        obtain ⟨x0, x1, x2⟩ := o3.cells3
        have O3 := Lib.hid o3; clear hb o3 O2
        go_wp2_with fail
        refine (CZ.out _ O3.out.2).mono ?_
        rw [HZ.out]
        rintro e w4 ⟨rfl, hb⟩
        have o4 := O3.out.step hb
        clear x0 x1 x2
        have O4 := Lib.hid o4; clear hb o4 O3
        go_wp2_with fail
        refine (ref_InstantB _ _ g1 g2).mono ?_
        rw [HI.out]
        rintro e w5 ⟨rfl, rfl⟩
        have s0 := itoaS_size g1 g2
        have z1 := sp_size
        have a0 := add_ok s ⟨#[32]⟩ _ rfl (by (try simp only [app_size]); omega)
        have a1 := add_ok (s ++ ⟨#[32]⟩) (itoaS fr) _ rfl (by (try simp only [app_size]); omega)
        have CI := Lib.hid (fun (W : World) (h : One w (.cells #[.string s, .int .i64 f, .slice a n c] 24) W) => lib_Itoa fr W g1 g2 (HT.out.below h.2))
        clear z1 s0
        go_upto_region 8 with (fail)
        have o0 := O4.out
        (refine region_class (One w (.cells #[.string s, .int .i64 f, .slice a n c] 24)) (by kernel_rfl) (by kernel_rfl) (o0.drew) ?_; repeat ((first | (refine class_take ?_ (by rfl) ?_ ?_; rotate_left; focus (intro wq hq; ((have x0 : wq.cell? ⟨w.heap.size, 0, none⟩ = some (.string s) := hq.1.cell 0)); go_simp; first | done | with_reducible rfl | ((go_at_call 15; (with_reducible refine (CI.out _ hq).mono ?_); rintro e w' ⟨rfl, hb⟩; refine ⟨?_, hq.step hb⟩; with_reducible rfl)))) | refine class_skip (by rfl) ?_); try simp only [Act.put, List.setIfInBounds_toArray, List.set_cons_zero, List.set_cons_succ]))
        refine wpQuiet_nil ?_
        intro W2 hW2
        clear o0 O4
        have y2 : W2.cell? ⟨w.heap.size, 2, none⟩ = some (.slice a n c) := hW2.1.cell 2
        have O20 := Lib.hid hW2; clear hW2 a0 a1
        go_wp2_with fail
        clear y2
        go_loopw [10, 48] (fun v i wr => ∃ k : Nat, k ≤ n ∧ i = .int .i64 k ∧ v = .string ⟨(burL s fr xs k).toArray⟩ ∧ One w (.cells #[.string s, .int .i64 f, .slice a n c] 24) wr) (fun _ i _ => n - (intOf i).toNat)
        case atStart => exact ⟨0, by omega, rfl, by rw [burL_zero]; rfl, O20.out⟩
        case round =>
          clear O20
          obtain ⟨k, hk, rfl, rfl, hp⟩ := hrel
          have hl1 := HZL.out k
          by_cases hlt : k < n
          · obtain ⟨b0, off, rfl, hbB, hcs⟩ := (H.out.below hp.2 (Nat.le_refl _)).open_ (by omega)
            obtain ⟨t, o, l, hc0, hc1, hc2, hx, t1, t2, o1, o2, hls⟩ := hcs k hlt
            have HS := Lib.hid (burL_succ s fr xs k t o l hx)
            have hll : l.size ≤ 1048576 := K5.out _ (List.mem_of_getElem? hx)
            have hcz := chT_size t1 t2 o1 o2 hll
            clear hcs hx
            have hzw := hp.2.size
            have hbz : b0 < wr.heap.size := by omega
            have HP := Lib.hid hp; clear hp
            by_cases hft : fr ≤ t
            · have hS : burL s fr xs (k + 1) = burL s fr xs k ++ (chT t o l).data.toList := by rw [HS.out, if_pos hft]
              go_wp2_with fail
              have pc : RtB w (.cells #[.string s, .int .i64 f, .slice (some ⟨b0, off, none⟩) n c] 24) wr.heap.size (.cells #[.int .i64 t, .int .i64 o, .string l] 31) (wr.alloc (.cells #[.int .i64 t, .int .i64 o, .string l] 31)) := ⟨HP.out.alloc _, At.new _ _⟩
              have HPC := Lib.hid pc; clear pc
              generalize World.alloc wr _ = W4 at HPC ⊢
              obtain ⟨C, hC⟩ : ∃ C, C = wr.heap.size := ⟨_, rfl⟩
              rw [← hC] at HPC ⊢
              clear hC hbz hzw hc0 hc1 hc2
              have s1 := itoaS_size t1 t2
              have s2 := itoaS_size o1 o2
              have z1 := sp_size
              have bb0 := add_ok (⟨#[32]⟩ : ByteArray) (itoaS t) _ rfl (by (try simp only [app_size]); omega)
              have bb1 := add_ok ((⟨#[32]⟩ : ByteArray) ++ (itoaS t)) (⟨#[32]⟩) _ rfl (by (try simp only [app_size]); omega)
              have bb2 := add_ok (((⟨#[32]⟩ : ByteArray) ++ (itoaS t)) ++ (⟨#[32]⟩)) (itoaS o) _ rfl (by (try simp only [app_size]); omega)
              have bb3 := add_ok ((((⟨#[32]⟩ : ByteArray) ++ (itoaS t)) ++ (⟨#[32]⟩)) ++ (itoaS o)) (⟨#[32]⟩) _ rfl (by (try simp only [app_size]); omega)
              have bb4 := add_ok (((((⟨#[32]⟩ : ByteArray) ++ (itoaS t)) ++ (⟨#[32]⟩)) ++ (itoaS o)) ++ (⟨#[32]⟩)) l _ rfl (by (try simp only [app_size]); omega)
              have cc := add_ok ⟨(burL s fr xs k).toArray⟩ (chT t o l) ⟨(burL s fr xs (k + 1)).toArray⟩ (by rw [hS]; have := ByteArray.mk_append_mk (burL s fr xs k) (chT t o l).data.toList; simpa using this) (by rw [arr_size]; omega)
              unfold chT at cc
              clear hS
              have CD := Lib.hid (fun (W : World) (h : RtB w (.cells #[.string s, .int .i64 f, .slice (some ⟨b0, off, none⟩) n c] 24) C (.cells #[.int .i64 t, .int .i64 o, .string l] 31) W) => lib_Itoa t W t1 t2 (HT.out.below h.1.2))
              have CM := Lib.hid (fun (W : World) (h : RtB w (.cells #[.string s, .int .i64 f, .slice (some ⟨b0, off, none⟩) n c] 24) C (.cells #[.int .i64 t, .int .i64 o, .string l] 31) W) => lib_Itoa o W o1 o2 (HT.out.below h.1.2))
              clear z1 s1 s2
              have y0 : W4.cell? ⟨C, 0, none⟩ = some (.int .i64 t) := HPC.out.2.cell 0
              go_upto_region 13 with (fail)
              clear y0
              have pc5 := HPC.out
              (refine region_class (RtB w (.cells #[.string s, .int .i64 f, .slice (some ⟨b0, off, none⟩) n c] 24) C (.cells #[.int .i64 t, .int .i64 o, .string l] 31)) (by kernel_rfl) (by kernel_rfl) (pc5.step (Below.refl _ _).drew) ?_; repeat ((first | (refine class_take ?_ (by rfl) ?_ ?_; rotate_left; focus (intro wq hq; ((have x0 : wq.cell? ⟨C, 0, none⟩ = some (.int .i64 t) := hq.2.cell 0; have x1 : wq.cell? ⟨C, 1, none⟩ = some (.int .i64 o) := hq.2.cell 1; have x2 : wq.cell? ⟨C, 2, none⟩ = some (.string l) := hq.2.cell 2)); go_simp; first | done | with_reducible rfl | ((go_at_call 15; (first | (with_reducible refine (CD.out _ hq).mono ?_) | (with_reducible refine (CM.out _ hq).mono ?_)); rintro e w' ⟨rfl, hb⟩; refine ⟨?_, hq.step hb⟩; with_reducible rfl)))) | refine class_skip (by rfl) ?_); try simp only [Act.put, List.setIfInBounds_toArray, List.set_cons_zero, List.set_cons_succ]))
              refine wpQuiet_nil ?_
              intro W6 hW6
              clear pc5 HPC
              have P6 := Lib.hid hW6.1; clear hW6
              clear bb0 bb1 bb2 bb3 bb4 cc
              go_wp2_with fail
              go_roundw
              case rel => exact ⟨k + 1, by omega, by go_num, rfl, P6.out⟩
              case measure => simp [intOf]; omega
            · have hS : burL s fr xs (k + 1) = burL s fr xs k := by rw [HS.out, if_neg hft]
              have HS2 := Lib.hid hS; clear hS
              go_wp2_with fail
              have pc : RtB w (.cells #[.string s, .int .i64 f, .slice (some ⟨b0, off, none⟩) n c] 24) wr.heap.size (.cells #[.int .i64 t, .int .i64 o, .string l] 31) (wr.alloc (.cells #[.int .i64 t, .int .i64 o, .string l] 31)) := ⟨HP.out.alloc _, At.new _ _⟩
              have HPC := Lib.hid pc; clear pc
              go_roundw
              case rel => exact ⟨k + 1, by omega, by go_num, by rw [HS2.out], HPC.out.1⟩
              case measure => simp [intOf]; omega
          · obtain rfl : k = n := by omega
            have HP := Lib.hid hp; clear hp
            have hfin : (⟨(burL s fr xs k).toArray⟩ : ByteArray) = burS s fr xs := by rw [burS, LN.out]
            rw [hfin]
            clear hfin
            obtain ⟨SS, hSS⟩ : ∃ SS, SS = burS s fr xs := ⟨_, rfl⟩
            rw [← hSS]
            have HSS := Lib.hid hSS
            clear hSS
            have d3 : (200 : Int) < (SS.size : Int) := by have := H3.out; rw [← HSS.out] at this; omega
            go_wp2_with fail
            go_ret
            exact ⟨ret_bool (by simp), HP.out.2⟩
      · have H3 := Lib.hid h3
        rw [(burE_ok hz hi h3).1, (burE_ok hz hi h3).2]
        clear hz hi h3
        rintro e w3 ⟨rfl, hb⟩
        have o3 := O2.out.step hb
        clear x0 x1 x2
        obtain ⟨x0, x1, x2⟩ := o3.cells3
        have O3 := Lib.hid o3; clear hb o3 O2
        go_wp2_with fail
        refine (CZ.out _ O3.out.2).mono ?_
        rw [HZ.out]
        rintro e w4 ⟨rfl, hb⟩
        have o4 := O3.out.step hb
        clear x0 x1 x2
        have O4 := Lib.hid o4; clear hb o4 O3
        go_wp2_with fail
        refine (ref_InstantB _ _ g1 g2).mono ?_
        rw [HI.out]
        rintro e w5 ⟨rfl, rfl⟩
        have s0 := itoaS_size g1 g2
        have z1 := sp_size
        have a0 := add_ok s ⟨#[32]⟩ _ rfl (by (try simp only [app_size]); omega)
        have a1 := add_ok (s ++ ⟨#[32]⟩) (itoaS fr) _ rfl (by (try simp only [app_size]); omega)
        have CI := Lib.hid (fun (W : World) (h : One w (.cells #[.string s, .int .i64 f, .slice a n c] 24) W) => lib_Itoa fr W g1 g2 (HT.out.below h.2))
        clear z1 s0
        go_upto_region 8 with (fail)
        have o0 := O4.out
        (refine region_class (One w (.cells #[.string s, .int .i64 f, .slice a n c] 24)) (by kernel_rfl) (by kernel_rfl) (o0.drew) ?_; repeat ((first | (refine class_take ?_ (by rfl) ?_ ?_; rotate_left; focus (intro wq hq; ((have x0 : wq.cell? ⟨w.heap.size, 0, none⟩ = some (.string s) := hq.1.cell 0)); go_simp; first | done | with_reducible rfl | ((go_at_call 15; (with_reducible refine (CI.out _ hq).mono ?_); rintro e w' ⟨rfl, hb⟩; refine ⟨?_, hq.step hb⟩; with_reducible rfl)))) | refine class_skip (by rfl) ?_); try simp only [Act.put, List.setIfInBounds_toArray, List.set_cons_zero, List.set_cons_succ]))
        refine wpQuiet_nil ?_
        intro W2 hW2
        clear o0 O4
        have y2 : W2.cell? ⟨w.heap.size, 2, none⟩ = some (.slice a n c) := hW2.1.cell 2
        have O20 := Lib.hid hW2; clear hW2 a0 a1
        go_wp2_with fail
        clear y2
        go_loopw [10, 48] (fun v i wr => ∃ k : Nat, k ≤ n ∧ i = .int .i64 k ∧ v = .string ⟨(burL s fr xs k).toArray⟩ ∧ One w (.cells #[.string s, .int .i64 f, .slice a n c] 24) wr) (fun _ i _ => n - (intOf i).toNat)
        case atStart => exact ⟨0, by omega, rfl, by rw [burL_zero]; rfl, O20.out⟩
        case round =>
          clear O20
          obtain ⟨k, hk, rfl, rfl, hp⟩ := hrel
          have hl1 := HZL.out k
          by_cases hlt : k < n
          · obtain ⟨b0, off, rfl, hbB, hcs⟩ := (H.out.below hp.2 (Nat.le_refl _)).open_ (by omega)
            obtain ⟨t, o, l, hc0, hc1, hc2, hx, t1, t2, o1, o2, hls⟩ := hcs k hlt
            have HS := Lib.hid (burL_succ s fr xs k t o l hx)
            have hll : l.size ≤ 1048576 := K5.out _ (List.mem_of_getElem? hx)
            have hcz := chT_size t1 t2 o1 o2 hll
            clear hcs hx
            have hzw := hp.2.size
            have hbz : b0 < wr.heap.size := by omega
            have HP := Lib.hid hp; clear hp
            by_cases hft : fr ≤ t
            · have hS : burL s fr xs (k + 1) = burL s fr xs k ++ (chT t o l).data.toList := by rw [HS.out, if_pos hft]
              go_wp2_with fail
              have pc : RtB w (.cells #[.string s, .int .i64 f, .slice (some ⟨b0, off, none⟩) n c] 24) wr.heap.size (.cells #[.int .i64 t, .int .i64 o, .string l] 31) (wr.alloc (.cells #[.int .i64 t, .int .i64 o, .string l] 31)) := ⟨HP.out.alloc _, At.new _ _⟩
              have HPC := Lib.hid pc; clear pc
              generalize World.alloc wr _ = W4 at HPC ⊢
              obtain ⟨C, hC⟩ : ∃ C, C = wr.heap.size := ⟨_, rfl⟩
              rw [← hC] at HPC ⊢
              clear hC hbz hzw hc0 hc1 hc2
              have s1 := itoaS_size t1 t2
              have s2 := itoaS_size o1 o2
              have z1 := sp_size
              have bb0 := add_ok (⟨#[32]⟩ : ByteArray) (itoaS t) _ rfl (by (try simp only [app_size]); omega)
              have bb1 := add_ok ((⟨#[32]⟩ : ByteArray) ++ (itoaS t)) (⟨#[32]⟩) _ rfl (by (try simp only [app_size]); omega)
              have bb2 := add_ok (((⟨#[32]⟩ : ByteArray) ++ (itoaS t)) ++ (⟨#[32]⟩)) (itoaS o) _ rfl (by (try simp only [app_size]); omega)
              have bb3 := add_ok ((((⟨#[32]⟩ : ByteArray) ++ (itoaS t)) ++ (⟨#[32]⟩)) ++ (itoaS o)) (⟨#[32]⟩) _ rfl (by (try simp only [app_size]); omega)
              have bb4 := add_ok (((((⟨#[32]⟩ : ByteArray) ++ (itoaS t)) ++ (⟨#[32]⟩)) ++ (itoaS o)) ++ (⟨#[32]⟩)) l _ rfl (by (try simp only [app_size]); omega)
              have cc := add_ok ⟨(burL s fr xs k).toArray⟩ (chT t o l) ⟨(burL s fr xs (k + 1)).toArray⟩ (by rw [hS]; have := ByteArray.mk_append_mk (burL s fr xs k) (chT t o l).data.toList; simpa using this) (by rw [arr_size]; omega)
              unfold chT at cc
              clear hS
              have CD := Lib.hid (fun (W : World) (h : RtB w (.cells #[.string s, .int .i64 f, .slice (some ⟨b0, off, none⟩) n c] 24) C (.cells #[.int .i64 t, .int .i64 o, .string l] 31) W) => lib_Itoa t W t1 t2 (HT.out.below h.1.2))
              have CM := Lib.hid (fun (W : World) (h : RtB w (.cells #[.string s, .int .i64 f, .slice (some ⟨b0, off, none⟩) n c] 24) C (.cells #[.int .i64 t, .int .i64 o, .string l] 31) W) => lib_Itoa o W o1 o2 (HT.out.below h.1.2))
              clear z1 s1 s2
              have y0 : W4.cell? ⟨C, 0, none⟩ = some (.int .i64 t) := HPC.out.2.cell 0
              go_upto_region 13 with (fail)
              clear y0
              have pc5 := HPC.out
              (refine region_class (RtB w (.cells #[.string s, .int .i64 f, .slice (some ⟨b0, off, none⟩) n c] 24) C (.cells #[.int .i64 t, .int .i64 o, .string l] 31)) (by kernel_rfl) (by kernel_rfl) (pc5.step (Below.refl _ _).drew) ?_; repeat ((first | (refine class_take ?_ (by rfl) ?_ ?_; rotate_left; focus (intro wq hq; ((have x0 : wq.cell? ⟨C, 0, none⟩ = some (.int .i64 t) := hq.2.cell 0; have x1 : wq.cell? ⟨C, 1, none⟩ = some (.int .i64 o) := hq.2.cell 1; have x2 : wq.cell? ⟨C, 2, none⟩ = some (.string l) := hq.2.cell 2)); go_simp; first | done | with_reducible rfl | ((go_at_call 15; (first | (with_reducible refine (CD.out _ hq).mono ?_) | (with_reducible refine (CM.out _ hq).mono ?_)); rintro e w' ⟨rfl, hb⟩; refine ⟨?_, hq.step hb⟩; with_reducible rfl)))) | refine class_skip (by rfl) ?_); try simp only [Act.put, List.setIfInBounds_toArray, List.set_cons_zero, List.set_cons_succ]))
              refine wpQuiet_nil ?_
              intro W6 hW6
              clear pc5 HPC
              have P6 := Lib.hid hW6.1; clear hW6
              clear bb0 bb1 bb2 bb3 bb4 cc
              go_wp2_with fail
              go_roundw
              case rel => exact ⟨k + 1, by omega, by go_num, rfl, P6.out⟩
              case measure => simp [intOf]; omega
            · have hS : burL s fr xs (k + 1) = burL s fr xs k := by rw [HS.out, if_neg hft]
              have HS2 := Lib.hid hS; clear hS
              go_wp2_with fail
              have pc : RtB w (.cells #[.string s, .int .i64 f, .slice (some ⟨b0, off, none⟩) n c] 24) wr.heap.size (.cells #[.int .i64 t, .int .i64 o, .string l] 31) (wr.alloc (.cells #[.int .i64 t, .int .i64 o, .string l] 31)) := ⟨HP.out.alloc _, At.new _ _⟩
              have HPC := Lib.hid pc; clear pc
              go_roundw
              case rel => exact ⟨k + 1, by omega, by go_num, by rw [HS2.out], HPC.out.1⟩
              case measure => simp [intOf]; omega
          · obtain rfl : k = n := by omega
            have HP := Lib.hid hp; clear hp
            have hfin : (⟨(burL s fr xs k).toArray⟩ : ByteArray) = burS s fr xs := by rw [burS, LN.out]
            rw [hfin]
            clear hfin
            obtain ⟨SS, hSS⟩ : ∃ SS, SS = burS s fr xs := ⟨_, rfl⟩
            rw [← hSS]
            have HSS := Lib.hid hSS
            clear hSS
            have d3 : ¬ (200 : Int) < (SS.size : Int) := by have := H3.out; rw [← HSS.out] at this; omega
            go_wp2_with fail
            go_ret
            exact ⟨ret_bool (by simp), HP.out.2⟩
    · have hi' : instB fr = false := by simpa using hi
      have HI := Lib.hid hi'
      rw [(burE_inst hz hi').1, (burE_inst hz hi').2]
      clear hz hi hi'
      rintro e w3 ⟨rfl, hb⟩
      have o3 := O2.out.step hb
      clear x0 x1 x2
      obtain ⟨x0, x1, x2⟩ := o3.cells3
      have O3 := Lib.hid o3; clear hb o3 O2
      go_wp2_with fail
      refine (CZ.out _ O3.out.2).mono ?_
      rw [HZ.out]
      rintro e w4 ⟨rfl, hb⟩
      have o4 := O3.out.step hb
      clear x0 x1 x2
      have O4 := Lib.hid o4; clear hb o4 O3
      go_wp2_with fail
      refine (ref_InstantB _ _ g1 g2).mono ?_
      rw [HI.out]
      rintro e w5 ⟨rfl, rfl⟩
      have s0 := itoaS_size g1 g2
      have z1 := sp_size
      have a0 := add_ok s ⟨#[32]⟩ _ rfl (by (try simp only [app_size]); omega)
      have a1 := add_ok (s ++ ⟨#[32]⟩) (itoaS fr) _ rfl (by (try simp only [app_size]); omega)
      have CI := Lib.hid (fun (W : World) (h : One w (.cells #[.string s, .int .i64 f, .slice a n c] 24) W) => lib_Itoa fr W g1 g2 (HT.out.below h.2))
      clear z1 s0
      go_upto_region 8 with (fail)
      have o0 := O4.out
      (refine region_class (One w (.cells #[.string s, .int .i64 f, .slice a n c] 24)) (by kernel_rfl) (by kernel_rfl) (o0.drew) ?_; repeat ((first | (refine class_take ?_ (by rfl) ?_ ?_; rotate_left; focus (intro wq hq; ((have x0 : wq.cell? ⟨w.heap.size, 0, none⟩ = some (.string s) := hq.1.cell 0)); go_simp; first | done | with_reducible rfl | ((go_at_call 15; (with_reducible refine (CI.out _ hq).mono ?_); rintro e w' ⟨rfl, hb⟩; refine ⟨?_, hq.step hb⟩; with_reducible rfl)))) | refine class_skip (by rfl) ?_); try simp only [Act.put, List.setIfInBounds_toArray, List.set_cons_zero, List.set_cons_succ]))
      refine wpQuiet_nil ?_
      intro W2 hW2
      clear o0 O4
      have y2 : W2.cell? ⟨w.heap.size, 2, none⟩ = some (.slice a n c) := hW2.1.cell 2
      have O20 := Lib.hid hW2; clear hW2 a0 a1
      go_wp2_with fail
      clear y2
      go_loopw [10, 48] (fun v i wr => ∃ k : Nat, k ≤ n ∧ i = .int .i64 k ∧ v = .string ⟨(burL s fr xs k).toArray⟩ ∧ One w (.cells #[.string s, .int .i64 f, .slice a n c] 24) wr) (fun _ i _ => n - (intOf i).toNat)
      case atStart => exact ⟨0, by omega, rfl, by rw [burL_zero]; rfl, O20.out⟩
      case round =>
        clear O20
        obtain ⟨k, hk, rfl, rfl, hp⟩ := hrel
        have hl1 := HZL.out k
        by_cases hlt : k < n
        · obtain ⟨b0, off, rfl, hbB, hcs⟩ := (H.out.below hp.2 (Nat.le_refl _)).open_ (by omega)
          obtain ⟨t, o, l, hc0, hc1, hc2, hx, t1, t2, o1, o2, hls⟩ := hcs k hlt
          have HS := Lib.hid (burL_succ s fr xs k t o l hx)
          have hll : l.size ≤ 1048576 := K5.out _ (List.mem_of_getElem? hx)
          have hcz := chT_size t1 t2 o1 o2 hll
          clear hcs hx
          have hzw := hp.2.size
          have hbz : b0 < wr.heap.size := by omega
          have HP := Lib.hid hp; clear hp
          by_cases hft : fr ≤ t
          · have hS : burL s fr xs (k + 1) = burL s fr xs k ++ (chT t o l).data.toList := by rw [HS.out, if_pos hft]
            go_wp2_with fail
            have pc : RtB w (.cells #[.string s, .int .i64 f, .slice (some ⟨b0, off, none⟩) n c] 24) wr.heap.size (.cells #[.int .i64 t, .int .i64 o, .string l] 31) (wr.alloc (.cells #[.int .i64 t, .int .i64 o, .string l] 31)) := ⟨HP.out.alloc _, At.new _ _⟩
            have HPC := Lib.hid pc; clear pc
            generalize World.alloc wr _ = W4 at HPC ⊢
            obtain ⟨C, hC⟩ : ∃ C, C = wr.heap.size := ⟨_, rfl⟩
            rw [← hC] at HPC ⊢
            clear hC hbz hzw hc0 hc1 hc2
            have s1 := itoaS_size t1 t2
            have s2 := itoaS_size o1 o2
            have z1 := sp_size
            have bb0 := add_ok (⟨#[32]⟩ : ByteArray) (itoaS t) _ rfl (by (try simp only [app_size]); omega)
            have bb1 := add_ok ((⟨#[32]⟩ : ByteArray) ++ (itoaS t)) (⟨#[32]⟩) _ rfl (by (try simp only [app_size]); omega)
            have bb2 := add_ok (((⟨#[32]⟩ : ByteArray) ++ (itoaS t)) ++ (⟨#[32]⟩)) (itoaS o) _ rfl (by (try simp only [app_size]); omega)
            have bb3 := add_ok ((((⟨#[32]⟩ : ByteArray) ++ (itoaS t)) ++ (⟨#[32]⟩)) ++ (itoaS o)) (⟨#[32]⟩) _ rfl (by (try simp only [app_size]); omega)
            have bb4 := add_ok (((((⟨#[32]⟩ : ByteArray) ++ (itoaS t)) ++ (⟨#[32]⟩)) ++ (itoaS o)) ++ (⟨#[32]⟩)) l _ rfl (by (try simp only [app_size]); omega)
            have cc := add_ok ⟨(burL s fr xs k).toArray⟩ (chT t o l) ⟨(burL s fr xs (k + 1)).toArray⟩ (by rw [hS]; have := ByteArray.mk_append_mk (burL s fr xs k) (chT t o l).data.toList; simpa using this) (by rw [arr_size]; omega)
            unfold chT at cc
            clear hS
            have CD := Lib.hid (fun (W : World) (h : RtB w (.cells #[.string s, .int .i64 f, .slice (some ⟨b0, off, none⟩) n c] 24) C (.cells #[.int .i64 t, .int .i64 o, .string l] 31) W) => lib_Itoa t W t1 t2 (HT.out.below h.1.2))
            have CM := Lib.hid (fun (W : World) (h : RtB w (.cells #[.string s, .int .i64 f, .slice (some ⟨b0, off, none⟩) n c] 24) C (.cells #[.int .i64 t, .int .i64 o, .string l] 31) W) => lib_Itoa o W o1 o2 (HT.out.below h.1.2))
            clear z1 s1 s2
            have y0 : W4.cell? ⟨C, 0, none⟩ = some (.int .i64 t) := HPC.out.2.cell 0
            go_upto_region 13 with (fail)
            clear y0
            have pc5 := HPC.out
            (refine region_class (RtB w (.cells #[.string s, .int .i64 f, .slice (some ⟨b0, off, none⟩) n c] 24) C (.cells #[.int .i64 t, .int .i64 o, .string l] 31)) (by kernel_rfl) (by kernel_rfl) (pc5.step (Below.refl _ _).drew) ?_; repeat ((first | (refine class_take ?_ (by rfl) ?_ ?_; rotate_left; focus (intro wq hq; ((have x0 : wq.cell? ⟨C, 0, none⟩ = some (.int .i64 t) := hq.2.cell 0; have x1 : wq.cell? ⟨C, 1, none⟩ = some (.int .i64 o) := hq.2.cell 1; have x2 : wq.cell? ⟨C, 2, none⟩ = some (.string l) := hq.2.cell 2)); go_simp; first | done | with_reducible rfl | ((go_at_call 15; (first | (with_reducible refine (CD.out _ hq).mono ?_) | (with_reducible refine (CM.out _ hq).mono ?_)); rintro e w' ⟨rfl, hb⟩; refine ⟨?_, hq.step hb⟩; with_reducible rfl)))) | refine class_skip (by rfl) ?_); try simp only [Act.put, List.setIfInBounds_toArray, List.set_cons_zero, List.set_cons_succ]))
            refine wpQuiet_nil ?_
            intro W6 hW6
            clear pc5 HPC
            have P6 := Lib.hid hW6.1; clear hW6
            clear bb0 bb1 bb2 bb3 bb4 cc
            go_wp2_with fail
            go_roundw
            case rel => exact ⟨k + 1, by omega, by go_num, rfl, P6.out⟩
            case measure => simp [intOf]; omega
          · have hS : burL s fr xs (k + 1) = burL s fr xs k := by rw [HS.out, if_neg hft]
            have HS2 := Lib.hid hS; clear hS
            go_wp2_with fail
            have pc : RtB w (.cells #[.string s, .int .i64 f, .slice (some ⟨b0, off, none⟩) n c] 24) wr.heap.size (.cells #[.int .i64 t, .int .i64 o, .string l] 31) (wr.alloc (.cells #[.int .i64 t, .int .i64 o, .string l] 31)) := ⟨HP.out.alloc _, At.new _ _⟩
            have HPC := Lib.hid pc; clear pc
            go_roundw
            case rel => exact ⟨k + 1, by omega, by go_num, by rw [HS2.out], HPC.out.1⟩
            case measure => simp [intOf]; omega
        · obtain rfl : k = n := by omega
          have HP := Lib.hid hp; clear hp
          have hfin : (⟨(burL s fr xs k).toArray⟩ : ByteArray) = burS s fr xs := by rw [burS, LN.out]
          rw [hfin]
          clear hfin
          obtain ⟨SS, hSS⟩ : ∃ SS, SS = burS s fr xs := ⟨_, rfl⟩
          rw [← hSS]
          have HSS := Lib.hid hSS
          clear hSS
          go_wp2_with fail
          go_ret
          exact ⟨ret_bool (by simp), HP.out.2⟩
  · rw [(burE_zone hz).1, (burE_zone hz).2]
    have hz' : (zoneErr s f xs == 0) = false := by simpa using hz
    have hz'' : (zoneErr s f xs != 0) = true := by simpa using hz
    generalize zoneErr s f xs = E at hz' hz'' CZ ⊢
    clear hz
    rintro e w3 ⟨rfl, hb⟩
    have o3 := O2.out.step hb
    clear x0 x1 x2
    obtain ⟨x0, x1, x2⟩ := o3.cells3
    have O3 := Lib.hid o3; clear hb o3 O2
    go_wp2_with fail
    refine (CZ.out _ O3.out.2).mono ?_
    skip
    rintro e w4 ⟨rfl, hb⟩
    have o4 := O3.out.step hb
    clear x0 x1 x2
    have O4 := Lib.hid o4; clear hb o4 O3
    have s0 := itoaS_size g1 g2
    have z1 := sp_size
    have a0 := add_ok s ⟨#[32]⟩ _ rfl (by (try simp only [app_size]); omega)
    have a1 := add_ok (s ++ ⟨#[32]⟩) (itoaS fr) _ rfl (by (try simp only [app_size]); omega)
    have CI := Lib.hid (fun (W : World) (h : One w (.cells #[.string s, .int .i64 f, .slice a n c] 24) W) => lib_Itoa fr W g1 g2 (HT.out.below h.2))
    clear z1 s0
    go_upto_region 8 with (fail)
    have o0 := O4.out
    (refine region_class (One w (.cells #[.string s, .int .i64 f, .slice a n c] 24)) (by kernel_rfl) (by kernel_rfl) (o0.drew) ?_; repeat ((first | (refine class_take ?_ (by rfl) ?_ ?_; rotate_left; focus (intro wq hq; ((have x0 : wq.cell? ⟨w.heap.size, 0, none⟩ = some (.string s) := hq.1.cell 0)); go_simp; first | done | with_reducible rfl | ((go_at_call 15; (with_reducible refine (CI.out _ hq).mono ?_); rintro e w' ⟨rfl, hb⟩; refine ⟨?_, hq.step hb⟩; with_reducible rfl)))) | refine class_skip (by rfl) ?_); try simp only [Act.put, List.setIfInBounds_toArray, List.set_cons_zero, List.set_cons_succ]))
    refine wpQuiet_nil ?_
    intro W2 hW2
    clear o0 O4
    have y2 : W2.cell? ⟨w.heap.size, 2, none⟩ = some (.slice a n c) := hW2.1.cell 2
    have O20 := Lib.hid hW2; clear hW2 a0 a1
    go_wp2_with fail
    clear y2
    go_loopw [10, 48] (fun v i wr => ∃ k : Nat, k ≤ n ∧ i = .int .i64 k ∧ v = .string ⟨(burL s fr xs k).toArray⟩ ∧ One w (.cells #[.string s, .int .i64 f, .slice a n c] 24) wr) (fun _ i _ => n - (intOf i).toNat)
    case atStart => exact ⟨0, by omega, rfl, by rw [burL_zero]; rfl, O20.out⟩
    case round =>
      clear O20
      obtain ⟨k, hk, rfl, rfl, hp⟩ := hrel
      have hl1 := HZL.out k
      by_cases hlt : k < n
      · obtain ⟨b0, off, rfl, hbB, hcs⟩ := (H.out.below hp.2 (Nat.le_refl _)).open_ (by omega)
        obtain ⟨t, o, l, hc0, hc1, hc2, hx, t1, t2, o1, o2, hls⟩ := hcs k hlt
        have HS := Lib.hid (burL_succ s fr xs k t o l hx)
        have hll : l.size ≤ 1048576 := K5.out _ (List.mem_of_getElem? hx)
        have hcz := chT_size t1 t2 o1 o2 hll
        clear hcs hx
        have hzw := hp.2.size
        have hbz : b0 < wr.heap.size := by omega
        have HP := Lib.hid hp; clear hp
        by_cases hft : fr ≤ t
        · have hS : burL s fr xs (k + 1) = burL s fr xs k ++ (chT t o l).data.toList := by rw [HS.out, if_pos hft]
          go_wp2_with fail
          have pc : RtB w (.cells #[.string s, .int .i64 f, .slice (some ⟨b0, off, none⟩) n c] 24) wr.heap.size (.cells #[.int .i64 t, .int .i64 o, .string l] 31) (wr.alloc (.cells #[.int .i64 t, .int .i64 o, .string l] 31)) := ⟨HP.out.alloc _, At.new _ _⟩
          have HPC := Lib.hid pc; clear pc
          generalize World.alloc wr _ = W4 at HPC ⊢
          obtain ⟨C, hC⟩ : ∃ C, C = wr.heap.size := ⟨_, rfl⟩
          rw [← hC] at HPC ⊢
          clear hC hbz hzw hc0 hc1 hc2
          have s1 := itoaS_size t1 t2
          have s2 := itoaS_size o1 o2
          have z1 := sp_size
          have bb0 := add_ok (⟨#[32]⟩ : ByteArray) (itoaS t) _ rfl (by (try simp only [app_size]); omega)
          have bb1 := add_ok ((⟨#[32]⟩ : ByteArray) ++ (itoaS t)) (⟨#[32]⟩) _ rfl (by (try simp only [app_size]); omega)
          have bb2 := add_ok (((⟨#[32]⟩ : ByteArray) ++ (itoaS t)) ++ (⟨#[32]⟩)) (itoaS o) _ rfl (by (try simp only [app_size]); omega)
          have bb3 := add_ok ((((⟨#[32]⟩ : ByteArray) ++ (itoaS t)) ++ (⟨#[32]⟩)) ++ (itoaS o)) (⟨#[32]⟩) _ rfl (by (try simp only [app_size]); omega)
          have bb4 := add_ok (((((⟨#[32]⟩ : ByteArray) ++ (itoaS t)) ++ (⟨#[32]⟩)) ++ (itoaS o)) ++ (⟨#[32]⟩)) l _ rfl (by (try simp only [app_size]); omega)
          have cc := add_ok ⟨(burL s fr xs k).toArray⟩ (chT t o l) ⟨(burL s fr xs (k + 1)).toArray⟩ (by rw [hS]; have := ByteArray.mk_append_mk (burL s fr xs k) (chT t o l).data.toList; simpa using this) (by rw [arr_size]; omega)
          unfold chT at cc
          clear hS
          have CD := Lib.hid (fun (W : World) (h : RtB w (.cells #[.string s, .int .i64 f, .slice (some ⟨b0, off, none⟩) n c] 24) C (.cells #[.int .i64 t, .int .i64 o, .string l] 31) W) => lib_Itoa t W t1 t2 (HT.out.below h.1.2))
          have CM := Lib.hid (fun (W : World) (h : RtB w (.cells #[.string s, .int .i64 f, .slice (some ⟨b0, off, none⟩) n c] 24) C (.cells #[.int .i64 t, .int .i64 o, .string l] 31) W) => lib_Itoa o W o1 o2 (HT.out.below h.1.2))
          clear z1 s1 s2
          have y0 : W4.cell? ⟨C, 0, none⟩ = some (.int .i64 t) := HPC.out.2.cell 0
          go_upto_region 13 with (fail)
          clear y0
          have pc5 := HPC.out
          (refine region_class (RtB w (.cells #[.string s, .int .i64 f, .slice (some ⟨b0, off, none⟩) n c] 24) C (.cells #[.int .i64 t, .int .i64 o, .string l] 31)) (by kernel_rfl) (by kernel_rfl) (pc5.step (Below.refl _ _).drew) ?_; repeat ((first | (refine class_take ?_ (by rfl) ?_ ?_; rotate_left; focus (intro wq hq; ((have x0 : wq.cell? ⟨C, 0, none⟩ = some (.int .i64 t) := hq.2.cell 0; have x1 : wq.cell? ⟨C, 1, none⟩ = some (.int .i64 o) := hq.2.cell 1; have x2 : wq.cell? ⟨C, 2, none⟩ = some (.string l) := hq.2.cell 2)); go_simp; first | done | with_reducible rfl | ((go_at_call 15; (first | (with_reducible refine (CD.out _ hq).mono ?_) | (with_reducible refine (CM.out _ hq).mono ?_)); rintro e w' ⟨rfl, hb⟩; refine ⟨?_, hq.step hb⟩; with_reducible rfl)))) | refine class_skip (by rfl) ?_); try simp only [Act.put, List.setIfInBounds_toArray, List.set_cons_zero, List.set_cons_succ]))
          refine wpQuiet_nil ?_
          intro W6 hW6
          clear pc5 HPC
          have P6 := Lib.hid hW6.1; clear hW6
          clear bb0 bb1 bb2 bb3 bb4 cc
          go_wp2_with fail
          go_roundw
          case rel => exact ⟨k + 1, by omega, by go_num, rfl, P6.out⟩
          case measure => simp [intOf]; omega
        · have hS : burL s fr xs (k + 1) = burL s fr xs k := by rw [HS.out, if_neg hft]
          have HS2 := Lib.hid hS; clear hS
          go_wp2_with fail
          have pc : RtB w (.cells #[.string s, .int .i64 f, .slice (some ⟨b0, off, none⟩) n c] 24) wr.heap.size (.cells #[.int .i64 t, .int .i64 o, .string l] 31) (wr.alloc (.cells #[.int .i64 t, .int .i64 o, .string l] 31)) := ⟨HP.out.alloc _, At.new _ _⟩
          have HPC := Lib.hid pc; clear pc
          go_roundw
          case rel => exact ⟨k + 1, by omega, by go_num, by rw [HS2.out], HPC.out.1⟩
          case measure => simp [intOf]; omega
      · obtain rfl : k = n := by omega
        have HP := Lib.hid hp; clear hp
        have hfin : (⟨(burL s fr xs k).toArray⟩ : ByteArray) = burS s fr xs := by rw [burS, LN.out]
        rw [hfin]
        clear hfin
        obtain ⟨SS, hSS⟩ : ∃ SS, SS = burS s fr xs := ⟨_, rfl⟩
        rw [← hSS]
        have HSS := Lib.hid hSS
        clear hSS
        go_wp2_with fail
        go_ret
        exact ⟨ret_bool (by simp), HP.out.2⟩
theorem walk {H : Type} {enc : TypeId × Value → H} {v0 v1 : Value} {d0 d1 : DataW H} {p0 p1 : List MemPlace} {base : Nat} (W : World)
    (o0 : Value.okWide Tryd.prog W .any base 24 v0) (h0 : DataW.Trod enc Tryd.prog W 0 (fun _ => true) true 24 v0 d0 p0) (hk : Rows.uptoBulk d0 ≤ 1048576)
    (o1 : Value.okWide Tryd.prog W .any base 3 v1) (h1 : DataW.Trod enc Tryd.prog W 0 (fun _ => true) true 3 v1 d1 p1) (hL : laidMet Tryd.prog Rows.bureauTextsRow.laid W) (hsh : W.ShapedOpen Tryd.prog) :
    Calls Tryd.prog 5 #[v0, v1] W fun e W' => e = .returned (.bool true) ∧ Below W.heap.size W W' := by
  obtain ⟨s, f, a, n, c, xs, rfl, hs, hf, k1, k2, h1'⟩ := open_ZoneB o0 h0 hk (by omega)
  obtain ⟨fr, rfl, rfl, rfl, hfr⟩ := open_int Tryd.underlying3 o1 h1
  have hfr := bounds_i64 hfr
  exact core W s f fr a n c xs hs hf.1 hf.2 hfr.1 hfr.2 k1 k2 h1' (laid_pow pow_data.symm hL.tail.tail)
end Go.Proofs.YticflmepmmdnfaaDoor.bureauTextsLaw
