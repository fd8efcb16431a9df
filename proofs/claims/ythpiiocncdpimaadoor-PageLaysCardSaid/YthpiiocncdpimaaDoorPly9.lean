/- The reference's PageLay: the widths and the groups. -/
import Derived.Test.YthpiiocncdpimaaDoorPly8b
import Derived.Test.YthpiiocncdpimaaDoorPly7
import Derived.Test.YthpiiocncdpimaaDoorOwn
namespace Go.Proofs.YthpiiocncdpimaaDoor
set_option linter.unusedVariables false
set_option linter.unusedSimpArgs false
set_option maxRecDepth 100000
open Go.RowKit Go.Shelf

structure LK (w : World) (T Dn wb n1 : Nat) (oT oD : Obj) (f : Nat → Nat) (W : World) : Prop where
  tab : At W T oT
  box : At W Dn oD
  nums : NB W wb n1 f
  bel : Below w.heap.size w W
theorem LK.step {w : World} {T Dn wb n1 : Nat} {oT oD : Obj} {f : Nat → Nat} {W W' : World} (h : LK w T Dn wb n1 oT oD f W) (k : Below W.heap.size W W') : LK w T Dn wb n1 oT oD f W' := ⟨h.tab.then_ k, h.box.then_ k, h.nums.then_ k, below_then h.bel k⟩
theorem LK.put {w : World} {T Dn wb n1 : Nat} {oT oD : Obj} {f : Nat → Nat} {W : World} (h : LK w T Dn wb n1 oT oD f W) (h1 : T ≠ wb) (h2 : Dn ≠ wb) (h3 : w.heap.size ≤ wb) {i : Nat} (hi : i < n1) (x : Nat) : LK w T Dn wb n1 oT oD (fun k => if k = i then x else f k) (W.setCell ⟨wb, i, none⟩ (.int .i64 (x : Nat))) :=
  ⟨h.tab.apart h1 _, h.box.apart h2 _, h.nums.store hi x, below_set h.bel h3 _⟩
theorem LK.ext {w : World} {T Dn wb n1 : Nat} {oT oD : Obj} {f g : Nat → Nat} {W : World} (h : LK w T Dn wb n1 oT oD f W) (e : ∀ i, i < n1 → g i = f i) : LK w T Dn wb n1 oT oD g W := ⟨h.tab, h.box, h.nums.ext e, h.bel⟩
/-- Does column c fit? -/
def cndO (Ws : List Nat) (wd c : Nat) : Bool := if c = 0 then decide (Ws.getD 0 0 ≤ wd) else decide (Ws.getD 0 0 + 2 + Ws.getD c 0 ≤ wd)
theorem all_range (Ws : List Nat) (wd : Nat) : ∀ (n i : Nat), i + n = Ws.length → 1 ≤ i → (List.range' i n).all (cndO Ws wd) = (Ws.drop i).all fun x => decide (Ws.getD 0 0 + 2 + x ≤ wd)
  | 0, i, h, _ => by rw [List.drop_eq_nil_of_le (by omega)]; rfl
  | n + 1, i, h, h1 => by
    have hi : i < Ws.length := by omega
    rw [List.range'_succ, List.all_cons, all_range Ws wd n (i + 1) (by omega) (by omega), drop_nat hi, List.all_cons]
    unfold cndO
    rw [if_neg (by omega)]
theorem fit_range (Ws : List Nat) (wd : Nat) (h : 1 ≤ Ws.length) : fitB Ws wd = (List.range' 0 Ws.length).all (cndO Ws wd) := by
  obtain ⟨n, hn⟩ : ∃ n, Ws.length = n + 1 := ⟨Ws.length - 1, by omega⟩
  rw [hn, List.range'_succ, List.all_cons, all_range Ws wd n 1 (by omega) (Nat.le_refl _)]
  unfold fitB cndO
  rw [if_pos rfl]
theorem stGo_sorted : ∀ (ws : List Nat) (w0 width i used : Nat) (acc : List Nat), acc.Pairwise (· ≤ ·) → (∀ s ∈ acc, s ≤ i) → (stGo w0 width ws i used acc).Pairwise (· ≤ ·)
  | [], _, _, _, _, acc, h, _ => by rw [stGo]; exact h
  | x :: r, w0, width, i, used, acc, h, hi => by
    rw [stGo_cons]
    split
    · refine stGo_sorted r _ _ _ _ _ (List.pairwise_append.2 ⟨h, by simp, fun a ha b hb => ?_⟩) fun s hs => ?_
      · rw [List.mem_singleton] at hb; subst hb; exact hi a ha
      · rcases List.mem_append.1 hs with hs | hs
        · have := hi s hs; omega
        · rw [List.mem_singleton] at hs; omega
    · exact stGo_sorted r _ _ _ _ _ h fun s hs => by have := hi s hs; omega
theorem stsO_next {Ws : List Nat} {wd g : Nat} (h : g + 1 < (stsO Ws wd).length) : (stsO Ws wd).getD g 0 ≤ (stsO Ws wd).getD (g + 1) 0 := by
  have hp : (stsO Ws wd).Pairwise (· ≤ ·) := stGo_sorted _ _ _ _ _ _ (by simp) (by simp)
  have := List.pairwise_iff_getElem.1 hp g (g + 1) (by omega) h (by omega)
  rw [List.getD_eq_getElem?_getD, List.getD_eq_getElem?_getD, List.getElem?_eq_getElem (by omega), List.getElem?_eq_getElem h]
  exact this
/-- What the reference's PageLay answers. -/
def RefLay (hd : List ByteArray) (rs : List (List ByteArray)) (wd h : Nat) (w : World) (e : Ending) (w' : World) : Prop :=
  (if fitB (wdsO hd.length (hd :: rs)) wd = true then ∃ a c, e = .returned (.tuple #[.slice a (layO hd rs wd h).length c, .bool true]) ∧ (layO hd rs wd h).length ≤ c ∧ c ≤ 9223372036854775807 ∧ Strs w' w'.heap.size a (layO hd rs wd h).length (txts (layO hd rs wd h))
    else e = .returned (.tuple #[.slice none 0 0, .bool false])) ∧ Below w.heap.size w w'
set_option maxHeartbeats 32000000 in
theorem ref_PageLay (w : World) (a1 a2 : Option Addr) (n1 c1 n2 c2 : Nat) (hd : List ByteArray) (rs : List (List ByteArray)) (wd h : Nat) (hwd1 : 20 ≤ wd) (hwd : wd ≤ 200) (hh3 : 1 ≤ h) (hh4 : h ≤ 97) (hP : Pow w) (k1 : n1 ≤ c1) (m1 : c1 ≤ 9223372036854775807) (k2 : n2 ≤ c2) (m2 : c2 ≤ 9223372036854775807)
    (h1 : Strs w w.heap.size a1 n1 hd) (h2 : RowsAt w w.heap.size a2 n2 rs) (ha2 : a2 = none → n2 = 0 ∧ c2 = 0) (tok : TOk hd rs) :
    Calls Tryd.prog 11 #[.agg #[.slice a1 n1 c1, .slice a2 n2 c2], .int .i64 (wd : Int), .int .i64 ((h : Int) + 3)] w (RefLay hd rs wd h w) := by
  have hl1 := h1.1; have hl2 := h2.1
  have L1 := Lib.hid hl1; have L2 := Lib.hid hl2
  have H1 := Lib.hid h1; have H2 := Lib.hid h2; have HA2 := Lib.hid ha2; have HP := Lib.hid hP; have TOK := Lib.hid tok
  have t1 := tok.lo; have t2 := tok.hi; have t3 := tok.few
  have i1 : 1 ≤ n1 := by omega
  have i2 : n1 ≤ 12 := by omega
  have i3 : n2 ≤ 400 := by omega
  obtain ⟨Ws, hWs⟩ : ∃ Ws, Ws = wdsO n1 (hd :: rs) := ⟨_, rfl⟩
  have hWl : Ws.length = n1 := by rw [hWs]; unfold wdsO; simp
  have HWL := Lib.hid hWl
  have HWD := Lib.hid hWs
  have HWS := Lib.hid (show ∀ c, Ws.getD c 0 ≤ 120 from fun c => by rw [hWs, ← hl1]; exact tok.wds c)
  have HWG := Lib.hid (show ∀ c, c < n1 → Ws.getD c 0 = maxW (hd :: rs) c from fun c hc => by rw [hWs]; exact wdsO_get _ _ _ hc)
  have HWE := Lib.hid (show wdsO hd.length (hd :: rs) = Ws by rw [hWs, ← hl1])
  obtain ⟨F, hF⟩ : ∃ F, F = fitB Ws wd := ⟨_, rfl⟩
  have HF := Lib.hid hF
  have HF0 := Lib.hid (show F = (List.range' 0 n1).all (cndO Ws wd) by rw [hF, fit_range Ws wd (by omega), hWl])
  have HC120 := Lib.hid (fun (r : List ByteArray) (hr : r ∈ hd :: rs) (c : Nat) => tok.cell hr c)
  obtain ⟨T, hT⟩ : ∃ T, T = w.heap.size := ⟨_, rfl⟩
  have HT := Lib.hid hT
  obtain ⟨oT, hoT⟩ : ∃ o : Obj, o = .cells #[.slice a1 n1 c1, .slice a2 n2 c2] 25 := ⟨_, rfl⟩
  obtain ⟨oN, hoN⟩ : ∃ o : Obj, o = .cells (madeCells (Value.int .i64 0).cells n1) 3 := ⟨_, rfl⟩
  obtain ⟨oD, hoD⟩ : ∃ o : Obj, o = .cells #[.slice (some ⟨T + 1, 0, none⟩) n1 n1] 61 := ⟨_, rfl⟩
  have hmk := fun W => make_nums n1 (by omega) W
  rw [← hoN] at hmk
  have S1 : (w.alloc oT).heap.size = T + 1 := by rw [World.size_alloc, hT]
  have S2 : ((w.alloc oT).alloc oN).heap.size = T + 2 := by rw [World.size_alloc, S1]
  have K0 : LK w T (T + 2) (T + 1) n1 oT oD (fun _ => 0) (((w.alloc oT).alloc oN).alloc oD) :=
    ⟨((At.newAt w oT T hT).alloc oN).alloc oD, At.newAt _ oD _ S2.symm, by rw [hoN]; have := (nb_made (w.alloc oT) n1).alloc oD; rw [S1] at this; exact this, below_new (below_new (below_new (Below.refl _ _) _) _) _⟩
  have HK0 := Lib.hid K0
  rw [hoT, hoD] at HK0
  clear hWs hWl hF hP h1 h2 ha2 t1 t2 t3 hoT hoN hoD S1 S2 K0 hl1 hl2 tok
  go_enter Tryd.func11, Tryd.ntmps11
  go_upto_region 3 with fail
  rw [← HT.out]
  generalize World.alloc (World.alloc (World.alloc w _) _) _ = W1 at HK0 ⊢
  have HTl : w.heap.size ≤ T := by have := HT.out; omega
  clear hT hmk
  go_wp2_with fail
  go_loopw [10, 12, 36] (fun i r ix wr => ∃ j : Nat, ix = .int .i64 j ∧ j ≤ n1 ∧ F = (List.range' j (n1 - j)).all (cndO Ws wd) ∧ LK w T (T + 2) (T + 1) n1 (.cells #[.slice a1 n1 c1, .slice a2 n2 c2] 25) (.cells #[.slice (some ⟨T + 1, 0, none⟩) n1 n1] 61) (fun c => if c < j then maxW (hd :: rs) c else 0) wr ∧ (∃ V, V = i) ∧ (∃ V, V = r)) (fun _ _ ix _ => n1 - (intOf ix).toNat)
  case atStart => exact ⟨0, rfl, by omega, HF0.out, HK0.out.ext (fun c _ => by simp), ⟨_, rfl⟩, ⟨_, rfl⟩⟩
  case round =>
    obtain ⟨j, rfl, hj, hfj, hk, ⟨V10, rfl⟩, ⟨V12, rfl⟩⟩ := hrel
    have HK := Lib.hid hk; have HFJ := Lib.hid hfj
    by_cases hlt : j < n1
    · have HFJ2 := Lib.hid (show F = (cndO Ws wd j && (List.range' (j + 1) (n1 - (j + 1))).all (cndO Ws wd)) by rw [hfj, range_step j n1 hlt, List.all_cons])
      obtain ⟨hb_, ho_, hae, hhb, hhc⟩ := str_at (H1.out.below hk.bel (Nat.le_refl _)) hlt
      subst hae
      obtain ⟨s0, hs0⟩ : ∃ s, s = cellO hd j := ⟨_, rfl⟩
      rw [← hs0] at hhc
      have CRC := Lib.hid (fun W => lib_RuneCount s0 W (by rw [hs0]; have := HC120.out hd (by simp) j; omega))
      obtain ⟨r0, hr0⟩ : ∃ r, r = rcN s0 := ⟨_, rfl⟩
      have hr0l : r0 ≤ 120 := by rw [hr0, hs0]; exact Nat.le_trans (rcN_le _) (HC120.out hd (by simp) j)
      rw [← hr0] at CRC
      have HR0 := Lib.hid (show r0 = maxW ((hd :: rs).take 1) j by rw [hr0, hs0]; show _ = max 0 _; omega)
      have HHC := Lib.hid hhc
      have hbl : hb_ < wr.heap.size := by have := hk.bel.size; omega
      have hkn := HK.out.nums.lt; have hkt := HK.out.tab.lt; have hkd := HK.out.box.lt
      clear hk hfj hs0 hr0 hhc
      go_upto_region 6 with fail
      (refine region_class_tail 9 (Below wr.heap.size wr) (by kernel_rfl) (by kernel_rfl) ((Below.refl _ _).drew) ?_; simp only [List.take_succ_cons, List.take_zero, List.drop_succ_cons, List.drop_zero]; repeat ((first | (refine class_take ?_ (by rfl) ?_ ?_; rotate_left; focus (intro wq hq; ((have k9 := HK.out.step hq; have x0 : wq.cell? ⟨T, 0, none⟩ = some (.slice (some ⟨hb_, ho_, none⟩) n1 c1) := k9.tab.cell 0; have x1 : wq.cell? ⟨T + 2, 0, none⟩ = some (.slice (some ⟨T + 1, 0, none⟩) n1 n1) := k9.box.cell 0; have x2 : wq.cell? ⟨hb_, ho_ + j, none⟩ = some (.string s0) := (hq.cell (p := ⟨hb_, ho_ + j, none⟩) hbl).trans HHC.out; have x3 : hb_ < wq.heap.size := Nat.lt_of_lt_of_le hbl hq.size; have x4 := k9.tab.lt; have x5 := k9.box.lt)); go_simp; first | done | with_reducible rfl | ((go_at_call 37; (with_reducible refine (CRC.out _).mono ?_); rintro e w' ⟨rfl, hb⟩; refine ⟨?_, below_then hq hb⟩; with_reducible rfl)))) | refine class_skip (by rfl) ?_); try simp only [Act.put, List.setIfInBounds_toArray, List.set_cons_zero, List.set_cons_succ]))
      refine wpQuiet_nil ?_
      intro W6 h6
      have K6 := HK.out.step h6
      have y0 := K6.nums.frozen j; have y1 := K6.nums.lt; have y2 := K6.nums.cell hlt
      have K7 := Lib.hid ((K6.put (by omega) (by omega) (by omega) hlt r0).ext (g := fun c => if c < j then maxW (hd :: rs) c else if c = j then maxW ((hd :: rs).take (0 + 1)) j else 0) (fun c _ => by
        by_cases hc : c = j
        · subst hc; simp [HR0.out]
        · simp only [if_neg hc]))
      clear K6 h6
      go_upto_region 7 with fail
      generalize World.setCell W6 _ _ = W7 at K7 ⊢
      clear y0 y1 y2 hkn hkt hkd hbl HHC CRC
      have x0 : W7.cell? ⟨T, 1, none⟩ = some (.slice a2 n2 c2) := K7.out.tab.cell 1
      go_upto_region 8 with fail
      clear x0
      go_loopw [12, 51] (fun r ix wx => ∃ t : Nat, ix = .int .i64 t ∧ t ≤ n2 ∧ LK w T (T + 2) (T + 1) n1 (.cells #[.slice (some ⟨hb_, ho_, none⟩) n1 c1, .slice a2 n2 c2] 25) (.cells #[.slice (some ⟨T + 1, 0, none⟩) n1 n1] 61) (fun c => if c < j then maxW (hd :: rs) c else if c = j then maxW ((hd :: rs).take (t + 1)) j else 0) wx ∧ (∃ V, V = r)) (fun _ ix _ => n2 - (intOf ix).toNat)
      case atStart => exact ⟨0, rfl, by omega, K7.out, ⟨_, rfl⟩⟩
      case round =>
        obtain ⟨t, rfl, ht, hk, ⟨V12', rfl⟩⟩ := hrel
        have HKT := Lib.hid hk
        by_cases htl : t < n2
        · obtain ⟨b2, o2, hae2, hb2, hc2⟩ := (H2.out.below hk.bel (Nat.le_refl _)).2.2 (by omega)
          subst hae2
          obtain ⟨ai, ci, q1, q2, q3, q4⟩ := hc2 t htl
          obtain ⟨rw_, hrw⟩ : ∃ r, r = rs.getD t [] := ⟨_, rfl⟩
          have hmem : rw_ ∈ rs := by rw [hrw, List.getD_eq_getElem?_getD, List.getElem?_eq_getElem (by rw [L2.out]; exact htl)]; exact List.getElem_mem _
          have hlen : rw_.length = n1 := by rw [TOK.out.len rw_ (by simp [hmem])]; exact L1.out
          rw [← hrw, hlen] at q1 q3 q4
          obtain ⟨b3, o3, hae3, hb3, hc3⟩ := str_at q4 hlt
          subst hae3
          obtain ⟨s1, hs1⟩ : ∃ s, s = cellO rw_ j := ⟨_, rfl⟩
          rw [← hs1] at hc3
          have CRC := Lib.hid (fun W => lib_RuneCount s1 W (by rw [hs1]; have := HC120.out rw_ (by simp [hmem]) j; omega))
          obtain ⟨r1, hr1⟩ : ∃ r, r = rcN s1 := ⟨_, rfl⟩
          have hr1l : r1 ≤ 120 := by rw [hr1, hs1]; exact Nat.le_trans (rcN_le _) (HC120.out rw_ (by simp [hmem]) j)
          rw [← hr1] at CRC
          obtain ⟨m0, hm0⟩ : ∃ m, m = maxW ((hd :: rs).take (t + 1)) j := ⟨_, rfl⟩
          have hm0l : m0 ≤ 120 := by rw [hm0]; exact maxW_le fun r hr => Nat.le_trans (rcN_le _) (HC120.out r (List.mem_of_mem_take hr) j)
          obtain ⟨X0, hX0⟩ : ∃ X, X = max m0 r1 := ⟨_, rfl⟩
          have hmx : max (m0 : Int) (r1 : Int) = (X0 : Int) := by omega
          have HX0 := Lib.hid (show X0 = maxW ((hd :: rs).take (t + 1 + 1)) j by
            have e : (hd :: rs).take (t + 1 + 1) = (hd :: rs).take (t + 1) ++ [rw_] := by
              rw [List.take_add_one]
              congr 1
              rw [List.getElem?_cons_succ, List.getElem?_eq_getElem (by rw [L2.out]; exact htl), hrw, List.getD_eq_getElem?_getD, List.getElem?_eq_getElem (by rw [L2.out]; exact htl)]; rfl
            rw [e, maxW_snoc, hX0, hm0, hr1, hs1])
          have hcj := hk.nums.cell hlt
          simp only [Nat.lt_irrefl, if_false, if_true] at hcj
          rw [← hm0] at hcj
          have HCJ := Lib.hid hcj
          have HH3 := Lib.hid hc3
          have hb2l : b2 < wr.heap.size := by have := hk.bel.size; omega
          have hb3l : b3 < wr.heap.size := by have := hk.bel.size; omega
          have hkn := hk.nums.lt; have hkt := hk.tab.lt; have hkd := hk.box.lt
          clear hk hc2 q4 hrw hmem hlen hs1 hr1 hm0 hX0 hcj hc3
          go_upto_region 10 with fail
          (refine region_class_tail 13 (Below wr.heap.size wr) (by kernel_rfl) (by kernel_rfl) ((Below.refl _ _).drew) ?_; simp only [List.take_succ_cons, List.take_zero, List.drop_succ_cons, List.drop_zero]; repeat ((first | (refine class_take ?_ (by rfl) ?_ ?_; rotate_left; focus (intro wq hq; ((have k9 := HKT.out.step hq; have x1 : wq.cell? ⟨T + 2, 0, none⟩ = some (.slice (some ⟨T + 1, 0, none⟩) n1 n1) := k9.box.cell 0; have x2 : wq.cell? ⟨b3, o3 + j, none⟩ = some (.string s1) := (hq.cell (p := ⟨b3, o3 + j, none⟩) hb3l).trans HH3.out; have x3 : b3 < wq.heap.size := Nat.lt_of_lt_of_le hb3l hq.size; have x5 := k9.box.lt; have x6 : wq.cell? ⟨T + 1, j, none⟩ = some (.int .i64 (m0 : Int)) := (hq.cell (p := ⟨T + 1, j, none⟩) hkn).trans HCJ.out; have x7 := k9.nums.lt)); go_simp; first | done | with_reducible rfl | ((go_at_call 37; (with_reducible refine (CRC.out _).mono ?_); rintro e w' ⟨rfl, hb⟩; refine ⟨?_, below_then hq hb⟩; with_reducible rfl)))) | refine class_skip (by rfl) ?_); try simp only [Act.put, List.setIfInBounds_toArray, List.set_cons_zero, List.set_cons_succ]))
          refine wpQuiet_nil ?_
          intro W8 h8
          have K8 := HKT.out.step h8
          have y0 := K8.nums.frozen j; have y1 := K8.nums.lt; have y2 := K8.nums.cell hlt
          have K9 := Lib.hid ((K8.put (by omega) (by omega) (by omega) hlt X0).ext (g := fun c => if c < j then maxW (hd :: rs) c else if c = j then maxW ((hd :: rs).take (t + 1 + 1)) j else 0) (fun c _ => by
            by_cases hc : c = j
            · subst hc; simp [HX0.out]
            · simp only [if_neg hc]))
          clear K8 h8
          go_wp2_with fail
          go_roundw
          case rel => exact ⟨t + 1, by go_num, by omega, K9.out, ⟨_, rfl⟩⟩
          case measure => simp [intOf]; omega
        · obtain rfl : t = n2 := by omega
          have K9 := Lib.hid (hk.ext (g := fun c => if c < j + 1 then maxW (hd :: rs) c else 0) (fun c _ => by
            rw [List.take_of_length_le (by rw [List.length_cons, L2.out]; exact Nat.le_refl _)]
            by_cases hc : c < j
            · rw [if_pos hc, if_pos (by omega)]
            · by_cases hc2 : c = j
              · subst hc2; rw [if_pos (by omega), if_neg hc, if_pos rfl]
              · rw [if_neg (by omega), if_neg hc, if_neg hc2]))
          clear hk htl HKT
          have hkd := K9.out.box.lt
          have hpos : 0 < n1 := by omega
          have x0 : wr.cell? ⟨T + 2, 0, none⟩ = some (.slice (some ⟨T + 1, 0, none⟩) n1 n1) := K9.out.box.cell 0
          have x1 : wr.cell? ⟨T + 1, 0, none⟩ = some (.int .i64 ((Ws.getD 0 0 : Nat) : Int)) := by
            have := K9.out.nums.cell (i := 0) (by omega)
            rw [if_pos (by omega), ← HWG.out 0 (by omega)] at this
            exact this
          have x2 : wr.cell? ⟨T + 1, j, none⟩ = some (.int .i64 ((Ws.getD j 0 : Nat) : Int)) := by
            have := K9.out.nums.cell (i := j) hlt
            rw [if_pos (by omega), ← HWG.out j hlt] at this
            exact this
          have x3 : T + 1 < wr.heap.size := K9.out.nums.lt
          have z0 := HWS.out 0
          have zj := HWS.out j
          obtain ⟨a0, ha0⟩ : ∃ x, x = Ws.getD 0 0 := ⟨_, rfl⟩
          obtain ⟨aj, haj⟩ : ∃ x, x = Ws.getD j 0 := ⟨_, rfl⟩
          have HCND := Lib.hid (show cndO Ws wd j = if j = 0 then decide (a0 ≤ wd) else decide (a0 + 2 + aj ≤ wd) by unfold cndO; rw [ha0, haj])
          rw [← ha0] at x1 z0
          rw [← haj] at x2 zj
          clear ha0 haj
          have w1 : IntKind.i64.wrap ((a0 : Int) + 2) = (a0 : Int) + 2 := IntWalk.i64_in _ (by omega)
          have w2 : IntKind.i64.wrap ((a0 : Int) + 2 + (aj : Int)) = (a0 : Int) + 2 + (aj : Int) := IntWalk.i64_in _ (by omega)
          by_cases hj0 : j = 0
          · have e0 : ((j : Int) == 0) = true := by simp; omega
            by_cases hbad : wd < a0
            · have e1 : decide ((wd : Int) < (a0 : Int)) = true := by simp; omega
              have e1' : decide (wd < a0) = true := by simp; omega
              have hR := Lib.hid (show fitB Ws wd = false by rw [← HF.out, HFJ2.out, HCND.out, if_pos hj0, decide_eq_false (by omega)]; rfl)
              have HB9 := Lib.hid K9.out.bel
              clear hj0 hbad w1 w2
              go_upto_region 12 with fail
              go_quiet (fail)
              go_wp2_with fail
              go_ret2
              unfold RefLay
              rw [HWE.out, hR.out]
              exact ⟨rfl, below_drewN HB9.out _⟩
            · have e1 : decide ((wd : Int) < (a0 : Int)) = false := by simp; omega
              have e1' : decide (wd < a0) = false := by simp; omega
              have e2 : decide ((0 : Int) < (j : Int)) = false := by simp; omega
              have e2' : decide (0 < j) = false := by simp; omega
              have HN := Lib.hid (show F = (List.range' (j + 1) (n1 - (j + 1))).all (cndO Ws wd) by rw [HFJ2.out, HCND.out, if_pos hj0, decide_eq_true (by omega), Bool.true_and])
              have HJ := Lib.hid hj0
              clear hj0 hbad
              go_upto_region 12 with fail
              go_quiet (fail)
              go_wp2_with fail
              go_roundw
              case rel => exact ⟨j + 1, by go_num, by omega, HN.out, K9.out.step (below_drewN (Below.refl _ _) _), ⟨_, rfl⟩, ⟨_, rfl⟩⟩
              case measure => simp [intOf]; omega
          · have e0 : ((j : Int) == 0) = false := by simp; omega
            have e2 : decide ((0 : Int) < (j : Int)) = true := by simp; omega
            have e2' : decide (0 < j) = true := by simp; omega
            by_cases hbad : wd < a0 + 2 + aj
            · have e1 : decide ((wd : Int) < (a0 : Int) + 2 + (aj : Int)) = true := by simp; omega
              have e1' : decide (wd < a0 + 2 + aj) = true := by simp; omega
              have hR := Lib.hid (show fitB Ws wd = false by rw [← HF.out, HFJ2.out, HCND.out, if_neg hj0, decide_eq_false (by omega)]; rfl)
              have HB9 := Lib.hid K9.out.bel
              clear hj0 hbad
              go_upto_region 12 with fail
              go_quiet (fail)
              go_wp2_with fail
              go_ret2
              unfold RefLay
              rw [HWE.out, hR.out]
              exact ⟨rfl, below_drewN HB9.out _⟩
            · have e1 : decide ((wd : Int) < (a0 : Int) + 2 + (aj : Int)) = false := by simp; omega
              have e1' : decide (wd < a0 + 2 + aj) = false := by simp; omega
              have HN := Lib.hid (show F = (List.range' (j + 1) (n1 - (j + 1))).all (cndO Ws wd) by rw [HFJ2.out, HCND.out, if_neg hj0, decide_eq_true (by omega), Bool.true_and])
              clear hj0 hbad
              go_upto_region 12 with fail
              go_quiet (fail)
              go_wp2_with fail
              go_roundw
              case rel => exact ⟨j + 1, by go_num, by omega, HN.out, K9.out.step (below_drewN (Below.refl _ _) _), ⟨_, rfl⟩, ⟨_, rfl⟩⟩
              case measure => simp [intOf]; omega
    · obtain rfl : j = n1 := by omega
      have hfit : fitB Ws wd = true := by rw [← HF.out, hfj, Nat.sub_self]; rfl
      have HFIT := Lib.hid hfit
      have hnb := hk.nums.ext (l' := maxW (hd :: rs)) (fun c hc => by rw [if_pos hc])
      have hin3 := hnb.ints (by omega) (fun i _ => Nat.le_trans (TOK.out.width i) (by omega))
      rw [show (List.range j).map (maxW (hd :: rs)) = Ws by rw [HWD.out]; rfl] at hin3
      obtain ⟨w3, hw3⟩ : ∃ w3, w3 = wr := ⟨_, rfl⟩
      rw [← hw3] at hk hin3 ⊢
      have I3 := Lib.hid hin3
      have HT0 := Lib.hid (fun (W : World) (hW : Below w3.heap.size w3 W) => show W.cell? ⟨T, 0, none⟩ = some (.slice a1 j c1) ∧ W.cell? ⟨T, 1, none⟩ = some (.slice a2 n2 c2) ∧ W.cell? ⟨T + 2, 0, none⟩ = some (.slice (some ⟨T + 1, 0, none⟩) j j) ∧ T < W.heap.size ∧ T + 2 < W.heap.size from ⟨(hk.tab.then_ hW).cell 0, (hk.tab.then_ hW).cell 1, (hk.box.then_ hW).cell 0, (hk.tab.then_ hW).lt, (hk.box.then_ hW).lt⟩)
      have HIW := Lib.hid (fun (W : World) (hW : Below w3.heap.size w3 W) => show Ints W W.heap.size (some ⟨T + 1, 0, none⟩) j (nz Ws) from (I3.out.below hW (Nat.le_refl _)).more hW.size)
      have HWC := Lib.hid (fun (W : World) (hW : Below w3.heap.size w3 W) (c : Nat) (hc : c < j) => show W.cell? ⟨T + 1, c, none⟩ = some (.int .i64 (Ws.getD c 0 : Nat)) ∧ T + 1 < W.heap.size from by
        obtain ⟨b, off, e, hb, hcell⟩ := nat_at (cs := Ws) (by rw [HWL.out]; exact HIW.out W hW) (k := c) (by rw [HWL.out]; exact hc)
        injection e with e; injection e with e1 e2; subst e1 e2
        rw [Nat.zero_add] at hcell
        exact ⟨hcell, hb⟩)
      have B3 := Lib.hid hk.bel
      have HBW := Lib.hid (fun (W : World) (hW : Below w3.heap.size w3 W) => below_then B3.out hW)
      clear hw3 hk hfj hfit hnb hin3 hlt HK HFJ HF0 HF HK0
      obtain ⟨a0, ha0⟩ : ∃ x, x = Ws.getD 0 0 := ⟨_, rfl⟩
      have ha200 : a0 ≤ 120 := by rw [ha0]; exact HWS.out 0
      have HA0 := Lib.hid ha0
      obtain ⟨x0, x1⟩ := HWC.out _ (below_new (Below.refl w3.heap.size w3) (.cells #[.int .i64 1] 3)) 0 (by omega)
      obtain ⟨-, -, x2, -, x3⟩ := HT0.out _ (below_new (Below.refl w3.heap.size w3) (.cells #[.int .i64 1] 3))
      rw [← ha0] at x0
      have hpos : 0 < j := by omega
      have OWN3 := Lib.hid (show (w3.alloc (.cells #[.int .i64 1] 3)).ownsRow w3.heap.size 3 1 (.slice (some ⟨w3.heap.size, 0, none⟩) 1 1) 1 [.int .i64 ((1 : Nat) : Int)] from World.ownsRow_lit w3 #[.int .i64 1] 1 (Nat.le_refl _) (by decide) (by rfl))
      have BN3 := Lib.hid (below_new (Below.refl w3.heap.size w3) (.cells #[.int .i64 1] 3))
      have HST0 := Lib.hid (show stsO Ws wd = stGo a0 wd (Ws.drop 1) 1 a0 [1] by unfold stsO; rw [← ha0])
      obtain ⟨i0, hi, hz0, hz1, hz2⟩ := info_parts infoNum
      clear ha0
      go_upto_region 17 with fail
      clear x0 x1 x2 x3
      generalize World.alloc w3 _ = W4 at OWN3 BN3 ⊢
      go_wp2_with fail
      go_loopw [13, 14, 15] (fun vs u i wx => ∃ (q used : Nat) (acc : List Nat) (v : Value), v = vs ∧ i = .int .i64 q ∧ u = .int .i64 used ∧ 1 ≤ q ∧ q ≤ j ∧ used ≤ 400 ∧ acc.length ≤ q ∧ stsO Ws wd = stGo a0 wd (Ws.drop q) q used acc ∧ wx.ownsRow w3.heap.size 3 1 v acc.length (nzV acc) ∧ Below w3.heap.size w3 wx) (fun _ _ i _ => j - (intOf i).toNat)
      case atStart => exact ⟨1, a0, [1], _, rfl, rfl, rfl, by omega, by omega, by omega, by simp, HST0.out, OWN3.out, BN3.out⟩
      case round =>
        obtain ⟨q, used, acc, v, rfl, rfl, rfl, hq1, hqj, hus, hacl, hst, hown, hbx⟩ := hrel
        have OWN := Lib.hid hown; have HBX := Lib.hid hbx; have HST := Lib.hid hst
        by_cases hlt : q < j
        · obtain ⟨x, hx⟩ : ∃ x, x = Ws.getD q 0 := ⟨_, rfl⟩
          have hx200 : x ≤ 120 := by rw [hx]; exact HWS.out q
          obtain ⟨x0, x1⟩ := HWC.out wr hbx q hlt
          obtain ⟨-, -, x2, -, x3⟩ := HT0.out wr hbx
          rw [← hx] at x0
          have hdr := drop_nat (cs := Ws) (j := q) (by rw [HWL.out]; exact hlt)
          rw [← hx] at hdr
          have HST2 := Lib.hid (show stsO Ws wd = _ by rw [HST.out, hdr, stGo_cons])
          have HX := Lib.hid hx
          have hsz5 : w3.heap.size ≤ wr.heap.size := hbx.size
          clear hown hbx hst hdr hx
          by_cases hp : wd < used + 2 + x
          · have HST3 := Lib.hid (show stsO Ws wd = stGo a0 wd (Ws.drop (q + 1)) (q + 1) (a0 + 2 + x) (acc ++ [q]) by rw [HST2.out, if_pos hp])
            have q3 : (wd : Int) < (used : Int) + (2 + (x : Int)) := by omega
            clear hp
            go_upto_region 23 with (at_builtin; refine wpList_append_lies _ rfl _ _ 61 rfl (w3.heap.size) 3 i0 (.int .i64 0) 1 8 Tryd.underlying61 hi hz0 hz1 hz2 rfl (by decide) _ _ _ rfl (OWN.out.alloc _) ⟨wr.heap.size, 0, none⟩ 1 1 [.int .i64 (q : Int)] rfl rfl (World.news_of_block (cs := #[.int .i64 (q : Int)]) (t := 3) (fr := (0, 0)) (heap_alloc_new wr _)) (by simp [Value.oneCell']) (by decide) (by unfold maxLen; omega) (by omega) (by first | omega | (simp; omega)) _ rfl ?_; intro g4 cap4 w4 hown' hgrow hlies hglt)
            have B4 := Lib.hid ((below_new HBX.out (.cells #[.int .i64 (q : Int)] 3)).grown hgrow (by rw [World.size_alloc]; omega) (fun b hb => (own_inB OWN.out hb).1))
            have O4 := Lib.hid (show w4.ownsRow w3.heap.size 3 1 (.slice (some ⟨g4, 0, none⟩) (acc.length + 1) cap4) (acc ++ [q]).length (nzV (acc ++ [q])) by rw [List.length_append, show nzV (acc ++ [q]) = nzV acc ++ [.int .i64 (q : Nat)] by simp]; exact hown')
            clear hown' hgrow hlies hglt x0 x1 x2 x3
            obtain ⟨y0, y1⟩ := HWC.out w4 B4.out q hlt
            obtain ⟨y2, -⟩ := HWC.out w4 B4.out 0 (by omega)
            obtain ⟨-, -, y3, -, y4⟩ := HT0.out w4 B4.out
            rw [← HX.out] at y0
            rw [← HA0.out] at y2
            have hpos : 0 < j := by omega
            have e1 : IntKind.i64.wrap ((a0 : Int) + 2) = (a0 : Int) + 2 := IntWalk.i64_in _ (by omega)
            have e2 : IntKind.i64.wrap ((a0 : Int) + 2 + (x : Int)) = (a0 : Int) + 2 + (x : Int) := IntWalk.i64_in _ (by omega)
            go_quiet (fail)
            go_wp2_with fail
            go_roundw
            case rel => exact ⟨q + 1, a0 + 2 + x, acc ++ [q], _, rfl, by go_num, by go_num, by omega, by omega, by omega, by simp; omega, HST3.out, O4.out, below_drewN B4.out _⟩
            case measure => simp [intOf]; omega
          · have HST3 := Lib.hid (show stsO Ws wd = stGo a0 wd (Ws.drop (q + 1)) (q + 1) (used + 2 + x) acc by rw [HST2.out, if_neg hp])
            have q3 : ¬ (wd : Int) < (used : Int) + (2 + (x : Int)) := by omega
            clear hp
            go_wp2_with fail
            go_roundw
            case rel => exact ⟨q + 1, used + 2 + x, acc, _, rfl, by go_num, by go_num, by omega, by omega, by omega, by omega, HST3.out, OWN.out, HBX.out⟩
            case measure => simp [intOf]; omega
        · obtain rfl : q = j := by omega
          have hacc : stsO Ws wd = acc := by rw [hst, List.drop_eq_nil_of_le (by rw [HWL.out]; exact Nat.le_refl _), stGo]
          have HACC := Lib.hid hacc
          have hacin := stsO_in (Ws := Ws) (width := wd) (by rw [HWL.out]; omega)
          rw [hacc, HWL.out] at hacin
          have hac2 := stsO_len (Ws := Ws) (width := wd) (by rw [HWL.out]; omega)
          rw [hacc, HWL.out] at hac2
          have HACIN := Lib.hid hacin
          have hsz5 : w3.heap.size ≤ wr.heap.size := hbx.size
          obtain ⟨ds, hds⟩ : ∃ d, d = wr.heap.size := ⟨_, rfl⟩
          obtain ⟨oS, hoS⟩ : ∃ o : Obj, o = .cells (madeCells (Value.string ⟨#[]⟩).cells q) 9 := ⟨_, rfl⟩
          have hmk := fun W => make_strs q (by omega) W
          rw [← hoS] at hmk
          have SB0 := Lib.hid (show SB (wr.alloc oS) ds q (fun _ => ⟨#[]⟩) by rw [hoS, hds]; exact sb_made wr q)
          have O0 := Lib.hid (own_thenS hown (below_new (Below.refl wr.heap.size wr) oS))
          have BB0 := Lib.hid (below_new hbx oS)
          have HVB := Lib.hid (show ∀ b, v.ownBlock = some b → b < ds from fun b hb => by rw [hds]; exact (own_inB hown hb).2)
          clear hown hbx hst hacc hacin hlt OWN HBX HST hoS
          go_upto_region 26 with fail
          rw [← hds]
          have hds3 : w3.heap.size ≤ ds := by omega
          clear hds hmk
          generalize World.alloc wr _ = W5 at SB0 O0 BB0 ⊢
          go_wp2_with fail
          go_loopw [18, 132] (fun i ix wx => ∃ t : Nat, ix = .int .i64 t ∧ t ≤ q ∧ SB wx ds q (fun c => if c < t then ⟨(List.replicate (Ws.getD c 0) 45).toArray⟩ else ⟨#[]⟩) ∧ wx.ownsRow w3.heap.size 3 1 v acc.length (nzV acc) ∧ Below w3.heap.size w3 wx ∧ (∃ V, V = i)) (fun _ ix _ => q - (intOf ix).toNat)
          case atStart => exact ⟨0, rfl, by omega, SB0.out.ext (fun c _ => by simp), O0.out, BB0.out, ⟨_, rfl⟩⟩
          case round =>
            obtain ⟨t, rfl, ht, hsb, hown, hbx, ⟨V18, rfl⟩⟩ := hrel
            have HSB := Lib.hid hsb; have OWN := Lib.hid hown; have HBX := Lib.hid hbx
            by_cases hlt : t < q
            · obtain ⟨x, hx⟩ : ∃ x, x = Ws.getD t 0 := ⟨_, rfl⟩
              have hx200 : x ≤ 120 := by rw [hx]; exact HWS.out t
              obtain ⟨x0, x1⟩ := HWC.out wr hbx t hlt
              obtain ⟨-, -, x2, -, x3⟩ := HT0.out wr hbx
              rw [← hx] at x0
              obtain ⟨RP, hRP⟩ : ∃ R, R = List.replicate x (45 : UInt8) := ⟨_, rfl⟩
              have CR := Lib.hid (lib_Repeat1 45 x wr (by omega))
              rw [← hRP] at CR
              have HRP := Lib.hid (show RP = List.replicate (Ws.getD t 0) 45 by rw [hRP, hx])
              clear hsb hown hbx hx hRP
              go_wp2_with (refine CR.out.mono ?_; rintro e w7 ⟨rfl, hb7⟩; have s7 := HSB.out.then_ hb7; have y0 := s7.frozen t; have y1 := s7.lt; have y2 := s7.cell hlt)
              have S9 := Lib.hid ((s7.store hlt ⟨RP.toArray⟩).ext (l' := fun c => if c < t + 1 then ⟨(List.replicate (Ws.getD c 0) 45).toArray⟩ else ⟨#[]⟩) (fun c _ => by
                by_cases hc : c = t
                · subst hc; simp [HRP.out]
                · simp only [if_neg hc]
                  by_cases hc2 : c < t
                  · rw [if_pos hc2, if_pos (by omega)]
                  · rw [if_neg hc2, if_neg (by omega)]))
              have O9 := Lib.hid (ownsRow_setCell_other (own_thenS OWN.out hb7) (a := ⟨ds, t, none⟩) (by intro e; have := HVB.out ds e; omega) (.string ⟨RP.toArray⟩))
              have B9 := Lib.hid (below_set (below_then HBX.out hb7) (p := ⟨ds, t, none⟩) hds3 (.string ⟨RP.toArray⟩))
              go_roundw
              case rel => exact ⟨t + 1, by go_num, by omega, S9.out, O9.out, B9.out, ⟨_, rfl⟩⟩
              case measure => simp [intOf]; omega
            · obtain rfl : t = q := by omega
              obtain ⟨w6, hw6⟩ : ∃ w6, w6 = wr := ⟨_, rfl⟩
              rw [← hw6] at hsb hown hbx ⊢
              obtain ⟨sa, sc, rfl, hsc1, hsc2, hsi⟩ := own_ints hown (fun x hx => by
                obtain ⟨y, hy, rfl⟩ := List.mem_map.1 hx
                have := HACIN.out y hy
                exact ⟨by omega, by omega⟩) (by simp)
              obtain ⟨DL, hDL⟩ : ∃ DL, DL = (List.range t).map (fun c => (⟨(List.replicate (Ws.getD c 0) 45).toArray⟩ : ByteArray)) := ⟨_, rfl⟩
              have hds := (hsb.ext (l' := fun c => (⟨(List.replicate (Ws.getD c 0) 45).toArray⟩ : ByteArray)) (fun c hc => by rw [if_pos hc])).strs (by omega) (fun i hi => by rw [bS_size, List.length_replicate]; have := HWS.out i; omega)
              rw [← hDL] at hds
              have HDL := Lib.hid (show ∀ c, c < t → cellO DL c = (⟨(List.replicate (Ws.getD c 0) 45).toArray⟩ : ByteArray) from fun c hc => by rw [hDL]; unfold cellO; simp [List.getD_eq_getElem?_getD, hc])
              have DSI := Lib.hid hds; have SAI := Lib.hid hsi; have B6 := Lib.hid hbx
              have HT6 := Lib.hid (fun (W : World) (hW : Below w6.heap.size w6 W) => HT0.out W (below_then hbx hW))
              have HX6 := Lib.hid (fun (W : World) (hW : Below w6.heap.size w6 W) => below_then (below_then B3.out hbx) hW)
              have HI6 := Lib.hid (fun (W : World) (hW : Below w6.heap.size w6 W) => HIW.out W (below_then hbx hW))
              clear hw6 hsb hown hbx hlt hsi hDL hds OWN HBX HSB O0 SB0 BB0 HVB
              obtain ⟨G, hG⟩ : ∃ G, G = grps acc t := ⟨_, rfl⟩
              obtain ⟨K, hK⟩ : ∃ K, K = acc.length := ⟨_, rfl⟩
              have hGK : G.length = K := by rw [hG, grps_len, hK]
              have HGIN := Lib.hid (show ∀ cs ∈ G, cs.length ≤ t ∧ ∀ c ∈ cs, c < t from fun cs hcs => by
                rw [hG] at hcs
                exact ⟨grps_len1 _ _ HACIN.out cs hcs, fun c hc => ((grps_in _ _ HACIN.out cs hcs).2 c hc).2 (by omega)⟩)
              have HNEXT := Lib.hid (show ∀ g, g + 1 < K → acc.getD g 0 ≤ acc.getD (g + 1) 0 from fun g hg => by have := stsO_next (Ws := Ws) (wd := wd) (g := g) (by rw [HACC.out, ← hK]; exact hg); rwa [HACC.out] at this)
              have HGET := Lib.hid (show ∀ g, g < K → G[g]? = some (0 :: List.range' (acc.getD g 0) ((if g + 1 < K then acc.getD (g + 1) 0 else t) - acc.getD g 0)) from fun g hg => by rw [hG, hK]; exact grps_get acc t g (by rw [← hK]; exact hg))
              have HAT := Lib.hid (show ∀ g, g < K → 1 ≤ acc.getD g 0 ∧ acc.getD g 0 ≤ t from fun g hg => HACIN.out _ (by rw [List.getD_eq_getElem?_getD, List.getElem?_eq_getElem (by rw [← hK]; exact hg)]; exact List.getElem_mem _))
              obtain ⟨BODY, hBODY⟩ : ∃ BODY, BODY = G.flatMap (pagesG Ws hd rs h) := ⟨_, rfl⟩
              have hbo : bodyO hd rs wd h = BODY := by unfold bodyO; rw [hBODY, hG, HWE.out, L1.out, HACC.out]
              have hblen : BODY.length ≤ 5000 := by rw [← hbo]; exact bodyO_len TOK.out wd h
              have HLAY := Lib.hid (show layO hd rs wd h = footsO BODY BODY.length by unfold layO; rw [hbo])
              have HBODY := Lib.hid hBODY
              have HK := Lib.hid hGK
              obtain ⟨hKa, hKb⟩ := hac2
              rw [← hK] at hKa hKb hsc1 SAI ⊢
              have hK12 : K ≤ 12 := by omega
              obtain ⟨j0, ji, jz0, jz1, jz2⟩ := info_parts infoStr
              have HRC := Lib.hid (show RowsC w w.heap.size a2 n2 c2 rs from ⟨H2.out, k2, m2, HA2.out⟩)
              have HAC := Lib.hid (fun (W : World) (hW : Below w6.heap.size w6 W) (g : Nat) (hg : g < K) => show ∃ b off, sa = some ⟨b, off, none⟩ ∧ b < W.heap.size ∧ W.cell? ⟨b, off + g, none⟩ = some (.int .i64 (acc.getD g 0 : Nat)) from by
                obtain ⟨b, off, e, hb, hc⟩ := nat_at (cs := acc) (by rw [← hK]; exact SAI.out) (k := g) (by rw [← hK]; exact hg)
                exact ⟨b, off, e, Nat.lt_of_lt_of_le hb hW.size, (hW.cell (p := ⟨b, off + g, none⟩) hb).trans hc⟩)
              have hGN := hG
              clear hG hK hbo hBODY hGN hi hz0 hz1 hz2 HACC HACIN
              go_upto_region 33 with fail
              go_loopw [19, 20, 21, 22, 23, 24, 25, 26, 28, 146] (fun o g f u r z n s p ix wr => ∃ (q : Nat) (v : Value) (done : List (List UInt8)), ix = .int .i64 q ∧ v = o ∧ q ≤ K ∧ BODY = done ++ (G.drop q).flatMap (pagesG Ws hd rs h) ∧ PgS w6 v done wr ∧ (∃ V, V = g) ∧ (∃ V, V = f) ∧ (∃ V, V = u) ∧ (∃ V, V = r) ∧ (∃ V, V = z) ∧ (∃ V, V = n) ∧ (∃ V, V = s) ∧ (∃ V, V = p)) (fun _ _ _ _ _ _ _ _ _ ix _ => K - (intOf ix).toNat)
              case atStart => exact ⟨0, _, [], rfl, rfl, by omega, by rw [HBODY.out]; rfl, ⟨Below.refl _ _, World.ownsRow_nil _ _ _ _⟩, ⟨_, rfl⟩, ⟨_, rfl⟩, ⟨_, rfl⟩, ⟨_, rfl⟩, ⟨_, rfl⟩, ⟨_, rfl⟩, ⟨_, rfl⟩, ⟨_, rfl⟩⟩
              case round =>
                obtain ⟨q, v, done, rfl, rfl, hq, hbd, hpg, ⟨V20, rfl⟩, ⟨V21, rfl⟩, ⟨V22, rfl⟩, ⟨V23, rfl⟩, ⟨V24, rfl⟩, ⟨V25, rfl⟩, ⟨V26, rfl⟩, ⟨V28, rfl⟩⟩ := hrel
                have HPG := Lib.hid hpg; have HBD := Lib.hid hbd
                by_cases hlt : q < K
                · obtain ⟨fr, hfr⟩ : ∃ f, f = acc.getD q 0 := ⟨_, rfl⟩
                  obtain ⟨tu, htu⟩ : ∃ u, u = if q + 1 < K then acc.getD (q + 1) 0 else t := ⟨_, rfl⟩
                  obtain ⟨hfr1, hfr2⟩ := HAT.out q hlt
                  rw [← hfr] at hfr1 hfr2
                  have hft : fr ≤ tu := by
                    rw [htu]; split
                    · rw [hfr]; exact HNEXT.out q (by assumption)
                    · exact hfr2
                  have htt : tu ≤ t := by
                    rw [htu]; split
                    · exact (HAT.out _ (by assumption)).2
                    · exact Nat.le_refl _
                  obtain ⟨cs, hcs⟩ : ∃ cs, cs = 0 :: List.range' fr (tu - fr) := ⟨_, rfl⟩
                  have hget := HGET.out q hlt
                  rw [← hfr, ← htu, ← hcs] at hget
                  have hmem : cs ∈ G := List.mem_of_getElem? hget
                  obtain ⟨hc1, hc2⟩ := HGIN.out cs hmem
                  have hdr : G.drop q = cs :: G.drop (q + 1) := by
                    obtain ⟨hl', e'⟩ := List.getElem?_eq_some_iff.1 hget
                    rw [List.drop_eq_getElem_cons hl', e']
                  obtain ⟨hl, hhl⟩ : ∃ hl, hl = headO Ws hd cs := ⟨_, rfl⟩
                  obtain ⟨ln, hln⟩ : ∃ ln : List ByteArray → List UInt8, ln = fun r => txtO Ws (cellO r) cs := ⟨_, rfl⟩
                  have hbd2 : BODY = done ++ (pgR hl ln h true rs ++ (G.drop (q + 1)).flatMap (pagesG Ws hd rs h)) := by
                    rw [hbd, hdr, List.flatMap_cons]
                    unfold pgR pagesG
                    rw [if_neg (by simp), hhl, hln]
                  have h200 : ∀ c, Ws.getD c 0 ≤ 200 := fun c => Nat.le_trans (HWS.out c) (by omega)
                  have hlhl : hl.length ≤ 12002 := by rw [hhl]; exact head_len h200 (fun c => Nat.le_trans (HC120.out hd (by simp) c) (by omega)) (by omega)
                  have hlln : ∀ r ∈ rs, (ln r).length ≤ 6001 := fun r hr => by rw [hln]; exact txtO_len h200 (fun c _ => Nat.le_trans (HC120.out r (by simp [hr]) c) (by omega)) (by omega)
                  have HLLN := Lib.hid hlln
                  have CRW := Lib.hid (fun (r : List ByteArray) (hs : ∀ c, (cellO r c).size ≤ 200) (hrc : ∀ c, c < t → rcN (cellO r c) ≤ Ws.getD c 0) (ra : Option Addr) (rc : Nat) (W : World) (hW : Below w6.heap.size w6 W) (hr : Strs W W.heap.size ra t r) =>
                    (show Calls Tryd.prog 38 #[.slice ra t rc, .int .i64 (fr : Int), .int .i64 (tu : Int), .pointer (some ⟨T + 2, 0, none⟩)] W (fun e w' => e = .returned (.string ⟨(txtO Ws (cellO r) cs).toArray⟩) ∧ Below W.heap.size W w') from by
                      rw [hcs]
                      exact ref_row W (T + 2) (T + 1) t Ws ra rc r fr tu (HT6.out W hW).2.2.1 (HI6.out W hW) HWL.out hr (by omega) (by omega) hft htt hfr1 hs hrc h200))
                  have C1 := Lib.hid (fun (W : World) (hW : Below w6.heap.size w6 W) => CRW.out hd (fun c => Nat.le_trans (HC120.out hd (by simp) c) (by omega)) (fun c hc => by rw [HWG.out c hc]; exact maxW_mem (by simp) c) a1 c1 W hW ((H1.out.below (HX6.out W hW) (Nat.le_refl _)).of_le (HX6.out W hW).size))
                  have C2 := Lib.hid (fun (W : World) (hW : Below w6.heap.size w6 W) => CRW.out DL (fun c => by
                      by_cases hc : c < t
                      · rw [HDL.out c hc, bS_size, List.length_replicate]; exact h200 c
                      · unfold cellO; rw [List.getD_eq_getElem?_getD, List.getElem?_eq_none (by rw [DSI.out.1]; omega)]; decide) (fun c hc => by rw [HDL.out c hc]; exact rep_rc _) (some ⟨ds, 0, none⟩) t W hW ((DSI.out.below hW (Nat.le_refl _)).of_le hW.size))
                  have C3 := Lib.hid (fun (r : List ByteArray) (hr : r ∈ rs) => CRW.out r (fun c => Nat.le_trans (HC120.out r (by simp [hr]) c) (by omega)) (fun c hc => by rw [HWG.out c hc]; exact maxW_mem (by simp [hr]) c))
                  have HTX1 := Lib.hid (show hl = txtO Ws (cellO hd) cs ++ txtO Ws (cellO DL) cs by
                    rw [hhl]; unfold headO
                    rw [txtO_congr Ws (T := cellO DL) (T' := fun i => (⟨(List.replicate (Ws.getD i 0) 45).toArray⟩ : ByteArray)) (fun c hc => HDL.out c (hc2 c hc))])
                  have HLNE := Lib.hid (fun r => show txtO Ws (cellO r) cs = ln r by rw [hln])
                  generalize txtO Ws (cellO hd) cs = X1 at C1 HTX1
                  generalize txtO Ws (cellO DL) cs = X2 at C2 HTX1
                  have hX12 : X1 ++ X2 = hl := HTX1.out.symm
                  have a12 := addL X1 X2 hl hX12 (by omega)
                  obtain ⟨REST, hREST⟩ : ∃ X, X = (G.drop (q + 1)).flatMap (pagesG Ws hd rs h) := ⟨_, rfl⟩
                  rw [← hREST] at hbd2
                  have HREST := Lib.hid hREST
                  have HBD2 := Lib.hid hbd2
                  obtain ⟨sb, so, rfl, hsb, hscell⟩ := HAC.out wr hpg.1 q hlt
                  rw [← hfr] at hscell
                  have HTU := Lib.hid htu
                  have hpgB : Below w6.heap.size w6 wr := hpg.1
                  clear hbd hbd2 hdr hhl hln hlln hREST hget hmem hc1 hX12 h200 hcs hfr htu CRW hpg
                  go_upto_region 35 with fail
                  go_upto_if 156 with fail
                  obtain ⟨W0, hW0⟩ : ∃ W0, W0 = wr := ⟨_, rfl⟩
                  rw [← hW0] at HPG hpgB hsb hscell ⊢
                  clear hW0
                  go_cut [22] from 152 to 210 (fun y wx => y = .int .i64 (tu : Int) ∧ W0 = wx)
                  case first =>
                    by_cases hnx : q + 1 < K
                    · have e1 : (q : Int) + 1 < (K : Int) := by omega
                      obtain ⟨sb', so', e', hsb2, hsc2'⟩ := HAC.out W0 hpgB (q + 1) hnx
                      injection e' with e'; injection e' with e2 e3; subst e2 e3
                      have hte : tu = acc.getD (q + 1) 0 := by rw [HTU.out, if_pos hnx]
                      rw [← hte] at hsc2'
                      have hsc3 : W0.cell? ⟨sb, so + q + 1, none⟩ = some (.int .i64 (tu : Int)) := by rw [Nat.add_assoc]; exact hsc2'
                      have hix : ((q : Int) + 1).toNat = q + 1 := by omega
                      clear hte
                      go_wp2_with fail
                      go_meet
                      case rel => exact ⟨rfl, rfl⟩
                    · have e1 : ¬ (q : Int) + 1 < (K : Int) := by omega
                      have hte : tu = t := by rw [HTU.out, if_neg hnx]
                      go_wp2_with fail
                      go_meet
                      case rel => exact ⟨by rw [hte], rfl⟩
                  case rest =>
                  obtain ⟨rfl, rfl⟩ := hcut
                  obtain ⟨y0, y1, y2, y3, y4⟩ := HT6.out W0 hpgB
                  go_upto_region 40 with fail
                  clear y0 y1 y2 y3 y4
                  go_loopw [19, 23, 24, 25, 26, 28] (fun o r f n s p wx => ∃ (d m c' : Nat) (fb : Bool) (v' : Value) (dn : List (List UInt8)) (a' : Option Addr), v' = o ∧ r = .slice a' m c' ∧ f = .bool fb ∧ d + m = n2 ∧ BODY = dn ++ (pgR hl ln h fb (rs.drop d) ++ REST) ∧ RowsC w w.heap.size a' m c' (rs.drop d) ∧ PgS w6 v' dn wx ∧ (∃ V, V = n) ∧ (∃ V, V = s) ∧ (∃ V, V = p)) (fun _ r f _ _ _ _ => pgMeas r f)
                  case atStart => exact ⟨0, n2, c2, true, v, done, a2, rfl, rfl, rfl, by omega, HBD2.out, HRC.out, HPG.out, ⟨_, rfl⟩, ⟨_, rfl⟩, ⟨_, rfl⟩⟩
                  case round =>
                    obtain ⟨d, m, c', fb, v', dn, a', rfl, rfl, rfl, hdm, hbd, hrc, hpg, ⟨V25', rfl⟩, ⟨V26', rfl⟩, ⟨V28', rfl⟩⟩ := hrel
                    have HPG3 := Lib.hid hpg; have HBD3 := Lib.hid hbd; have HRC3 := Lib.hid hrc
                    have hml : (rs.drop d).length = m := hrc.rows.1
                    have hdl : dn.length ≤ 5000 := by rw [hbd, List.length_append] at hblen; omega
                    clear hbd hpg
                    by_cases hgo : fb = true ∨ 0 < m
                    · have hne : fb = true ∨ rs.drop d ≠ [] := hgo.elim .inl (fun hp => .inr (fun e => by rw [e] at hml; simp at hml; omega))
                      have HST := Lib.hid (pgR_step hl ln h hh3 fb (rs.drop d) hne)
                      obtain ⟨k, hk⟩ : ∃ k, k = min h m := ⟨_, rfl⟩
                      have hkm : k ≤ m := by omega
                      have hkh : k ≤ h := by omega
                      have hmn : min (m : Int) (h : Int) = (k : Int) := by omega
                      have HTK := Lib.hid (show (rs.drop d).take k = (rs.drop d).take h by rw [hk]; exact take_min _ h m hml.symm)
                      have HDK := Lib.hid (show (rs.drop d).drop k = (rs.drop d).drop h by rw [hk]; exact drop_min _ h m hml.symm)
                      have HMP := Lib.hid (show (k = 0 → m = 0) by omega)
                      obtain ⟨s1, s2, s3⟩ := rows_hi hrc k hkm
                      obtain ⟨a3, s4, s5, s6⟩ := rows_lo hrc k hkm
                      have S3 := Lib.hid s3; have S6 := Lib.hid s6
                      have HGO := Lib.hid hgo
                      clear hrc hml hne hk s3 s6
                      obtain ⟨W0, hW0⟩ : ∃ W0, W0 = wr := ⟨_, rfl⟩
                      rw [← hW0] at HPG3 ⊢
                      clear hW0
                      go_upto_region 40 with fail
                      go_cut [169] from 164 to 209 (fun y wx => y = .bool true ∧ W0 = wx)
                      case first =>
                        cases fb with
                        | true =>
                          clear hgo
                          go_wp2_with fail
                          go_meet
                          case rel => exact ⟨rfl, rfl⟩
                        | false =>
                          have hm1 : 0 < m := by rcases hgo with e | e; cases e; exact e
                          clear hgo
                          go_wp2_with fail
                          go_meet
                          case rel => exact ⟨by simp [hm1], rfl⟩
                      case rest =>
                      obtain ⟨rfl, rfl⟩ := hcut
                      clear hgo
                      have hpB : Below w6.heap.size w6 W0 := HPG3.out.1
                      obtain ⟨y0, y1, y2, y3, y4⟩ := HT6.out W0 hpB
                      go_wp2_with fail
                      refine (C1.out _ hpB).mono ?_
                      rintro e W5' ⟨rfl, hb5⟩
                      have P5 := Lib.hid (HPG3.out.step hb5)
                      have hpB5 : Below w6.heap.size w6 W5' := P5.out.1
                      clear hb5 y0 y1 y2 y3 y4
                      go_wp2_with fail
                      refine (C2.out _ hpB5).mono ?_
                      rintro e W6' ⟨rfl, hb6⟩
                      have H6 := Lib.hid (P5.out.step hb6)
                      clear hb6
                      go_upto_region 45 with fail
                      obtain ⟨PG, hPG⟩ : ∃ X, X = hl ++ ((rs.drop d).take k).flatMap ln := ⟨_, rfl⟩
                      have HPGE := Lib.hid hPG
                      have S3W := Lib.hid (fun (W : World) (hW : Below w6.heap.size w6 W) => S3.out.below (HX6.out W hW) (Nat.le_refl _))
                      obtain ⟨CH, hCH⟩ : ∃ X, X = (rs.drop d).take k := ⟨_, rfl⟩
                      have hchl : CH.length = k := by rw [hCH]; exact S3.out.rows.1
                      have HCHL := Lib.hid hchl
                      have HCHM := Lib.hid (show ∀ r ∈ CH, r ∈ rs from fun r hr => by rw [hCH] at hr; exact List.mem_of_mem_drop (List.mem_of_mem_take hr))
                      rw [← hCH] at hPG S3W
                      have HPG2 := Lib.hid hPG
                      clear hPG hCH hchl
                      go_loopw [26, 28, 191] (fun s p ix wx => ∃ (x : Nat) (l : List UInt8), ix = .int .i64 x ∧ x ≤ k ∧ s = .string ⟨l.toArray⟩ ∧ PG = l ++ (CH.drop x).flatMap ln ∧ l.length ≤ 12002 + x * 6001 ∧ PgS w6 v' dn wx ∧ (∃ V, V = p)) (fun _ _ ix _ => k - (intOf ix).toNat)
                      case atStart => exact ⟨0, hl, rfl, by omega, rfl, by rw [HPG2.out]; rfl, by omega, H6.out, ⟨_, rfl⟩⟩
                      case round =>
                        obtain ⟨x, l, rfl, hx, rfl, hpl, hll, hpg, ⟨V28x, rfl⟩⟩ := hrel
                        have HPX := Lib.hid hpg; have HPL := Lib.hid hpl
                        by_cases htl : x < k
                        · obtain ⟨r, hr⟩ : ∃ r, r = CH.getD x [] := ⟨_, rfl⟩
                          have hrm : r ∈ CH := by rw [hr, List.getD_eq_getElem?_getD, List.getElem?_eq_getElem (by rw [HCHL.out]; exact htl)]; exact List.getElem_mem _
                          have hrs := HCHM.out r hrm
                          have hrl : r.length = t := by rw [TOK.out.len r (by simp [hrs]), L1.out]
                          have hdr2 : CH.drop x = r :: CH.drop (x + 1) := by
                            rw [List.drop_eq_getElem_cons (by rw [HCHL.out]; exact htl), hr, List.getD_eq_getElem?_getD, List.getElem?_eq_getElem (by rw [HCHL.out]; exact htl)]; rfl
                          obtain ⟨rb, ro, rfl, hrb, hrc2⟩ := (S3W.out wr hpg.1).rows.2.2 (by omega)
                          obtain ⟨ar, cr, q1, q2, q3, q4⟩ := hrc2 x htl
                          rw [← hr, hrl] at q1 q3 q4
                          have hwsz : w.heap.size ≤ wr.heap.size := (HX6.out wr hpg.1).size
                          obtain ⟨LR, hLR⟩ : ∃ X, X = ln r := ⟨_, rfl⟩
                          obtain ⟨l2, hl2⟩ : ∃ X, X = l ++ LR := ⟨_, rfl⟩
                          have hlr : LR.length ≤ 6001 := by rw [hLR]; exact HLLN.out r hrs
                          have hl2l : l2.length ≤ 12002 + (x + 1) * 6001 := by rw [hl2, List.length_append]; omega
                          have HPL2 := Lib.hid (show PG = l2 ++ (CH.drop (x + 1)).flatMap ln by rw [hpl, hdr2, List.flatMap_cons, hl2, hLR]; simp)
                          have aL := addL l LR l2 hl2.symm (by omega)
                          have CX := Lib.hid (C3.out r hrs ar cr wr hpg.1 (q4.of_le hwsz))
                          rw [HLNE.out r, ← hLR] at CX
                          have hrbl : rb < wr.heap.size := by omega
                          clear hpl hpg hr hrm hrl hdr2 hrc2 q4 hl2 hLR hwsz
                          go_wp2_with fail
                          refine CX.out.mono ?_
                          rintro e w9 ⟨rfl, hb9⟩
                          have P9 := Lib.hid (HPX.out.step hb9)
                          clear hb9
                          go_wp2_with fail
                          go_roundw
                          case rel => exact ⟨x + 1, l2, by go_num, by omega, rfl, HPL2.out, by omega, P9.out, ⟨_, rfl⟩⟩
                          case measure => simp [intOf]; omega
                        · obtain rfl : x = k := by omega
                          have hfin : l = PG := by rw [hpl, List.drop_eq_nil_of_le (by rw [HCHL.out]; exact Nat.le_refl _)]; simp
                          subst hfin
                          have OWN2 := Lib.hid hpg.2
                          have hsz6 : w6.heap.size ≤ wr.heap.size := hpg.1.size
                          have HP5 := Lib.hid hpg.1
                          obtain ⟨i0, hi, hz0, hz1, hz2⟩ := info_parts infoStr
                          clear hpl hpg htl
                          go_wp2_with (at_builtin; refine wpList_append_own _ rfl _ _ 22 rfl (w6.heap.size) 9 i0 (.string ⟨#[]⟩) 1 16 Tryd.underlying22 hi hz0 hz1 hz2 rfl (by decide) _ _ _ rfl (OWN2.out.alloc _) ⟨wr.heap.size, 0, none⟩ 1 1 [.string ⟨l.toArray⟩] rfl rfl (World.news_of_block (cs := #[.string ⟨l.toArray⟩]) (t := 9) (fr := (0, 0)) (heap_alloc_new wr _)) (by simp [Value.oneCell']) (by unfold maxLen; omega) (by omega) (by first | omega | (simp; omega)) ?_; intro v' w4 hown' hgrow _)
                          have P9 := Lib.hid (show PgS w6 v' (dn ++ [l]) w4 from ⟨(below_new HP5.out (.cells #[.string ⟨l.toArray⟩] 9)).grown hgrow (by rw [World.size_alloc]; omega) (fun b hb => own_farS OWN2.out hb), by rw [List.length_append, List.map_append]; exact hown'⟩)
                          clear hown' hgrow
                          go_roundw
                          case rel => exact ⟨d + x, m - x, c' - x, false, _, dn ++ [l], a3, rfl, rfl, rfl, by omega, by rw [HBD3.out, HST.out, ← HTK.out, ← HDK.out, HPGE.out, List.drop_drop]; simp, by rw [← List.drop_drop]; exact S6.out, P9.out, ⟨_, rfl⟩, ⟨_, rfl⟩, ⟨_, rfl⟩⟩
                          case measure =>
                            have h1 := HMP.out
                            rcases HGO.out with e | e
                            · subst e; simp [pgMeas]; omega
                            · have : x ≠ 0 := fun e0 => by have := h1 e0; omega
                              simp [pgMeas]; omega
                    · have hfb : fb = false := by cases fb with | false => rfl | true => exact absurd (.inl rfl) hgo
                      have hm0 : m = 0 := by omega
                      subst hfb hm0
                      have hnil : rs.drop d = [] := List.length_eq_zero_iff.1 hml
                      have HBD4 := Lib.hid (show BODY = dn ++ (G.drop (q + 1)).flatMap (pagesG Ws hd rs h) by rw [HBD3.out, hnil, pgR_end, HREST.out]; rfl)
                      clear hgo hnil hml hrc
                      go_wp2_with fail
                      go_roundw
                      case rel => exact ⟨q + 1, _, dn, by go_num, rfl, by omega, HBD4.out, HPG3.out, ⟨_, rfl⟩, ⟨_, rfl⟩, ⟨_, rfl⟩, ⟨_, rfl⟩, ⟨_, rfl⟩, ⟨_, rfl⟩, ⟨_, rfl⟩, ⟨_, rfl⟩⟩
                      case measure => simp [intOf]; omega
                · obtain rfl : q = K := by omega
                  have hown := hpg.2
                  have hb : Below w6.heap.size w6 wr := hpg.1
                  have hfin : BODY = done := by rw [hbd, List.drop_eq_nil_of_le (by rw [← HK.out]; exact Nat.le_refl _)]; simp
                  subst hfin
                  obtain ⟨N, hN⟩ : ∃ N, N = BODY.length := ⟨_, rfl⟩
                  have hN1 : 1 ≤ N := by
                    rw [hN, HBODY.out]
                    cases hGG : G with
                    | nil => have := HK.out; rw [hGG] at this; simp at this; omega
                    | cons cs r => rw [List.flatMap_cons]; unfold pagesG; rw [pgF_succ]; simp
                  have h200 : ∀ c, Ws.getD c 0 ≤ 200 := fun c => Nat.le_trans (HWS.out c) (by omega)
                  have HPSZ := Lib.hid (show ∀ p ∈ BODY, p.length ≤ 700000 from fun p hp => by
                    rw [HBODY.out] at hp
                    obtain ⟨cs, hcs, hp⟩ := List.mem_flatMap.1 hp
                    have hc12 := (HGIN.out cs hcs).1
                    unfold pagesG at hp
                    have h1 := pgF_size _ _ h 6001 _ rs (fun r hr => txtO_len h200 (fun c _ => Nat.le_trans (HC120.out r (by simp [hr]) c) (by omega)) (by omega)) p hp
                    have h2 := head_len (cs := cs) h200 (fun c => Nat.le_trans (HC120.out hd (by simp) c) (by omega)) (by omega)
                    have h3 : h * 6001 ≤ 100 * 6001 := Nat.mul_le_mul_right 6001 (by omega)
                    omega)
                  obtain ⟨g, cap, rfl, hcap, hgl, _⟩ := own_strs hown rfl (by rw [← hN]; exact hN1)
                  have hcapm : cap ≤ 9223372036854775807 := by
                    rcases hown.2 with ⟨h0, _⟩ | ⟨g', cap', cur, hv, _, _, _, r2, _⟩
                    · cases h0
                    · injection hv with _ _ e3; subst e3; unfold maxLen at r2; omega
                  rw [← hN] at hown hcap HLAY hblen ⊢
                  have OWN0 := Lib.hid (show wr.ownsRow w6.heap.size 9 1 (.slice (some ⟨g, 0, none⟩) N cap) N ((footsO BODY 0).map strV) by rw [footsO_zero]; exact hown)
                  have HNB := Lib.hid hN
                  have HB5 := Lib.hid hb
                  have hg5 : w6.heap.size ≤ g := own_farS hown rfl
                  clear hown hb hpg hbd hlt h200 hgl hN HPG HBD
                  go_upto_region 53 with fail
                  go_loopw [29, 213] (fun i ix wx => ∃ t' : Nat, ix = .int .i64 t' ∧ t' ≤ N ∧ wx.ownsRow w6.heap.size 9 1 (.slice (some ⟨g, 0, none⟩) N cap) N ((footsO BODY t').map strV) ∧ Below w6.heap.size w6 wx ∧ (∃ V, V = i)) (fun _ ix _ => N - (intOf ix).toNat)
                  case atStart => exact ⟨0, rfl, by omega, OWN0.out, HB5.out, ⟨_, rfl⟩⟩
                  case round =>
                    obtain ⟨t', rfl, ht, hown, hb, ⟨V21, rfl⟩⟩ := hrel
                    have OWN := Lib.hid hown; have HB := Lib.hid hb
                    by_cases htl : t' < N
                    · obtain ⟨p, hp⟩ : ∃ p, BODY[t']? = some p := ⟨_, List.getElem?_eq_getElem (by rw [← HNB.out]; exact htl)⟩
                      have hpl := HPSZ.out p (List.mem_of_getElem? hp)
                      have hft : (footsO BODY t')[t']? = some p := by rw [footsO_get, hp]; simp
                      obtain ⟨g', cap', hv, _, hgl, hcell⟩ := own_strs hown (by rw [footsO_len, ← HNB.out]) hN1
                      obtain ⟨rfl, rfl⟩ : g = g' ∧ cap = cap' := by injection hv with e1 e2 e3; injection e1 with e1; injection e1 with e1; exact ⟨e1, e3⟩
                      have hc0 := hcell t' p hft
                      rw [Nat.zero_add] at hc0
                      have HSTP := Lib.hid (footsO_step BODY t' p hp)
                      obtain ⟨i1, hi1⟩ : ∃ x, x = Lib.itoa ((t' : Int) + 1) := ⟨_, rfl⟩
                      obtain ⟨i2, hi2⟩ : ∃ x, x = Lib.itoa (N : Int) := ⟨_, rfl⟩
                      have hil1 : i1.length ≤ 21 := by rw [hi1]; exact itoa_len _ (by omega) (by omega)
                      have hil2 : i2.length ≤ 21 := by rw [hi2]; exact itoa_len _ (by omega) (by omega)
                      have CI1 := Lib.hid (fun (W : World) (hW : Below wr.heap.size wr W) => lib_Itoa ((t' : Int) + 1) W (by omega) (by omega) (HP.out.below (below_then (HX6.out _ hb) hW)))
                      have CI2 := Lib.hid (fun (W : World) (hW : Below wr.heap.size wr W) => lib_Itoa (N : Int) W (by omega) (by omega) (HP.out.below (below_then (HX6.out _ hb) hW)))
                      rw [← hi1] at CI1
                      rw [← hi2] at CI2
                      obtain ⟨s1, hs1⟩ : ∃ s, s = [112, 97, 103, 101, 32] ++ i1 := ⟨_, rfl⟩
                      obtain ⟨s2, hs2⟩ : ∃ s, s = s1 ++ [32, 111, 102, 32] := ⟨_, rfl⟩
                      obtain ⟨s3, hs3⟩ : ∃ s, s = s2 ++ i2 := ⟨_, rfl⟩
                      obtain ⟨s4, hs4⟩ : ∃ s, s = s3 ++ [10] := ⟨_, rfl⟩
                      obtain ⟨s5, hs5⟩ : ∃ s, s = p ++ s4 := ⟨_, rfl⟩
                      have l1 : s1.length ≤ 26 := by rw [hs1]; simp; omega
                      have l2 : s2.length ≤ 30 := by rw [hs2, List.length_append]; simp; omega
                      have l3 : s3.length ≤ 51 := by rw [hs3, List.length_append]; omega
                      have l4 : s4.length ≤ 52 := by rw [hs4, List.length_append]; simp; omega
                      have l5 : s5.length ≤ 700052 := by rw [hs5, List.length_append]; omega
                      have b1 := addL [112, 97, 103, 101, 32] i1 s1 hs1.symm (by omega)
                      have b2 := addL s1 [32, 111, 102, 32] s2 hs2.symm (by omega)
                      have b3 := addL s2 i2 s3 hs3.symm (by omega)
                      have b4 := addL s3 [10] s4 hs4.symm (by omega)
                      have b5 := addL p s4 s5 hs5.symm (by omega)
                      have HS5 := Lib.hid (show s5 = p ++ footO t' BODY.length by
                        rw [hs5, hs4, hs3, hs2, hs1, hi1, hi2, HNB.out]; unfold footO pageS ofS
                        rw [show (((t' + 1 : Nat) : Int)) = (t' : Int) + 1 by omega])
                      have ew : IntKind.i64.wrap ((t' : Int) + 1) = (t' : Int) + 1 := IntWalk.i64_in _ (by omega)
                      have HC0 := Lib.hid hc0
                      have HGL := Lib.hid hgl
                      clear hown hb hft hcell hv hc0 hs1 hs2 hs3 hs4 hs5 hi1 hi2 hp
                      go_upto_region 55 with fail
                      (refine region_class_tail 16 (Below wr.heap.size wr) (by kernel_rfl) (by kernel_rfl) ((Below.refl _ _).drew) ?_; simp only [List.take_succ_cons, List.take_zero, List.drop_succ_cons, List.drop_zero]; repeat ((first | (refine class_take ?_ (by rfl) ?_ ?_; rotate_left; focus (intro wq hq; ((have x0 : wq.cell? ⟨g, t', none⟩ = some (.string ⟨p.toArray⟩) := (hq.cell (p := ⟨g, t', none⟩) HGL.out).trans HC0.out; have x1 : g < wq.heap.size := Nat.lt_of_lt_of_le HGL.out hq.size)); go_simp; first | done | with_reducible rfl | (first | (go_at_call 16; (with_reducible refine (CI1.out _ hq).mono ?_); rintro e w' ⟨rfl, hb⟩; refine ⟨?_, below_then hq hb⟩; with_reducible rfl) | (go_at_call 16; (with_reducible refine (CI2.out _ hq).mono ?_); rintro e w' ⟨rfl, hb⟩; refine ⟨?_, below_then hq hb⟩; with_reducible rfl)))) | refine class_skip (by rfl) ?_); try simp only [Act.put, List.setIfInBounds_toArray, List.set_cons_zero, List.set_cons_succ]))
                      refine wpQuiet_nil ?_
                      intro W8 h8
                      have O8 := Lib.hid (own_thenS OWN.out h8)
                      have B8 := Lib.hid (below_then HB.out h8)
                      have hat8 : ∃ cur : Array Value, At W8 g (.cells cur 9) := by
                        rcases O8.out.2 with ⟨h0, _⟩ | ⟨g', cap', cur, hv, _, hat, _⟩
                        · cases h0
                        · injection hv with e1 _ _; injection e1 with e1; injection e1 with e1; subst e1; exact ⟨cur, hat⟩
                      obtain ⟨cur, hat⟩ := hat8
                      have y0 := hat.frozen t'; have y1 := hat.lt
                      have y2 : W8.cell? ⟨g, t', none⟩ = some (.string ⟨p.toArray⟩) := (h8.cell (p := ⟨g, t', none⟩) HGL.out).trans HC0.out
                      have O9 := Lib.hid (show (W8.setCell ⟨g, t', none⟩ (.string ⟨s5.toArray⟩)).ownsRow w6.heap.size 9 1 (.slice (some ⟨g, 0, none⟩) N cap) N ((footsO BODY (t' + 1)).map strV) by
                        rw [HSTP.out, ← HS5.out, List.map_set]; exact own_setIn O8.out t' _)
                      have B9 := Lib.hid (below_set B8.out (p := ⟨g, t', none⟩) hg5 (.string ⟨s5.toArray⟩))
                      clear hat h8
                      go_wp2_with fail
                      go_roundw
                      case rel => exact ⟨t' + 1, by go_num, by omega, O9.out, B9.out, ⟨_, rfl⟩⟩
                      case measure => simp [intOf]; omega
                    · obtain rfl : t' = N := by omega
                      obtain ⟨g', cap', hv, _, hgl, hcell⟩ := own_strs hown (by rw [footsO_len, ← HNB.out]) hN1
                      obtain ⟨rfl, rfl⟩ : g = g' ∧ cap = cap' := by injection hv with e1 e2 e3; injection e1 with e1; injection e1 with e1; exact ⟨e1, e3⟩
                      have hfl : (footsO BODY t').length = t' := by rw [footsO_len, ← HNB.out]
                      have ST := Lib.hid (show Strs wr wr.heap.size (some ⟨g, 0, none⟩) t' (txts (footsO BODY t')) from ⟨by unfold txts; rw [List.length_map, hfl], by omega, fun s hs => by
                        unfold txts at hs
                        obtain ⟨x, hx, rfl⟩ := List.mem_map.1 hs
                        obtain ⟨i, hi⟩ := List.mem_iff_getElem?.1 hx
                        rw [footsO_get, Option.map_eq_some_iff] at hi
                        obtain ⟨y, hy, hxy⟩ := hi
                        have hyl := HPSZ.out y (List.mem_of_getElem? hy)
                        have hil : i < BODY.length := (List.getElem?_eq_some_iff.1 hy).1
                        rw [bS_size, ← hxy]
                        split
                        · unfold footO pageS ofS
                          have e1 := itoa_len (((i + 1 : Nat) : Int)) (by omega) (by have := HNB.out; omega)
                          have e2 := itoa_len ((BODY.length : Int)) (by omega) (by have := HNB.out; omega)
                          simp only [List.length_append, List.length_cons, List.length_nil]
                          omega
                        · omega, fun _ => ⟨g, 0, rfl, hgl, fun i hi => by
                        have hi2 : (footsO BODY t')[i]? = some ((footsO BODY t')[i]'(by rw [hfl]; exact hi)) := List.getElem?_eq_getElem _
                        rw [hcell i _ hi2]
                        unfold txts
                        rw [List.getD_eq_getElem?_getD, List.getElem?_map, hi2]; rfl⟩⟩)
                      clear hown htl hcell hv
                      go_wp2_with fail
                      go_ret2
                      unfold RefLay
                      rw [HWE.out, if_pos HFIT.out, HLAY.out]
                      refine ⟨⟨some ⟨g, 0, none⟩, cap, ?_, by rw [hfl]; exact hcap, hcapm, ?_⟩, HX6.out _ hb⟩
                      · show _ = Ending.returned (.tuple #[.slice (some ⟨g, 0, none⟩) (footsO BODY t').length cap, .bool true])
                        rw [hfl]; rfl
                      · rw [hfl]; exact ST.out
end Go.Proofs.YthpiiocncdpimaaDoor
