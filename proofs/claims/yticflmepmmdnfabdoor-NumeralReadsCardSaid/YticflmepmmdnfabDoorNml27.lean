/- Contract of the reference's NumeralRead in script 12 and in the positional scripts. -/
import Derived.Test.YticflmepmmdnfabDoorNml26
import Derived.Test.YticflmepmmdnfabDoorTxt2n
namespace Go.Proofs.YticflmepmmdnfabDoor
set_option linter.unusedVariables false
set_option linter.unusedSimpArgs false
set_option maxRecDepth 100000
open Go.RowKit Go.Shelf Nml

set_option maxHeartbeats 16000000 in
theorem ref_NumeralRead12 (S : ByteArray) (w : World) (hS : S.size ≤ 60) (hp : Pow w) :
    Calls Tryd.prog 15 #[.int .i64 12, .string S] w (RdPost 12 S.data.toList w) := by
  have CR := ref_NumeralRange 12 w (by omega) (by omega)
  have hlow : lowS 12 = 0 := rfl
  have hhigh : highS 12 = 9999 := rfl
  rw [hlow, hhigh] at CR
  have CR := Lib.hid CR
  have HP := Lib.hid hp
  have CT := Lib.hid (fun (n : Int) (W : World) (hn : inS 12 n = true) (hb : Below w.heap.size w W) => ref_NumeralText 12 n W (by decide) hn (HP.out.below hb))
  have hin : ∀ n : Int, inS 12 n = true ↔ 0 ≤ n ∧ n ≤ 9999 := fun n => by unfold inS; rw [hlow, hhigh]; simp
  have HIN := Lib.hid hin
  clear hlow hhigh hin hp
  unfold RdPost
  go_enter Tryd.func15, Tryd.ntmps15
  go_wp2_with fail
  refine CR.out.mono ?_
  rintro e w0 ⟨rfl, rfl⟩
  go_wp2_with fail
  go_loopw [12] (fun i wr => ∃ m : Nat, m ≤ 10000 ∧ i = .int .i64 m ∧ Below w.heap.size w wr ∧ ∀ j : Nat, j < m → ¬ numT 12 (j : Int) = S.data.toList) (fun i _ => 10000 - (intOf i).toNat)
  case atStart => exact ⟨0, by omega, rfl, Below.refl _ _, fun j h => by omega⟩
  case round =>
    obtain ⟨m, m2, rfl, hb, hno⟩ := hrel
    have HB := Lib.hid hb; clear hb
    have HNO := Lib.hid hno; clear hno
    by_cases h9 : m ≤ 9999
    · have hm : inS 12 (m : Int) = true := (HIN.out _).2 ⟨by omega, by omega⟩
      have CTn := CT.out (m : Int)
      obtain ⟨T, hT⟩ : ∃ T : ByteArray, T = ⟨(numT 12 (m : Int)).toArray⟩ := ⟨_, rfl⟩
      have hTL : T.data.toList = numT 12 (m : Int) := by rw [hT]
      rw [← hT] at CTn
      have CTn := Lib.hid (fun W => CTn W hm)
      have HM := Lib.hid hm
      have d9 : (m : Int) ≤ 9999 := by omega
      by_cases heq : T.data.toList = S.data.toList
      · have he : T = S := by rw [← str_eta T, heq, str_eta]
        subst he
        have HTL := Lib.hid hTL
        clear hm hT hTL heq
        go_wp2_with fail
        refine (CTn.out _ HB.out).mono ?_
        rintro e w4 ⟨rfl, b4⟩
        have B4 := Lib.hid (below_then HB.out b4); clear b4
        go_wp2_with fail
        go_ret2
        exact ⟨_, _, rfl, B4.out, fun _ => ⟨HM.out, HTL.out.symm⟩, fun h => by simp at h⟩
      · obtain ⟨f1, f2, f3, f4⟩ := diff_facts heq
        have HN2 := Lib.hid (show ∀ j : Nat, j < m + 1 → ¬ numT 12 (j : Int) = S.data.toList from fun j hj => by
          by_cases hjm : j = m
          · subst hjm; rw [← hTL]; exact heq
          · exact HNO.out j (by omega))
        clear hm hT hTL heq
        go_wp2_with fail
        refine (CTn.out _ HB.out).mono ?_
        rintro e w4 ⟨rfl, b4⟩
        have B4 := Lib.hid (below_then HB.out b4); clear b4
        go_wp2_with fail
        go_roundw
        case rel => exact ⟨m + 1, by omega, by go_num, B4.out, HN2.out⟩
        case measure => simp [intOf]; omega
    · obtain rfl : m = 10000 := by omega
      go_wp2_with fail
      go_ret2
      exact ⟨_, _, rfl, HB.out, fun h => by simp at h, fun _ j hj he => by
        obtain ⟨j0, j1⟩ := (HIN.out j).1 hj
        refine HNO.out j.toNat (by omega) ?_
        rwa [show ((j.toNat : Nat) : Int) = j by omega]⟩

/-- The digits of a text in a positional script. -/
def rtGo (z : Nat) : Nat → List UInt8 → List UInt8 → Option (List UInt8)
  | 0, _, t => some t
  | _ + 1, [], t => some t
  | f + 1, b :: r, t =>
    if (Lib.decodeL (b :: r)).1 = 45 then rtGo z f ((b :: r).drop (Lib.decodeL (b :: r)).2) (t ++ [45])
    else if 0 ≤ ((Lib.decodeL (b :: r)).1 : Int) - z ∧ ((Lib.decodeL (b :: r)).1 : Int) - z ≤ 9 then rtGo z f ((b :: r).drop (Lib.decodeL (b :: r)).2) (t ++ Lib.itoa (((Lib.decodeL (b :: r)).1 : Int) - z))
    else none
theorem rtGo_nil (z f : Nat) (t : List UInt8) : rtGo z f [] t = some t := by cases f <;> rfl
theorem rtGo_step (z f : Nat) (l t : List UInt8) (h : l ≠ []) : rtGo z (f + 1) l t = if (Lib.decodeL l).1 = 45 then rtGo z f (l.drop (Lib.decodeL l).2) (t ++ [45]) else if 0 ≤ ((Lib.decodeL l).1 : Int) - z ∧ ((Lib.decodeL l).1 : Int) - z ≤ 9 then rtGo z f (l.drop (Lib.decodeL l).2) (t ++ Lib.itoa (((Lib.decodeL l).1 : Int) - z)) else none := by
  cases l with
  | nil => exact absurd rfl h
  | cons b r => rfl
theorem itoa_one (d : Nat) (h : d < 10) : Lib.itoa (d : Int) = [UInt8.ofNat (48 + d)] := by
  unfold Lib.itoa
  rw [if_neg (by omega), show ((d : Int)).toNat = d by omega, Num.dd_one d h]
theorem rt_digits (k : Nat) (hk : k < 9) : ∀ (D : List UInt8) (f : Nat) (t : List UInt8), (∀ c ∈ D, Num.isDig c = true) → D.length ≤ f → rtGo (zeroOf k) f (posL (zeroOf k) D) t = some (t ++ D)
  | [], f, t, _, _ => by rw [show posL (zeroOf k) [] = [] from rfl, rtGo_nil]; simp
  | c :: r, 0, t, _, hf => by simp at hf
  | c :: r, f + 1, t, h, hf => by
    have hc := h c (by simp)
    have hd2 : 48 ≤ c.toNat ∧ c.toNat ≤ 57 := by unfold Num.isDig at hc; simpa using hc
    have h1 := enc1_pos k hk c hc
    obtain ⟨z1, z2⟩ := zero_bounds k
    have e : posL (zeroOf k) (c :: r) = enc1 (zeroOf k) c ++ posL (zeroOf k) r := by simp [posL]
    have hd := full_digit k hk c hc (posL (zeroOf k) r)
    have hne : enc1 (zeroOf k) c ++ posL (zeroOf k) r ≠ [] := by
      intro e2; have := congrArg List.length e2; rw [List.length_append, List.length_nil] at this; omega
    rw [e, rtGo_step _ _ _ _ hne, hd]
    simp only []
    rw [if_neg (by omega), if_pos (by omega), List.drop_left]
    have hi : Lib.itoa (((zeroOf k + (c.toNat - 48) : Nat) : Int) - (zeroOf k : Int)) = [c] := by
      rw [show (((zeroOf k + (c.toNat - 48) : Nat) : Int) - (zeroOf k : Int)) = ((c.toNat - 48 : Nat) : Int) by omega, itoa_one _ (by omega), show 48 + (c.toNat - 48) = c.toNat by omega]
      simp
    rw [hi, rt_digits k hk r f _ (fun x hx => h x (by simp [hx])) (by simp at hf; omega)]
    simp
theorem rt_itoa (k : Nat) (hk : k < 9) (n : Int) : rtGo (zeroOf k) (posL (zeroOf k) (Lib.itoa n)).length (posL (zeroOf k) (Lib.itoa n)) [] = some (Lib.itoa n) := by
  have hdd := Num.dd_dig n.natAbs
  have hge := posL_ge k hk (Lib.decDigits n.natAbs) hdd
  by_cases h : n < 0
  · have e : Lib.itoa n = 45 :: Lib.decDigits n.natAbs := by unfold Lib.itoa; rw [if_pos h]
    have e2 : posL (zeroOf k) (45 :: Lib.decDigits n.natAbs) = 45 :: posL (zeroOf k) (Lib.decDigits n.natAbs) := by simp [posL, enc1]
    rw [e, e2, List.length_cons, rtGo_step _ _ _ _ (by simp), Lib.decodeL_ascii 45 _ (by decide)]
    simp only []
    rw [if_pos (show (45 : UInt8).toNat = 45 from rfl)]
    simp only [List.drop_succ_cons, List.drop_zero]
    rw [rt_digits k hk _ _ _ hdd hge]; rfl
  · have e : Lib.itoa n = Lib.decDigits n.natAbs := by unfold Lib.itoa; rw [if_neg h, show n.toNat = n.natAbs by omega]
    rw [e, rt_digits k hk _ _ _ hdd hge]; rfl
set_option maxHeartbeats 16000000 in
theorem ref_NumeralReadP (k : Nat) (S : ByteArray) (w : World) (hk : k < 9) (hS : S.size ≤ 60) (hp : Pow w) :
    Calls Tryd.prog 15 #[.int .i64 (k : Int), .string S] w (RdPost (k : Int) S.data.toList w) := by
  have CR := ref_NumeralRange (k : Int) w (by omega) (by omega)
  have hlow : lowS (k : Int) = -2147483647 := by unfold lowS; rw [if_neg (by omega), if_neg (by omega), if_neg (by omega)]
  have hhigh : highS (k : Int) = 2147483647 := by unfold highS; rw [if_neg (by omega), if_neg (by omega), if_neg (by omega)]
  rw [hlow, hhigh] at CR
  have CR := Lib.hid CR
  have HP := Lib.hid hp
  have hkk : inB 0 12 (k : Int) = true := inB_yes (by omega) (by omega)
  have CT := Lib.hid (fun (n : Int) (W : World) (hn : inS (k : Int) n = true) (hb : Below w.heap.size w W) => ref_NumeralText (k : Int) n W hkk hn (HP.out.below hb))
  have hin : ∀ n : Int, inB (-2147483647) 2147483647 n = inS (k : Int) n := fun n => by unfold inB inS; rw [hlow, hhigh]; simp
  have HIN := Lib.hid hin
  have CZ := Lib.hid (fun W => ref_zero k W hk)
  have CI := Lib.hid (fun (d : Int) (W : World) (h0 : 0 ≤ d) (h9 : d ≤ 9) (hb : Below w.heap.size w W) => lib_Itoa d W (by omega) (by omega) (HP.out.below hb))
  have hgo : ∀ m, inS (k : Int) m = true → numT (k : Int) m = S.data.toList → rtGo (zeroOf k) S.size S.data.toList [] = some (Lib.itoa m) := fun m hm he => by
    have := rt_itoa k hk m
    have e2 : numT (k : Int) m = posL (zeroOf k) (Lib.itoa m) := by
      unfold numT; rw [if_neg (by omega), if_neg (by omega), if_neg (by omega), if_neg (by omega)]; rfl
    rw [← e2, he, str_len] at this
    exact this
  obtain ⟨z1, z2⟩ := zero_bounds k
  have k9 : ¬ (9 ≤ (k : Int)) := by omega
  have k12 : ((k : Int) == 12) = false := by simp; omega
  generalize zeroOf k = Z at *
  obtain ⟨ANS, hA⟩ : ∃ A, A = rtGo Z S.size S.data.toList [] := ⟨_, rfl⟩
  rw [← hA] at hgo
  have HA := Lib.hid hA.symm; have HGO := Lib.hid hgo
  clear hlow hhigh hin hp hkk hgo hA hk
  unfold RdPost
  go_enter Tryd.func15, Tryd.ntmps15
  go_wp2_with fail
  refine CR.out.mono ?_
  rintro e w0 ⟨rfl, rfl⟩
  go_wp2_with fail
  go_loopg [13] S.size (fun gf v wx => ∃ (pos : Nat) (t : List UInt8), v = .string ⟨t.toArray⟩ ∧ wx.heap[w.heap.size]? = some (.stringIter S pos) ∧ Below w.heap.size w wx ∧ rtGo Z gf (S.data.toList.drop pos) t = ANS ∧ S.size ≤ pos + gf ∧ t.length ≤ pos ∧ pos ≤ S.size)
  case atStart => exact ⟨0, [], rfl, World.iter_heap w S 0, (Below.refl _ _).alloc (Nat.le_refl _) _, HA.out, by omega, by simp, by omega⟩
  case round =>
    clear HA
    obtain ⟨pos, t, rfl, hit, hbw, hleft, hfu, htl, hps⟩ := hrel
    by_cases hp2 : pos < S.size
    · obtain ⟨g', rfl⟩ : ∃ g', gk = g' + 1 := ⟨gk - 1, by omega⟩
      have hnx : ∀ ty, (Instr.next (.pointer (some ⟨w.heap.size, 0, none⟩)) true ty).run Tryd.prog wr = _ := fun ty => Lib.run_next_any_at wr w.heap.size S pos ty hit hp2
      have hwd := Lib.width_pos S pos
      have hcm := Lib.rune_le S pos
      have hne : S.data.toList.drop pos ≠ [] := by
        intro e; have := congrArg List.length e; rw [List.length_drop, str_len, List.length_nil] at this; omega
      rw [rtGo_step _ _ _ _ hne, Lib.decodeL_drop] at hleft
      have hw4 : (Utf8.decode S pos).2 ≤ S.size - pos := by
        have := Lib.decodeL_le (S.data.toList.drop pos) hne
        rw [Lib.decodeL_drop, List.length_drop, str_len] at this; exact this
      obtain ⟨C, hC⟩ : ∃ C, (Utf8.decode S pos).1 = C := ⟨_, rfl⟩
      obtain ⟨K, hK⟩ : ∃ K, (Utf8.decode S pos).2 = K := ⟨_, rfl⟩
      rw [hC, hK] at hleft hnx
      rw [hC] at hcm
      rw [hK] at hwd hw4
      rw [List.drop_drop] at hleft
      have hit2 := Lib.iterAt_heap wr w.heap.size S pos (pos + K) hit
      have hbw2 := Lib.below_iterAt hbw (k := w.heap.size) (Nat.le_refl _) S (pos + K)
      have hlt : w.heap.size < (wr.iterAt w.heap.size S (pos + K)).heap.size := by
        rcases Nat.lt_or_ge w.heap.size (wr.iterAt w.heap.size S (pos + K)).heap.size with h' | h'
        · exact h'
        · rw [Array.getElem?_eq_none h'] at hit2; cases hit2
      obtain ⟨W, hWd⟩ : ∃ W, wr.iterAt w.heap.size S (pos + K) = W := ⟨_, rfl⟩
      rw [hWd] at hnx hit2 hbw2 hlt
      clear hC hK hWd hit hbw hne
      have HIT := Lib.hid hit2; have HBW := Lib.hid hbw2; have HLT := Lib.hid hlt
      clear hit2 hbw2 hlt
      by_cases h45 : C = 45
      · rw [if_pos h45] at hleft
        have e45 : ((C : Int) == 45) = true := by simp; omega
        have ha := addL t [45] _ rfl (by rw [List.length_append]; simp; omega)
        have HL := Lib.hid hleft
        have HTL := Lib.hid (show (t ++ [45]).length ≤ pos + K by rw [List.length_append]; simp; omega)
        generalize t ++ [45] = T at ha HL HTL
        clear hleft h45
        go_wp2_with fail
        go_roundg g'
        case measure => omega
        case rel => exact ⟨pos + K, T, rfl, HIT.out, HBW.out, HL.out, by omega, HTL.out, by omega⟩
      rw [if_neg h45] at hleft
      have e45 : ((C : Int) == 45) = false := by simp; omega
      have i1 : IntKind.i32.wrap ((C : Int) - (Z : Int)) = (C : Int) - Z := IntWalk.i32_in _ (by omega)
      have i2 : IntKind.i64.wrap ((C : Int) - (Z : Int)) = (C : Int) - Z := IntWalk.i64_in _ (by omega)
      by_cases hd : 0 ≤ (C : Int) - Z ∧ (C : Int) - Z ≤ 9
      · rw [if_pos hd] at hleft
        have hone := itoa_one (C - Z) (by omega)
        rw [show ((C - Z : Nat) : Int) = (C : Int) - Z by omega] at hone
        have hol : (Lib.itoa ((C : Int) - Z)).length = 1 := by rw [hone]; rfl
        have ha := addL t (Lib.itoa ((C : Int) - Z)) _ rfl (by rw [List.length_append]; omega)
        have HL := Lib.hid hleft
        have HTL := Lib.hid (show (t ++ Lib.itoa ((C : Int) - Z)).length ≤ pos + K by rw [List.length_append]; omega)
        have HI := Lib.hid (inB_yes hd.1 hd.2)
        have CId := Lib.hid (fun W => CI.out ((C : Int) - Z) W hd.1 hd.2)
        have ha2 : ∀ W, (Op.stringOp .add ⟨t.toArray⟩ (itoaS ((C : Int) - Z))).run Tryd.prog W = .ok (.string ⟨(t ++ Lib.itoa ((C : Int) - Z)).toArray⟩) W := ha
        generalize itoaS ((C : Int) - Z) = IS at CId ha2
        generalize t ++ Lib.itoa ((C : Int) - Z) = T at ha2 HL HTL
        clear hleft h45 ha hone hol hd
        go_wp2_with fail
        refine (CZ.out _).mono ?_
        rintro e w3 ⟨rfl, b⟩
        have HIT3 := Lib.hid ((b.block _ HLT.out).trans HIT.out)
        have HB3 := Lib.hid (below_then HBW.out b)
        have HLT3 := Lib.hid (Nat.lt_of_lt_of_le HLT.out b.size)
        clear b
        go_wp2_with fail
        refine (ref_In _ _ _ _).mono ?_
        rw [HI.out]
        rintro e w4 ⟨rfl, rfl⟩
        go_wp2_with fail
        refine (CId.out _ HB3.out).mono ?_
        rintro e w5 ⟨rfl, b⟩
        have HIT5 := Lib.hid ((b.block _ HLT3.out).trans HIT3.out)
        have HB5 := Lib.hid (below_then HB3.out b)
        clear b
        go_wp2_with fail
        go_roundg g'
        case measure => omega
        case rel => exact ⟨pos + K, T, rfl, HIT5.out, HB5.out, HL.out, by omega, HTL.out, by omega⟩
      · rw [if_neg hd] at hleft
        have HF := Lib.hid hleft
        have HI := Lib.hid (inB_no hd)
        clear hleft h45 hd
        go_wp2_with fail
        refine (CZ.out _).mono ?_
        rintro e w3 ⟨rfl, b⟩
        have HB3 := Lib.hid (below_then HBW.out b)
        clear b
        go_wp2_with fail
        refine (ref_In _ _ _ _).mono ?_
        rw [HI.out]
        rintro e w4 ⟨rfl, rfl⟩
        go_wp2_with fail
        go_ret2
        exact ⟨_, _, rfl, HB3.out, fun h => by simp at h, fun _ m hm he => by
          have := HGO.out m hm he
          rw [← HF.out] at this; cases this⟩
    · have hnx : ∀ ty, (Instr.next (.pointer (some ⟨w.heap.size, 0, none⟩)) true ty).run Tryd.prog wr = _ := fun ty => Lib.run_next_end_at wr w.heap.size S pos ty hit hp2
      have hnil : S.data.toList.drop pos = [] := List.drop_eq_nil_of_le (by rw [str_len]; omega)
      rw [hnil, rtGo_nil] at hleft
      have HF := Lib.hid (show ∀ m, inS (k : Int) m = true → numT (k : Int) m = S.data.toList → Num.plainOk t = true ∧ Num.plainNum t = m from fun m hm he => by
        have h3 := HGO.out m hm he
        rw [← hleft] at h3
        injection h3 with h3
        have hb3 := inS_bounds hm
        rw [h3]
        exact Num.plain_itoa m (by omega) (by omega))
      have HBW := Lib.hid hbw
      have htz : (⟨t.toArray⟩ : ByteArray).size ≤ 9223372036854775806 := by
        have e0 : (⟨t.toArray⟩ : ByteArray).size = t.length := by show t.toArray.size = _; simp
        omega
      have CP := fun W => ref_Plain ⟨t.toArray⟩ W htz
      rw [show (⟨t.toArray⟩ : ByteArray).data.toList = t from rfl] at CP
      unfold plainRes at CP
      clear hleft hit hbw hnil htz htl HGO CI CZ CR
      generalize Num.plainOk t = po at CP HF
      generalize Num.plainNum t = pn at CP HF
      have CP := Lib.hid CP
      cases po with
      | false =>
        go_wp2_with fail
        refine (CP.out _).mono ?_
        rintro e w3 ⟨rfl, rfl⟩
        go_wp2_with fail
        go_ret2
        exact ⟨_, _, rfl, HBW.out, fun h => by simp at h, fun _ m hm he => by have := (HF.out m hm he).1; cases this⟩
      | true =>
        by_cases hin : inS (k : Int) pn = true
        · have HI := Lib.hid ((HIN.out pn).trans hin)
          have CTn := CT.out pn
          obtain ⟨T, hT⟩ : ∃ T : ByteArray, T = ⟨(numT (k : Int) pn).toArray⟩ := ⟨_, rfl⟩
          have hTL : T.data.toList = numT (k : Int) pn := by rw [hT]
          rw [← hT] at CTn
          have CTn := Lib.hid (fun W => CTn W hin)
          have HINN := Lib.hid hin
          by_cases heq : T.data.toList = S.data.toList
          · have he : T = S := by rw [← str_eta T, heq, str_eta]
            subst he
            have HTL := Lib.hid hTL
            clear hin hT hTL heq
            go_wp2_with fail
            refine (CP.out _).mono ?_
            rintro e w3 ⟨rfl, rfl⟩
            go_wp2_with fail
            refine (ref_In _ _ _ _).mono ?_
            rw [HI.out]
            rintro e w4 ⟨rfl, rfl⟩
            go_wp2_with fail
            refine (CTn.out _ HBW.out).mono ?_
            rintro e w5 ⟨rfl, b⟩
            have B5 := Lib.hid (below_then HBW.out b); clear b
            go_wp2_with fail
            go_ret2
            exact ⟨_, _, rfl, B5.out, fun _ => ⟨HINN.out, HTL.out.symm⟩, fun h => by simp at h⟩
          · obtain ⟨f1, f2, f3, f4⟩ := diff_facts heq
            have HTL := Lib.hid hTL
            have HEQ := Lib.hid heq
            clear hin hT hTL heq
            go_wp2_with fail
            refine (CP.out _).mono ?_
            rintro e w3 ⟨rfl, rfl⟩
            go_wp2_with fail
            refine (ref_In _ _ _ _).mono ?_
            rw [HI.out]
            rintro e w4 ⟨rfl, rfl⟩
            go_wp2_with fail
            refine (CTn.out _ HBW.out).mono ?_
            rintro e w5 ⟨rfl, b⟩
            have B5 := Lib.hid (below_then HBW.out b); clear b
            go_wp2_with fail
            go_ret2
            exact ⟨_, _, rfl, B5.out, fun h => by simp [f2] at h, fun _ m hm he => by
              have h3 := (HF.out m hm he).2
              refine HEQ.out ?_
              rw [HTL.out, h3]; exact he⟩
        · have hin' : inS (k : Int) pn = false := by simpa using hin
          have HI := Lib.hid ((HIN.out pn).trans hin')
          have HINN := Lib.hid hin'
          clear hin hin'
          go_wp2_with fail
          refine (CP.out _).mono ?_
          rintro e w3 ⟨rfl, rfl⟩
          go_wp2_with fail
          refine (ref_In _ _ _ _).mono ?_
          rw [HI.out]
          rintro e w4 ⟨rfl, rfl⟩
          go_wp2_with fail
          go_ret2
          exact ⟨_, _, rfl, HBW.out, fun h => by simp at h, fun _ m hm he => by
            have h3 := (HF.out m hm he).2
            have h5 := HINN.out
            rw [h3, hm] at h5
            cases h5⟩
theorem ref_NumeralRead (s : Int) (S : ByteArray) (w : World) (hs : inB 0 12 s = true) (hS : S.size ≤ 60) (hp : Pow w) :
    Calls Tryd.prog 15 #[.int .i64 s, .string S] w (RdPost s S.data.toList w) := by
  obtain ⟨s0, s1⟩ := inB_iff.1 hs
  by_cases h9 : s = 9
  · rw [h9]; exact ref_NumeralRead9 S w hS hp
  by_cases h10 : s = 10
  · rw [h10]; exact ref_NumeralRead10 S w hS hp
  by_cases h11 : s = 11
  · rw [h11]; exact ref_NumeralRead11 S w hS hp
  by_cases h12 : s = 12
  · rw [h12]; exact ref_NumeralRead12 S w hS hp
  have := ref_NumeralReadP s.toNat S w (by omega) hS hp
  rwa [show ((s.toNat : Nat) : Int) = s by omega] at this
end Go.Proofs.YticflmepmmdnfabDoor
