import Derived.Test.YtdmkghgachapaabGreatDoorMgH
import Derived.Test.YtdmkghgachapaabGreatDoorMgK
set_option linter.unusedSimpArgs false
namespace Go.Proofs.YtdmkghgachapaabGreatDoor
set_option linter.unusedVariables false
set_option maxRecDepth 100000
open Go.RowKit Go.Shelf
theorem byte_at (S : ByteArray) (i : Nat) (h : i < S.size) : S.extract i (i + 1) = tkS [S[i]] := by
  have h2 : S.data.toList.drop i = S[i] :: S.data.toList.drop (i + 1) := by
    have := str_get S i h
    obtain ⟨hl, e⟩ := List.getElem?_eq_some_iff.1 this
    rw [List.drop_eq_getElem_cons hl, e]
  refine ByteArray.ext (Array.ext' ?_)
  simp only [ByteArray.data_extract, Array.toList_extract, List.extract_eq_take_drop]
  rw [h2]; simp
theorem drop_at (S : ByteArray) (i : Nat) (h : i < S.size) : S.data.toList.drop i = S[i] :: S.data.toList.drop (i + 1) := by
  have := str_get S i h
  obtain ⟨hl, e⟩ := List.getElem?_eq_some_iff.1 this
  rw [List.drop_eq_getElem_cons hl, e]
theorem wd_add (a b c : ByteArray) (hc : a ++ b = c) (h : a.size + b.size ≤ 9223372036854775807) : ∀ W, (Op.stringOp .add a b).run Tryz.prog W = .ok (.string c) W := fun W => by rw [← hc]; exact run_string_add_sum W _ _ h
theorem wd_slice (s r : ByteArray) (i j : Int) (h0 : 0 ≤ i) (h1 : i ≤ j) (h2 : j ≤ (s.size : Int)) (he : s.extract i.toNat j.toNat = r) : ∀ W, (Instr.slice 9 (.string s) (some (.int .i64 i)) (some (.int .i64 j)) none).run Tryz.prog W = .ok (.string r) W := fun W => by
  rw [run_slice_string_if W 9 s .i64 .i64 i j (by kernel_rfl), if_pos ⟨by omega, h2⟩, if_pos ⟨h0, h1⟩, he]
def WdSt (S : ByteArray) (w : World) (i kd : Nat) (v : Value) (out : List Tok) (W : World) : Prop :=
  i ≤ S.size ∧ kd ≤ 2 ∧ W.ownsRow w.heap.size 9 1 v out.length (out.map strV) ∧ wordsGo [] 0 S.data.toList = wordsGo out kd (S.data.toList.drop i) ∧ (kd ≠ 0 → out ≠ []) ∧ out.length ≤ i ∧ (∀ t ∈ out, t.length ≤ i) ∧ Below w.heap.size w W
set_option maxHeartbeats 8000000 in
theorem ref_Words (S : ByteArray) (w : World) (hS : S.size ≤ 4000) :
    Calls Tryz.prog 89 #[.string S] w fun e w' => (∃ v, e = .returned v ∧ w'.ownsRow w.heap.size 9 1 v (toks S.data.toList).length ((toks S.data.toList).map strV)) ∧ Below w.heap.size w w' := by
  obtain ⟨i0, hi, hz0, hz1, hz2⟩ := info_parts infoStr
  obtain ⟨R, hR⟩ : ∃ R, R = toks S.data.toList := ⟨_, rfl⟩
  rw [← hR]
  have HR := Lib.hid (show wordsGo [] 0 S.data.toList = R by rw [hR]; exact words_toks _)
  clear hR
  go_enter Tryz.func89, Tryz.ntmps89
  go_wp2_with fail
  go_loopw [3, 4, 5, 6, 7, 10] (fun vo vk _ _ _ vi wr => ∃ (i kd : Nat) (out : List Tok), vi = .int .i64 i ∧ vk = .int .i64 kd ∧ WdSt S w i kd vo out wr) (fun _ _ _ _ _ v _ => S.size - (intOf v).toNat)
  case atStart =>
    exact ⟨0, 0, [], rfl, rfl, by omega, by omega, ⟨rfl, .inl ⟨rfl, rfl⟩⟩, by simp, fun h => absurd rfl h, by simp, by simp, Below.refl _ _⟩
  case round =>
    obtain ⟨i, kd, out, rfl, rfl, hil, hkd, hown, hgo, hne, hol, htl, hb⟩ := hrel
    have OWN := Lib.hid hown; have HGO := Lib.hid hgo; have HB := Lib.hid hb; have HNE := Lib.hid hne; have HTL := Lib.hid htl
    clear hown hgo hb hne htl
    by_cases hlt : i < S.size
    · obtain ⟨c, hc⟩ : ∃ c, c = S[i] := ⟨_, rfl⟩
      have hx : S.extract i (i + 1) = tkS [S[i]] := byte_at S i hlt
      have hdr : S.data.toList.drop i = c :: S.data.toList.drop (i + 1) := by rw [hc]; exact drop_at S i hlt
      rw [← hc] at hx
      have HX := Lib.hid hx
      obtain ⟨X, hX⟩ : ∃ X, X = S.extract i (i + 1) := ⟨_, rfl⟩
      rw [← hX] at HX
      have HXX := Lib.hid hX
      have hsl := wd_slice S X (i : Int) ((i : Int) + 1) (by omega) (by omega) (by omega) (by rw [hX]; congr 1)
      have HDR := Lib.hid hdr
      have HSC := Lib.hid hc
      have hsz : w.heap.size ≤ wr.heap.size := HB.out.size
      have hi1 : IntKind.i64.wrap ((i : Int) + 1) = (i : Int) + 1 := IntWalk.i64_in _ (by omega)
      clear hx hdr hX
      have grown : ∀ k : Nat, cls c = k → c ≠ 32 → ¬ (k ≠ 0 ∧ k = kd) → wordsGo [] 0 S.data.toList = wordsGo (out ++ [[c]]) k (S.data.toList.drop (i + 1)) := fun k hk h32 hn => by
        rw [HGO.out, HDR.out, wordsGo, if_neg h32, hk, if_neg hn]
      have setted : ∀ k : Nat, cls c = k → c ≠ 32 → (k ≠ 0 ∧ k = kd) → wordsGo [] 0 S.data.toList = wordsGo (out.set (out.length - 1) (out.getD (out.length - 1) [] ++ [c])) k (S.data.toList.drop (i + 1)) := fun k hk h32 hn => by
        rw [HGO.out, HDR.out, wordsGo, if_neg h32, hk, if_pos hn]
      have GROWN := Lib.hid grown; have SETTED := Lib.hid setted
      clear grown setted
      have hcc : (97 ≤ c.toNat ∧ c.toNat ≤ 122) ∨ (48 ≤ c.toNat ∧ c.toNat ≤ 57) ∨ c = 32 ∨ (122 < c.toNat) ∨ (57 < c.toNat ∧ c.toNat < 97) ∨ (c.toNat < 48 ∧ c ≠ 32) := by
        by_cases h32 : c = 32
        · exact .inr (.inr (.inl h32))
        · have : ∀ n : Nat, (n : Nat) = c.toNat → _ := fun n hn => trivial
          by_cases h1 : 97 ≤ c.toNat
          · by_cases h2 : c.toNat ≤ 122
            · exact .inl ⟨h1, h2⟩
            · exact .inr (.inr (.inr (.inl (by omega))))
          · by_cases h2 : 48 ≤ c.toNat
            · by_cases h3 : c.toNat ≤ 57
              · exact .inr (.inl ⟨h2, h3⟩)
              · exact .inr (.inr (.inr (.inr (.inl ⟨by omega, by omega⟩))))
            · exact .inr (.inr (.inr (.inr (.inr ⟨by omega, h32⟩))))
      rcases hcc with ⟨h1, h2⟩ | ⟨h1, h2⟩ | h32 | h1 | ⟨h1, h2⟩ | ⟨h1, h2⟩
      · have d1 : (97 : Int) ≤ (S[i].toNat : Int) := by rw [← hc]; omega
        have d2 : (S[i].toNat : Int) ≤ 122 := by rw [← hc]; omega
        have hk : cls c = 1 := by unfold cls; rw [if_pos ⟨h1, h2⟩]
        have h32 : c ≠ 32 := cls_ne (by omega)
        by_cases hkd : kd = 1
        · subst hkd
          have GN := Lib.hid (SETTED.out 1 hk h32 ⟨by omega, rfl⟩)
          clear h1 h2 hc hk h32 GROWN SETTED
          have hne := HNE.out (by omega)
          obtain ⟨o', t, rfl⟩ : ∃ o' t, out = o' ++ [t] := ⟨out.dropLast, out.getLast hne, (List.dropLast_concat_getLast hne).symm⟩
          have hlen : (o' ++ [t]).length = o'.length + 1 := by simp
          obtain ⟨q, cp, rfl, hcp, hq, hcell⟩ := own_strs OWN.out (by simp) (by omega)
          have y0 : wr.cell? ⟨q, o'.length, none⟩ = some (.string (tkS t)) := by have := hcell o'.length t (by simp); rw [Nat.zero_add] at this; exact this
          have z0 : wr.frozen? ⟨q, o'.length, none⟩ = false := OWN.out.frozenAt _
          have ho := own_farS OWN.out (b := q) rfl
          have htz := HTL.out t (by simp)
          have hadd : tkS t ++ X = tkS (t ++ [c]) := by rw [HX.out]; refine ByteArray.ext ?_; simp [tkS]
          have HST := Lib.hid (own_thenS (OWN.out.stored o'.length (.string (tkS (t ++ [c])))).1 ((Below.refl _ _).drew))
          have hsr : (o' ++ [t]).set ((o' ++ [t]).length - 1) ((o' ++ [t]).getD ((o' ++ [t]).length - 1) [] ++ [c]) = o' ++ [t ++ [c]] := by simp [List.getD_eq_getElem?_getD]
          rw [hsr] at GN
          have hsz2 : (tkS t).size + X.size ≤ 4001 := by rw [HX.out, tkS_len, tkS_len]; simp; omega
          have hol' : o'.length + 1 ≤ i := by have := hol; rw [hlen] at this; exact this
          rw [hlen] at *
          have hwl : IntKind.i64.wrap (o'.length : Int) = (o'.length : Int) := IntWalk.i64_in _ (by omega)
          have hln : (o'.length : Int) < (o'.length : Int) + 1 := by omega
          have HTS := Lib.hid (show (tkS t).size = t.length from tkS_len t)
          obtain ⟨T, hT⟩ : ∃ T, T = tkS t := ⟨_, rfl⟩
          obtain ⟨T2, hT2⟩ : ∃ T2, T2 = tkS (t ++ [c]) := ⟨_, rfl⟩
          rw [← hT] at hadd hsz2 y0 HTS
          rw [← hT2] at hadd HST
          have hadd2 := wd_add T X T2 hadd (by omega)
          have hT3 := Lib.hid hT2
          clear hcell hne hlen hsr hadd hT hT2
          go_wp2_with fail
          (refine wp_region_still_tail 13 (by kernel_rfl) (by kernel_rfl) ?_; simp only [List.take_succ_cons, List.take_zero, List.drop_succ_cons, List.drop_zero]; change wpStill _ _ (World.drew wr) _ _ _; (repeat still_step); refine wpStill_nil ?_; change wpList _ _ _ _ _ (World.drew wr))
          go_wp2_with fail
          go_roundw
          case rel => exact ⟨i + 1, 1, o' ++ [t ++ [c]], by go_num, rfl, by omega, by omega, by have := HST.out; have e9 : Value.string T2 = strV (t ++ [c]) := (by rw [hT3.out]; rfl); simpa [strV, e9] using this, GN.out, fun _ => by simp, by simp; omega, fun s hs => by
            rcases List.mem_append.1 hs with hs | hs
            · have := HTL.out s (by simp [hs]); omega
            · rw [List.mem_singleton] at hs; subst hs; simp; omega, (below_set HB.out ho _).drew⟩
          case measure => simp [intOf]; omega
        · have hkk : (1 : Int) ≠ (kd : Int) := by omega
          have e1 : ((1 : Int) == (kd : Int)) = false := by simpa using hkk
          have GN := Lib.hid (GROWN.out 1 hk h32 (fun h => hkd h.2.symm))
          clear h1 h2 hc hk h32 GROWN SETTED hkk hkd
          go_wp2_with (at_builtin; refine wpList_append_own _ rfl _ _ 22 rfl (w.heap.size) 9 i0 (.string ⟨#[]⟩) 1 16 Tryz.underlying22 hi hz0 hz1 hz2 rfl (by decide) _ _ _ rfl (OWN.out.alloc _) ⟨wr.heap.size, 0, none⟩ 1 1 [.string X] rfl rfl (World.news_of_block (cs := #[.string X]) (t := 9) (fr := (0, 0)) (heap_alloc_new wr _)) (by simp [Value.oneCell']) (by unfold maxLen; omega) (by omega) (by first | omega | (simp; omega)) ?_; intro v' w4 hown' hgrow _)
          have bw := ((Below.refl w.heap.size wr).alloc (by omega) (.cells #[.string X] 9)).grown hgrow (by simp; omega) (fun bb hbb => own_farS OWN.out hbb)
          have HBW := Lib.hid (HB.out.trans bw)
          have OWN' := Lib.hid hown'
          clear hown' hgrow bw
          go_wp2_with fail
          go_roundw
          case rel => exact ⟨i + 1, 1, out ++ [[c]], by go_num, rfl, by omega, by omega, by have := OWN'.out; rw [HX.out] at this; simpa [strV] using this, GN.out, fun _ => by simp, by simp; omega, fun t ht => by
            rcases List.mem_append.1 ht with ht | ht
            · have := HTL.out t ht; omega
            · rw [List.mem_singleton] at ht; subst ht; simp, HBW.out⟩
          case measure => simp [intOf]; omega
      · have d0 : ¬ (97 : Int) ≤ (S[i].toNat : Int) := by rw [← hc]; omega
        have d1 : (48 : Int) ≤ (S[i].toNat : Int) := by rw [← hc]; omega
        have d2 : (S[i].toNat : Int) ≤ 57 := by rw [← hc]; omega
        have hk : cls c = 2 := by unfold cls; rw [if_neg (by omega), if_pos ⟨h1, h2⟩]
        have h32 : c ≠ 32 := cls_ne (by omega)
        by_cases hkd : kd = 2
        · subst hkd
          have GN := Lib.hid (SETTED.out 2 hk h32 ⟨by omega, rfl⟩)
          clear h1 h2 hc hk h32 GROWN SETTED
          have hne := HNE.out (by omega)
          obtain ⟨o', t, rfl⟩ : ∃ o' t, out = o' ++ [t] := ⟨out.dropLast, out.getLast hne, (List.dropLast_concat_getLast hne).symm⟩
          have hlen : (o' ++ [t]).length = o'.length + 1 := by simp
          obtain ⟨q, cp, rfl, hcp, hq, hcell⟩ := own_strs OWN.out (by simp) (by omega)
          have y0 : wr.cell? ⟨q, o'.length, none⟩ = some (.string (tkS t)) := by have := hcell o'.length t (by simp); rw [Nat.zero_add] at this; exact this
          have z0 : wr.frozen? ⟨q, o'.length, none⟩ = false := OWN.out.frozenAt _
          have ho := own_farS OWN.out (b := q) rfl
          have htz := HTL.out t (by simp)
          have hadd : tkS t ++ X = tkS (t ++ [c]) := by rw [HX.out]; refine ByteArray.ext ?_; simp [tkS]
          have HST := Lib.hid (own_thenS (OWN.out.stored o'.length (.string (tkS (t ++ [c])))).1 ((Below.refl _ _).drew))
          have hsr : (o' ++ [t]).set ((o' ++ [t]).length - 1) ((o' ++ [t]).getD ((o' ++ [t]).length - 1) [] ++ [c]) = o' ++ [t ++ [c]] := by simp [List.getD_eq_getElem?_getD]
          rw [hsr] at GN
          have hsz2 : (tkS t).size + X.size ≤ 4001 := by rw [HX.out, tkS_len, tkS_len]; simp; omega
          have hol' : o'.length + 1 ≤ i := by have := hol; rw [hlen] at this; exact this
          rw [hlen] at *
          have hwl : IntKind.i64.wrap (o'.length : Int) = (o'.length : Int) := IntWalk.i64_in _ (by omega)
          have hln : (o'.length : Int) < (o'.length : Int) + 1 := by omega
          have HTS := Lib.hid (show (tkS t).size = t.length from tkS_len t)
          obtain ⟨T, hT⟩ : ∃ T, T = tkS t := ⟨_, rfl⟩
          obtain ⟨T2, hT2⟩ : ∃ T2, T2 = tkS (t ++ [c]) := ⟨_, rfl⟩
          rw [← hT] at hadd hsz2 y0 HTS
          rw [← hT2] at hadd HST
          have hadd2 := wd_add T X T2 hadd (by omega)
          have hT3 := Lib.hid hT2
          clear hcell hne hlen hsr hadd hT hT2
          go_wp2_with fail
          (refine wp_region_still_tail 13 (by kernel_rfl) (by kernel_rfl) ?_; simp only [List.take_succ_cons, List.take_zero, List.drop_succ_cons, List.drop_zero]; change wpStill _ _ (World.drew wr) _ _ _; (repeat still_step); refine wpStill_nil ?_; change wpList _ _ _ _ _ (World.drew wr))
          go_wp2_with fail
          go_roundw
          case rel => exact ⟨i + 1, 2, o' ++ [t ++ [c]], by go_num, rfl, by omega, by omega, by have := HST.out; have e9 : Value.string T2 = strV (t ++ [c]) := (by rw [hT3.out]; rfl); simpa [strV, e9] using this, GN.out, fun _ => by simp, by simp; omega, fun s hs => by
            rcases List.mem_append.1 hs with hs | hs
            · have := HTL.out s (by simp [hs]); omega
            · rw [List.mem_singleton] at hs; subst hs; simp; omega, (below_set HB.out ho _).drew⟩
          case measure => simp [intOf]; omega
        · have hkk : (2 : Int) ≠ (kd : Int) := by omega
          have e1 : ((2 : Int) == (kd : Int)) = false := by simpa using hkk
          have GN := Lib.hid (GROWN.out 2 hk h32 (fun h => hkd h.2.symm))
          clear h1 h2 hc hk h32 GROWN SETTED hkk hkd
          go_wp2_with (at_builtin; refine wpList_append_own _ rfl _ _ 22 rfl (w.heap.size) 9 i0 (.string ⟨#[]⟩) 1 16 Tryz.underlying22 hi hz0 hz1 hz2 rfl (by decide) _ _ _ rfl (OWN.out.alloc _) ⟨wr.heap.size, 0, none⟩ 1 1 [.string X] rfl rfl (World.news_of_block (cs := #[.string X]) (t := 9) (fr := (0, 0)) (heap_alloc_new wr _)) (by simp [Value.oneCell']) (by unfold maxLen; omega) (by omega) (by first | omega | (simp; omega)) ?_; intro v' w4 hown' hgrow _)
          have bw := ((Below.refl w.heap.size wr).alloc (by omega) (.cells #[.string X] 9)).grown hgrow (by simp; omega) (fun bb hbb => own_farS OWN.out hbb)
          have HBW := Lib.hid (HB.out.trans bw)
          have OWN' := Lib.hid hown'
          clear hown' hgrow bw
          go_wp2_with fail
          go_roundw
          case rel => exact ⟨i + 1, 2, out ++ [[c]], by go_num, rfl, by omega, by omega, by have := OWN'.out; rw [HX.out] at this; simpa [strV] using this, GN.out, fun _ => by simp, by simp; omega, fun t ht => by
            rcases List.mem_append.1 ht with ht | ht
            · have := HTL.out t ht; omega
            · rw [List.mem_singleton] at ht; subst ht; simp, HBW.out⟩
          case measure => simp [intOf]; omega
      · have d1 : ¬ (97 : Int) ≤ (S[i].toNat : Int) := by rw [← hc, h32]; decide
        have d2 : ¬ (48 : Int) ≤ (S[i].toNat : Int) := by rw [← hc, h32]; decide
        have d3 : ((S[i].toNat : Int) == 32) = true := by rw [← hc, h32]; decide
        have HN := Lib.hid (show wordsGo [] 0 S.data.toList = wordsGo out 0 (S.data.toList.drop (i + 1)) by rw [HGO.out, HDR.out, wordsGo, if_pos h32])
        clear h32 hc
        go_wp2_with fail
        go_roundw
        case rel => exact ⟨i + 1, 0, out, by go_num, rfl, by omega, by omega, OWN.out, HN.out, fun h => absurd rfl h, by omega, fun t ht => by have := HTL.out t ht; omega, HB.out⟩
        case measure => simp [intOf]; omega
      · have d0 : (97 : Int) ≤ (S[i].toNat : Int) := by rw [← hc]; omega
        have d1 : ¬ (S[i].toNat : Int) ≤ 122 := by rw [← hc]; omega
        have d2 : (48 : Int) ≤ (S[i].toNat : Int) := by rw [← hc]; omega
        have d3 : ¬ (S[i].toNat : Int) ≤ 57 := by rw [← hc]; omega
        have hk : cls c = 0 := by unfold cls; rw [if_neg (by omega), if_neg (by omega)]
        have h32 : c ≠ 32 := by rintro rfl; revert h1; decide
        have d9 : ((S[i].toNat : Int) == 32) = false := by
          rw [← hc]; simp; intro e; exact h32 (UInt8.toNat_inj.1 (by show c.toNat = 32; omega))
        have GN := Lib.hid (GROWN.out 0 hk h32 (fun h => h.1 rfl))
        clear h1 hc hk h32 GROWN SETTED
        go_wp2_with (at_builtin; refine wpList_append_own _ rfl _ _ 22 rfl (w.heap.size) 9 i0 (.string ⟨#[]⟩) 1 16 Tryz.underlying22 hi hz0 hz1 hz2 rfl (by decide) _ _ _ rfl (OWN.out.alloc _) ⟨wr.heap.size, 0, none⟩ 1 1 [.string X] rfl rfl (World.news_of_block (cs := #[.string X]) (t := 9) (fr := (0, 0)) (heap_alloc_new wr _)) (by simp [Value.oneCell']) (by unfold maxLen; omega) (by omega) (by first | omega | (simp; omega)) ?_; intro v' w4 hown' hgrow _)
        have bw := ((Below.refl w.heap.size wr).alloc (by omega) (.cells #[.string X] 9)).grown hgrow (by simp; omega) (fun bb hbb => own_farS OWN.out hbb)
        have HBW := Lib.hid (HB.out.trans bw)
        have OWN' := Lib.hid hown'
        clear hown' hgrow bw
        go_wp2_with fail
        go_roundw
        case rel => exact ⟨i + 1, 0, out ++ [[c]], by go_num, rfl, by omega, by omega, by have := OWN'.out; rw [HX.out] at this; simpa [strV] using this, GN.out, fun _ => by simp, by simp; omega, fun t ht => by
          rcases List.mem_append.1 ht with ht | ht
          · have := HTL.out t ht; omega
          · rw [List.mem_singleton] at ht; subst ht; simp, HBW.out⟩
        case measure => simp [intOf]; omega
      · have d0 : ¬ (97 : Int) ≤ (S[i].toNat : Int) := by rw [← hc]; omega
        have d2 : (48 : Int) ≤ (S[i].toNat : Int) := by rw [← hc]; omega
        have d3 : ¬ (S[i].toNat : Int) ≤ 57 := by rw [← hc]; omega
        have hk : cls c = 0 := by unfold cls; rw [if_neg (by omega), if_neg (by omega)]
        have h32 : c ≠ 32 := by rintro rfl; revert h1; decide
        have d9 : ((S[i].toNat : Int) == 32) = false := by
          rw [← hc]; simp; intro e; exact h32 (UInt8.toNat_inj.1 (by show c.toNat = 32; omega))
        have GN := Lib.hid (GROWN.out 0 hk h32 (fun h => h.1 rfl))
        clear h1 h2 hc hk h32 GROWN SETTED
        go_wp2_with (at_builtin; refine wpList_append_own _ rfl _ _ 22 rfl (w.heap.size) 9 i0 (.string ⟨#[]⟩) 1 16 Tryz.underlying22 hi hz0 hz1 hz2 rfl (by decide) _ _ _ rfl (OWN.out.alloc _) ⟨wr.heap.size, 0, none⟩ 1 1 [.string X] rfl rfl (World.news_of_block (cs := #[.string X]) (t := 9) (fr := (0, 0)) (heap_alloc_new wr _)) (by simp [Value.oneCell']) (by unfold maxLen; omega) (by omega) (by first | omega | (simp; omega)) ?_; intro v' w4 hown' hgrow _)
        have bw := ((Below.refl w.heap.size wr).alloc (by omega) (.cells #[.string X] 9)).grown hgrow (by simp; omega) (fun bb hbb => own_farS OWN.out hbb)
        have HBW := Lib.hid (HB.out.trans bw)
        have OWN' := Lib.hid hown'
        clear hown' hgrow bw
        go_wp2_with fail
        go_roundw
        case rel => exact ⟨i + 1, 0, out ++ [[c]], by go_num, rfl, by omega, by omega, by have := OWN'.out; rw [HX.out] at this; simpa [strV] using this, GN.out, fun _ => by simp, by simp; omega, fun t ht => by
          rcases List.mem_append.1 ht with ht | ht
          · have := HTL.out t ht; omega
          · rw [List.mem_singleton] at ht; subst ht; simp, HBW.out⟩
        case measure => simp [intOf]; omega
      · have d0 : ¬ (97 : Int) ≤ (S[i].toNat : Int) := by rw [← hc]; omega
        have d2 : ¬ (48 : Int) ≤ (S[i].toNat : Int) := by rw [← hc]; omega
        have hk : cls c = 0 := by unfold cls; rw [if_neg (by omega), if_neg (by omega)]
        have h32 : c ≠ 32 := h2
        have d9 : ((S[i].toNat : Int) == 32) = false := by
          rw [← hc]; simp; intro e; exact h32 (UInt8.toNat_inj.1 (by show c.toNat = 32; omega))
        have GN := Lib.hid (GROWN.out 0 hk h32 (fun h => h.1 rfl))
        clear h1 h2 hc hk h32 GROWN SETTED
        go_wp2_with (at_builtin; refine wpList_append_own _ rfl _ _ 22 rfl (w.heap.size) 9 i0 (.string ⟨#[]⟩) 1 16 Tryz.underlying22 hi hz0 hz1 hz2 rfl (by decide) _ _ _ rfl (OWN.out.alloc _) ⟨wr.heap.size, 0, none⟩ 1 1 [.string X] rfl rfl (World.news_of_block (cs := #[.string X]) (t := 9) (fr := (0, 0)) (heap_alloc_new wr _)) (by simp [Value.oneCell']) (by unfold maxLen; omega) (by omega) (by first | omega | (simp; omega)) ?_; intro v' w4 hown' hgrow _)
        have bw := ((Below.refl w.heap.size wr).alloc (by omega) (.cells #[.string X] 9)).grown hgrow (by simp; omega) (fun bb hbb => own_farS OWN.out hbb)
        have HBW := Lib.hid (HB.out.trans bw)
        have OWN' := Lib.hid hown'
        clear hown' hgrow bw
        go_wp2_with fail
        go_roundw
        case rel => exact ⟨i + 1, 0, out ++ [[c]], by go_num, rfl, by omega, by omega, by have := OWN'.out; rw [HX.out] at this; simpa [strV] using this, GN.out, fun _ => by simp, by simp; omega, fun t ht => by
          rcases List.mem_append.1 ht with ht | ht
          · have := HTL.out t ht; omega
          · rw [List.mem_singleton] at ht; subst ht; simp, HBW.out⟩
        case measure => simp [intOf]; omega
    · obtain rfl : i = S.size := by omega
      have HN := Lib.hid (show R = out by
        rw [← HR.out, HGO.out, List.drop_eq_nil_of_le (by rw [str_len]; exact Nat.le_refl _), wordsGo])
      clear hlt
      go_wp2_with fail
      go_ret
      exact ⟨⟨_, rfl, by rw [HN.out]; exact OWN.out⟩, HB.out⟩
end Go.Proofs.YtdmkghgachapaabGreatDoor
