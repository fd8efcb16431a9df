/- Contract of the reference's PatternPieces. -/
import Derived.Test.YtjjmbnflhldoeacPat4
import Derived.Laws.Concat
import Derived.Laws.DeepStrings4
namespace Go.Proofs.Ytjjmbnflhldoeac
set_option linter.unusedVariables false
set_option maxRecDepth 100000
open Go.RowKit Go.Shelf

def br (x : List UInt8) : List UInt8 := 123 :: (x ++ [125])
theorem ref_snoc {n : Nat} {t : List UInt8} {c : UInt8} {r : List UInt8} (h1 : c ≠ 125) (h2 : c ≠ 123) : refGo (n + 1) t (c :: r) = refGo n (t ++ [c]) r := by rw [refGo, if_neg h1, if_pos h2]
theorem ref_bad {n : Nat} {t r : List UInt8} : refGo (n + 1) t (125 :: r) = none := by rw [refGo, if_pos rfl]
theorem ref_name {n : Nat} {t r x : List UInt8} (h : atName (123 :: r) = some x) : refGo (n + 1) t (123 :: r) = (refGo n [] ((123 :: r).drop (x.length + 2))).map fun q => txt t ++ (true, x) :: q := by
  rw [refGo, if_neg (by decide), if_neg (by simp), h]
theorem ref_none {n : Nat} {t r : List UInt8} (h : atName (123 :: r) = none) : refGo (n + 1) t (123 :: r) = none := by
  rw [refGo, if_neg (by decide), if_neg (by simp), h]
theorem at_first {D : List UInt8} {j : Nat} {x : List UInt8} (hj : namesP[j]? = some x) (hb : ∀ y ∈ namesP.take j, (br y).isPrefixOf D = false) (hx : (br x).isPrefixOf D = true) : atName D = some x := by
  unfold atName
  have e : namesP = namesP.take j ++ x :: namesP.drop (j + 1) := by rw [← drop_pc hj, List.take_append_drop]
  rw [e, List.find?_append]
  have h1 : (namesP.take j).find? (fun x => (123 :: (x ++ [125])).isPrefixOf D) = none := by
    rw [List.find?_eq_none]; intro y hy hp
    have := hb y hy
    unfold br at this
    rw [this] at hp; cases hp
  rw [h1]
  have h2 : (123 :: (x ++ [125])).isPrefixOf D = true := hx
  rw [List.find?_cons_of_pos (by exact h2)]; rfl
theorem at_none {D : List UInt8} (hb : ∀ y ∈ namesP, (br y).isPrefixOf D = false) : atName D = none := by
  unfold atName
  rw [List.find?_eq_none]; intro y hy hp
  have := hb y hy
  unfold br at this
  rw [this] at hp; cases hp
theorem names_cell (j : Nat) (x : List UInt8) (h : namesP[j]? = some x) : (#[.string ⟨#[123, 121, 125]⟩, .string ⟨#[123, 109, 125]⟩, .string ⟨#[123, 100, 125]⟩, .string ⟨#[123, 121, 52, 125]⟩, .string ⟨#[123, 109, 50, 125]⟩, .string ⟨#[123, 100, 50, 125]⟩, .string ⟨#[123, 110, 97, 109, 101, 125]⟩, .string ⟨#[123, 119, 125]⟩] : Array Value)[j]? = some (.string ⟨(br x).toArray⟩) := by
  match j, h with
  | 0, h => cases h; rfl
  | 1, h => cases h; rfl
  | 2, h => cases h; rfl
  | 3, h => cases h; rfl
  | 4, h => cases h; rfl
  | 5, h => cases h; rfl
  | 6, h => cases h; rfl
  | 7, h => cases h; rfl
  | j + 8, h => simp [namesP] at h
theorem own_snoc2 {w : World} {base : Nat} {T : TypeId} {v : Value} {acc : List Pc} {a b : Bool} {s t : List UInt8} (h : w.ownsRow base T 2 v (acc.length + 1 + 1) ((acc.flatMap encPc ++ [.bool a, .string ⟨s.toArray⟩]) ++ [.bool b, .string ⟨t.toArray⟩])) : w.ownsRow base T 2 v ((acc ++ [(a, s)]) ++ [(b, t)]).length (((acc ++ [(a, s)]) ++ [(b, t)]).flatMap encPc) := by
  rw [enc_snoc, enc_snoc, List.length_append, List.length_append]; exact h
theorem sadd_ok (a b c : ByteArray) (hc : a ++ b = c) (h : a.size + b.size ≤ 9223372036854775807) : ∀ W, (Op.stringOp .add a b).run Try.prog W = .ok (.string c) W := fun W => by rw [← hc]; exact run_string_add_sum W _ _ h
theorem slice_ok (s r : ByteArray) (i j : Int) (h0 : 0 ≤ i) (h1 : i ≤ j) (h2 : j ≤ (s.size : Int)) (he : s.extract i.toNat j.toNat = r) : ∀ W, (Instr.slice 9 (.string s) (some (.int .i64 i)) (some (.int .i64 j)) none).run Try.prog W = .ok (.string r) W := fun W => by
  rw [run_slice_string_if W 9 s .i64 .i64 i j (by kernel_rfl), if_pos ⟨by omega, h2⟩, if_pos ⟨h0, h1⟩, he]
set_option maxHeartbeats 16000000 in
theorem ref_PatternPieces (l0 : List UInt8) (w : World) (hl0 : l0.length ≤ 9223372036854775807) :
    Calls Try.prog 5 #[.string ⟨l0.toArray⟩] w (SplitPost 38 (decide (60 < l0.length)) (splitT 61 [] l0) w) := by
  obtain ⟨i0, hi, hz0, hz1, hz2⟩ := info_parts infoPiece
  have hsz := pt_size l0
  by_cases hbig : 60 < l0.length
  · rw [decide_eq_true hbig]
    unfold SplitPost
    go_enter Try.func5, Try.ntmps5
    go_wp2_with fail
    go_ret2
    exact ⟨rfl, Below.refl _ _⟩
  · rw [decide_eq_false hbig]
    have hsm : l0.length ≤ 60 := by omega
    obtain ⟨R, hR⟩ : ∃ R, R = splitT 61 [] l0 := ⟨_, rfl⟩
    rw [← hR]
    have hR2 : R = refGo l0.length [] l0 := by rw [hR]; exact (ref_split 60 l0 [] l0.length 61 hsm (Nat.le_refl _) (by omega)).symm
    have HR := Lib.hid hR2; clear hR hR2
    obtain ⟨S, hS⟩ : ∃ S : ByteArray, S = ⟨l0.toArray⟩ := ⟨_, rfl⟩
    rw [← hS] at hsz ⊢
    have hSl : S.data.toList = l0 := by rw [hS]
    have HSL := Lib.hid hSl; have HSE := Lib.hid hS
    obtain ⟨L, hL⟩ : ∃ L, L = l0.length := ⟨_, rfl⟩
    rw [← hL] at hsz hsm
    have hbL : ¬ 60 < L := by omega
    have HL := Lib.hid hL
    clear hSl hS hL hbig hl0
    go_enter Try.func5, Try.ntmps5
    go_wp2_with fail
    go_loopw [4, 5, 6] (fun v t i wr => ∃ (V : Value) (k : Nat) (T : List UInt8) (acc : List Pc), V = v ∧ k ≤ L ∧ i = .int .i64 k ∧ t = .string ⟨T.toArray⟩ ∧ T.length ≤ k ∧ R = (refGo (L - k) T (l0.drop k)).map (acc ++ ·) ∧ acc.length ≤ 2 * k ∧ wr.ownsRow w.heap.size 38 2 v acc.length (acc.flatMap encPc) ∧ Below w.heap.size w wr) (fun _ _ i _ => L - (intOf i).toNat)
    case atStart => exact ⟨_, 0, [], [], rfl, by omega, rfl, rfl, by simp, by rw [HR.out, HL.out]; simp, by simp, World.ownsRow_nil _ _ _ _, Below.refl _ _⟩
    case round =>
      obtain ⟨v, k, T, acc, rfl, hk, rfl, rfl, hTk, hr, hacc, hown, hb⟩ := hrel
      obtain ⟨wo, rfl⟩ : ∃ wo : World, wo = wr := ⟨_, rfl⟩
      have HRR := Lib.hid hr; have OWN := Lib.hid hown; have HB := Lib.hid hb; clear hr hown hb
      have hts := pt_size T
      have hzw : w.heap.size ≤ wo.heap.size := HB.out.size
      by_cases hlt : k < L
      · have hkS : k < S.size := by omega
        obtain ⟨c, hc⟩ : ∃ c, c = S[k] := ⟨_, rfl⟩
        have hdrop : l0.drop k = c :: l0.drop (k + 1) := by
          have h1 := str_get S k hkS
          rw [HSL.out, ← hc] at h1
          exact drop_pc h1
        have HD := Lib.hid hdrop
        have hLk : L - k = (L - (k + 1)) + 1 := by omega
        have HLK := Lib.hid hLk
        clear hdrop hLk
        have hc255 : (c.toNat : Int) ≤ 255 := by have := c.toNat_lt; omega
        by_cases h125 : c = 125
        · have HF := Lib.hid (show R = none by rw [HRR.out, HLK.out, HD.out, h125, ref_bad]; rfl)
          have e1 : ((S[k].toNat : Int) == 125) = true := by rw [← hc, h125]; rfl
          clear hc h125
          go_wp2_with fail
          go_ret2
          unfold SplitPost
          rw [HF.out]
          exact ⟨rfl, HB.out⟩
        have e1 : ((S[k].toNat : Int) == 125) = false := by
          rw [← hc, beq_eq_false_iff_ne]
          intro h
          have : UInt8.ofNat c.toNat = UInt8.ofNat 125 := by rw [show c.toNat = 125 by omega]
          exact h125 (by simpa using this)
        by_cases h123 : c = 123
        · -- a name in braces, or an error
          have e2 : ((S[k].toNat : Int) == 123) = true := by rw [← hc, h123]; rfl
          have e3 : ((S[k].toNat : Int) != 123) = false := by unfold bne; rw [e2]; rfl
          have HD2 := Lib.hid (show l0.drop k = 123 :: l0.drop (k + 1) by rw [HD.out, h123])
          have at1 := At.new wo (.cells #[.string ⟨#[123, 121, 125]⟩, .string ⟨#[123, 109, 125]⟩, .string ⟨#[123, 100, 125]⟩, .string ⟨#[123, 121, 52, 125]⟩, .string ⟨#[123, 109, 50, 125]⟩, .string ⟨#[123, 100, 50, 125]⟩, .string ⟨#[123, 110, 97, 109, 101, 125]⟩, .string ⟨#[123, 119, 125]⟩] 9)
          have AT1 := Lib.hid at1
          have OW1 := Lib.hid (OWN.out.alloc (.cells #[.string ⟨#[123, 121, 125]⟩, .string ⟨#[123, 109, 125]⟩, .string ⟨#[123, 100, 125]⟩, .string ⟨#[123, 121, 52, 125]⟩, .string ⟨#[123, 109, 50, 125]⟩, .string ⟨#[123, 100, 50, 125]⟩, .string ⟨#[123, 110, 97, 109, 101, 125]⟩, .string ⟨#[123, 119, 125]⟩] 9))
          have B1 := Lib.hid (below_new HB.out (.cells #[.string ⟨#[123, 121, 125]⟩, .string ⟨#[123, 109, 125]⟩, .string ⟨#[123, 100, 125]⟩, .string ⟨#[123, 121, 52, 125]⟩, .string ⟨#[123, 109, 50, 125]⟩, .string ⟨#[123, 100, 50, 125]⟩, .string ⟨#[123, 110, 97, 109, 101, 125]⟩, .string ⟨#[123, 119, 125]⟩] 9))
          have hx : (S.extract k L).data.toList = l0.drop k := by rw [← hsz, Lib.extract_to_end, HSL.out]
          have HX := Lib.hid hx
          clear hc h125 h123 hx at1 HD
          go_wp2_with fail
          generalize World.alloc wo _ = W1 at AT1 OW1 B1 ⊢
          obtain ⟨NB, hNB⟩ : ∃ NB, NB = wo.heap.size := ⟨_, rfl⟩
          rw [← hNB] at AT1 hzw ⊢
          have hNB1 := AT1.out.lt
          clear hNB OWN HB
          go_loop [4, 5, 6, 7, 36] (fun o t i f j => ∃ n : Nat, n ≤ 8 ∧ o = v ∧ t = .string ⟨T.toArray⟩ ∧ i = .int .i64 k ∧ f = .bool false ∧ j = .int .i64 n ∧ ∀ y ∈ namesP.take n, (br y).isPrefixOf (l0.drop k) = false) (fun _ _ _ _ j => 8 - (intOf j).toNat)
          case atStart => exact ⟨0, by omega, rfl, rfl, rfl, rfl, rfl, by simp⟩
          case round =>
            obtain ⟨n, hn, rfl, rfl, rfl, rfl, rfl, hpre⟩ := hrel
            have HPRE := Lib.hid hpre; clear hpre
            by_cases hn8 : n < 8
            · have hn8' : n < namesP.length := hn8
              obtain ⟨x, hxn⟩ : ∃ x, namesP[n]? = some x := ⟨_, List.getElem?_eq_getElem hn8'⟩
              have hcell : W1.cell? ⟨NB, n, none⟩ = some (.string ⟨(br x).toArray⟩) := by rw [AT1.out.cell n]; exact names_cell n x hxn
              have HXN := Lib.hid hxn
              have hxz := names_size x (List.mem_of_getElem? hxn)
              have HPF := Lib.hid (fun W => lib_HasPrefix (S.extract k L) ⟨(br x).toArray⟩ W)
              clear hxn hn8'
              go_wp2_with fail
              refine (HPF.out _).mono ?_
              rw [HX.out]
              rintro e w' ⟨rfl, rfl⟩
              cases hp : (br x).isPrefixOf (l0.drop k) with
              | false =>
                have hnext := Lib.hid (show ∀ y ∈ namesP.take (n + 1), (br y).isPrefixOf (l0.drop k) = false by
                  intro y hy
                  rw [List.take_add_one, HXN.out] at hy
                  rcases List.mem_append.1 hy with hy | hy
                  · exact HPRE.out y hy
                  · have : y = x := by simpa using hy
                    rw [this]; exact hp)
                clear hp
                go_wp2_with fail
                go_round
                case rel => exact ⟨n + 1, by omega, rfl, rfl, rfl, rfl, by go_num, hnext.out⟩
                case measure => simp [intOf]; omega
              | true =>
                have hat : atName (l0.drop k) = some x := at_first HXN.out HPRE.out hp
                have hat2 := hat
                rw [HD2.out] at hat2
                have hrn : R = ((refGo (L - (k + 1)) [] (l0.drop (k + (x.length + 2)))).map fun q => txt T ++ (true, x) :: q).map (acc ++ ·) := by
                  rw [HRR.out, HLK.out, HD2.out, ref_name hat2, ← HD2.out, List.drop_drop]
                have hlen : k + (x.length + 2) ≤ L := by
                  have h2 := hat2
                  rw [atName_eq] at h2
                  split at h2
                  · cases h2
                  · rename_i hne
                    have hB : cutB (l0.drop (k + 1)) 125 = true := by
                      cases hcb : cutB (l0.drop (k + 1)) 125 with
                      | true => rfl
                      | false => exact absurd (.inl hcb) hne
                    have h3 := congrArg List.length (cut_some hB).1
                    have h4 : cutL (l0.drop (k + 1)) 125 = x := by simpa using h2
                    rw [h4, List.length_append, List.length_cons, List.length_drop, ← HL.out] at h3
                    omega
                have hre : refGo (L - (k + 1)) [] (l0.drop (k + (x.length + 2))) = refGo (L - (k + (x.length + 2))) [] (l0.drop (k + (x.length + 2))) := by
                  have hd : (l0.drop (k + (x.length + 2))).length = L - (k + (x.length + 2)) := by rw [List.length_drop, ← HL.out]
                  rw [ref_split 60 _ [] (L - (k + 1)) 61 (by omega) (by omega) (by omega), ref_split 60 _ [] (L - (k + (x.length + 2))) 61 (by omega) (by omega) (by omega)]
                have HRN := Lib.hid (hrn.trans (by rw [hre]))
                have hbz := pt_size (br x)
                have hbl : (br x).length = x.length + 2 := by unfold br; simp
                have hex : (⟨(br x).toArray⟩ : ByteArray).extract 1 (x.length + 1) = ⟨x.toArray⟩ := list_str _ _ (by
                  rw [Lib.extract_data]
                  have : (⟨(br x).toArray⟩ : ByteArray).data.toList = br x := by simp
                  rw [this]; unfold br; simp)
                obtain ⟨BX, hBX⟩ : ∃ B : ByteArray, B = ⟨(br x).toArray⟩ := ⟨_, rfl⟩
                rw [← hBX] at hbz hex ⊢
                rw [hbl] at hbz
                obtain ⟨m, hm⟩ : ∃ m, m = x.length := ⟨_, rfl⟩
                rw [← hm] at hbz hex hlen hxz
                have HM := Lib.hid hm
                have HEX := Lib.hid hex
                have im : ((m : Int) + 2 - 1).toNat = m + 1 := by omega
                clear hat hat2 hrn hre hbl hBX hm hp hex HPF HPRE
                obtain ⟨sX, hsX⟩ : ∃ s : ByteArray, s = ⟨x.toArray⟩ := ⟨_, rfl⟩
                have HSX := Lib.hid hsX
                rw [← hsX] at HEX
                have hsl := slice_ok BX sX 1 ((m : Int) + 2 - 1) (by omega) (by omega) (by omega) (by rw [im]; exact HEX.out)
                have hzwW : w.heap.size ≤ W1.heap.size := B1.out.size
                clear hsX im
                by_cases ht : T = []
                · have e5 : (⟨T.toArray⟩ : ByteArray).toList = [] := by rw [pt_list, ht]
                  have HF := Lib.hid (show R = (refGo (L - (k + (m + 2))) [] (l0.drop (k + (m + 2)))).map ((acc ++ [(true, x)]) ++ ·) by
                    rw [HRN.out, ← HM.out]
                    unfold txt; rw [if_pos ht]
                    cases refGo (L - (k + (m + 2))) [] (l0.drop (k + (m + 2))) <;> simp)
                  obtain ⟨sT, hsT⟩ : ∃ s : ByteArray, s = ⟨T.toArray⟩ := ⟨_, rfl⟩
                  rw [← hsT] at e5 ⊢
                  clear hsT ht HRN
                  go_wp2_with (at_builtin; refine wpList_append_own _ rfl _ _ 25 rfl (w.heap.size) 38 i0 (.agg #[.bool false, .string ⟨#[]⟩]) 2 24 Try.underlying25 hi hz0 hz1 hz2 rfl (by decide) _ _ _ rfl (OW1.out.alloc _) ⟨W1.heap.size, 0, none⟩ 1 1 [.bool true, .string sX] rfl rfl (World.news_of_block (cs := #[.bool true, .string sX]) (t := 38) (fr := (0, 0)) (heap_alloc_new W1 _)) (by simp [Value.oneCell']) (by unfold maxLen; first | omega | (simp; omega)) (by first | omega | (simp; omega)) (by first | omega | (simp; omega)) ?_; intro v' w4 hown' hgrow _)
                  have bw := ((B1.out.alloc hzwW (.cells #[.bool true, .string sX] 38))).grown hgrow (by simp; omega) (fun bb hbb => own_farP OW1.out hbb)
                  have ow4 : w4.ownsRow w.heap.size 38 2 v' (acc ++ [(true, x)]).length ((acc ++ [(true, x)]).flatMap encPc) := own_snoc (by rw [← HSX.out]; exact hown')
                  have OW4 := Lib.hid ow4
                  have B4 := Lib.hid bw
                  clear hown' hgrow bw ow4 OW1 B1
                  go_wp2_with fail
                  go_roundw
                  case rel => exact ⟨_, k + (m + 2), [], acc ++ [(true, x)], rfl, by omega, by go_num, rfl, by simp, HF.out, by rw [List.length_append, List.length_singleton]; omega, OW4.out, B4.out⟩
                  case measure => simp [intOf]; omega
                · have e5 : ((⟨T.toArray⟩ : ByteArray).toList).isEmpty = false := by rw [pt_list]; cases T with | nil => exact absurd rfl ht | cons _ _ => rfl
                  have e5' : (!((⟨T.toArray⟩ : ByteArray).toList).isEmpty) = true := by rw [e5]; rfl
                  have hT1 : 1 ≤ T.length := by cases T with | nil => exact absurd rfl ht | cons _ _ => simp
                  have HF := Lib.hid (show R = (refGo (L - (k + (m + 2))) [] (l0.drop (k + (m + 2)))).map (((acc ++ [(false, T)]) ++ [(true, x)]) ++ ·) by
                    rw [HRN.out, ← HM.out]
                    unfold txt; rw [if_neg ht]
                    cases refGo (L - (k + (m + 2))) [] (l0.drop (k + (m + 2))) <;> simp)
                  obtain ⟨sT, hsT⟩ : ∃ s : ByteArray, s = ⟨T.toArray⟩ := ⟨_, rfl⟩
                  rw [← hsT] at e5 e5' ⊢
                  have HST := Lib.hid hsT
                  clear hsT ht HRN
                  have hal2 : acc.length + 1 ≤ 120 := by omega
                  go_wp2_with (first | (at_builtin; refine wpList_append_own _ rfl _ _ 25 rfl (w.heap.size) 38 i0 (.agg #[.bool false, .string ⟨#[]⟩]) 2 24 Try.underlying25 hi hz0 hz1 hz2 rfl (by decide) _ _ _ rfl (OW1.out.alloc _) ⟨W1.heap.size, 0, none⟩ 1 1 [.bool false, .string sT] rfl rfl (World.news_of_block (cs := #[.bool false, .string sT]) (t := 38) (fr := (0, 0)) (heap_alloc_new W1 _)) (by simp [Value.oneCell']) (by unfold maxLen; first | omega | (simp; omega)) (by first | omega | (simp; omega)) (by first | omega | (simp; omega)) ?_; intro v' w4 hown' hgrow _); have bw0 := ((B1.out.alloc hzwW (.cells #[.bool false, .string sT] 38))).grown hgrow (by simp; omega) (fun bb hbb => own_farP OW1.out hbb); have hz4 := bw0.size | (at_builtin; refine wpList_append_own _ rfl _ _ 25 rfl (w.heap.size) 38 i0 (.agg #[.bool false, .string ⟨#[]⟩]) 2 24 Try.underlying25 hi hz0 hz1 hz2 rfl (by decide) _ _ _ rfl ((Lib.hid hown').out.alloc _) ⟨w4.heap.size, 0, none⟩ 1 1 [.bool true, .string sX] rfl rfl (World.news_of_block (cs := #[.bool true, .string sX]) (t := 38) (fr := (0, 0)) (heap_alloc_new w4 _)) (by simp [Value.oneCell']) (by unfold maxLen; first | omega | (simp; omega)) (by first | omega | (simp; omega)) (by first | omega | (simp; omega)) ?_; intro v'' w4' hown2 hgrow2 _))
                  have bw := ((bw0.alloc bw0.size (.cells #[.bool true, .string sX] 38))).grown hgrow2 (by have := bw0.size; simp; omega) (fun bb hbb => own_farP hown' hbb)
                  have ow4 : w4'.ownsRow w.heap.size 38 2 v'' ((acc ++ [(false, T)]) ++ [(true, x)]).length (((acc ++ [(false, T)]) ++ [(true, x)]).flatMap encPc) := own_snoc2 (by rw [← HSX.out, ← HST.out]; exact hown2)
                  have OW4 := Lib.hid ow4
                  have B4 := Lib.hid bw
                  clear hown' hgrow bw ow4 OW1 B1 hown2 hgrow2 bw0
                  go_wp2_with fail
                  go_roundw
                  case rel => exact ⟨_, k + (m + 2), [], (acc ++ [(false, T)]) ++ [(true, x)], rfl, by omega, by go_num, rfl, by simp, HF.out, by simp only [List.length_append, List.length_singleton]; omega, OW4.out, B4.out⟩
                  case measure => simp [intOf]; omega
            · obtain rfl : n = 8 := by omega
              have HF := Lib.hid (show R = none by
                rw [HRR.out, HLK.out, HD2.out, ref_none (by rw [← HD2.out]; exact at_none (fun y hy => HPRE.out y hy))]; rfl)
              go_wp2_with fail
              go_ret2
              unfold SplitPost
              rw [HF.out]
              exact ⟨rfl, B1.out⟩
        · -- an ordinary byte
          have e2 : ((S[k].toNat : Int) == 123) = false := by
            rw [← hc, beq_eq_false_iff_ne]
            intro h
            have : UInt8.ofNat c.toNat = UInt8.ofNat 123 := by rw [show c.toNat = 123 by omega]
            exact h123 (by simpa using this)
          have e3 : ((S[k].toNat : Int) != 123) = true := by unfold bne; rw [e2]; rfl
          have HF := Lib.hid (show R = (refGo (L - (k + 1)) (T ++ [c]) (l0.drop (k + 1))).map (acc ++ ·) by
            rw [HRR.out, HLK.out, HD.out, ref_snoc h125 h123])
          have hx1 : S.extract k (k + 1) = ⟨[c].toArray⟩ := list_str _ _ (by
            rw [Lib.extract_data, HSL.out, HD.out, Nat.add_sub_cancel_left]; rfl)
          obtain ⟨sc, hsc⟩ : ∃ s : ByteArray, s = ⟨[c].toArray⟩ := ⟨_, rfl⟩
          rw [← hsc] at hx1
          have hsl := slice_ok S sc (k : Int) ((k : Int) + 1) (by omega) (by omega) (by omega) (by
            rw [show ((k : Int)).toNat = k by omega, show ((k : Int) + 1).toNat = k + 1 by omega]; exact hx1)
          have hscz : sc.size = 1 := by rw [hsc]; rfl
          have ha := sadd_ok ⟨T.toArray⟩ sc ⟨(T ++ [c]).toArray⟩ (by rw [hsc]; exact ByteArray.mk_append_mk T [c]) (by omega)
          clear hc h125 h123 hx1 hsc HD HRR
          go_wp2_with fail
          go_roundw
          case rel => exact ⟨_, k + 1, T ++ [c], acc, rfl, by omega, by go_num, rfl, by rw [List.length_append, List.length_singleton]; omega, HF.out, by omega, OWN.out, HB.out⟩
          case measure => simp [intOf]; omega
      · obtain rfl : k = L := by omega
        have hdn : l0.drop k = [] := by rw [List.drop_eq_nil_iff]; rw [HL.out]; exact Nat.le_refl _
        have hfin : R = some (acc ++ txt T) := by
          rw [HRR.out, hdn, Nat.sub_self]; rfl
        have HFI := Lib.hid hfin
        clear hfin hdn HRR
        by_cases ht : T = []
        · have e5 : (⟨T.toArray⟩ : ByteArray).toList = [] := by rw [pt_list, ht]
          have HF := Lib.hid (show R = some acc by rw [HFI.out, txt, if_pos ht, List.append_nil])
          obtain ⟨sT, hsT⟩ : ∃ s : ByteArray, s = ⟨T.toArray⟩ := ⟨_, rfl⟩
          rw [← hsT] at e5 ⊢
          clear hsT ht HFI
          go_wp2_with fail
          go_ret2
          unfold SplitPost
          rw [HF.out]
          exact ⟨_, rfl, OWN.out, HB.out⟩
        · have e5 : ((⟨T.toArray⟩ : ByteArray).toList).isEmpty = false := by rw [pt_list]; cases T with | nil => exact absurd rfl ht | cons _ _ => rfl
          have e5' : (!((⟨T.toArray⟩ : ByteArray).toList).isEmpty) = true := by rw [e5]; rfl
          have HF := Lib.hid (show R = some (acc ++ [(false, T)]) by rw [HFI.out, txt, if_neg ht])
          obtain ⟨sT, hsT⟩ : ∃ s : ByteArray, s = ⟨T.toArray⟩ := ⟨_, rfl⟩
          rw [← hsT] at e5 e5' ⊢
          have HST := Lib.hid hsT
          clear hsT ht HFI
          go_wp2_with (at_builtin; refine wpList_append_own _ rfl _ _ 25 rfl (w.heap.size) 38 i0 (.agg #[.bool false, .string ⟨#[]⟩]) 2 24 Try.underlying25 hi hz0 hz1 hz2 rfl (by decide) _ _ _ rfl (OWN.out.alloc _) ⟨wo.heap.size, 0, none⟩ 1 1 [.bool false, .string sT] rfl rfl (World.news_of_block (cs := #[.bool false, .string sT]) (t := 38) (fr := (0, 0)) (heap_alloc_new wo _)) (by simp [Value.oneCell']) (by unfold maxLen; first | omega | (simp; omega)) (by first | omega | (simp; omega)) (by first | omega | (simp; omega)) ?_; intro v' w4 hown' hgrow _)
          have bw := ((HB.out.alloc hzw (.cells #[.bool false, .string sT] 38))).grown hgrow (by simp; omega) (fun bb hbb => own_farP OWN.out hbb)
          have OW4 := Lib.hid hown'
          have B4 := Lib.hid bw
          clear hown' hgrow bw
          go_wp2_with fail
          go_ret2
          unfold SplitPost
          rw [HF.out]
          exact ⟨_, rfl, own_snoc (by rw [← HST.out]; exact OW4.out), B4.out⟩
end Go.Proofs.Ytjjmbnflhldoeac
