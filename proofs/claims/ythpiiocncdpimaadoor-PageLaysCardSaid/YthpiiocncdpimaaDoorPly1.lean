/- Contracts of the library as pages use it; page.write. -/
import Derived.Test.YthpiiocncdpimaaDoorPly0
import Derived.Test.YthpiiocncdpimaaDoorLayRc
import Derived.Test.YthpiiocncdpimaaDoorLayRep
import Derived.Test.YthpiiocncdpimaaDoorMem2
import Derived.Test.YthpiiocncdpimaaDoorQuiet
import Derived.Test.YthpiiocncdpimaaDoorMonths
import Derived.Laws.Concat
import Derived.Laws.IdiomStrings
import Derived.Laws.DeepStrings4
namespace Go.Proofs.YthpiiocncdpimaaDoor
set_option linter.unusedVariables false
set_option linter.unusedSimpArgs false
set_option maxRecDepth 100000
open Go.RowKit Go.Shelf

theorem extraRep : Builder.Extra Tryd.prog Tryd.laysn105_ren where
  sizeBuilder := by kernel_rfl
  liesBuilder := by kernel_rfl
  t5 := Tryd.underlying5
  a5 := Tryd.isAgg5
  z5 := Tryd.sizeOf5
  v5 := Tryd.zeroValue5
  infoByte := by kernel_rfl
  cellsByte := by kernel_rfl
  sizeByte := by kernel_rfl
  neB5 := by decide
theorem repeat_one (a : UInt8) : ∀ c, Lib.repeatL [a] c = List.replicate c a
  | 0 => rfl
  | c + 1 => by show [a] ++ Lib.repeatL [a] c = _; rw [repeat_one a c]; rfl
theorem lib_Repeat1 (a : UInt8) (c : Nat) (w : World) (h1 : c ≤ 10000) :
    Calls Tryd.prog 34 #[.string ⟨#[a]⟩, .int .i64 (c : Int)] w fun e w' => e = .returned (.string ⟨(List.replicate c a).toArray⟩) ∧ Below w.heap.size w w' := by
  have h := Any.strings_Repeat { Tryd.laysn105 with } extraRep ⟨#[a]⟩ c w (by omega) (by have : (⟨#[a]⟩ : ByteArray).size = 1 := rfl; rw [this]; omega)
  rw [← repeat_one]
  exact h
theorem bS_list (l : List UInt8) : (⟨l.toArray⟩ : ByteArray).data.toList = l := by simp
theorem bS_size (l : List UInt8) : (⟨l.toArray⟩ : ByteArray).size = l.length := by show l.toArray.size = _; simp
theorem bS_of (s : ByteArray) : (⟨s.data.toList.toArray⟩ : ByteArray) = s := by simp
theorem bS_len (s : ByteArray) : s.data.toList.length = s.size := by simp
theorem addL (a b c : List UInt8) (hc : a ++ b = c) (h : c.length ≤ 1000000000000) : ∀ W, (Op.stringOp .add ⟨a.toArray⟩ ⟨b.toArray⟩).run Tryd.prog W = .ok (.string ⟨c.toArray⟩) W := fun W => by
  subst hc
  rw [← ByteArray.mk_append_mk a b]
  refine run_string_add_sum W _ _ ?_
  rw [bS_size, bS_size]
  rw [List.length_append] at h
  omega
theorem lib_RuneCount (s : ByteArray) (w : World) (hs : s.size ≤ 1000000) :
    Calls Tryd.prog 37 #[.string s] w fun e w' => e = .returned (.int .i64 (rcN s)) ∧ Below w.heap.size w w' := by
  refine (Any.utf8_RuneCountInString { Tryd.laysn195 with } s w (by omega)).mono ?_
  rintro e w' ⟨rfl, pos, rfl⟩
  exact ⟨rfl, below_new (Below.refl _ _) _⟩
theorem lib_TrimR (l : List UInt8) (w : World) (hl : l.length ≤ 9223372036854775807) :
    Calls Tryd.prog 39 #[.string ⟨l.toArray⟩, .string ⟨#[32]⟩] w fun e w' => e = .returned (.string ⟨(trimO l).toArray⟩) ∧ w' = w := by
  have h := Any.strings_TrimRight_one Tryd.laysn162 ⟨l.toArray⟩ 32 (by decide) w (by rw [bS_size]; exact hl)
  rw [bS_list] at h
  exact h
theorem trimO_le (l : List UInt8) : (trimO l).length ≤ l.length := by
  unfold trimO Lib.trimRightB
  rw [List.length_reverse]
  have h := List.IsSuffix.length_le (List.dropWhile_suffix (fun x => x == (32 : UInt8)) (l := l.reverse))
  rw [List.length_reverse] at h
  exact h
abbrev nz (cs : List Nat) : List Int := cs.map fun (c : Nat) => (c : Int)
theorem nz_get (cs : List Nat) (i : Nat) (h : i < cs.length) : (nz cs).getD i 0 = (cs.getD i 0 : Nat) := by
  simp [List.getD_eq_getElem?_getD, h]
theorem nat_at {w : World} {B : Nat} {a : Option Addr} {cs : List Nat} (h : Ints w B a cs.length (nz cs)) {k : Nat} (hk : k < cs.length) :
    ∃ b off, a = some ⟨b, off, none⟩ ∧ b < B ∧ w.cell? ⟨b, off + k, none⟩ = some (.int .i64 (cs.getD k 0 : Nat)) := by
  obtain ⟨b, off, e, hlt, hc⟩ := h.2.2.2 (by omega)
  refine ⟨b, off, e, hlt, ?_⟩
  rw [hc k hk, nz_get cs k hk]
theorem drop_nat {cs : List Nat} {j : Nat} (h : j < cs.length) : cs.drop j = cs.getD j 0 :: cs.drop (j + 1) := by
  rw [List.drop_eq_getElem_cons h, List.getD_eq_getElem?_getD, List.getElem?_eq_getElem h]; rfl
theorem lineP_cons (W : List Nat) (T : Nat → ByteArray) (f : Bool) (c : Nat) (r : List Nat) : lineP W T f (c :: r) = (if f = true then [] else [32, 32]) ++ ((T c).data.toList ++ ((if r = [] then [] else spO (W.getD c 0 - rcN (T c))) ++ lineP W T false r)) := by rw [lineP]
theorem lineP_len (W : List Nat) (T : Nat → ByteArray) (hW : ∀ c, W.getD c 0 ≤ 200) : ∀ (cs : List Nat) (f : Bool), (∀ c ∈ cs, (T c).size ≤ 200) → (lineP W T f cs).length ≤ cs.length * 500
  | [], f, _ => by rw [lineP]; simp
  | c :: r, f, h => by
    have ih := lineP_len W T hW r false fun x hx => h x (by simp [hx])
    have h1 := h c (by simp)
    have h2 := hW c
    have h3 : (if f = true then ([] : List UInt8) else [32, 32]).length ≤ 2 := by split <;> simp
    have h4 : (if r = [] then ([] : List UInt8) else spO (W.getD c 0 - rcN (T c))).length ≤ 200 := by
      split
      · simp
      · unfold spO; rw [List.length_replicate]; omega
    rw [lineP_cons, List.length_append, List.length_append, List.length_append, bS_len, List.length_cons]
    omega
set_option maxHeartbeats 8000000 in
theorem page_write (W0 : World) (ga : Option Addr) (gc : Nat) (wa : Option Addr) (wc : Nat) (cs Ws : List Nat) (g : Nat) (lb : Array Value) (eg : ∀ args w, (callFunc g args).run Tryd.prog w = .ok (.enter g args) w) (T : Nat → ByteArray)
    (hg : Ints W0 W0.heap.size ga cs.length (nz cs)) (hw : Ints W0 W0.heap.size wa Ws.length (nz Ws)) (hcs : ∀ c ∈ cs, c < Ws.length) (hT : ∀ c ∈ cs, (T c).size ≤ 200) (hrc : ∀ c ∈ cs, rcN (T c) ≤ Ws.getD c 0) (hWs : ∀ c, Ws.getD c 0 ≤ 200) (hlen : cs.length ≤ 12)
    (hcall : ∀ (W : World) (c : Nat), c ∈ cs → Below W0.heap.size W0 W → Calls Tryd.prog g (#[.int .i64 (c : Int)] ++ lb) W fun e w' => e = .returned (.string (T c)) ∧ Below W0.heap.size W0 w') :
    Calls Tryd.prog 31 #[.slice ga cs.length gc, .slice wa Ws.length wc, .func (.func g) #[] lb] W0 fun e w' => e = .returned (.string ⟨(txtO Ws T cs).toArray⟩) ∧ Below W0.heap.size W0 w' := by
  have HG := Lib.hid hg; have HW := Lib.hid hw; have HC := Lib.hid hcall; have HCS := Lib.hid hcs; have HT := Lib.hid hT; have HRC := Lib.hid hrc
  have HLL := Lib.hid (lineP_len Ws T hWs cs true hT)
  have HWS := Lib.hid hWs
  obtain ⟨n, hn⟩ : ∃ n, n = cs.length := ⟨_, rfl⟩
  obtain ⟨nw, hnw⟩ : ∃ n, n = Ws.length := ⟨_, rfl⟩
  have hnw2 : nw ≤ 9223372036854775807 := by rw [hnw]; exact hw.2.1
  obtain ⟨L, hL⟩ : ∃ L, L = lineP Ws T true cs := ⟨_, rfl⟩
  have HTX := Lib.hid (show txtO Ws T cs = trimO L ++ [10] by rw [hL]; rfl)
  have HL := Lib.hid hL
  rw [← hL] at HLL
  have hLl : L.length ≤ 6000 := by have := HLL.out; omega
  have hn12 : n ≤ 12 := by omega
  have HN := Lib.hid hn
  have HNW := Lib.hid hnw
  rw [← hn, ← hnw]
  clear hg hw hcall hcs hT hrc hWs hL hlen hn hnw HLL
  go_enter Tryd.func31, Tryd.ntmps31
  go_wp2_with fail
  go_loopw [7, 8, 9, 10, 13] (fun s k i o ix wr => ∃ (j : Nat) (l : List UInt8), ix = .int .i64 j ∧ j ≤ n ∧ s = .string ⟨l.toArray⟩ ∧ L = l ++ lineP Ws T (j == 0) (cs.drop j) ∧ Below W0.heap.size W0 wr ∧ (∃ V, V = k) ∧ (∃ V, V = i) ∧ (∃ V, V = o)) (fun _ _ _ _ ix _ => n - (intOf ix).toNat)
  case atStart => exact ⟨0, [], rfl, by omega, rfl, by rw [HL.out]; rfl, Below.refl _ _, ⟨_, rfl⟩, ⟨_, rfl⟩, ⟨_, rfl⟩⟩
  case round =>
    obtain ⟨j, l, rfl, hj, rfl, hl, hb, ⟨V8, rfl⟩, ⟨V9, rfl⟩, ⟨V10, rfl⟩⟩ := hrel
    have HB := Lib.hid hb
    by_cases hlt : j < n
    · have hdr := drop_nat (cs := cs) (j := j) (by rw [← HN.out]; exact hlt)
      obtain ⟨c, hc⟩ : ∃ c, c = cs.getD j 0 := ⟨_, rfl⟩
      have hcm : c ∈ cs := by rw [hc, List.getD_eq_getElem?_getD, List.getElem?_eq_getElem (by rw [← HN.out]; exact hlt)]; exact List.getElem_mem _
      rw [← hc] at hdr
      obtain ⟨gb, go, rfl, hgb, hgc⟩ := nat_at (HG.out.below hb (Nat.le_refl _)) (k := j) (by rw [← HN.out]; exact hlt)
      rw [← hc] at hgc
      have hcw := HCS.out c hcm
      have CG := Lib.hid (fun W hW => HC.out W c hcm hW)
      have hts := HT.out c hcm
      have hrcc := HRC.out c hcm
      obtain ⟨s, hs⟩ : ∃ s, s = T c := ⟨_, rfl⟩
      obtain ⟨x, hx⟩ : ∃ x, x = Ws.getD c 0 := ⟨_, rfl⟩
      obtain ⟨S, hS⟩ : ∃ S, s = (⟨S.toArray⟩ : ByteArray) := ⟨s.data.toList, (bS_of s).symm⟩
      have hSs : s.data.toList = S := by rw [hS, bS_list]
      rw [← hs] at CG hts hrcc
      rw [← hx] at hrcc
      have hSl : S.length ≤ 200 := by rw [hS, bS_size] at hts; exact hts
      obtain ⟨d, hd⟩ : ∃ d, d = x - rcN s := ⟨_, rfl⟩
      have hdi : (x : Int) - (rcN s : Int) = (d : Int) := by omega
      have hx200 : x ≤ 200 := by rw [hx]; exact HWS.out c
      have hLS := hl
      rw [hdr, lineP_cons, ← hs, ← hx, hSs, ← hd] at hLS
      have HLS := Lib.hid hLS
      have hnil : (cs.drop (j + 1) = []) ↔ n = j + 1 := by
        rw [List.drop_eq_nil_iff, ← HN.out]; omega
      have HNIL := Lib.hid hnil
      have HRL : ∀ {a b c : List UInt8}, L = a ++ (b ++ c) → (a ++ b).length ≤ 6000 := fun {a b c} e => by rw [e] at hLl; simp at hLl ⊢; omega
      subst hS
      have hdl : d ≤ 200 := by omega
      have CRC := Lib.hid (fun W => lib_RuneCount ⟨S.toArray⟩ W (by omega))
      have CSP := Lib.hid (fun W => lib_Repeat1 32 d W (by omega))
      have CS2 := Lib.hid (fun W => lib_Repeat1 32 2 W (by omega))
      have hrn : rcN ⟨S.toArray⟩ ≤ 200 := by omega
      generalize rcN ⟨S.toArray⟩ = r at hdi CRC hrn
      have hcw2 : c < nw := by rw [HNW.out]; exact hcw
      have HX := Lib.hid hx
      clear hl hdr hc hcm hb hts hrcc hs hx hSs hd hLS hnil hcw
      obtain ⟨wb, wo, rfl, hwb, hwc⟩ := nat_at HW.out (k := c) (by rw [← HNW.out]; exact hcw2)
      rw [← HX.out] at hwc
      have HWC := Lib.hid (fun W (h : Below W0.heap.size W0 W) => (h.cell (p := ⟨wb, wo + c, none⟩) hwb).trans hwc)
      have hwr : IntKind.i64.wrap ((x : Int) - (r : Int)) = (d : Int) := by rw [hdi]; exact IntWalk.i64_in _ (by omega)
      have hwd : IntKind.i64.wrap (d : Int) = (d : Int) := IntWalk.i64_in _ (by omega)
      obtain ⟨P2, hP2⟩ : ∃ P, P = List.replicate 2 (32 : UInt8) := ⟨_, rfl⟩
      obtain ⟨SPD, hSPD⟩ : ∃ P, P = List.replicate d (32 : UInt8) := ⟨_, rfl⟩
      rw [← hP2] at CS2
      rw [← hSPD] at CSP
      have hSPl : SPD.length ≤ 200 := by rw [hSPD, List.length_replicate]; exact hdl
      have hP2l : P2.length = 2 := by rw [hP2]; rfl
      clear hwc
      by_cases hj0 : j = 0
      · by_cases hlast : n = j + 1
        · subst hj0
          rw [Nat.add_zero] at hgc
          obtain ⟨l1, hl1⟩ : ∃ l1, l1 = l := ⟨_, rfl⟩
          obtain ⟨l2, hl2⟩ : ∃ l2, l2 = l1 ++ S := ⟨_, rfl⟩
          obtain ⟨l3, hl3⟩ : ∃ l3, l3 = l2 := ⟨_, rfl⟩
          have hlf : L = l3 ++ lineP Ws T ((0 + 1 : Nat) == 0) (cs.drop (0 + 1)) := by
            rw [HLS.out, hl3, hl2, hl1]
            rw [show ((0 + 1 : Nat) == 0) = false from rfl]
            rw [if_pos (HNIL.out.2 (by omega))]
            simp [spO]
          have HLF := Lib.hid hlf
          have hlen : l3.length ≤ 6000 := by rw [hlf, List.length_append] at hLl; omega
          have hlen2 : l2.length ≤ 6000 := by rw [hl3] at hlen; omega
          have hlen1 : l1.length ≤ 6000 := by rw [hl2, List.length_append] at hlen2; omega
          have a2 := addL l1 S l2 hl2.symm (by omega)
          have e2 : ¬ (0 : Int) + 1 < (n : Int) := by omega
          have e3 : ¬ (1 : Int) < (n : Int) := by omega
          clear hlf hP2 hSPD hlast hlen1 hlen2 hlen hl2
          subst hl1
          subst hl3
          have CG1 := Lib.hid (CG.out wr HB.out)
          go_wp2_with (go_at_fn g; refine CG1.out.mono ?_; rintro e w2 ⟨rfl, hb2⟩)
          go_roundw
          case rel => exact ⟨0 + 1, _, by first | rfl | go_num, by omega, rfl, by rw [HLF.out], hb2, ⟨_, rfl⟩, ⟨_, rfl⟩, ⟨_, rfl⟩⟩
          case measure => simp [intOf]; omega
        · subst hj0
          rw [Nat.add_zero] at hgc
          obtain ⟨l1, hl1⟩ : ∃ l1, l1 = l := ⟨_, rfl⟩
          obtain ⟨l2, hl2⟩ : ∃ l2, l2 = l1 ++ S := ⟨_, rfl⟩
          obtain ⟨l3, hl3⟩ : ∃ l3, l3 = l2 ++ SPD := ⟨_, rfl⟩
          have hlf : L = l3 ++ lineP Ws T ((0 + 1 : Nat) == 0) (cs.drop (0 + 1)) := by
            rw [HLS.out, hl3, hl2, hl1]
            rw [show ((0 + 1 : Nat) == 0) = false from rfl]
            rw [if_neg (show ¬ List.drop (_ + 1) cs = [] from fun h => by have := HNIL.out.1 h; omega), hSPD]
            simp [spO]
          have HLF := Lib.hid hlf
          have hlen : l3.length ≤ 6000 := by rw [hlf, List.length_append] at hLl; omega
          have hlen2 : l2.length ≤ 6000 := by rw [hl3] at hlen; rw [List.length_append] at hlen; omega
          have hlen1 : l1.length ≤ 6000 := by rw [hl2, List.length_append] at hlen2; omega
          have a2 := addL l1 S l2 hl2.symm (by omega)
          have a3 := addL l2 SPD l3 hl3.symm (by omega)
          have e2 : (0 : Int) + 1 < (n : Int) := by omega
          have e3 : (1 : Int) < (n : Int) := by omega
          clear hlf hP2 hSPD hlast hlen1 hlen2 hlen hl2
          subst hl1
          clear hl3
          have CG1 := Lib.hid (CG.out wr HB.out)
          go_wp2_with (go_at_fn g; refine CG1.out.mono ?_; rintro e w2 ⟨rfl, hb2⟩)
          (refine region_class (Below W0.heap.size W0) (by kernel_rfl) (by kernel_rfl) (hb2.drew) ?_; repeat ((first | (refine class_take ?_ (by rfl) ?_ ?_; rotate_left; focus (intro wq hq; ((have x0 := HWC.out wq hq; have x1 : wb < wq.heap.size := Nat.lt_of_lt_of_le hwb hq.size)); go_simp; first | done | with_reducible rfl | (first | (go_at_call 37; (with_reducible refine (CRC.out _).mono ?_); rintro e w' ⟨rfl, hb⟩; refine ⟨?_, below_then hq hb⟩; with_reducible rfl) | (go_at_call 34; (with_reducible refine (CSP.out _).mono ?_); rintro e w' ⟨rfl, hb⟩; refine ⟨?_, below_then hq hb⟩; with_reducible rfl)))) | refine class_skip (by rfl) ?_); try simp only [Act.put, List.setIfInBounds_toArray, List.set_cons_zero, List.set_cons_succ]))
          refine wpQuiet_nil ?_
          intro W3 hW3
          go_wp2_with fail
          go_roundw
          case rel => exact ⟨0 + 1, l3, by first | rfl | go_num, by omega, rfl, by rw [HLF.out], hW3, ⟨_, rfl⟩, ⟨_, rfl⟩, ⟨_, rfl⟩⟩
          case measure => simp [intOf]; omega
      · by_cases hlast : n = j + 1
        · obtain ⟨l1, hl1⟩ : ∃ l1, l1 = l ++ P2 := ⟨_, rfl⟩
          obtain ⟨l2, hl2⟩ : ∃ l2, l2 = l1 ++ S := ⟨_, rfl⟩
          obtain ⟨l3, hl3⟩ : ∃ l3, l3 = l2 := ⟨_, rfl⟩
          have hlf : L = l3 ++ lineP Ws T ((j + 1 : Nat) == 0) (cs.drop (j + 1)) := by
            rw [HLS.out, hl3, hl2, hl1]
            rw [show ((j + 1 : Nat) == 0) = false from rfl]
            rw [if_pos (HNIL.out.2 (by omega))]
            rw [show (j == 0) = false by simpa using hj0, hP2]
            simp [spO]
          have HLF := Lib.hid hlf
          have hlen : l3.length ≤ 6000 := by rw [hlf, List.length_append] at hLl; omega
          have hlen2 : l2.length ≤ 6000 := by rw [hl3] at hlen; omega
          have hlen1 : l1.length ≤ 6000 := by rw [hl2, List.length_append] at hlen2; omega
          have a1 := addL l P2 l1 hl1.symm (by omega)
          have e1 : (0 : Int) < (j : Int) := by omega
          have a2 := addL l1 S l2 hl2.symm (by omega)
          have e2 : ¬ ((j : Int) : Int) + 1 < (n : Int) := by omega
          clear hlf hP2 hSPD hlast hlen1 hlen2 hlen hl2 hj0 hl1
          subst hl3
          go_wp2_with fail
          refine (CS2.out _).mono ?_
          rintro e w1 ⟨rfl, hb1⟩
          have HB1 := Lib.hid (below_then HB.out hb1)
          have CG1 := Lib.hid (CG.out w1 HB1.out)
          clear hb1
          go_wp2_with (go_at_fn g; refine CG1.out.mono ?_; rintro e w2 ⟨rfl, hb2⟩)
          go_roundw
          case rel => exact ⟨j + 1, _, by first | rfl | go_num, by omega, rfl, by rw [HLF.out], hb2, ⟨_, rfl⟩, ⟨_, rfl⟩, ⟨_, rfl⟩⟩
          case measure => simp [intOf]; omega
        · obtain ⟨l1, hl1⟩ : ∃ l1, l1 = l ++ P2 := ⟨_, rfl⟩
          obtain ⟨l2, hl2⟩ : ∃ l2, l2 = l1 ++ S := ⟨_, rfl⟩
          obtain ⟨l3, hl3⟩ : ∃ l3, l3 = l2 ++ SPD := ⟨_, rfl⟩
          have hlf : L = l3 ++ lineP Ws T ((j + 1 : Nat) == 0) (cs.drop (j + 1)) := by
            rw [HLS.out, hl3, hl2, hl1]
            rw [show ((j + 1 : Nat) == 0) = false from rfl]
            rw [if_neg (show ¬ List.drop (_ + 1) cs = [] from fun h => by have := HNIL.out.1 h; omega), hSPD]
            rw [show (j == 0) = false by simpa using hj0, hP2]
            simp [spO]
          have HLF := Lib.hid hlf
          have hlen : l3.length ≤ 6000 := by rw [hlf, List.length_append] at hLl; omega
          have hlen2 : l2.length ≤ 6000 := by rw [hl3] at hlen; rw [List.length_append] at hlen; omega
          have hlen1 : l1.length ≤ 6000 := by rw [hl2, List.length_append] at hlen2; omega
          have a1 := addL l P2 l1 hl1.symm (by omega)
          have e1 : (0 : Int) < (j : Int) := by omega
          have a2 := addL l1 S l2 hl2.symm (by omega)
          have a3 := addL l2 SPD l3 hl3.symm (by omega)
          have e2 : ((j : Int) : Int) + 1 < (n : Int) := by omega
          clear hlf hP2 hSPD hlast hlen1 hlen2 hlen hl2 hj0 hl1
          clear hl3
          go_wp2_with fail
          refine (CS2.out _).mono ?_
          rintro e w1 ⟨rfl, hb1⟩
          have HB1 := Lib.hid (below_then HB.out hb1)
          have CG1 := Lib.hid (CG.out w1 HB1.out)
          clear hb1
          go_wp2_with (go_at_fn g; refine CG1.out.mono ?_; rintro e w2 ⟨rfl, hb2⟩)
          (refine region_class (Below W0.heap.size W0) (by kernel_rfl) (by kernel_rfl) (hb2.drew) ?_; repeat ((first | (refine class_take ?_ (by rfl) ?_ ?_; rotate_left; focus (intro wq hq; ((have x0 := HWC.out wq hq; have x1 : wb < wq.heap.size := Nat.lt_of_lt_of_le hwb hq.size)); go_simp; first | done | with_reducible rfl | (first | (go_at_call 37; (with_reducible refine (CRC.out _).mono ?_); rintro e w' ⟨rfl, hb⟩; refine ⟨?_, below_then hq hb⟩; with_reducible rfl) | (go_at_call 34; (with_reducible refine (CSP.out _).mono ?_); rintro e w' ⟨rfl, hb⟩; refine ⟨?_, below_then hq hb⟩; with_reducible rfl)))) | refine class_skip (by rfl) ?_); try simp only [Act.put, List.setIfInBounds_toArray, List.set_cons_zero, List.set_cons_succ]))
          refine wpQuiet_nil ?_
          intro W3 hW3
          go_wp2_with fail
          go_roundw
          case rel => exact ⟨j + 1, l3, by first | rfl | go_num, by omega, rfl, by rw [HLF.out], hW3, ⟨_, rfl⟩, ⟨_, rfl⟩, ⟨_, rfl⟩⟩
          case measure => simp [intOf]; omega
    · obtain rfl : j = n := by omega
      have hfin : l = L := by rw [hl, List.drop_eq_nil_of_le (by rw [← HN.out]; exact Nat.le_refl _), lineP]; simp
      subst hfin
      have CT := Lib.hid (fun W => lib_TrimR l W (by omega))
      have htl := trimO_le l
      have a1 := addL (trimO l) [10] _ rfl (by simp; omega)
      clear hl hlt
      go_wp2_with fail
      refine (CT.out _).mono ?_
      rintro e w1 ⟨rfl, rfl⟩
      go_wp2_with fail
      go_ret
      exact ⟨by rw [HTX.out]; rfl, HB.out⟩
end Go.Proofs.YthpiiocncdpimaaDoor
