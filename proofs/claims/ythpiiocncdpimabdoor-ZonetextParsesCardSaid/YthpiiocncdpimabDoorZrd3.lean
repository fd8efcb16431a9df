/- Contract of zonetext.row: a line of the text of a zone, written into the zone under construction. -/
import Derived.Test.YthpiiocncdpimabDoorZrd2
import Derived.Test.YthpiiocncdpimabDoorSplC
import Derived.Test.YthpiiocncdpimabDoorZedK
import Derived.Test.YthpiiocncdpimabDoorLine2
import Derived.Deep.AppendLies
import Derived.Deep.RegionHeldLaw
import Derived.Deep.Cut
namespace Go.Proofs.YthpiiocncdpimabDoor
set_option linter.unusedVariables false
set_option linter.unusedSimpArgs false
set_option maxRecDepth 100000
open Go.RowKit Go.Shelf Num

abbrev zO (s : ByteArray) (f : Int) (v : Value) : Obj := .cells #[.string s, .int .i64 f, v] 24
theorem zown_lt {w : World} {base : Nat} {e : TypeId} {size : Nat} {v : Value} {n : Nat} {xs : List Value} (h : w.ownsRow base e size v n xs) {b : Nat} (hb : v.ownBlock = some b) : base ≤ b ∧ b < w.heap.size := by
  rcases h.2 with ⟨rfl, _⟩ | ⟨g', cap, cur, rfl, hg, hat, _⟩
  · cases hb
  · cases hb; exact ⟨hg, (show At w g' _ from hat).lt⟩
theorem zown_kept {w w' : World} {base : Nat} {e : TypeId} {size : Nat} {v : Value} {n : Nat} {xs : List Value} (h : w.ownsRow base e size v n xs) (hb : ∀ b, v.ownBlock = some b → w'.heap[b]? = w.heap[b]?) : w'.ownsRow base e size v n xs := by
  refine ⟨h.1, ?_⟩
  rcases h.2 with h0 | ⟨g, cap, cur, rfl, hg, hat, rest⟩
  · exact .inl h0
  · exact .inr ⟨g, cap, cur, rfl, hg, (hb g rfl).trans hat, rest⟩
/-- A zone under construction: its box, and the row of its changes. -/
structure ZBox (W : World) (zb base : Nat) (v : Value) (st : ZSt) : Prop where
  box : At W zb (zO st.1 st.2.1 v)
  row : W.ownsRow base 35 3 v st.2.2.length (st.2.2.flatMap encChg)
  lo : zb < base
  hi : base ≤ W.heap.size
theorem ZBox.then_ {W W' : World} {zb base : Nat} {v : Value} {st : ZSt} (h : ZBox W zb base v st) (k : Below W.heap.size W W') : ZBox W' zb base v st :=
  ⟨h.box.then_ k, own_then4 h.row k, h.lo, Nat.le_trans h.hi k.size⟩
theorem ZBox.head {W : World} {zb base : Nat} {v : Value} {st : ZSt} (h : ZBox W zb base v st) (s : ByteArray) (f : Int) :
    ZBox ((W.setCell ⟨zb, 0, none⟩ (.string s)).setCell ⟨zb, 1, none⟩ (.int .i64 f)) zb base v (s, f, st.2.2) := by
  refine ⟨?_, ?_, h.lo, by simpa [World.setCell] using h.hi⟩
  · have := (h.box.store 0 (.string s)).store 1 (.int .i64 f)
    simpa using this
  · exact zown_kept h.row fun b hb => by
      have := (zown_lt h.row hb).1
      have := h.lo
      exact (Below.heap_setCell _ ⟨zb, 1, none⟩ _ b (by show b ≠ zb; omega)).trans (Below.heap_setCell _ ⟨zb, 0, none⟩ _ b (by show b ≠ zb; omega))
/-- What an appended change leaves. -/
theorem ZBox.app {W W1 w4 : World} {zb base : Nat} {v : Value} {st : ZSt} (h : ZBox W zb base v st) (hW : Below W.heap.size W W1) (x : Chg) {g4 cap4 : Nat}
    (hown : w4.ownsRow base 35 3 (.slice (some ⟨g4, 0, none⟩) (st.2.2.length + 1) cap4) (st.2.2.length + 1) (st.2.2.flatMap encChg ++ encChg x)) (hgrow : W1.grownBy w4 v.ownBlock) :
    ZBox (w4.setCell ⟨zb, 2, none⟩ (.slice (some ⟨g4, 0, none⟩) (st.2.2.length + 1) cap4)) zb base (.slice (some ⟨g4, 0, none⟩) (st.2.2.length + 1) cap4) (st.1, st.2.1, st.2.2 ++ [x]) := by
  have hlo := h.lo
  have hs1 := hW.size
  have hs4 := hgrow.size
  have hne : v.ownBlock ≠ some zb := fun e => by have := (zown_lt h.row e).1; omega
  refine ⟨?_, ?_, h.lo, by have := h.hi; simp [World.setCell]; omega⟩
  · have ha : At w4 zb (zO st.1 st.2.1 v) := (h.box.then_ hW).grown6 hgrow (Ne.symm hne)
    have := ha.store 2 (.slice (some ⟨g4, 0, none⟩) (st.2.2.length + 1) cap4)
    simpa using this
  · have := zown_kept (w' := w4.setCell ⟨zb, 2, none⟩ (.slice (some ⟨g4, 0, none⟩) (st.2.2.length + 1) cap4)) hown (fun b hb => Below.heap_setCell w4 ⟨zb, 2, none⟩ _ b (by have := (zown_lt hown hb).1; show b ≠ zb; omega))
    simpa using this
theorem zbel_app {B : Nat} {w W W1 w4 : World} {zb : Nat} {v : Value} (h : Below B w W) (hB : B ≤ zb) (hz : zb < W.heap.size) (hW : Below W.heap.size W W1) (hg : W1.grownBy w4 v.ownBlock) (hn : ∀ b, v.ownBlock = some b → zb < b) (i : Nat) (u : Value) : Below B w (w4.setCell ⟨zb, i, none⟩ u) :=
  below_set ((h.trans (hW.mono (by omega))).grown hg (by have := hW.size; omega) (fun b e => by have := hn b e; omega)) hB u
def RowZ (W : World) (zb base : Nat) (r : Option ZSt) (e : Ending) (w' : World) : Prop := match r with
  | none => e = .returned (.bool false) ∧ Below zb W w'
  | some st' => e = .returned (.bool true) ∧ (∃ v', ZBox w' zb base v' st') ∧ Below zb W w'
theorem bS_list (l : List UInt8) : (⟨l.toArray⟩ : ByteArray).data.toList = l := by simp
theorem bS_size (l : List UInt8) : (⟨l.toArray⟩ : ByteArray).size = l.length := by show l.toArray.size = _; simp
theorem five_of {ws : List (List UInt8)} (h : ws.length = 5) : ∃ a b c d g, ws = [a, b, c, d, g] := by
  match ws, h with
  | [a, b, c, d, g], _ => exact ⟨a, b, c, d, g, rfl⟩
theorem three_of {ws : List (List UInt8)} (h : ws.length = 3) : ∃ a b c, ws = [a, b, c] := by
  match ws, h with
  | [a, b, c], _ => exact ⟨a, b, c, rfl⟩
theorem rowO_t (st : ZSt) (t : List UInt8) {ws : List (List UInt8)} (h : ws = spl 32 t) : rowO true st t = if ws.length = 3 ∧ ws.getD 0 [] = zoneW ∧ offOkR (ws.getD 2 []) = true then some (bS (ws.getD 1 []), offVR (ws.getD 2 []), st.2.2) else none := by subst h; rfl
theorem rowO_f (st : ZSt) (t : List UInt8) {ws : List (List UInt8)} (h : ws = spl 32 t) : rowO false st t = if ws.length = 5 ∧ ws.getD 0 [] = atW ∧ chgOkR ws = true then some (st.1, st.2.1, st.2.2 ++ [chgVR ws]) else none := by subst h; rfl
set_option maxHeartbeats 16000000 in
theorem zt_row (W : World) (zb base : Nat) (v : Value) (st : ZSt) (t : List UInt8) (first : Bool) (m : Int) (hm : W.cell? ⟨0, 0, none⟩ = some (.int .i64 m)) (hz : ZBox W zb base v st) (ht : t.length ≤ 20000) (hn : st.2.2.length ≤ 20000) (hp : Pow W) (he : Errs W) :
    Calls Tryd.prog 13 #[.pointer (some ⟨zb, 0, none⟩), .string ⟨t.toArray⟩, .bool first] W (RowZ W zb base (rowO first st t)) := by
  obtain ⟨ws, hws⟩ : ∃ ws, ws = spl 32 t := ⟨_, rfl⟩
  have CS := Lib.hid (lib_SplitC 32 t W m hm (by omega))
  rw [← hws] at CS
  have hwsz : ∀ x ∈ ws, x.length ≤ 20000 := fun x hx => by have := spl_size 32 t x (by rw [← hws]; exact hx); omega
  have hwl : ws.length ≤ 20001 := by have := spl_len 32 t; rw [hws]; omega
  obtain ⟨T, hT⟩ : ∃ T, T = W.heap.size := ⟨_, rfl⟩
  rw [← hT] at CS
  have A1 := Lib.hid (show At (W.alloc (wdO ws)) T (wdO ws) by rw [hT]; exact At.new W _)
  have Z1 := Lib.hid (hz.then_ (below_new (Below.refl W.heap.size W) (wdO ws)))
  have hzl : zb < W.heap.size := hz.box.lt
  have B1 := Lib.hid (show Below zb W (W.alloc (wdO ws)) from (below_new (Below.refl W.heap.size W) (wdO ws)).mono (by omega))
  have K1 := Lib.hid (show Below W.heap.size W (W.alloc (wdO ws)) from below_new (Below.refl W.heap.size W) _)
  have HP := Lib.hid hp; have HE := Lib.hid he
  have HZL := Lib.hid hzl
  clear hT hm hz hp he hzl
  generalize W.alloc (wdO ws) = W1 at A1 Z1 B1 K1 CS
  obtain ⟨R, hR⟩ : ∃ R, R = rowO first st t := ⟨_, rfl⟩
  rw [← hR]
  cases first with
  | true =>
    rw [rowO_t st t hws] at hR
    clear hws
    by_cases hL : ws.length = 3
    · obtain ⟨a, b, c, rfl⟩ := three_of hL
      have x0 := wd_cell A1.out (j := 0) rfl
      by_cases ha : a = [122, 111, 110, 101]
      · subst ha
        have HR := Lib.hid (show R = if offOkR c = true then some (bS b, offVR c, st.2.2) else none by
          rw [hR]
          by_cases hk : offOkR c = true
          · rw [if_pos ⟨rfl, rfl, hk⟩, if_pos hk]; rfl
          · rw [if_neg (fun h => hk h.2.2), if_neg hk])
        have x2 := wd_cell A1.out (j := 2) rfl
        have CO := Lib.hid (zt_readOffset ⟨c.toArray⟩ W1 (HE.out.below K1.out))
        rw [bS_list] at CO
        clear hR hL hwsz
        go_enter Tryd.func13, Tryd.ntmps13
        go_wp2_with fail
        refine CS.out.mono ?_
        rintro e w1 ⟨rfl, rfl⟩
        go_wp2_with fail
        refine CO.out.mono ?_
        rintro e w2 ⟨⟨n, rfl, hn1, hn2, hn3⟩, hb2⟩
        have A2 := Lib.hid (A1.out.then_ hb2)
        have Z2 := Lib.hid (Z1.out.then_ hb2)
        have B2 := Lib.hid (show Below zb W w2 from B1.out.trans (hb2.mono (by have := K1.out.size; have := HZL.out; omega)))
        have x1 := wd_cell A2.out (j := 1) rfl
        have z0 := Z2.out.box.frozen 0; have z1 := Z2.out.box.frozen 1; have zl := Z2.out.box.lt
        have y0 := Z2.out.box.cell 0; have y1 := Z2.out.box.cell 1
        simp at y0 y1
        clear hb2 x0 x2
        generalize offOkR c = OK at HR hn1
        have HN1 := Lib.hid hn1
        clear hn1
        go_wp2_with fail
        have Z3 := Z2.out.head ⟨b.toArray⟩ n
        have B3 : Below zb W ((w2.setCell ⟨zb, 0, none⟩ (.string ⟨b.toArray⟩)).setCell ⟨zb, 1, none⟩ (.int .i64 n)) := below_set (below_set B2.out (Nat.le_refl _) _) (Nat.le_refl _) _
        generalize World.setCell (World.setCell w2 _ _) _ _ = W9 at Z3 B3 ⊢
        go_ret
        cases OK with
        | true =>
          rw [HR.out]
          exact ⟨rfl, ⟨v, by rw [← HN1.out rfl]; exact Z3⟩, B3⟩
        | false =>
          rw [HR.out]
          exact ⟨rfl, B3⟩
      · have HR := Lib.hid (show R = none by rw [hR, if_neg (fun h => ha h.2.1)])
        have d1 : (a == [122, 111, 110, 101]) = false := by simpa using ha
        have d2 : (a != [122, 111, 110, 101]) = true := by simpa using ha
        clear hR hL ha hwsz
        go_enter Tryd.func13, Tryd.ntmps13
        go_wp2_with fail
        refine CS.out.mono ?_
        rintro e w1 ⟨rfl, rfl⟩
        go_wp2_with fail
        go_ret
        rw [HR.out]
        exact ⟨rfl, B1.out⟩
    · have HR := Lib.hid (show R = none by rw [hR, if_neg (fun h => hL h.1)])
      have d2 : ((ws.length : Int) != 3) = true := by simp; omega
      have d1 : ((ws.length : Int) == 3) = false := by simp; omega
      clear hR hL hwsz
      generalize ws.length = L at d1 d2 hwl CS
      go_enter Tryd.func13, Tryd.ntmps13
      go_wp2_with fail
      refine CS.out.mono ?_
      rintro e w1 ⟨rfl, rfl⟩
      go_wp2_with fail
      go_ret
      rw [HR.out]
      exact ⟨rfl, B1.out⟩
  | false =>
    rw [rowO_f st t hws] at hR
    clear hws
    by_cases hL : ws.length = 5
    · obtain ⟨a, b, c, d, g, rfl⟩ := five_of hL
      have x0 := wd_cell A1.out (j := 0) rfl
      by_cases ha : a = [97, 116]
      · subst ha
        obtain ⟨s1, s2⟩ := chg_same [[97, 116], b, c, d, g]
        have HV := Lib.hid s2
        have HR := Lib.hid (show R = if chgOkP [[97, 116], b, c, d, g] = true then some (st.1, st.2.1, st.2.2 ++ [chgVR [[97, 116], b, c, d, g]]) else none by
          rw [hR, s1]
          by_cases hk : chgOkR [[97, 116], b, c, d, g] = true
          · rw [if_pos ⟨rfl, rfl, hk⟩, if_pos hk]
          · rw [if_neg (fun h => hk h.2.2), if_neg hk])
        have HKP := Lib.hid (show chgOkP [[97, 116], b, c, d, g] = (numOkP b && numOkP c && offOkR d && dayO (atoiV b) && msO (atoiV c)) by rw [show chgOkP [[97, 116], b, c, d, g] = (numOkP b && numOkP c && offOkP d && dayO (atoiV b) && msO (atoiV c)) from rfl, (off_same d).1])
        have HVR := Lib.hid (show chgOkP [[97, 116], b, c, d, g] = true → chgVR [[97, 116], b, c, d, g] = (atoiV b * 86400000 + atoiV c, offVR d, bS g) from fun h => by
          rw [← HV.out (by rw [← s1]; exact h)]
          show (atoiV b * 86400000 + atoiV c, offNP d, bS g) = _
          have hd : offOkR d = true := by have := HKP.out; rw [h] at this; simp only [Bool.true_eq, Bool.and_eq_true] at this; exact this.1.1.2
          rw [(off_same d).2 hd])
        have x1 := wd_cell A1.out (j := 1) rfl
        have bsz : ∀ x ∈ [[97, 116], b, c, d, g], (⟨x.toArray⟩ : ByteArray).size ≤ 140737488355328 := fun x hx => by rw [bS_size]; have := hwsz x hx; omega
        have C1 := Lib.hid (zt_number ⟨b.toArray⟩ W1 (bsz b (by simp)) (HP.out.below K1.out) (HE.out.below K1.out))
        have C2 := Lib.hid (fun W2 (hb : Below W.heap.size W W2) => zt_number ⟨c.toArray⟩ W2 (bsz c (by simp)) (HP.out.below hb) (HE.out.below hb))
        have C3 := Lib.hid (fun W2 (hb : Below W.heap.size W W2) => zt_readOffset ⟨d.toArray⟩ W2 (HE.out.below hb))
        simp only [bS_list] at C1 C2 C3
        obtain ⟨v1a, v1b⟩ := atoiV_bounds b
        obtain ⟨v2a, v2b⟩ := atoiV_bounds c
        clear hR hL hwsz bsz s1 s2 HV
        generalize chgOkP [[97, 116], b, c, d, g] = KP at HR HKP HVR
        generalize chgVR [[97, 116], b, c, d, g] = VR at HR HVR
        generalize numOkP b = O1 at HKP C1
        generalize numOkP c = O2 at HKP C2
        obtain ⟨d1, hd1⟩ : ∃ d1, d1 = atoiV b := ⟨_, rfl⟩
        obtain ⟨m1, hm1⟩ : ∃ m1, m1 = atoiV c := ⟨_, rfl⟩
        rw [← hd1] at HKP HVR C1 v1a v1b
        rw [← hm1] at HKP HVR C2 v2a v2b
        clear hd1 hm1
        go_enter Tryd.func13, Tryd.ntmps13
        go_wp2_with fail
        refine CS.out.mono ?_
        rintro e w1 ⟨rfl, rfl⟩
        go_wp2_with fail
        refine C1.out.mono ?_
        rintro e w2 ⟨rfl, hb2⟩
        have A2 := Lib.hid (A1.out.then_ hb2)
        have Z2 := Lib.hid (Z1.out.then_ hb2)
        have K2 := Lib.hid (K1.out.trans (hb2.mono K1.out.size))
        clear hb2 x0 x1 A1 Z1 B1 K1 C1
        have x2 := wd_cell A2.out (j := 2) rfl
        go_wp2_with fail
        refine (C2.out _ K2.out).mono ?_
        rintro e w3 ⟨rfl, hb3⟩
        have A3 := Lib.hid (A2.out.then_ hb3)
        have Z3 := Lib.hid (Z2.out.then_ hb3)
        have K3 := Lib.hid (K2.out.trans (hb3.mono K2.out.size))
        clear hb3 x2 A2 Z2 K2 C2
        have x3 := wd_cell A3.out (j := 3) rfl
        go_wp2_with fail
        refine (C3.out _ K3.out).mono ?_
        rintro e w4 ⟨⟨n, rfl, hn1, hn2, hn3⟩, hb4⟩
        have A4 := Lib.hid (A3.out.then_ hb4)
        have Z4 := Lib.hid (Z3.out.then_ hb4)
        have K4 := Lib.hid (K3.out.trans (hb4.mono K3.out.size))
        have B4 := Lib.hid (show Below zb W w4 from K4.out.mono (by have := HZL.out; omega))
        have HN := Lib.hid hn1
        clear hb4 x3 A3 Z3 K3 C3 hn1
        generalize offOkR d = O3 at HKP HN
        cases O1 with
        | false =>
          have HRR := Lib.hid (show R = none by rw [HR.out, HKP.out]; simp)
          go_wp2_with fail
          go_ret
          rw [HRR.out]
          exact ⟨rfl, B4.out⟩
        | true =>
        cases O2 with
        | false =>
          have HRR := Lib.hid (show R = none by rw [HR.out, HKP.out]; simp)
          go_wp2_with fail
          go_ret
          rw [HRR.out]
          exact ⟨rfl, B4.out⟩
        | true =>
        cases O3 with
        | false =>
          have HRR := Lib.hid (show R = none by rw [HR.out, HKP.out]; simp)
          go_wp2_with fail
          go_ret
          rw [HRR.out]
          exact ⟨rfl, B4.out⟩
        | true =>
        have CI := Lib.hid (line_Is d1 w4)
        have HKP2 := Lib.hid (show KP = (dayO d1 && msO m1) by rw [HKP.out]; simp)
        clear HKP
        rw [show inB (-4000000) 4000000 d1 = dayO d1 from rfl] at CI
        cases hday : dayO d1 with
        | false =>
          rw [hday] at CI HKP2
          have HRR := Lib.hid (show R = none by rw [HR.out, HKP2.out]; simp)
          go_wp2_with fail
          refine CI.out.mono ?_
          rintro e w5 ⟨rfl, rfl⟩
          go_wp2_with fail
          go_ret
          rw [HRR.out]
          exact ⟨rfl, B4.out⟩
        | true =>
        rw [hday] at CI HKP2
        obtain ⟨q1, q2⟩ := dayO_bound hday
        clear hday v1a v1b
        by_cases m0 : m1 < 0
        · have HRR := Lib.hid (show R = none by
            have : msO m1 = false := by unfold msO inB; simp; omega
            rw [HR.out, HKP2.out, this]; simp)
          go_wp2_with fail
          refine CI.out.mono ?_
          rintro e w5 ⟨rfl, rfl⟩
          go_wp2_with fail
          go_ret
          rw [HRR.out]
          exact ⟨rfl, B4.out⟩
        by_cases m9 : 86400000 ≤ m1
        · have HRR := Lib.hid (show R = none by
            have : msO m1 = false := by unfold msO inB; simp; omega
            rw [HR.out, HKP2.out, this]; simp)
          go_wp2_with fail
          refine CI.out.mono ?_
          rintro e w5 ⟨rfl, rfl⟩
          go_wp2_with fail
          go_ret
          rw [HRR.out]
          exact ⟨rfl, B4.out⟩
        have HKT := Lib.hid (show KP = true by
          have : msO m1 = true := by unfold msO inB; simp; omega
          rw [HKP2.out, this]; rfl)
        have HRR := Lib.hid (show R = some (st.1, st.2.1, st.2.2 ++ [(d1 * 86400000 + m1, n, (⟨g.toArray⟩ : ByteArray))]) by
          rw [HR.out, HKT.out, if_pos rfl, HVR.out HKT.out, HN.out rfl]; rfl)
        have q3 : 0 ≤ m1 := by omega
        have q4 : m1 < 86400000 := by omega
        clear HR HKP2 HKT HVR HN m0 m9 v2a v2b
        go_wp2_with fail
        refine CI.out.mono ?_
        rintro e w5 ⟨rfl, rfl⟩
        clear CI
        go_upto_region 15 with fail
        have h1 := Z4.out.box
        have hlo := Z4.out.lo
        have hhi := Z4.out.hi
        have H8 := Lib.hid Z4.out.row
        have H1 := Lib.hid h1
        have hbz : zb < w4.heap.size := h1.lt
        have c2 : w4.cell? ⟨zb, 2, none⟩ = some v := h1.cell 2
        have c2d : w4.drew.cell? ⟨zb, 2, none⟩ = some v := h1.drew.cell 2
        have c2a : (w4.alloc (.cells #[.int .i64 (d1 * 86400000 + m1), .int .i64 n, .string ⟨g.toArray⟩] 35)).cell? ⟨zb, 2, none⟩ = some v := (h1.alloc (.cells #[.int .i64 (d1 * 86400000 + m1), .int .i64 n, .string ⟨g.toArray⟩] 35)).cell 2
        have c2e : (w4.drew.alloc (.cells #[.int .i64 (d1 * 86400000 + m1), .int .i64 n, .string ⟨g.toArray⟩] 35)).cell? ⟨zb, 2, none⟩ = some v := (h1.drew.alloc (.cells #[.int .i64 (d1 * 86400000 + m1), .int .i64 n, .string ⟨g.toArray⟩] 35)).cell 2
        have t4 : w4.cell? ⟨T, 4, none⟩ = some (.string ⟨g.toArray⟩) := wd_cell A4.out (j := 4) rfl
        have t4d : w4.drew.cell? ⟨T, 4, none⟩ = some (.string ⟨g.toArray⟩) := wd_cell (show At w4.drew T _ from A4.out.drew) (j := 4) rfl
        have e1 : IntKind.i64.wrap (d1 * 86400000) = d1 * 86400000 := IntWalk.i64_in _ (by omega)
        have e2 : IntKind.i64.wrap (d1 * 86400000 + m1) = d1 * 86400000 + m1 := IntWalk.i64_in _ (by omega)
        obtain ⟨i0, hi, hz0, hz1, hz2⟩ := info_parts Tryd.infoChange
        have HML := Lib.hid (show (st.2.2.flatMap encChg).length = st.2.2.length * 3 from chg_len _)
        obtain ⟨ML, hML⟩ : ∃ ML, ML = st.2.2.length := ⟨_, rfl⟩
        rw [← hML] at H8 hn
        have HMLL := Lib.hid hML
        clear h1 hML
        go_region_law
          (first
            | (refine step_append_lies _ (by rfl) _ _ _ (by rfl) base 35 i0 _ 3 32 Tryd.underlying22 hi hz0 hz1 hz2 rfl (by omega) v ML (st.2.2.flatMap encChg) (by rfl) (H8.out.alloc _) ⟨w4.heap.size, 0, none⟩ 1 1 [.int .i64 (d1 * 86400000 + m1), .int .i64 n, .string ⟨g.toArray⟩] (by rfl) (by rfl) (World.news_of_block (cs := #[.int .i64 (d1 * 86400000 + m1), .int .i64 n, .string ⟨g.toArray⟩]) (t := 35) (fr := (0, 0)) (heap_alloc_new w4 _)) (by simp [Value.oneCell']) (by omega) (by unfold maxLen; omega) (by omega) (by simp; omega) _ rfl ?_; intro g4 cap4 w7 hown' hgrow hlies hglt; have a7 := (H1.out.alloc (.cells #[.int .i64 (d1 * 86400000 + m1), .int .i64 n, .string ⟨g.toArray⟩] 35)).grown6 hgrow (fun e => by have := (zown_lt H8.out e.symm).1; omega); have y4 : w7.frozen? ⟨zb, 2, none⟩ = false := a7.frozen 2; have y5 : w7.cell? ⟨zb, 2, none⟩ = some v := a7.cell 2; have y6 : zb < w7.heap.size := a7.lt)
            | (refine step_append_lies _ (by rfl) _ _ _ (by rfl) base 35 i0 _ 3 32 Tryd.underlying22 hi hz0 hz1 hz2 rfl (by omega) v ML (st.2.2.flatMap encChg) (by rfl) ((show w4.drew.ownsRow base 35 3 v ML (st.2.2.flatMap encChg) from H8.out).alloc _) ⟨w4.drew.heap.size, 0, none⟩ 1 1 [.int .i64 (d1 * 86400000 + m1), .int .i64 n, .string ⟨g.toArray⟩] (by rfl) (by rfl) (World.news_of_block (cs := #[.int .i64 (d1 * 86400000 + m1), .int .i64 n, .string ⟨g.toArray⟩]) (t := 35) (fr := (0, 0)) (heap_alloc_new w4.drew _)) (by simp [Value.oneCell']) (by omega) (by unfold maxLen; omega) (by omega) (by simp; omega) _ rfl ?_; intro g4 cap4 w7 hown' hgrow hlies hglt; have a7 := (H1.out.drew.alloc (.cells #[.int .i64 (d1 * 86400000 + m1), .int .i64 n, .string ⟨g.toArray⟩] 35)).grown6 hgrow (fun e => by have := (zown_lt H8.out e.symm).1; omega); have y4 : w7.frozen? ⟨zb, 2, none⟩ = false := a7.frozen 2; have y5 : w7.cell? ⟨zb, 2, none⟩ = some v := a7.cell 2; have y6 : zb < w7.heap.size := a7.lt))
        all_goals
          have hML := HMLL.out
          subst hML
          have hW1 : Below w4.heap.size w4 (w4.drew.alloc (.cells #[.int .i64 (d1 * 86400000 + m1), .int .i64 n, .string ⟨g.toArray⟩] 35)) := below_new (Below.refl _ _).drew _
          have hnb : ∀ b, v.ownBlock = some b → zb < b := fun b e => by have := (zown_lt H8.out e).1; omega
          have Z9 := Z4.out.app hW1 (d1 * 86400000 + m1, n, (⟨g.toArray⟩ : ByteArray)) hown' hgrow
          have B9 := zbel_app B4.out (Nat.le_refl _) hbz hW1 hgrow hnb 2 (.slice (some ⟨g4, 0, none⟩) (st.2.2.length + 1) cap4)
          generalize World.setCell w7 _ _ = W9 at Z9 B9 ⊢
          clear y4 y5 y6 c2 c2d c2a c2e t4 t4d
          go_wp2_with fail
          go_ret
          rw [HRR.out]
          exact ⟨rfl, ⟨_, Z9⟩, B9⟩
      · have HR := Lib.hid (show R = none by rw [hR, if_neg (fun h => ha h.2.1)])
        have d1 : (a == [97, 116]) = false := by simpa using ha
        have d2 : (a != [97, 116]) = true := by simpa using ha
        clear hR hL ha hwsz
        go_enter Tryd.func13, Tryd.ntmps13
        go_wp2_with fail
        refine CS.out.mono ?_
        rintro e w1 ⟨rfl, rfl⟩
        go_wp2_with fail
        go_ret
        rw [HR.out]
        exact ⟨rfl, B1.out⟩
    · have HR := Lib.hid (show R = none by rw [hR, if_neg (fun h => hL h.1)])
      have d2 : ((ws.length : Int) != 5) = true := by simp; omega
      have d1 : ((ws.length : Int) == 5) = false := by simp; omega
      clear hR hL hwsz
      generalize ws.length = L at d1 d2 hwl CS
      go_enter Tryd.func13, Tryd.ntmps13
      go_wp2_with fail
      refine CS.out.mono ?_
      rintro e w1 ⟨rfl, rfl⟩
      go_wp2_with fail
      go_ret
      rw [HR.out]
      exact ⟨rfl, B1.out⟩
end Go.Proofs.YthpiiocncdpimabDoor
