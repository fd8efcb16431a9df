/- Contract of zonetext.Parse. -/
import Derived.Test.YthpiiocncdpimabDoorZrd3
import Derived.Test.YthpiiocncdpimabDoorZone2
namespace Go.Proofs.YthpiiocncdpimabDoor
set_option linter.unusedVariables false
set_option linter.unusedSimpArgs false
set_option maxRecDepth 100000
open Go.RowKit Go.Shelf Num

def StOk (st : ZSt) : Prop := st.1.size ≤ 20000 ∧ I64 st.2.1 ∧ ∀ x ∈ st.2.2, okChg x
theorem stOk_zero : StOk z0S := ⟨by decide, ⟨by decide, by decide⟩, by simp [z0S]⟩
theorem offVR_I64 (l : List UInt8) : I64 (offVR l) := by
  have := sumO_le l 9
  unfold offVR
  split <;> exact ⟨by omega, by omega⟩
theorem rowO_ok {first : Bool} {st st' : ZSt} {t : List UInt8} (h : StOk st) (ht : t.length ≤ 20000) (hr : rowO first st t = some st') : StOk st' ∧ st'.2.2.length ≤ st.2.2.length + 1 := by
  obtain ⟨ws, hws⟩ : ∃ ws, ws = spl 32 t := ⟨_, rfl⟩
  have hsz : ∀ i, (ws.getD i []).length ≤ 20000 := fun i => by
    rw [List.getD_eq_getElem?_getD]
    cases hx : ws[i]? with
    | none => simp
    | some x =>
      have hm : x ∈ ws := List.mem_of_getElem? hx
      have := spl_size 32 t x (by rw [← hws]; exact hm)
      simp; omega
  cases first with
  | true =>
    rw [rowO_t st t hws] at hr
    split at hr
    · cases hr
      exact ⟨⟨by show (bS _).size ≤ _; unfold bS; rw [bS_size]; exact hsz 1, offVR_I64 _, h.2.2⟩, by simp⟩
    · cases hr
  | false =>
    rw [rowO_f st t hws] at hr
    split at hr
    · rename_i hc
      cases hr
      have hk := hc.2.2
      unfold chgOkR at hk
      simp only [Bool.and_eq_true] at hk
      obtain ⟨⟨⟨⟨h1, h2⟩, h3⟩, h4⟩, h5⟩ := hk
      have d := dayO_bound h4
      have m := msO_bound h5
      refine ⟨⟨h.1, h.2.1, fun x hx => ?_⟩, by simp⟩
      rcases List.mem_append.1 hx with hx | hx
      · exact h.2.2 x hx
      · rw [List.mem_singleton] at hx
        subst hx
        refine ⟨⟨?_, ?_⟩, offVR_I64 _, ?_⟩
        · show _ ≤ plainNum (ws.getD 1 []) * 86400000 + plainNum (ws.getD 2 []); omega
        · show plainNum (ws.getD 1 []) * 86400000 + plainNum (ws.getD 2 []) ≤ _; omega
        · show (bS _).size ≤ _; unfold bS; rw [bS_size]; have := hsz 4; omega
    · cases hr
theorem max_below {w w' : World} {b : Nat} {v : Value} (h : w.cell? ⟨b, 0, none⟩ = some v) (hb : Below w.heap.size w w') : w'.cell? ⟨b, 0, none⟩ = some v := by
  have hlt : (⟨b, 0, none⟩ : Addr).block < w.heap.size := World.block_lt_of_cell? w _ h
  rw [hb.cell hlt]; exact h
def ZonePost (r : ZSt × Int × Int) (w : World) (e : Ending) (w' : World) : Prop :=
  ∃ a c, e = .returned (.tuple #[.agg #[.string r.1.1, .int .i64 r.1.2.1, .slice a r.1.2.2.length c], .int .i64 r.2.1, .int .i64 r.2.2]) ∧ Changes w' w'.heap.size a r.1.2.2.length r.1.2.2 ∧ Below w.heap.size w w'
theorem heap_setZ3 {W : World} {B q : Nat} (hne : q ≠ B) (u0 u1 u2 : Value) : (((W.setCell ⟨B, 0, none⟩ u0).setCell ⟨B, 1, none⟩ u1).setCell ⟨B, 2, none⟩ u2).heap[q]? = W.heap[q]? :=
  (Below.heap_setCell _ ⟨B, 2, none⟩ _ q hne).trans ((Below.heap_setCell _ ⟨B, 1, none⟩ _ q hne).trans (Below.heap_setCell _ ⟨B, 0, none⟩ _ q hne))
theorem at_storeZ3 {W : World} {B : Nat} {s : ByteArray} {f : Int} {v : Value} (h : At W B (zO s f v)) (s2 : ByteArray) (f2 : Int) (v2 : Value) : At (((W.setCell ⟨B, 0, none⟩ (.string s2)).setCell ⟨B, 1, none⟩ (.int .i64 f2)).setCell ⟨B, 2, none⟩ v2) B (zO s2 f2 v2) := by
  have := ((h.store 0 (.string s2)).store 1 (.int .i64 f2)).store 2 v2
  simpa using this
theorem below_setZ3 {B : Nat} {a w : World} (h : Below B a w) {p : Nat} (hp : B ≤ p) (u0 u1 u2 : Value) : Below B a (((w.setCell ⟨p, 0, none⟩ u0).setCell ⟨p, 1, none⟩ u1).setCell ⟨p, 2, none⟩ u2) := below_set (below_set (below_set h hp _) hp _) hp _
def zsLen : Value → Nat | .string s => s.size | _ => 0
theorem cutR_lt {l : List UInt8} (h : l ≠ []) (c : UInt8) : (cutR l c).length < l.length := by
  by_cases hb : cutB l c = true
  · have e := (cut_some hb).1
    have := congrArg List.length e
    simp at this
    omega
  · rw [(cutL_none (by simpa using hb)).2]
    cases l with
    | nil => exact absurd rfl h
    | cons _ _ => simp
theorem cutL_le (l : List UInt8) (c : UInt8) : (cutL l c).length ≤ l.length := by rw [← cut_take, List.length_take]; omega
set_option maxHeartbeats 16000000 in
theorem zt_Parse (w : World) (S : List UInt8) (m : Int) (hm : w.cell? ⟨0, 0, none⟩ = some (.int .i64 m)) (hS : S.length ≤ 9223372036854775806) (hp : Pow w) (he : Errs w) :
    Calls Tryd.prog 5 #[.string ⟨S.toArray⟩] w (ZonePost (readO S) w) := by
  obtain ⟨RES, hRES⟩ : ∃ RES, RES = readO S := ⟨_, rfl⟩
  rw [← hRES]
  have hz : (⟨S.toArray⟩ : ByteArray).size = S.length := bS_size S
  by_cases hbig : 20000 < S.length
  · have HR := Lib.hid (show RES = (z0S, 0, 2) by rw [hRES]; unfold readO; rw [if_pos hbig])
    have hb2 : (20000 : Int) < ((⟨S.toArray⟩ : ByteArray).size : Int) := by omega
    have a0 := At.new w (zO ⟨#[]⟩ 0 (.slice none 0 0))
    have B0 := below_new (Below.refl w.heap.size w) (zO ⟨#[]⟩ 0 (.slice none 0 0))
    have A0 := Lib.hid a0; have HB := Lib.hid B0
    have z0 := a0.frozen 0; have z1 := a0.frozen 1; have z2 := a0.frozen 2; have zl := a0.lt
    have y0 := a0.cell 0; have y1 := a0.cell 1; have y2 := a0.cell 2
    simp at y0 y1 y2
    clear hRES hbig hm hp he a0 B0
    obtain ⟨rb, hrb⟩ : ∃ rb, rb = w.heap.size := ⟨_, rfl⟩
    go_enter Tryd.func5, Tryd.ntmps5
    go_wp2_with fail
    have c0 := A0.out.cell 0; have c1 := A0.out.cell 1; have c2 := A0.out.cell 2
    simp at c0 c1 c2
    refine bodyPost_ret (v := .tuple #[.agg #[.string ⟨#[]⟩, .int .i64 0, .slice none 0 0], .int .i64 0, .int .i64 2]) (by simp [results, Tryd.results5, go_sem, c0, c1, c2]) rfl ?_
    rw [HR.out]
    exact ⟨none, 0, rfl, changes_none _ _, HB.out⟩
  · have HL := Lib.hid (show RES = leftO 0 z0S false S by rw [hRES]; exact left_start S (by omega))
    have hb2 : ¬ (20000 : Int) < ((⟨S.toArray⟩ : ByteArray).size : Int) := by omega
    have HM := Lib.hid hm; have HP := Lib.hid hp; have HE := Lib.hid he
    obtain ⟨rb, hrb⟩ : ∃ rb, rb = w.heap.size := ⟨_, rfl⟩
    have a0 := (At.newAt w (zO ⟨#[]⟩ 0 (.slice none 0 0)) rb hrb).alloc (zO ⟨#[]⟩ 0 (.slice none 0 0))
    have a1 : At ((w.alloc (zO ⟨#[]⟩ 0 (.slice none 0 0))).alloc (zO ⟨#[]⟩ 0 (.slice none 0 0))) (rb + 1) (zO ⟨#[]⟩ 0 (.slice none 0 0)) := At.newAt _ _ _ (by rw [World.size_alloc, hrb])
    have B1 := below_new (below_new (Below.refl w.heap.size w) (zO ⟨#[]⟩ 0 (.slice none 0 0))) (zO ⟨#[]⟩ 0 (.slice none 0 0))
    have hz1 : ((w.alloc (zO ⟨#[]⟩ 0 (.slice none 0 0))).alloc (zO ⟨#[]⟩ 0 (.slice none 0 0))).heap.size = rb + 2 := by rw [World.size_alloc, World.size_alloc, hrb]
    have Z0 : ZBox ((w.alloc (zO ⟨#[]⟩ 0 (.slice none 0 0))).alloc (zO ⟨#[]⟩ 0 (.slice none 0 0))) (rb + 1) (rb + 2) (.slice none 0 0) z0S :=
      ⟨a1, World.ownsRow_nil _ _ _ _, by omega, by omega⟩
    clear hm hp he hRES
    have HRB := Lib.hid hrb
    go_enter Tryd.func5, Tryd.ntmps5
    go_wp2_with fail
    rw [← hrb]
    clear hrb
    generalize World.alloc (World.alloc w _) _ = W1 at a0 a1 B1 hz1 Z0 ⊢
    have HB1 := Lib.hid B1
    have HZ1 := Lib.hid hz1
    have HA0 := Lib.hid a0
    have HZ0 := Lib.hid Z0
    clear a0 a1 B1 hz1 Z0
    go_loopw [6, 7, 8, 9] (fun k e r t wr => ∃ (j : Nat) (st : ZSt) (eb : Bool) (l : List UInt8) (v : Value), k = .int .i64 j ∧ e = .bool eb ∧ r = .string ⟨l.toArray⟩ ∧ (∃ V, V = t) ∧ j + l.length ≤ 20000 ∧ st.2.2.length ≤ j ∧ (eb = true → 0 < j) ∧ StOk st ∧ RES = leftO j st eb l ∧ ZBox wr (rb + 1) (rb + 2) v st ∧ At wr rb (zO ⟨#[]⟩ 0 (.slice none 0 0)) ∧ Below w.heap.size w wr) (fun _ _ r _ _ => zsLen r)
    case atStart => exact ⟨0, z0S, false, S, .slice none 0 0, rfl, rfl, rfl, ⟨_, rfl⟩, by omega, by simp [z0S], by simp, stOk_zero, HL.out, HZ0.out, HA0.out, HB1.out⟩
    case round =>
      obtain ⟨j, st, eb, l, v, rfl, rfl, rfl, ⟨V, rfl⟩, hjl, hst, heb, hok, hres, hzb, hat, hb⟩ := hrel
      clear hz hbig hb2
      have HOK := Lib.hid hok; have HZ := Lib.hid hzb; have HA := Lib.hid hat; have HB := Lib.hid hb
      have HRS := Lib.hid hres
      have hzl := bS_size l
      clear hok hzb hat hb hres
      by_cases hnil : l = []
      · subst hnil
        have HR2 := Lib.hid (show RES = runO j st eb [] by rw [HRS.out]; rfl)
        cases eb with
        | false =>
          have HR := Lib.hid (show RES = (z0S, (j : Int), 4) by rw [HR2.out, runO_nil, if_pos (.inl rfl)])
          clear HR2 HRS heb
          go_upto_region 13 with fail
          have zz0 := HA.out.frozen 0; have zz1 := HA.out.frozen 1; have zz2 := HA.out.frozen 2; have zzl := HA.out.lt
          have yy0 := HA.out.cell 0; have yy1 := HA.out.cell 1; have yy2 := HA.out.cell 2
          simp at yy0 yy1 yy2
          go_wp2_with fail
          have A9 := at_storeZ3 HA.out ⟨#[]⟩ 0 (.slice none 0 0)
          have B9 := below_setZ3 HB.out (p := rb) (by have := HRB.out; omega) (.string ⟨#[]⟩) (.int .i64 0) (.slice none 0 0)
          generalize World.setCell (World.setCell (World.setCell wr _ _) _ _) _ _ = W9 at A9 B9 ⊢
          have c0 := A9.cell 0; have c1 := A9.cell 1; have c2 := A9.cell 2
          simp at c0 c1 c2
          refine bodyPost_ret (v := .tuple #[.agg #[.string ⟨#[]⟩, .int .i64 0, .slice none 0 0], .int .i64 (j : Int), .int .i64 4]) (by simp [results, Tryd.results5, go_sem, c0, c1, c2]) rfl ?_
          rw [HR.out]
          exact ⟨none, 0, rfl, changes_none _ _, B9⟩
        | true =>
          have hj0 : j ≠ 0 := by have := heb rfl; omega
          have HR := Lib.hid (show RES = if zoneErr st.1 st.2.1 st.2.2 = 0 then (st, 0, 0) else (z0S, 0, zoneErr st.1 st.2.1 st.2.2) by rw [HR2.out, runO_nil, if_neg (by simp [hj0])])
          obtain ⟨s, f, xs⟩ := st
          obtain ⟨ok1, ok2, ok3⟩ := HOK.out
          obtain ⟨a, c, rfl, hac, hcm, hch⟩ := own_changes HZ.out.row rfl ok3
          simp only at ok1 ok2 ok3 hst hch HR ⊢
          have CZ := Lib.hid (zone_Check wr s f a xs.length c xs (by omega) ok2.1 ok2.2 hch)
          have x0 := HZ.out.box.cell 0; have x1 := HZ.out.box.cell 1; have x2 := HZ.out.box.cell 2
          simp at x0 x1 x2
          obtain ⟨er, her⟩ : ∃ er, er = zoneErr s f xs := ⟨_, rfl⟩
          rw [← her] at CZ HR
          clear HR2 HRS heb ok1 ok3 hch her hj0
          go_wp2_with fail
          refine CZ.out.mono ?_
          rintro e w2 ⟨rfl, hb2⟩
          have Z2 := Lib.hid (HZ.out.then_ hb2)
          have A2 := Lib.hid (HA.out.then_ hb2)
          have B2 := Lib.hid (below_then HB.out hb2)
          clear hb2 x0 x1 x2
          by_cases h0 : er = 0
          · subst h0
            have HRR := Lib.hid (show RES = ((s, f, xs), 0, 0) by rw [HR.out, if_pos rfl])
            have x0 := Z2.out.box.cell 0; have x1 := Z2.out.box.cell 1; have x2 := Z2.out.box.cell 2
            have zz0 := A2.out.frozen 0; have zz1 := A2.out.frozen 1; have zz2 := A2.out.frozen 2; have zzl := A2.out.lt
            have yy0 := A2.out.cell 0; have yy1 := A2.out.cell 1; have yy2 := A2.out.cell 2
            simp at x0 x1 x2 yy0 yy1 yy2
            go_wp2_with fail
            have A9 := at_storeZ3 A2.out s f (.slice a xs.length c)
            have B9 := below_setZ3 B2.out (p := rb) (by have := HRB.out; omega) (.string s) (.int .i64 f) (.slice a xs.length c)
            have O9 := zown_kept (w' := ((w2.setCell ⟨rb, 0, none⟩ (.string s)).setCell ⟨rb, 1, none⟩ (.int .i64 f)).setCell ⟨rb, 2, none⟩ (.slice a xs.length c)) Z2.out.row (fun b hb => heap_setZ3 (by have := (zown_lt Z2.out.row hb).1; omega) _ _ _)
            generalize World.setCell (World.setCell (World.setCell w2 _ _) _ _) _ _ = W9 at A9 B9 O9 ⊢
            obtain ⟨a', c', he', _, _, hch'⟩ := own_changes O9 rfl (HOK.out.2.2)
            have c0 := A9.cell 0; have c1 := A9.cell 1; have c2 := A9.cell 2
            simp at c0 c1 c2
            refine bodyPost_ret (v := .tuple #[.agg #[.string s, .int .i64 f, .slice a xs.length c], .int .i64 0, .int .i64 0]) (by simp [results, Tryd.results5, go_sem, c0, c1, c2]) rfl ?_
            rw [HRR.out]
            obtain ⟨rfl, _⟩ : a = a' ∧ c = c' := by injection he' with e1 e2 e3; exact ⟨e1, e3⟩
            exact ⟨a, c, rfl, hch', B9⟩
          · have e1 : (er == 0) = false := by simpa using h0
            have e2 : (er != 0) = true := by simpa using h0
            have HRR := Lib.hid (show RES = (z0S, 0, er) by rw [HR.out, if_neg h0])
            clear h0 HR
            go_upto_region 16 with fail
            have zz0 := A2.out.frozen 0; have zz1 := A2.out.frozen 1; have zz2 := A2.out.frozen 2; have zzl := A2.out.lt
            have yy0 := A2.out.cell 0; have yy1 := A2.out.cell 1; have yy2 := A2.out.cell 2
            simp at yy0 yy1 yy2
            go_wp2_with fail
            have A9 := at_storeZ3 A2.out ⟨#[]⟩ 0 (.slice none 0 0)
            have B9 := below_setZ3 B2.out (p := rb) (by have := HRB.out; omega) (.string ⟨#[]⟩) (.int .i64 0) (.slice none 0 0)
            generalize World.setCell (World.setCell (World.setCell w2 _ _) _ _) _ _ = W9 at A9 B9 ⊢
            have c0 := A9.cell 0; have c1 := A9.cell 1; have c2 := A9.cell 2
            simp at c0 c1 c2
            refine bodyPost_ret (v := .tuple #[.agg #[.string ⟨#[]⟩, .int .i64 0, .slice none 0 0], .int .i64 0, .int .i64 er]) (by simp [results, Tryd.results5, go_sem, c0, c1, c2]) rfl ?_
            rw [HRR.out]
            exact ⟨none, 0, rfl, changes_none _ _, B9⟩
      · have hne : l.isEmpty = false := by cases l with | nil => exact absurd rfl hnil | cons _ _ => rfl
        have hne' : (!l.isEmpty) = true := by rw [hne]; rfl
        have hlt := cutR_lt hnil 10
        have hle := cutL_le l 10
        have HLS := Lib.hid (show RES = match rowO (j == 0) st (cutL l 10) with | none => (z0S, (j : Int), 4) | some st' => leftO (j + 1) st' (cutB l 10) (cutR l 10) by rw [HRS.out]; exact left_step j st eb l hnil)
        have CUT := Lib.hid (fun W => lib_Cut ⟨l.toArray⟩ 10 W (by omega))
        simp only [bS_list] at CUT
        obtain ⟨fb, hfb⟩ : ∃ fb, fb = (j == 0) := ⟨_, rfl⟩
        have e0 : ((j : Int) == 0) = fb := by rw [hfb, Bool.eq_iff_iff]; simp
        rw [← hfb] at HLS
        have CR := Lib.hid (fun W (hW : Below wr.heap.size wr W) => zt_row W (rb + 1) (rb + 2) v st (cutL l 10) fb m (max_below HM.out (below_then HB.out hW)) (HZ.out.then_ hW) (by omega) (by omega) (HP.out.below (below_then HB.out hW)) (HE.out.below (below_then HB.out hW)))
        obtain ⟨X, hX⟩ : ∃ X, X = cutL l 10 := ⟨_, rfl⟩
        obtain ⟨Y, hY⟩ : ∃ Y, Y = cutR l 10 := ⟨_, rfl⟩
        obtain ⟨bb, hbb⟩ : ∃ bb, bb = cutB l 10 := ⟨_, rfl⟩
        rw [← hX] at HLS CUT CR hle
        rw [← hY] at HLS CUT hlt
        rw [← hbb] at HLS CUT
        clear hX hY hbb hfb hnil HRS
        go_wp2_with fail
        refine (CUT.out _).mono ?_
        rintro e w2 ⟨rfl, hd⟩
        have hb2 : Below wr.heap.size wr w2 := by obtain ⟨nd, rfl⟩ := hd; exact below_drewN (Below.refl _ _) nd
        have CR2 := Lib.hid (CR.out w2 hb2)
        have A2 := Lib.hid (HA.out.then_ hb2)
        have B2 := Lib.hid (below_then HB.out hb2)
        clear hd hb2
        go_wp2_with fail
        refine CR2.out.mono ?_
        intro e w3 hpost
        cases hro : rowO fb st X with
        | none =>
          rw [hro] at hpost HLS
          obtain ⟨rfl, hb3⟩ := hpost
          have HR := Lib.hid (show RES = (z0S, (j : Int), 4) from HLS.out)
          have A3 := Lib.hid (A2.out.below hb3 (by omega))
          have B3 := Lib.hid (B2.out.trans (hb3.mono (by have := HRB.out; omega)))
          clear HLS hb3 hro
          go_upto_region 11 with fail
          have zz0 := A3.out.frozen 0; have zz1 := A3.out.frozen 1; have zz2 := A3.out.frozen 2; have zzl := A3.out.lt
          have yy0 := A3.out.cell 0; have yy1 := A3.out.cell 1; have yy2 := A3.out.cell 2
          simp at yy0 yy1 yy2
          go_wp2_with fail
          have A9 := at_storeZ3 A3.out ⟨#[]⟩ 0 (.slice none 0 0)
          have B9 := below_setZ3 B3.out (p := rb) (by have := HRB.out; omega) (.string ⟨#[]⟩) (.int .i64 0) (.slice none 0 0)
          generalize World.setCell (World.setCell (World.setCell w3 _ _) _ _) _ _ = W9 at A9 B9 ⊢
          have c0 := A9.cell 0; have c1 := A9.cell 1; have c2 := A9.cell 2
          simp at c0 c1 c2
          refine bodyPost_ret (v := .tuple #[.agg #[.string ⟨#[]⟩, .int .i64 0, .slice none 0 0], .int .i64 (j : Int), .int .i64 4]) (by simp [results, Tryd.results5, go_sem, c0, c1, c2]) rfl ?_
          rw [HR.out]
          exact ⟨none, 0, rfl, changes_none _ _, B9⟩
        | some st' =>
          rw [hro] at hpost HLS
          obtain ⟨rfl, ⟨v', hz3⟩, hb3⟩ := hpost
          obtain ⟨ok3, hl3⟩ := rowO_ok HOK.out (by omega) hro
          have A3 := Lib.hid (A2.out.below hb3 (by omega))
          have B3 := Lib.hid (B2.out.trans (hb3.mono (by have := HRB.out; omega)))
          have HR := Lib.hid (show RES = leftO (j + 1) st' bb Y from HLS.out)
          have HZ3 := Lib.hid hz3; have HO3 := Lib.hid ok3
          clear HLS hb3 hro hz3 ok3
          go_wp2_with fail
          go_roundw
          case rel => exact ⟨j + 1, st', bb, Y, v', by go_num, rfl, rfl, ⟨_, rfl⟩, by omega, by omega, fun _ => by omega, HO3.out, HR.out, HZ3.out, A3.out, B3.out⟩
          case measure => simp only [zsLen, bS_size]; omega
end Go.Proofs.YthpiiocncdpimabDoor
