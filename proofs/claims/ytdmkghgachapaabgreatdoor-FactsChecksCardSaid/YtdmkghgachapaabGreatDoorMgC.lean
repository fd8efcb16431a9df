/- Several texts in one: Cat2, Cat3. -/
import Derived.Test.YtdmkghgachapaabGreatDoorMgK
import Derived.Test.YtdmkghgachapaabGreatDoorTxt1
import Derived.Test.YtdmkghgachapaabGreatDoorLayX
import Derived.Laws.Concat
import Derived.Laws.IdiomStrings
set_option linter.unusedSimpArgs false
namespace Go.Proofs.YtdmkghgachapaabGreatDoor
set_option linter.unusedVariables false
set_option maxRecDepth 100000
open Go.RowKit Go.Shelf Num
theorem addC (a b c : List UInt8) (hc : a ++ b = c) (h : c.length ≤ 9223372036854775807) : ∀ W, (Op.stringOp .add ⟨a.toArray⟩ ⟨b.toArray⟩).run Tryz.prog W = .ok (.string ⟨c.toArray⟩) W := fun W => by
  have e : (⟨a.toArray⟩ : ByteArray) ++ ⟨b.toArray⟩ = ⟨c.toArray⟩ := by rw [← hc]; exact ByteArray.mk_append_mk a b
  rw [← e]
  refine run_string_add_sum W _ _ ?_
  have h1 : (⟨a.toArray⟩ : ByteArray).size = a.length := by show a.toArray.size = _; simp
  have h2 : (⟨b.toArray⟩ : ByteArray).size = b.length := by show b.toArray.size = _; simp
  rw [h1, h2]
  have := congrArg List.length hc
  simp at this
  omega
theorem u8_cell (n : Nat) (h : n < 256) (k : Int) (hk : k = n) : some (Value.int .u8 k) = some (Value.int .u8 ((UInt8.ofNat n).toNat : Int)) := by rw [hk, ofNat_toNat _ h]
theorem conv1 (W : World) (n : Nat) (hn : n < 256) (k : Int) (hk : k = n) : (convert 175 9 (.slice (some ⟨W.heap.size, 0, none⟩) 1 1)).run Tryz.prog (W.alloc (.cells #[.int .u8 k] 5)) = .ok (.string ⟨#[UInt8.ofNat n]⟩) (W.alloc (.cells #[.int .u8 k] 5)) := by
  refine run_convert_bytes_back _ 175 9 5 ⟨W.heap.size, 0, none⟩ 1 [UInt8.ofNat n] Tryz.underlying175 Tryz.underlying5 Tryz.underlying9 ?_
  intro j hj
  have ha := At.new W (.cells #[.int .u8 k] 5)
  match j, hj with
  | 0, _ => rw [show (⟨W.heap.size, 0, none⟩ : Addr).add 0 = ⟨W.heap.size, 0, none⟩ from rfl, ha.cell 0]; exact u8_cell n hn k hk
theorem conv2 (W : World) (B n m : Nat) (hB : B = W.heap.size) (hn : n < 256) (hm : m < 256) (k l : Int) (hk : k = n) (hl : l = m) : (convert 175 9 (.slice (some ⟨B, 0, none⟩) 2 2)).run Tryz.prog (W.alloc (.cells #[.int .u8 k, .int .u8 l] 5)) = .ok (.string ⟨#[UInt8.ofNat n, UInt8.ofNat m]⟩) (W.alloc (.cells #[.int .u8 k, .int .u8 l] 5)) := by
  subst hB
  refine run_convert_bytes_back _ 175 9 5 ⟨W.heap.size, 0, none⟩ 2 [UInt8.ofNat n, UInt8.ofNat m] Tryz.underlying175 Tryz.underlying5 Tryz.underlying9 ?_
  intro j hj
  have ha := At.new W (.cells #[.int .u8 k, .int .u8 l] 5)
  match j, hj with
  | 0, _ => rw [show (⟨W.heap.size, 0, none⟩ : Addr).add 0 = ⟨W.heap.size, 0, none⟩ from rfl, ha.cell 0]; exact u8_cell n hn k hk
  | 1, _ => rw [show (⟨W.heap.size, 0, none⟩ : Addr).add 1 = ⟨W.heap.size, 1, none⟩ from rfl, ha.cell 1]; exact u8_cell m hm l hl
theorem extraJC : Builder.Extra Tryz.prog Tryz.laysn156_ren where
  sizeBuilder := by kernel_rfl
  liesBuilder := by kernel_rfl
  t5 := Tryz.underlying5
  a5 := Tryz.isAgg5
  z5 := Tryz.sizeOf5
  v5 := Tryz.zeroValue5
  infoByte := by kernel_rfl
  cellsByte := by kernel_rfl
  sizeByte := by kernel_rfl
  neB5 := by decide
theorem join_snoc (xs : List (List UInt8)) (y sep : List UInt8) (h : xs ≠ []) : Lib.join (xs ++ [y]) sep = Lib.join xs sep ++ (sep ++ y) := by
  cases xs with
  | nil => exact absurd rfl h
  | cons x r => rw [List.cons_append, Lib.join_cons, Lib.join_cons]; simp [Lib.joinTail]
theorem even_len (n len : Nat) (h : n ≤ 20) : (evenL n len).length ≤ 140 := by
  have h1 : ∀ n, n ≤ 20 → (evenL n len).length ≤ 140 := by
    intro n hn
    unfold evenL
    have : ∀ k, k ≤ 20 → (Lib.join ((List.range k).map (evL len)) [44, 32]).length ≤ 7 * k := by
      intro k _
      induction k with
      | zero => simp [Lib.join_nil]
      | succ k ih =>
        rcases Nat.eq_zero_or_pos k with rfl | hk
        · simp [List.range_succ, Lib.join_one, evL]
        · have e : Lib.join ((List.range (k + 1)).map (evL len)) [44, 32] = Lib.join ((List.range k).map (evL len)) [44, 32] ++ ([44, 32] ++ evL len k) := by
            rw [List.range_succ, List.map_append]
            exact join_snoc _ _ _ (by intro h; have := congrArg List.length h; simp at this; omega)
          rw [e]; have := ih (by omega); simp [evL]; omega
    have := this n hn; omega
  exact h1 n h
set_option maxHeartbeats 4000000 in
theorem cat_even (n len : Nat) (hn : n ≤ 20) (hn0 : 0 < n) (hl : len < 100) (w : World) :
    Calls Tryz.prog 131 #[.int .i64 n, .int .i64 len] w fun e w' => e = .returned (.string ⟨(evenL n len).toArray⟩) ∧ Below w.heap.size w w' := by
  obtain ⟨i0, hi, hz0, hz1, hz2⟩ := info_parts infoStr
  go_enter Tryz.func131, Tryz.ntmps131
  go_wp2_with fail
  go_loopw [5, 6, 8] (fun o s i wr => ∃ j : Nat, j ≤ n ∧ i = .int .i64 j ∧ wr.ownsRow w.heap.size 9 1 o j (((List.range j).map (evL len)).map strV) ∧ Below w.heap.size w wr) (fun o s i _ => n - (intOf i).toNat)
  case atStart => exact ⟨0, by omega, rfl, World.ownsRow_nil _ _ _ _, Below.refl _ _⟩
  case round =>
    obtain ⟨j, hj, rfl, hown, hbel⟩ := hrel
    by_cases hlt : j < n
    · have hz := hbel.size
      obtain ⟨M, hM⟩ : ∃ M, M = evL len j := ⟨_, rfl⟩
      obtain ⟨q1, hq1⟩ : ∃ q, q = UInt8.ofNat (97 + j) := ⟨_, rfl⟩
      obtain ⟨q2, hq2⟩ : ∃ q, q = UInt8.ofNat (48 + len / 10) := ⟨_, rfl⟩
      obtain ⟨q3, hq3⟩ : ∃ q, q = UInt8.ofNat (48 + len % 10) := ⟨_, rfl⟩
      have k1 := conv1 wr (97 + j) (by omega) (97 + (j : Int)) (by omega)
      have k2 := conv2 (wr.alloc (.cells #[.int .u8 (97 + (j : Int))] 5)) (wr.heap.size + 1) (48 + len / 10) (48 + len % 10) (by simp) (by omega) (by omega) (48 + (len : Int) / 10) (48 + (len : Int) % 10) (by omega) (by omega)
      rw [← hq1] at k1
      rw [← hq2, ← hq3] at k2
      have p1 := addC [109] [q1] [109, q1] rfl (by simp)
      have p2 := addC [109, q1] [32] [109, q1, 32] rfl (by simp)
      have p3 := addC [109, q1, 32] [q2, q3] M (by rw [hM, hq1, hq2, hq3]; rfl) (by rw [hM]; simp [evL])
      clear hq1 hq2 hq3
      have OW := Lib.hid ((hown.alloc (.cells #[.int .u8 (97 + (j : Int))] 5)).alloc (.cells #[.int .u8 (48 + (len : Int) / 10), .int .u8 (48 + (len : Int) % 10)] 5))
      have BL := Lib.hid (below_new (below_new hbel (.cells #[.int .u8 (97 + (j : Int))] 5)) (.cells #[.int .u8 (48 + (len : Int) / 10), .int .u8 (48 + (len : Int) % 10)] 5))
      have HM := Lib.hid hM
      clear hown hbel hM
      have hnw := heap_alloc_new ((wr.alloc (.cells #[.int .u8 (97 + (j : Int))] 5)).alloc (.cells #[.int .u8 (48 + (len : Int) / 10), .int .u8 (48 + (len : Int) % 10)] 5)) (.cells #[.string ⟨M.toArray⟩] 9)
      simp only [World.size_alloc] at hnw
      have HN := Lib.hid hnw; clear hnw
      go_wp2_with (at_builtin; refine wpList_append_own _ rfl _ _ 22 rfl w.heap.size 9 i0 (.string ⟨#[]⟩) 1 16 Tryz.underlying22 hi hz0 hz1 hz2 rfl (by decide) _ _ _ rfl (OW.out.alloc _) ⟨wr.heap.size + 1 + 1, 0, none⟩ 1 1 [.string ⟨M.toArray⟩] rfl rfl (World.news_of_block (cs := #[.string ⟨M.toArray⟩]) (t := 9) (fr := (0, 0)) HN.out) (by simp [Value.oneCell']) (by unfold maxLen; omega) (by omega) (by simp; omega) ?_; intro v' w4 hown' hgrow _)
      have bw := (below_new BL.out (.cells #[.string ⟨M.toArray⟩] 9)).grown hgrow (by simp; omega) (fun bb hbb => own_base OW.out hbb)
      go_roundw
      case rel =>
        refine ⟨j + 1, by omega, by go_num, ?_, bw⟩
        rw [List.range_succ, List.map_append, List.map_append]
        simpa [strV, HM.out] using hown'
      case measure => simp [intOf]; omega
    · obtain rfl : j = n := by omega
      have hll : ((List.range j).map (evL len)).length = j := by simp
      obtain ⟨g, cp, rfl, hcp, hg, hcells⟩ := own_strs hown hll (by omega)
      have CJ := Lib.hid (show Calls Tryz.prog 153 #[.slice (some ⟨g, 0, none⟩) j cp, .string ⟨#[44, 32]⟩] wr (fun e w' => e = .returned (.string ⟨(evenL j len).toArray⟩) ∧ Below wr.heap.size wr w') from by
        have e : (((List.range j).map (evL len)).map fun l => (⟨l.toArray⟩ : ByteArray)).map (·.data.toList) = (List.range j).map (evL len) := by rw [List.map_map]; simp [Function.comp_def]
        have h0 := Any.strings_Join Tryz.laysn156 extraJC g 0 cp (((List.range j).map (evL len)).map fun l => (⟨l.toArray⟩ : ByteArray)) ⟨#[44, 32]⟩ wr (fun i x hx => by
          rw [List.getElem?_map, Option.map_eq_some_iff] at hx
          obtain ⟨l, hl, rfl⟩ := hx
          exact hcells i l hl) hg (by rw [List.length_map, hll]; omega) (by rw [List.length_map, hll]; exact hcp) (by
          rw [e]; show (evenL j len).length ≤ _; have := even_len j len hn; omega)
        rw [e, List.length_map, hll] at h0
        exact h0)
      have HP := Lib.hid hbel
      clear hown hcells hbel hll
      go_wp2_with fail
      refine CJ.out.mono ?_
      rintro e W5 ⟨rfl, hb⟩
      have O5 := Lib.hid (below_then HP.out hb); clear hb
      go_wp2_with fail
      go_ret
      exact ⟨rfl, O5.out⟩
end Go.Proofs.YtdmkghgachapaabGreatDoor

set_option linter.unusedSimpArgs false
namespace Go.Proofs.YtdmkghgachapaabGreatDoor
set_option linter.unusedVariables false
set_option maxRecDepth 100000
open Go.RowKit Go.Shelf
def MonPost (d : List UInt8) (w : World) (e : Ending) (w' : World) : Prop := e = .returned (.string ⟨(monthsL d).toArray⟩) ∧ Below w.heap.size w w'
set_option maxHeartbeats 2000000 in
theorem months_A (w : World) : Calls Tryz.prog 103 #[.string ⟨#[65]⟩] w (MonPost [65] w) := by
  go_enter Tryz.func103, Tryz.ntmps103
  go_wp2_with fail
  go_ret
  exact ⟨rfl, Below.refl _ _⟩
set_option maxHeartbeats 2000000 in
theorem months_B (w : World) : Calls Tryz.prog 103 #[.string ⟨#[66]⟩] w (MonPost [66] w) := by
  obtain ⟨E, hE⟩ : ∃ E, E = evenL 12 30 := ⟨_, rfl⟩
  have hl := even_len 12 30 (by decide)
  obtain ⟨R, hR⟩ : ∃ R, R = E ++ [44, 32, 101, 110, 100, 32, 53, 47, 54] := ⟨_, rfl⟩
  rw [← hE] at hl
  have p1 := addC E [44, 32, 101, 110, 100, 32, 53, 47, 54] R hR.symm (by rw [hR, List.length_append]; simp; omega)
  have C := Lib.hid (cat_even 12 30 (by decide) (by decide) (by decide) w)
  rw [← hE] at C
  have HR := Lib.hid (show R = monthsL [66] by rw [hR, hE]; rfl)
  clear hR hE hl
  go_enter Tryz.func103, Tryz.ntmps103
  go_wp2_with fail
  refine C.out.mono ?_
  rintro e w1 ⟨rfl, hb⟩
  go_wp2_with fail
  go_ret
  exact ⟨by rw [HR.out]; rfl, hb⟩
set_option maxHeartbeats 2000000 in
theorem months_C (w : World) : Calls Tryz.prog 103 #[.string ⟨#[67]⟩] w (MonPost [67] w) := by
  go_enter Tryz.func103, Tryz.ntmps103
  go_wp2_with fail
  go_ret
  exact ⟨rfl, Below.refl _ _⟩
set_option maxHeartbeats 2000000 in
theorem months_D (w : World) : Calls Tryz.prog 103 #[.string ⟨#[68]⟩] w (MonPost [68] w) := by
  go_enter Tryz.func103, Tryz.ntmps103
  go_wp2_with fail
  go_ret
  exact ⟨rfl, Below.refl _ _⟩
set_option maxHeartbeats 2000000 in
theorem months_E (w : World) : Calls Tryz.prog 103 #[.string ⟨#[69]⟩] w (MonPost [69] w) := by
  go_enter Tryz.func103, Tryz.ntmps103
  go_wp2_with fail
  go_ret
  exact ⟨rfl, Below.refl _ _⟩
set_option maxHeartbeats 2000000 in
theorem months_F (w : World) : Calls Tryz.prog 103 #[.string ⟨#[70]⟩] w (MonPost [70] w) := by
  obtain ⟨E, hE⟩ : ∃ E, E = evenL 18 19 := ⟨_, rfl⟩
  have hl := even_len 18 19 (by decide)
  obtain ⟨R, hR⟩ : ∃ R, R = E ++ [44, 32, 103, 97, 112, 32, 52, 47, 53, 44, 32, 109, 115, 32, 49, 57] := ⟨_, rfl⟩
  rw [← hE] at hl
  have p1 := addC E [44, 32, 103, 97, 112, 32, 52, 47, 53, 44, 32, 109, 115, 32, 49, 57] R hR.symm (by rw [hR, List.length_append]; simp; omega)
  have C := Lib.hid (cat_even 18 19 (by decide) (by decide) (by decide) w)
  rw [← hE] at C
  have HR := Lib.hid (show R = monthsL [70] by rw [hR, hE]; rfl)
  clear hR hE hl
  go_enter Tryz.func103, Tryz.ntmps103
  go_wp2_with fail
  refine C.out.mono ?_
  rintro e w1 ⟨rfl, hb⟩
  go_wp2_with fail
  go_ret
  exact ⟨by rw [HR.out]; rfl, hb⟩
set_option maxHeartbeats 2000000 in
theorem months_G (w : World) : Calls Tryz.prog 103 #[.string ⟨#[71]⟩] w (MonPost [71] w) := by
  go_enter Tryz.func103, Tryz.ntmps103
  go_wp2_with fail
  go_ret
  exact ⟨rfl, Below.refl _ _⟩
set_option maxHeartbeats 2000000 in
theorem months_H (w : World) : Calls Tryz.prog 103 #[.string ⟨#[72]⟩] w (MonPost [72] w) := by
  obtain ⟨E, hE⟩ : ∃ E, E = evenL 13 28 := ⟨_, rfl⟩
  have hl := even_len 13 28 (by decide)
  obtain ⟨R, hR⟩ : ∃ R, R = E ++ [44, 32, 114, 101, 115, 116, 32, 49, 47, 50] := ⟨_, rfl⟩
  rw [← hE] at hl
  have p1 := addC E [44, 32, 114, 101, 115, 116, 32, 49, 47, 50] R hR.symm (by rw [hR, List.length_append]; simp; omega)
  have C := Lib.hid (cat_even 13 28 (by decide) (by decide) (by decide) w)
  rw [← hE] at C
  have HR := Lib.hid (show R = monthsL [72] by rw [hR, hE]; rfl)
  clear hR hE hl
  go_enter Tryz.func103, Tryz.ntmps103
  go_wp2_with fail
  refine C.out.mono ?_
  rintro e w1 ⟨rfl, hb⟩
  go_wp2_with fail
  go_ret
  exact ⟨by rw [HR.out]; rfl, hb⟩
set_option maxHeartbeats 2000000 in
theorem months_I (w : World) : Calls Tryz.prog 103 #[.string ⟨#[73]⟩] w (MonPost [73] w) := by
  obtain ⟨E, hE⟩ : ∃ E, E = evenL 12 30 := ⟨_, rfl⟩
  have hl := even_len 12 30 (by decide)
  obtain ⟨R, hR⟩ : ∃ R, R = E ++ [44, 32, 101, 110, 100, 32, 53] := ⟨_, rfl⟩
  rw [← hE] at hl
  have p1 := addC E [44, 32, 101, 110, 100, 32, 53] R hR.symm (by rw [hR, List.length_append]; simp; omega)
  have C := Lib.hid (cat_even 12 30 (by decide) (by decide) (by decide) w)
  rw [← hE] at C
  have HR := Lib.hid (show R = monthsL [73] by rw [hR, hE]; rfl)
  clear hR hE hl
  go_enter Tryz.func103, Tryz.ntmps103
  go_wp2_with fail
  refine C.out.mono ?_
  rintro e w1 ⟨rfl, hb⟩
  go_wp2_with fail
  go_ret
  exact ⟨by rw [HR.out]; rfl, hb⟩
set_option maxHeartbeats 2000000 in
theorem months_J (w : World) : Calls Tryz.prog 103 #[.string ⟨#[74]⟩] w (MonPost [74] w) := by
  obtain ⟨E, hE⟩ : ∃ E, E = evenL 18 20 := ⟨_, rfl⟩
  have hl := even_len 18 20 (by decide)
  obtain ⟨R, hR⟩ : ∃ R, R = E ++ [44, 32, 101, 110, 100, 32, 53] := ⟨_, rfl⟩
  rw [← hE] at hl
  have p1 := addC E [44, 32, 101, 110, 100, 32, 53] R hR.symm (by rw [hR, List.length_append]; simp; omega)
  have C := Lib.hid (cat_even 18 20 (by decide) (by decide) (by decide) w)
  rw [← hE] at C
  have HR := Lib.hid (show R = monthsL [74] by rw [hR, hE]; rfl)
  clear hR hE hl
  go_enter Tryz.func103, Tryz.ntmps103
  go_wp2_with fail
  refine C.out.mono ?_
  rintro e w1 ⟨rfl, hb⟩
  go_wp2_with fail
  go_ret
  exact ⟨by rw [HR.out]; rfl, hb⟩
set_option maxHeartbeats 2000000 in
theorem months_K (w : World) : Calls Tryz.prog 103 #[.string ⟨#[75]⟩] w (MonPost [75] w) := by
  have C := Lib.hid (cat_even 18 20 (by decide) (by decide) (by decide) w)
  go_enter Tryz.func103, Tryz.ntmps103
  go_wp2_with fail
  refine C.out.mono ?_
  rintro e w1 ⟨rfl, hb⟩
  go_wp2_with fail
  go_ret
  exact ⟨rfl, hb⟩
set_option maxHeartbeats 2000000 in
theorem months_L (w : World) : Calls Tryz.prog 103 #[.string ⟨#[76]⟩] w (MonPost [76] w) := by
  have C := Lib.hid (cat_even 13 20 (by decide) (by decide) (by decide) w)
  go_enter Tryz.func103, Tryz.ntmps103
  go_wp2_with fail
  refine C.out.mono ?_
  rintro e w1 ⟨rfl, hb⟩
  go_wp2_with fail
  go_ret
  exact ⟨rfl, hb⟩
set_option maxHeartbeats 2000000 in
theorem months_M (w : World) : Calls Tryz.prog 103 #[.string ⟨#[77]⟩] w (MonPost [77] w) := by
  go_enter Tryz.func103, Tryz.ntmps103
  go_wp2_with fail
  go_ret
  exact ⟨rfl, Below.refl _ _⟩
set_option maxHeartbeats 2000000 in
theorem months_N (w : World) : Calls Tryz.prog 103 #[.string ⟨#[78]⟩] w (MonPost [78] w) := by
  go_enter Tryz.func103, Tryz.ntmps103
  go_wp2_with fail
  go_ret
  exact ⟨rfl, Below.refl _ _⟩
set_option maxHeartbeats 2000000 in
theorem months_O (w : World) : Calls Tryz.prog 103 #[.string ⟨#[79]⟩] w (MonPost [79] w) := by
  go_enter Tryz.func103, Tryz.ntmps103
  go_wp2_with fail
  go_ret
  exact ⟨rfl, Below.refl _ _⟩
set_option maxHeartbeats 2000000 in
theorem months_P (w : World) : Calls Tryz.prog 103 #[.string ⟨#[80]⟩] w (MonPost [80] w) := by
  go_enter Tryz.func103, Tryz.ntmps103
  go_wp2_with fail
  go_ret
  exact ⟨rfl, Below.refl _ _⟩
set_option maxHeartbeats 2000000 in
theorem months_Q (w : World) : Calls Tryz.prog 103 #[.string ⟨#[81]⟩] w (MonPost [81] w) := by
  go_enter Tryz.func103, Tryz.ntmps103
  go_wp2_with fail
  go_ret
  exact ⟨rfl, Below.refl _ _⟩
set_option maxHeartbeats 2000000 in
theorem months_R (w : World) : Calls Tryz.prog 103 #[.string ⟨#[82]⟩] w (MonPost [82] w) := by
  go_enter Tryz.func103, Tryz.ntmps103
  go_wp2_with fail
  go_ret
  exact ⟨rfl, Below.refl _ _⟩
set_option maxHeartbeats 2000000 in
theorem months_S (w : World) : Calls Tryz.prog 103 #[.string ⟨#[83]⟩] w (MonPost [83] w) := by
  go_enter Tryz.func103, Tryz.ntmps103
  go_wp2_with fail
  go_ret
  exact ⟨rfl, Below.refl _ _⟩
set_option maxHeartbeats 2000000 in
theorem months_T (w : World) : Calls Tryz.prog 103 #[.string ⟨#[84]⟩] w (MonPost [84] w) := by
  obtain ⟨E, hE⟩ : ∃ E, E = evenL 10 36 := ⟨_, rfl⟩
  have hl := even_len 10 36 (by decide)
  obtain ⟨R, hR⟩ : ∃ R, R = E ++ [44, 32, 114, 101, 115, 116, 32, 53, 47, 54] := ⟨_, rfl⟩
  rw [← hE] at hl
  have p1 := addC E [44, 32, 114, 101, 115, 116, 32, 53, 47, 54] R hR.symm (by rw [hR, List.length_append]; simp; omega)
  have C := Lib.hid (cat_even 10 36 (by decide) (by decide) (by decide) w)
  rw [← hE] at C
  have HR := Lib.hid (show R = monthsL [84] by rw [hR, hE]; rfl)
  clear hR hE hl
  go_enter Tryz.func103, Tryz.ntmps103
  go_wp2_with fail
  refine C.out.mono ?_
  rintro e w1 ⟨rfl, hb⟩
  go_wp2_with fail
  go_ret
  exact ⟨by rw [HR.out]; rfl, hb⟩
def lettersL : List (List UInt8) := [[65], [66], [67], [68], [69], [70], [71], [72], [73], [74], [75], [76], [77], [78], [79], [80], [81], [82], [83], [84]]
theorem cat_months (d : List UInt8) (hd : d ∈ lettersL) (w : World) : Calls Tryz.prog 103 #[.string ⟨d.toArray⟩] w (MonPost d w) := by
  simp only [lettersL, List.mem_cons, List.not_mem_nil, or_false] at hd
  rcases hd with rfl | rfl | rfl | rfl | rfl | rfl | rfl | rfl | rfl | rfl | rfl | rfl | rfl | rfl | rfl | rfl | rfl | rfl | rfl | rfl
  · exact months_A w
  · exact months_B w
  · exact months_C w
  · exact months_D w
  · exact months_E w
  · exact months_F w
  · exact months_G w
  · exact months_H w
  · exact months_I w
  · exact months_J w
  · exact months_K w
  · exact months_L w
  · exact months_M w
  · exact months_N w
  · exact months_O w
  · exact months_P w
  · exact months_Q w
  · exact months_R w
  · exact months_S w
  · exact months_T w
end Go.Proofs.YtdmkghgachapaabGreatDoor
