/- rooms.New. -/
import Derived.Test.YtddiicljoekhmaaRm9
import Derived.Laws.MakeOwn
namespace Go.Proofs.Ytddiicljoekhmaa
set_option linter.unusedVariables false
set_option maxRecDepth 100000
open Go.RowKit

theorem str_info : (Try.prog.info? 9).map (fun i => (i.zero, i.size, i.bytes)) = some (some (.string ⟨#[]⟩), 1, 16) := by kernel_rfl
theorem txts_then {w w1 : World} {a : Option Addr} {n : Nat} {xs : List ByteArray} (h : Txts w w.heap.size a n xs) (hb : Below w.heap.size w w1) : Txts w1 w1.heap.size a n xs := (h.below hb (Nat.le_refl _)).more hb.size
def CloneS (w : World) (n : Nat) (xs : List ByteArray) (e : Ending) (w' : World) : Prop := ∃ v, e = .returned v ∧ w'.ownsRow w.heap.size 9 1 v n (xs.map Value.string) ∧ Below w.heap.size w w'
set_option maxHeartbeats 2000000 in
theorem clone_strs (w : World) (ad : Addr) (n c : Nat) (xs : List ByteArray) (h : Txts w w.heap.size (some ad) n xs) (hn0 : 0 < n) (hn : n ≤ 500) :
    Calls Try.prog 25 #[.slice (some ad) n c] w (CloneS w n xs) := by
  obtain ⟨i0, hi, hz0, hz1, hz2⟩ := info_parts str_info
  have q22 : ∀ (w : World) (a : Option Addr) (n c n' c' : Nat), (binOp .eql 22 (.slice a n c) (.slice none n' c')).run Try.prog w = .ok (.bool a.isNone) w := fun w a n c n' c' => Lib.run_eql_slice_nil w _ _ a n c n' c' Try.underlying22
  have hl := h.1
  have hnews : ∀ j u, (xs.map Value.string)[j]? = some u → w.cell? (ad.add j) = some u := by
    intro j u hj
    obtain ⟨b, off, e, _, hc⟩ := h.2.2 hn0
    injection e with e
    subst e
    rw [List.getElem?_map] at hj
    cases hx : xs[j]? with
    | none => rw [hx] at hj; cases hj
    | some s =>
      rw [hx] at hj
      simp at hj
      subst hj
      have := hc j s hx 0 _ rfl
      rw [add_none]
      simpa using this
  have HN := Lib.hid hnews; have HL := Lib.hid hl
  clear h hl hnews
  go_enter Try.func25, Try.ntmps25
  go_wp2_with (at_builtin; refine wpList_append_own _ rfl _ _ 22 rfl w.heap.size 9 i0 (.string ⟨#[]⟩) 1 16 Try.underlying22 hi hz0 hz1 hz2 rfl (by decide) _ _ _ rfl (World.ownsRow_made w #[] 0 (Nat.le_refl _) (Nat.zero_le _) rfl) ad n c (xs.map Value.string) rfl (by rw [List.length_map, HL.out]; omega) (fun j u hj => by
    have h1 := HN.out j u hj
    exact (cell_allocF h1)) (fun u hu => by obtain ⟨s, _, rfl⟩ := List.mem_map.1 hu; rfl) (by unfold maxLen; omega) (by omega) (by simp) ?_; intro v' w1 hown hgrow hnil)
  have hown' : w1.ownsRow w.heap.size 9 1 v' n (xs.map Value.string) := by simpa using hown
  have hgrow' : World.grownBy _ w1 (Value.ownBlock (.slice (some ⟨w.heap.size, 0, none⟩) 0 0)) := hgrow
  have hb1 : Below w.heap.size w w1 := ((Below.refl _ w).alloc (Nat.le_refl _) _).grown hgrow' (by simp) (by intro k hk; simp [Value.ownBlock] at hk; omega)
  have H3 := Lib.hid hown'
  clear hown hown' hgrow hgrow' hnil
  go_wp2_with fail
  go_ret
  exact ⟨_, rfl, H3.out, hb1⟩
theorem own_txts {w : World} {base : Nat} {v : Value} {n : Nat} {xs : List ByteArray} (h : w.ownsRow base 9 1 v n (xs.map Value.string)) (hn : xs.length = n) (h0 : 0 < n) :
    ∃ g c, v = .slice (some ⟨g, 0, none⟩) n c ∧ base ≤ g ∧ Txts w w.heap.size (some ⟨g, 0, none⟩) n xs := by
  rcases h.2 with ⟨_, h1⟩ | ⟨g, cap, cur, rfl, hbg, hcur, hnc, hcm, hcs, htake⟩
  · omega
  · unfold maxLen at hcm
    have hat : At w g (.cells cur 9) := hcur
    refine ⟨g, cap, rfl, hbg, hn, by omega, fun _ => ⟨g, 0, rfl, hat.lt, fun i x hx j u hu => ?_⟩⟩
    match j, hu with
    | 0, hu =>
      simp [encT] at hu; subst hu
      have h1 : (xs.map Value.string)[i]? = some (.string x) := by rw [List.getElem?_map, hx]; rfl
      rw [← htake, List.getElem?_take] at h1
      split at h1
      · rw [hat.cell]; simpa using h1
      · cases h1
    | j + 1, hu => simp [encT] at hu
theorem rows_info : (Try.prog.info? 33).map (fun i => (i.zero, i.size, i.bytes)) = some (some (.slice none 0 0), 1, 24) := by kernel_rfl
theorem make_rows (n : Nat) (hn : n ≤ 20) (W : World) : (Instr.makeSlice 59 (.int .i64 (n : Int)) (.int .i64 (n : Int))).run Try.prog W = .ok (.slice (some ⟨W.heap.size, 0, none⟩) n n) (W.alloc (.cells (madeCells (Value.slice none 0 0).cells n) 33)) := by
  obtain ⟨i0, hi, hz0, hz1, hz2⟩ := info_parts rows_info
  have := run_makeSlice W 59 33 i0 (.slice none 0 0) Try.underlying59 hi hz0 .i64 .i64 (n : Int) (n : Int) (by omega) (by omega) (by rw [hz1]; simp; omega) (by rw [hz2]; omega) (by omega)
  rw [hz1, Nat.mul_one] at this
  simpa using this
/-- What New says of names. -/
def newK : List ByteArray → List ByteArray → Int
  | _, [] => 0
  | pre, s :: r => if isName s = false then 5 else if hasS s pre = true then 7 else newK (pre ++ [s]) r
theorem newK_cons (pre : List ByteArray) (s : ByteArray) (r : List ByteArray) : newK pre (s :: r) = if isName s = false then 5 else if hasS s pre = true then 7 else newK (pre ++ [s]) r := by rw [newK.eq_def]
def newE (ns : List ByteArray) : Int := if ns.length < 1 ∨ 20 < ns.length then 2 else newK [] ns
/-- New rooms: the names, as many empty rows. -/
def NewOk (w w' : World) (ns : List ByteArray) (v : Value) : Prop :=
  ∃ P gn gb cn, v = .pointer (some ⟨P, 0, none⟩) ∧ w.heap.size ≤ P ∧ w.heap.size ≤ gn ∧ w.heap.size ≤ gb ∧ P ≠ gb ∧ At w' P (.cells #[.slice (some ⟨gn, 0, none⟩) ns.length cn, .slice (some ⟨gb, 0, none⟩) ns.length ns.length] 61) ∧
    Txts w' w'.heap.size (some ⟨gn, 0, none⟩) ns.length ns ∧ At w' gb (.cells (madeCells (Value.slice none 0 0).cells ns.length) 33)
def NewPost (ns : List ByteArray) (w : World) (e : Ending) (w' : World) : Prop :=
  ∃ v, e = .returned (.tuple #[v, .int .i64 (newE ns)]) ∧ Below w.heap.size w w' ∧ (newE ns = 0 → NewOk w w' ns v)
set_option maxHeartbeats 4000000 in
theorem rooms_New (w : World) (a : Option Addr) (n c : Nat) (ns : List ByteArray) (h : Txts w w.heap.size a n ns) (hsz : ∀ s ∈ ns, s.size ≤ 9223372036854775807) (hnc : n ≤ c) (hcc : c ≤ 9223372036854775807) :
    Calls Try.prog 6 #[.slice a n c] w (NewPost ns w) := by
  have L1 := Lib.hid h.1
  have m1 := h.2.1
  have H := Lib.hid h; clear h
  have HSZ := Lib.hid hsz; clear hsz
  have HO := Lib.hid (show newE ns = if ns.length < 1 ∨ 20 < ns.length then 2 else newK [] ns from rfl)
  rw [L1.out] at HO
  have hc3 : n < 1 ∨ (¬ n < 1 ∧ 20 < n) ∨ (1 ≤ n ∧ n ≤ 20) := by omega
  rcases hc3 with h1 | ⟨h1, h2⟩ | ⟨h1, h2⟩
  · have HF := Lib.hid (HO.out.trans (if_pos (.inl h1))); clear HO
    have h1' : (n : Int) < 1 := by omega
    go_enter Try.func6, Try.ntmps6
    go_wp2_with fail
    go_ret2
    exact ⟨.pointer none, by rw [HF.out]; rfl, Below.refl _ _, fun h => by rw [HF.out] at h; omega⟩
  · have HF := Lib.hid (HO.out.trans (if_pos (.inr h2))); clear HO
    have h1' : ¬ (n : Int) < 1 := by omega
    have h2' : (20 : Int) < (n : Int) := by omega
    go_enter Try.func6, Try.ntmps6
    go_wp2_with fail
    go_ret2
    exact ⟨.pointer none, by rw [HF.out]; rfl, Below.refl _ _, fun h => by rw [HF.out] at h; omega⟩
  have HF0 := Lib.hid (HO.out.trans (if_neg (by omega))); clear HO
  have h1' : ¬ (n : Int) < 1 := by omega
  have h2' : ¬ (20 : Int) < (n : Int) := by omega
  obtain ⟨b1, o1, rfl, hbB, _⟩ := H.out.2.2 (by omega)
  go_enter Try.func6, Try.ntmps6
  go_wp2_with fail
  go_loop [4, 5, 16] (fun _ _ vi => ∃ k : Nat, k ≤ n ∧ vi = .int .i64 k ∧ newK (ns.take k) (ns.drop k) = newE ns) (fun _ _ vi => n - (intOf vi).toNat)
  case atStart => exact ⟨0, by omega, rfl, HF0.out.symm⟩
  case round =>
    obtain ⟨k, hk, rfl, hall⟩ := hrel
    have HA := Lib.hid hall; clear hall
    by_cases hlt : k < n
    · obtain ⟨b2, o2, s, hae, hb2, hc2, hx⟩ := txts_at H.out hlt
      obtain ⟨rfl, rfl⟩ : b1 = b2 ∧ o1 = o2 := by injection hae with e; injection e with e1 e2; exact ⟨e1, e2⟩
      have HN := Lib.hid (show (if isName s = false then 5 else if hasS s (ns.take k) = true then 7 else newK (ns.take k ++ [s]) (ns.drop (k + 1))) = newE ns by rw [← HA.out, drop_row hx, newK_cons])
      have HXS := Lib.hid (HSZ.out s (List.mem_of_getElem? hx))
      have HT := Lib.hid (show ns.take (k + 1) = ns.take k ++ [s] by
        obtain ⟨hl, rfl⟩ := List.getElem?_eq_some_iff.1 hx
        exact List.take_succ_eq_append_getElem hl)
      have HTK := Lib.hid (H.out.take (show k ≤ n by omega))
      clear hx HA hae
      rcases Bool.eq_false_or_eq_true (isName s) with hn | hn
      case inr =>
        have HF := Lib.hid (show newE ns = 5 by have := HN.out; rw [if_pos hn] at this; exact this.symm)
        go_wp2_with (go_at_call 24; refine (rule_IsName _ _ HXS.out).mono ?_; rw [hn]; rintro e w1 ⟨rfl, rfl⟩)
        go_ret2
        exact ⟨.pointer none, by rw [HF.out]; rfl, Below.refl _ _, fun h => by rw [HF.out] at h; omega⟩
      have HN2 := Lib.hid (show (if hasS s (ns.take k) = true then 7 else newK (ns.take k ++ [s]) (ns.drop (k + 1))) = newE ns by have := HN.out; rwa [if_neg (by rw [hn]; simp)] at this)
      clear HN
      go_wp2_with (go_at_call 24; refine (rule_IsName _ _ HXS.out).mono ?_; rw [hn]; rintro e w1 ⟨rfl, rfl⟩)
      clear hn
      refine (str_Contains _ _ _ _ _ s _ HTK.out (Nat.le_refl _)).mono ?_
      rcases Bool.eq_false_or_eq_true (hasS s (ns.take k)) with hh | hh
      · have HF := Lib.hid (show newE ns = 7 by have := HN2.out; rw [if_pos hh] at this; exact this.symm)
        rw [hh]
        rintro e w1 ⟨rfl, rfl⟩
        go_wp2_with fail
        go_ret2
        exact ⟨.pointer none, by rw [HF.out]; rfl, Below.refl _ _, fun h => by rw [HF.out] at h; omega⟩
      · have HN3 := Lib.hid (show newK (ns.take (k + 1)) (ns.drop (k + 1)) = newE ns by have := HN2.out; rw [if_neg (by rw [hh]; simp)] at this; rw [HT.out]; exact this)
        rw [hh]
        rintro e w1 ⟨rfl, rfl⟩
        go_wp2_with fail
        go_round
        case rel => exact ⟨k + 1, by omega, by go_num, HN3.out⟩
        case measure => first | (simp [intOf]; done) | (simp [intOf]; omega)
    · have HE := Lib.hid (show newE ns = 0 by rw [← HA.out, List.drop_eq_nil_of_le (by have := L1.out; omega)]; rfl)
      go_upto_region 11 with fail
      clear HA HF0
      have hmk := fun W => make_rows n h2 W
      go_region_law
        (first
          | (rw [if_pos (by rfl)]; go_simp; go_at_call 25; refine (clone_strs w.drew ⟨b1, o1, none⟩ n c ns H.out (by omega) (by omega)).mono ?_; rintro e w4 ⟨v', rfl, own4, hb4⟩; (obtain ⟨gn, cn, rfl, hgn, htx⟩ := own_txts own4 L1.out (by omega)))
          | (rw [if_pos (by rfl)]; go_simp; go_at_call 25; refine (clone_strs _ ⟨b1, o1, none⟩ n c ns (txts_then H.out (below_new (Below.refl w.heap.size w).drew _)) (by omega) (by omega)).mono ?_; rintro e w4 ⟨v', rfl, own4, hb4⟩; (obtain ⟨gn, cn, rfl, hgn, htx⟩ := own_txts own4 L1.out (by omega))))
      · have hs4 := hb4.size
        have hgl : gn < w4.heap.size := by obtain ⟨_, _, _, e, hb, _⟩ := txts_at htx (k := 0) (by omega); injection e with e; injection e with e1 e2; omega
        have B4 := Lib.hid (below_new (below_new (show Below w.heap.size w w4 from (Below.refl w.heap.size w).drew.trans hb4) (.cells (madeCells (Value.slice none 0 0).cells n) 33)) (.cells #[.slice (some ⟨gn, 0, none⟩) n cn, .slice (some ⟨w4.heap.size, 0, none⟩) n n] 61))
        have TX := Lib.hid (txts_then htx (below_new (below_new (Below.refl w4.heap.size w4) (.cells (madeCells (Value.slice none 0 0).cells n) 33)) (.cells #[.slice (some ⟨gn, 0, none⟩) n cn, .slice (some ⟨w4.heap.size, 0, none⟩) n n] 61)))
        have A1 := Lib.hid ((At.new w4 (.cells (madeCells (Value.slice none 0 0).cells n) 33)).alloc (.cells #[.slice (some ⟨gn, 0, none⟩) n cn, .slice (some ⟨w4.heap.size, 0, none⟩) n n] 61))
        have A2 := Lib.hid (At.new1 w4 (.cells (madeCells (Value.slice none 0 0).cells n) 33) (.cells #[.slice (some ⟨gn, 0, none⟩) n cn, .slice (some ⟨w4.heap.size, 0, none⟩) n n] 61))
        have hgn' : w.heap.size ≤ gn := hgn
        have hs4' : w.heap.size ≤ w4.heap.size := hs4
        clear own4 htx hb4
        go_wp2_with fail
        go_ret2
        exact ⟨.pointer (some ⟨w4.heap.size + 1, 0, none⟩), by rw [HE.out]; rfl, B4.out, fun _ => ⟨w4.heap.size + 1, gn, w4.heap.size, cn, rfl, by omega, hgn', hs4', by omega, by rw [L1.out]; exact A2.out, by rw [L1.out]; exact TX.out, by rw [L1.out]; exact A1.out⟩⟩
      · have hs4 := hb4.size
        have hgl : gn < w4.heap.size := by obtain ⟨_, _, _, e, hb, _⟩ := txts_at htx (k := 0) (by omega); injection e with e; injection e with e1 e2; omega
        have hb5 : Below w.heap.size w w4 := below_then (below_new (Below.refl w.heap.size w).drew _) hb4
        have B4 := Lib.hid (below_new hb5 (.cells #[.slice (some ⟨gn, 0, none⟩) n cn, .slice (some ⟨w.heap.size, 0, none⟩) n n] 61))
        have TX := Lib.hid (txts_then htx (below_new (Below.refl w4.heap.size w4) (.cells #[.slice (some ⟨gn, 0, none⟩) n cn, .slice (some ⟨w.heap.size, 0, none⟩) n n] 61)))
        have A1 := Lib.hid (((At.new w.drew (.cells (madeCells (Value.slice none 0 0).cells n) 33)).then_ hb4).alloc (.cells #[.slice (some ⟨gn, 0, none⟩) n cn, .slice (some ⟨w.heap.size, 0, none⟩) n n] 61))
        have A2 := Lib.hid (At.new w4 (.cells #[.slice (some ⟨gn, 0, none⟩) n cn, .slice (some ⟨w.heap.size, 0, none⟩) n n] 61))
        have hgn' : w.heap.size ≤ gn := by simp at hgn; omega
        have hs4' : w.heap.size + 1 ≤ w4.heap.size := by simp at hs4; omega
        clear own4 htx hb4 hb5
        go_wp2_with fail
        go_ret2
        exact ⟨.pointer (some ⟨w4.heap.size, 0, none⟩), by rw [HE.out]; rfl, B4.out, fun _ => ⟨w4.heap.size, gn, w.heap.size, cn, rfl, by omega, hgn', Nat.le_refl _, by omega, by rw [L1.out]; exact A2.out, by rw [L1.out]; exact TX.out, by rw [L1.out]; exact A1.out⟩⟩
end Go.Proofs.Ytddiicljoekhmaa
