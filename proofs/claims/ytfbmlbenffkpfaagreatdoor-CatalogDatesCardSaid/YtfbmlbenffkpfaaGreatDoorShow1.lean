import Derived.Test.YtfbmlbenffkpfaaGreatDoorShow0
import Derived.Test.YtfbmlbenffkpfaaGreatDoorTree1
import Derived.Test.YtfbmlbenffkpfaaGreatDoorTxt1
import Derived.Test.YtfbmlbenffkpfaaGreatDoorOne
import Derived.Laws.Concat
import Derived.Deep.Cut
import Derived.Outline
set_option linter.unusedSimpArgs false
namespace Go.Proofs.YtfbmlbenffkpfaaGreatDoor
set_option linter.unusedVariables false
set_option maxRecDepth 100000
open Go.RowKit Go.Shelf Num
def Lvl (w : World) : Prop := w.var? Tryz.prog "ephemeris/rule.levels" = some (lvlL.map fun z => Value.int .i64 z).toArray
def Sgn (w : World) : Prop := w.var? Tryz.prog "ephemeris/rule.signs" = some (sgnL.map fun l => Value.string ⟨l.toArray⟩).toArray
theorem Lvl.below {w w' : World} (h : Lvl w) (hb : Below w.heap.size w w') : Lvl w' := var_below h hb
theorem Sgn.below {w w' : World} (h : Sgn w) (hb : Below w.heap.size w w') : Sgn w' := var_below h hb
theorem Lvl.cell {w : World} (h : Lvl w) (i : Nat) (hi : i < 14) : w.cell? ⟨0, i, none⟩ = some (.int .i64 (lvl i)) := by
  have h0 := World.var?_cell (g := 0) (by kernel_rfl) h i
  rw [h0]
  have : i < lvlL.length := hi
  simp [lvl, this]
theorem Sgn.cell {w : World} (h : Sgn w) (i : Nat) (hi : i < 14) : w.cell? ⟨1, i, none⟩ = some (.string ⟨(sgn i).toArray⟩) := by
  have h0 := World.var?_cell (g := 1) (by kernel_rfl) h i
  rw [h0]
  have : i < sgnL.length := hi
  simp [sgn, this]
theorem arr_size (l : List UInt8) : (⟨l.toArray⟩ : ByteArray).size = l.length := by show l.toArray.size = _; simp
theorem add_list (x y z : List UInt8) (hz : x ++ y = z) (h : x.length + y.length ≤ 100000) : ∀ W, (Op.stringOp .add ⟨x.toArray⟩ ⟨y.toArray⟩).run Tryz.prog W = .ok (.string ⟨z.toArray⟩) W := fun W => by
  rw [← hz, ← ByteArray.mk_append_mk]; exact run_string_add_sum W _ _ (by rw [arr_size, arr_size]; omega)
def ShowPost (s : List UInt8) (w : World) (e : Ending) (w' : World) : Prop := e = .returned (.string ⟨s.toArray⟩) ∧ Below w.heap.size w w'
set_option maxHeartbeats 4000000 in
theorem rule_show : ∀ (t : Tree) (w : World) (a : Option Addr) (len cap : Nat) (least : Int), SubAt w w.heap.size t a len → t.ok → len ≤ cap → cap ≤ 9223372036854775807 → 0 ≤ least → least ≤ 8 → (bodyT t).length ≤ 2400 → Pow w → Lvl w → Sgn w →
    Calls Tryz.prog 74 #[.agg #[.int .i64 t.kind, .int .i64 t.num, .slice a len cap], .int .i64 least] w (ShowPost (par least t.kind (bodyT t)) w) := by
  intro t
  refine Tree.all (P := fun t => ∀ (w : World) (a : Option Addr) (len cap : Nat) (least : Int), SubAt w w.heap.size t a len → t.ok → len ≤ cap → cap ≤ 9223372036854775807 → 0 ≤ least → least ≤ 8 → (bodyT t).length ≤ 2400 → Pow w → Lvl w → Sgn w →
    Calls Tryz.prog 74 #[.agg #[.int .i64 t.kind, .int .i64 t.num, .slice a len cap], .int .i64 least] w (ShowPost (par least t.kind (bodyT t)) w)) ?_ t
  intro k m ks ih w a len cap least hsub hok hlc hcap le0 le8 hsz ht hl hs
  have IH := Lib.hid ih; clear ih
  have SL := hsub.len
  simp only [Tree.kids, Tree.kind, Tree.num] at SL ⊢
  obtain ⟨hlen, hlm, ⟨_, _⟩, m1, m2⟩ := SL
  have hok' := Tree.ok_node.1 hok
  have hnb := hok'.1
  have hkid := bodyT_kid hnb
  obtain ⟨k1, k2⟩ := nodeB_kind' hnb
  have hops := (nodeB_len hnb).2
  rw [hlen] at hops
  obtain ⟨v0, v1, v2⟩ := lvl_in k1 k2
  have HSZ := Lib.hid hsz
  have hkn : k = 1 ∨ k = 2 ∨ k = 3 ∨ k = 11 ∨ (k ≠ 1 ∧ k ≠ 2 ∧ k ≠ 3 ∧ k ≠ 11) := by omega
  rcases hkn with rfl | rfl | rfl | rfl | ⟨n1, n2, n3, n4⟩
  · -- a number
    have o0 := One.new w (.cells #[.int .i64 1, .int .i64 m, .slice a len cap] 92)
    have c0 : (w.alloc (.cells #[.int .i64 1, .int .i64 m, .slice a len cap] 92)).cell? ⟨0, 1, none⟩ = some (.int .i64 (lvl 1)) := (hl.below o0.2).cell 1 (by omega)
    have gz : 0 < w.heap.size := World.block_lt_of_cell? _ _ (hl.cell 0 (by omega))
    have HS := Lib.hid hs; have HL := Lib.hid hl; have HT := Lib.hid ht
    have HSUB := Lib.hid hsub; have HOK := Lib.hid hok'.2; have HKID := Lib.hid hkid; have HLEN := Lib.hid hlen
    clear hs hl ht hsub hok hok' hkid hlen hnb hsz
    obtain ⟨lv, hlv⟩ : ∃ lv, lv = lvl 1 := ⟨_, rfl⟩
    rw [← hlv] at c0 v0 v1
    have HLV := Lib.hid hlv; clear hlv
    obtain ⟨B, hB⟩ : ∃ B, B = bodyT (.node 1 m ks) := ⟨_, rfl⟩
    rw [← hB] at HSZ ⊢
    have HB := Lib.hid hB; clear hB
    have hsz := HSZ.out
    obtain ⟨R, hR⟩ : ∃ R, R = par least 1 B := ⟨_, rfl⟩
    rw [← hR]
    have O0 := Lib.hid o0; clear o0
    have e1 := add_list [40] B (40 :: B) rfl (by simp; omega)
    have e2 := add_list (40 :: B) [41] (40 :: (B ++ [41])) rfl (by simp; omega)
    have HSZ2 := HSZ
    clear HSZ hsz
    have HR : (lv < least ∧ Hid (R = 40 :: (B ++ [41]))) ∨ (least ≤ lv ∧ Hid (R = B)) := by
      by_cases h : lv < least
      · exact .inl ⟨h, by rw [hR]; unfold par; rw [← HLV.out, if_pos h]; rfl⟩
      · exact .inr ⟨by omega, by rw [hR]; unfold par; rw [← HLV.out, if_neg h]; rfl⟩
    clear hR
    have hl0 : len = 0 := hops
    clear hops
    subst hl0
    obtain rfl : ks = [] := List.length_eq_zero_iff.1 HLEN.out
    have HBB := Lib.hid (show B = Lib.itoa m by rw [HB.out, bodyT_0]; rfl)
    have hbs : (⟨B.toArray⟩ : ByteArray) = itoaS m := by rw [HBB.out]; rfl
    have HBS := Lib.hid hbs
    clear HBB hbs
    rcases HR with ⟨h, HR⟩ | ⟨h, HR⟩
    all_goals
      go_enter Tryz.func74, Tryz.ntmps74
      go_wp2_with fail
      generalize World.alloc w _ = W0 at O0 c0 ⊢
      refine (lib_Itoa m _ m1 m2 (HT.out.below O0.out.2)).mono ?_
      rw [← HBS.out]
      rintro e w1 ⟨rfl, hb⟩
      have O1 := Lib.hid (O0.out.step hb); clear hb
      go_wp2_with fail
      go_ret
      exact ⟨by rw [HR.out]; rfl, O1.out.2⟩
  · -- the year
    have o0 := One.new w (.cells #[.int .i64 2, .int .i64 m, .slice a len cap] 92)
    have c0 : (w.alloc (.cells #[.int .i64 2, .int .i64 m, .slice a len cap] 92)).cell? ⟨0, 2, none⟩ = some (.int .i64 (lvl 2)) := (hl.below o0.2).cell 2 (by omega)
    have gz : 0 < w.heap.size := World.block_lt_of_cell? _ _ (hl.cell 0 (by omega))
    have HS := Lib.hid hs; have HL := Lib.hid hl; have HT := Lib.hid ht
    have HSUB := Lib.hid hsub; have HOK := Lib.hid hok'.2; have HKID := Lib.hid hkid; have HLEN := Lib.hid hlen
    clear hs hl ht hsub hok hok' hkid hlen hnb hsz
    obtain ⟨lv, hlv⟩ : ∃ lv, lv = lvl 2 := ⟨_, rfl⟩
    rw [← hlv] at c0 v0 v1
    have HLV := Lib.hid hlv; clear hlv
    obtain ⟨B, hB⟩ : ∃ B, B = bodyT (.node 2 m ks) := ⟨_, rfl⟩
    rw [← hB] at HSZ ⊢
    have HB := Lib.hid hB; clear hB
    have hsz := HSZ.out
    obtain ⟨R, hR⟩ : ∃ R, R = par least 2 B := ⟨_, rfl⟩
    rw [← hR]
    have O0 := Lib.hid o0; clear o0
    have e1 := add_list [40] B (40 :: B) rfl (by simp; omega)
    have e2 := add_list (40 :: B) [41] (40 :: (B ++ [41])) rfl (by simp; omega)
    have HSZ2 := HSZ
    clear HSZ hsz
    have HR : (lv < least ∧ Hid (R = 40 :: (B ++ [41]))) ∨ (least ≤ lv ∧ Hid (R = B)) := by
      by_cases h : lv < least
      · exact .inl ⟨h, by rw [hR]; unfold par; rw [← HLV.out, if_pos h]; rfl⟩
      · exact .inr ⟨by omega, by rw [hR]; unfold par; rw [← HLV.out, if_neg h]; rfl⟩
    clear hR
    have hl0 : len = 0 := hops
    clear hops
    subst hl0
    obtain rfl : ks = [] := List.length_eq_zero_iff.1 HLEN.out
    have hbb : B = [121] := by rw [HB.out, bodyT_0]; rfl
    subst hbb
    rcases HR with ⟨h, HR⟩ | ⟨h, HR⟩
    all_goals
      go_enter Tryz.func74, Tryz.ntmps74
      go_wp2_with fail
      go_ret
      exact ⟨by rw [HR.out]; rfl, O0.out.2⟩
  · -- a negation
    have o0 := One.new w (.cells #[.int .i64 3, .int .i64 m, .slice a len cap] 92)
    have c0 : (w.alloc (.cells #[.int .i64 3, .int .i64 m, .slice a len cap] 92)).cell? ⟨0, 3, none⟩ = some (.int .i64 (lvl 3)) := (hl.below o0.2).cell 3 (by omega)
    have gz : 0 < w.heap.size := World.block_lt_of_cell? _ _ (hl.cell 0 (by omega))
    have HS := Lib.hid hs; have HL := Lib.hid hl; have HT := Lib.hid ht
    have HSUB := Lib.hid hsub; have HOK := Lib.hid hok'.2; have HKID := Lib.hid hkid; have HLEN := Lib.hid hlen
    clear hs hl ht hsub hok hok' hkid hlen hnb hsz
    obtain ⟨lv, hlv⟩ : ∃ lv, lv = lvl 3 := ⟨_, rfl⟩
    rw [← hlv] at c0 v0 v1
    have HLV := Lib.hid hlv; clear hlv
    obtain ⟨B, hB⟩ : ∃ B, B = bodyT (.node 3 m ks) := ⟨_, rfl⟩
    rw [← hB] at HSZ ⊢
    have HB := Lib.hid hB; clear hB
    have hsz := HSZ.out
    obtain ⟨R, hR⟩ : ∃ R, R = par least 3 B := ⟨_, rfl⟩
    rw [← hR]
    have O0 := Lib.hid o0; clear o0
    have e1 := add_list [40] B (40 :: B) rfl (by simp; omega)
    have e2 := add_list (40 :: B) [41] (40 :: (B ++ [41])) rfl (by simp; omega)
    have HSZ2 := HSZ
    clear HSZ hsz
    have HR : (lv < least ∧ Hid (R = 40 :: (B ++ [41]))) ∨ (least ≤ lv ∧ Hid (R = B)) := by
      by_cases h : lv < least
      · exact .inl ⟨h, by rw [hR]; unfold par; rw [← HLV.out, if_pos h]; rfl⟩
      · exact .inr ⟨by omega, by rw [hR]; unfold par; rw [← HLV.out, if_neg h]; rfl⟩
    clear hR
    have hl0 : len = 1 := hops
    clear hops
    subst hl0
    obtain ⟨b, off, rfl, hbB, hcs⟩ := HSUB.out.kid (by omega)
    obtain ⟨k', m', ks', a', n', cc, hc0, hc1, hc2, hx, q1, q2, hk⟩ := hcs 0 (by omega)
    simp only [Nat.zero_mul, Nat.add_zero] at hc0 hc1 hc2
    obtain ⟨t', rfl⟩ : ∃ t', ks = [t'] := by
      have := HLEN.out
      match ks, this with
      | [x], _ => exact ⟨x, rfl⟩
    obtain rfl : t' = .node k' m' ks' := by simpa using hx
    have hmem : Tree.node k' m' ks' ∈ [Tree.node k' m' ks'] := by simp
    have HCALL := Lib.hid (fun (W : World) (hb : Below w.heap.size w W) => IH.out _ hmem W a' n' cc lv ((hk.below hb (Nat.le_refl _)).more hb.size) (HOK.out _ hmem) q1 q2 (by omega) (by omega) (Nat.le_trans (HKID.out _ hmem) (by rw [← HB.out]; exact HSZ2.out)) (HT.out.below hb) (HL.out.below hb) (HS.out.below hb))
    obtain ⟨K, hK⟩ : ∃ K, K = par lv k' (bodyT (.node k' m' ks')) := ⟨_, rfl⟩
    have hbb : [45] ++ K = B := by rw [HB.out, bodyT_1, hK, HLV.out]; rfl
    have hkz : K.length ≤ 2400 := by have h1 := HSZ2.out; rw [← hbb] at h1; simp at h1; omega
    have u1 := add_list [45] K B hbb (by simp; omega)
    have HK := Lib.hid hK
    clear hcs hx hk hmem hK hbb hkz
    have hz : b < (w.alloc (.cells #[.int .i64 3, .int .i64 m, .slice (some ⟨b, off, none⟩) 1 cap] 92)).heap.size := by have := O0.out.2.size; omega
    have y0 := (O0.out.2.cell (p := ⟨b, off, none⟩) hbB).trans hc0
    have y1 := (O0.out.2.cell (p := ⟨b, off + 1, none⟩) hbB).trans hc1
    have y2 := (O0.out.2.cell (p := ⟨b, off + 2, none⟩) hbB).trans hc2
    rcases HR with ⟨h, HR⟩ | ⟨h, HR⟩
    all_goals
      go_enter Tryz.func74, Tryz.ntmps74
      go_wp2_with fail
      generalize World.alloc w _ = W0 at O0 c0 y0 y1 y2 hz ⊢
      refine (HCALL.out W0 O0.out.2).mono ?_
      unfold ShowPost
      simp only [Tree.kind]
      rw [← HK.out]
      rintro e w1 ⟨rfl, hb⟩
      have O1 := Lib.hid (O0.out.step hb); clear hb
      go_wp2_with fail
      go_ret
      exact ⟨by rw [HR.out]; rfl, O1.out.2⟩
  · -- a not
    have o0 := One.new w (.cells #[.int .i64 11, .int .i64 m, .slice a len cap] 92)
    have c0 : (w.alloc (.cells #[.int .i64 11, .int .i64 m, .slice a len cap] 92)).cell? ⟨0, 11, none⟩ = some (.int .i64 (lvl 11)) := (hl.below o0.2).cell 11 (by omega)
    have gz : 0 < w.heap.size := World.block_lt_of_cell? _ _ (hl.cell 0 (by omega))
    have HS := Lib.hid hs; have HL := Lib.hid hl; have HT := Lib.hid ht
    have HSUB := Lib.hid hsub; have HOK := Lib.hid hok'.2; have HKID := Lib.hid hkid; have HLEN := Lib.hid hlen
    clear hs hl ht hsub hok hok' hkid hlen hnb hsz
    obtain ⟨lv, hlv⟩ : ∃ lv, lv = lvl 11 := ⟨_, rfl⟩
    rw [← hlv] at c0 v0 v1
    have HLV := Lib.hid hlv; clear hlv
    obtain ⟨B, hB⟩ : ∃ B, B = bodyT (.node 11 m ks) := ⟨_, rfl⟩
    rw [← hB] at HSZ ⊢
    have HB := Lib.hid hB; clear hB
    have hsz := HSZ.out
    obtain ⟨R, hR⟩ : ∃ R, R = par least 11 B := ⟨_, rfl⟩
    rw [← hR]
    have O0 := Lib.hid o0; clear o0
    have e1 := add_list [40] B (40 :: B) rfl (by simp; omega)
    have e2 := add_list (40 :: B) [41] (40 :: (B ++ [41])) rfl (by simp; omega)
    have HSZ2 := HSZ
    clear HSZ hsz
    have HR : (lv < least ∧ Hid (R = 40 :: (B ++ [41]))) ∨ (least ≤ lv ∧ Hid (R = B)) := by
      by_cases h : lv < least
      · exact .inl ⟨h, by rw [hR]; unfold par; rw [← HLV.out, if_pos h]; rfl⟩
      · exact .inr ⟨by omega, by rw [hR]; unfold par; rw [← HLV.out, if_neg h]; rfl⟩
    clear hR
    have hl0 : len = 1 := hops
    clear hops
    subst hl0
    obtain ⟨b, off, rfl, hbB, hcs⟩ := HSUB.out.kid (by omega)
    obtain ⟨k', m', ks', a', n', cc, hc0, hc1, hc2, hx, q1, q2, hk⟩ := hcs 0 (by omega)
    simp only [Nat.zero_mul, Nat.add_zero] at hc0 hc1 hc2
    obtain ⟨t', rfl⟩ : ∃ t', ks = [t'] := by
      have := HLEN.out
      match ks, this with
      | [x], _ => exact ⟨x, rfl⟩
    obtain rfl : t' = .node k' m' ks' := by simpa using hx
    have hmem : Tree.node k' m' ks' ∈ [Tree.node k' m' ks'] := by simp
    have HCALL := Lib.hid (fun (W : World) (hb : Below w.heap.size w W) => IH.out _ hmem W a' n' cc lv ((hk.below hb (Nat.le_refl _)).more hb.size) (HOK.out _ hmem) q1 q2 (by omega) (by omega) (Nat.le_trans (HKID.out _ hmem) (by rw [← HB.out]; exact HSZ2.out)) (HT.out.below hb) (HL.out.below hb) (HS.out.below hb))
    obtain ⟨K, hK⟩ : ∃ K, K = par lv k' (bodyT (.node k' m' ks')) := ⟨_, rfl⟩
    have hbb : [110, 111, 116, 32] ++ K = B := by rw [HB.out, bodyT_1, hK, HLV.out]; rfl
    have hkz : K.length ≤ 2400 := by have h1 := HSZ2.out; rw [← hbb] at h1; simp at h1; omega
    have u1 := add_list [110, 111, 116, 32] K B hbb (by simp; omega)
    have HK := Lib.hid hK
    clear hcs hx hk hmem hK hbb hkz
    have hz : b < (w.alloc (.cells #[.int .i64 11, .int .i64 m, .slice (some ⟨b, off, none⟩) 1 cap] 92)).heap.size := by have := O0.out.2.size; omega
    have y0 := (O0.out.2.cell (p := ⟨b, off, none⟩) hbB).trans hc0
    have y1 := (O0.out.2.cell (p := ⟨b, off + 1, none⟩) hbB).trans hc1
    have y2 := (O0.out.2.cell (p := ⟨b, off + 2, none⟩) hbB).trans hc2
    rcases HR with ⟨h, HR⟩ | ⟨h, HR⟩
    all_goals
      go_enter Tryz.func74, Tryz.ntmps74
      go_wp2_with fail
      generalize World.alloc w _ = W0 at O0 c0 y0 y1 y2 hz ⊢
      refine (HCALL.out W0 O0.out.2).mono ?_
      unfold ShowPost
      simp only [Tree.kind]
      rw [← HK.out]
      rintro e w1 ⟨rfl, hb⟩
      have O1 := Lib.hid (O0.out.step hb); clear hb
      go_wp2_with fail
      go_ret
      exact ⟨by rw [HR.out]; rfl, O1.out.2⟩
  · -- two operands
    have hl0 : len = 2 := by rw [hops]; exact opsOf_2 (by omega) (by omega)
    clear hops
    obtain ⟨kn, rfl⟩ : ∃ i : Nat, k = (i : Int) := ⟨k.toNat, by omega⟩
    have o0 := One.new w (.cells #[.int .i64 (kn : Int), .int .i64 m, .slice a len cap] 92)
    have c0 : (w.alloc (.cells #[.int .i64 (kn : Int), .int .i64 m, .slice a len cap] 92)).cell? ⟨0, kn, none⟩ = some (.int .i64 (lvl (kn : Int))) := (hl.below o0.2).cell kn (by omega)
    have gz : 0 < w.heap.size := World.block_lt_of_cell? _ _ (hl.cell 0 (by omega))
    have HS := Lib.hid hs; have HL := Lib.hid hl; have HT := Lib.hid ht
    have HSUB := Lib.hid hsub; have HOK := Lib.hid hok'.2; have HKID := Lib.hid hkid; have HLEN := Lib.hid hlen
    clear hs hl ht hsub hok hok' hkid hlen hnb hsz
    obtain ⟨lv, hlv⟩ : ∃ lv, lv = lvl (kn : Int) := ⟨_, rfl⟩
    rw [← hlv] at c0 v0 v1
    have HLV := Lib.hid hlv; clear hlv
    obtain ⟨B, hB⟩ : ∃ B, B = bodyT (.node (kn : Int) m ks) := ⟨_, rfl⟩
    rw [← hB] at HSZ ⊢
    have HB := Lib.hid hB; clear hB
    have hsz := HSZ.out
    obtain ⟨R, hR⟩ : ∃ R, R = par least (kn : Int) B := ⟨_, rfl⟩
    rw [← hR]
    have O0 := Lib.hid o0; clear o0
    have e1 := add_list [40] B (40 :: B) rfl (by simp; omega)
    have e2 := add_list (40 :: B) [41] (40 :: (B ++ [41])) rfl (by simp; omega)
    have HSZ2 := HSZ
    clear HSZ hsz
    have HR : (lv < least ∧ Hid (R = 40 :: (B ++ [41]))) ∨ (least ≤ lv ∧ Hid (R = B)) := by
      by_cases h : lv < least
      · exact .inl ⟨h, by rw [hR]; unfold par; rw [← HLV.out, if_pos h]; rfl⟩
      · exact .inr ⟨by omega, by rw [hR]; unfold par; rw [← HLV.out, if_neg h]; rfl⟩
    clear hR
    subst hl0
    obtain ⟨b, off, rfl, hbB, hcs⟩ := HSUB.out.kid (by omega)
    obtain ⟨p0, m0, ks0, a0, n0, cc0, hc0, hc1, hc2, hx0, q1, q2, hk0⟩ := hcs 0 (by omega)
    obtain ⟨p1, m1', ks1, a1, n1', cc1, hd0, hd1, hd2, hx1, r1, r2, hk1⟩ := hcs 1 (by omega)
    simp only [Nat.zero_mul, Nat.add_zero, Nat.one_mul] at hc0 hc1 hc2 hd0 hd1 hd2
    obtain ⟨t0, t1, rfl⟩ : ∃ t0 t1, ks = [t0, t1] := by
      have := HLEN.out
      match ks, this with
      | [x, y], _ => exact ⟨x, y, rfl⟩
    obtain rfl : t0 = .node p0 m0 ks0 := by simpa using hx0
    obtain rfl : t1 = .node p1 m1' ks1 := by simpa using hx1
    have hm0 : Tree.node p0 m0 ks0 ∈ [Tree.node p0 m0 ks0, Tree.node p1 m1' ks1] := by simp
    have hm1 : Tree.node p1 m1' ks1 ∈ [Tree.node p0 m0 ks0, Tree.node p1 m1' ks1] := by simp
    obtain ⟨fs, hfs⟩ : ∃ fs, fs = fst2 kn := ⟨_, rfl⟩
    have hfs' : fs = if lv = 3 then lv + 1 else lv := by rw [hfs, HLV.out]; rfl
    have hfb : 0 ≤ fs ∧ fs ≤ 8 := by rw [hfs']; split <;> omega
    obtain ⟨K0, hK0⟩ : ∃ K, K = par fs p0 (bodyT (.node p0 m0 ks0)) := ⟨_, rfl⟩
    obtain ⟨K1, hK1⟩ : ∃ K, K = par (lv + 1) p1 (bodyT (.node p1 m1' ks1)) := ⟨_, rfl⟩
    have C0 : ∀ W, One w (.cells #[.int .i64 (kn : Int), .int .i64 m, .slice (some ⟨b, off, none⟩) 2 cap] 92) W → Calls Tryz.prog 74 #[.agg #[.int .i64 p0, .int .i64 m0, .slice a0 n0 cc0], .int .i64 fs] W fun e w' => e = .returned (.string ⟨K0.toArray⟩) ∧ Below W.heap.size W w' := fun W h => by
      rw [hK0]
      exact IH.out _ hm0 W a0 n0 cc0 fs ((hk0.below h.2 (Nat.le_refl _)).more h.2.size) (HOK.out _ hm0) q1 q2 hfb.1 hfb.2 (Nat.le_trans (HKID.out _ hm0) (by rw [← HB.out]; exact HSZ2.out)) (HT.out.below h.2) (HL.out.below h.2) (HS.out.below h.2)
    have C1 : ∀ W, One w (.cells #[.int .i64 (kn : Int), .int .i64 m, .slice (some ⟨b, off, none⟩) 2 cap] 92) W → Calls Tryz.prog 74 #[.agg #[.int .i64 p1, .int .i64 m1', .slice a1 n1' cc1], .int .i64 (lv + 1)] W fun e w' => e = .returned (.string ⟨K1.toArray⟩) ∧ Below W.heap.size W w' := fun W h => by
      rw [hK1]
      exact IH.out _ hm1 W a1 n1' cc1 (lv + 1) ((hk1.below h.2 (Nat.le_refl _)).more h.2.size) (HOK.out _ hm1) r1 r2 (by omega) (by omega) (Nat.le_trans (HKID.out _ hm1) (by rw [← HB.out]; exact HSZ2.out)) (HT.out.below h.2) (HL.out.below h.2) (HS.out.below h.2)
    have hbb : K0 ++ (32 :: (sgn kn ++ (32 :: K1))) = B := by rw [HB.out, bodyT_2, hK0, hK1, ← hfs, HLV.out]; rfl
    have hkz := HSZ2.out
    rw [← hbb] at hkz
    simp only [List.length_append, List.length_cons] at hkz
    obtain ⟨T1, hT1⟩ : ∃ T, T = K0 ++ [32] := ⟨_, rfl⟩
    obtain ⟨T2, hT2⟩ : ∃ T, T = T1 ++ sgn kn := ⟨_, rfl⟩
    obtain ⟨T3, hT3⟩ : ∃ T, T = T2 ++ [32] := ⟨_, rfl⟩
    have u1 := add_list K0 [32] T1 hT1.symm (by simp; omega)
    have u2 := add_list T1 (sgn kn) T2 hT2.symm (by rw [hT1]; simp; omega)
    have u3 := add_list T2 [32] T3 hT3.symm (by rw [hT2, hT1]; simp; omega)
    have u4 := add_list T3 K1 B (by rw [← hbb, hT3, hT2, hT1]; simp) (by rw [hT3, hT2, hT1]; simp; omega)
    clear hT1 hT2 hT3
    have G1 := Lib.hid (fun (W : World) (h : Below w.heap.size w W) => (HS.out.below h).cell kn (by omega))
    have gz1 : 1 < w.heap.size := World.block_lt_of_cell? _ _ (HS.out.cell 0 (by omega))
    have C0 := Lib.hid C0; have C1 := Lib.hid C1
    clear hcs hx0 hx1 hk0 hk1 hm0 hm1 hK0 hK1 hbb hkz hfs hfb
    have KC := Lib.hid (fun (W : World) (h : Below w.heap.size w W) => And.intro ((h.cell (p := ⟨b, off, none⟩) hbB).trans hc0) (And.intro ((h.cell (p := ⟨b, off + 1, none⟩) hbB).trans hc1) (And.intro ((h.cell (p := ⟨b, off + 2, none⟩) hbB).trans hc2) (And.intro ((h.cell (p := ⟨b, off + 3, none⟩) hbB).trans hd0) (And.intro ((h.cell (p := ⟨b, off + 3 + 1, none⟩) hbB).trans hd1) ((h.cell (p := ⟨b, off + 3 + 2, none⟩) hbB).trans hd2))))))
    clear hc0 hc1 hc2 hd0 hd1 hd2
    have nn1 : ((kn : Int) == 1) = false := by simp; omega
    have nn2 : ((kn : Int) == 2) = false := by simp; omega
    have nn3 : ((kn : Int) == 3) = false := by simp; omega
    have nn4 : ((kn : Int) == 11) = false := by simp; omega
    have IX := Lib.hid (show kn < 14 by omega)
    have iw : IntKind.i64.wrap (lv + 1) = lv + 1 := IntWalk.i64_in _ (by omega)
    by_cases h3 : lv = 3
    · rw [if_pos h3] at hfs'
      subst hfs'
      have h3b : (lv == 3) = true := by simpa using h3
      clear h3 n1 n2 n3 n4
      go_enter Tryz.func74, Tryz.ntmps74
      go_upto_region 7 with (fail)
      have o1 := O0.out
      (refine region_class (One w (.cells #[.int .i64 (kn : Int), .int .i64 m, .slice (some ⟨b, off, none⟩) 2 cap] 92)) (by kernel_rfl) (by kernel_rfl) (o1.drew) ?_; repeat ((first | (refine class_take ?_ (by rfl) ?_ ?_; rotate_left; focus (intro wq hq; ((obtain ⟨y0, y1, y2, y3, y4, y5⟩ := KC.out wq hq.2; have x0 : wq.cell? ⟨w.heap.size, 0, none⟩ = some (.int .i64 (kn : Int)) := hq.1.cell 0; have x2 : wq.cell? ⟨w.heap.size, 2, none⟩ = some (.slice (some ⟨b, off, none⟩) 2 cap) := hq.1.cell 2; have s1 := G1.out wq hq.2; have hbz : b < wq.heap.size := (by have := hq.2.size; omega); have ix := IX.out; have ix2 : (kn : Int) < 14 := by omega)); go_simp; first | done | with_reducible rfl | ((go_at_call 74; (first | (with_reducible refine (C0.out _ hq).mono ?_) | (with_reducible refine (C1.out _ hq).mono ?_)); rintro e w' ⟨rfl, hb⟩; refine ⟨?_, hq.step hb⟩; with_reducible rfl)))) | refine class_skip (by rfl) ?_); try simp only [Act.put, List.setIfInBounds_toArray, List.set_cons_zero, List.set_cons_succ]))
      refine wpQuiet_nil ?_
      intro W2 hW2
      clear o1 O0 iw
      have O2 := Lib.hid hW2; clear hW2 u1 u2 u3 u4
      rcases HR with ⟨h, HR⟩ | ⟨h, HR⟩
      all_goals
        go_wp2_with fail
        go_ret
        exact ⟨by rw [HR.out]; rfl, O2.out.2⟩
    · rw [if_neg h3] at hfs'
      subst hfs'
      have h3b : (fs == 3) = false := by simpa using h3
      clear h3 n1 n2 n3 n4
      go_enter Tryz.func74, Tryz.ntmps74
      go_upto_region 7 with (fail)
      have o1 := O0.out
      (refine region_class (One w (.cells #[.int .i64 (kn : Int), .int .i64 m, .slice (some ⟨b, off, none⟩) 2 cap] 92)) (by kernel_rfl) (by kernel_rfl) (o1.drew) ?_; repeat ((first | (refine class_take ?_ (by rfl) ?_ ?_; rotate_left; focus (intro wq hq; ((obtain ⟨y0, y1, y2, y3, y4, y5⟩ := KC.out wq hq.2; have x0 : wq.cell? ⟨w.heap.size, 0, none⟩ = some (.int .i64 (kn : Int)) := hq.1.cell 0; have x2 : wq.cell? ⟨w.heap.size, 2, none⟩ = some (.slice (some ⟨b, off, none⟩) 2 cap) := hq.1.cell 2; have s1 := G1.out wq hq.2; have hbz : b < wq.heap.size := (by have := hq.2.size; omega); have ix := IX.out; have ix2 : (kn : Int) < 14 := by omega)); go_simp; first | done | with_reducible rfl | ((go_at_call 74; (first | (with_reducible refine (C0.out _ hq).mono ?_) | (with_reducible refine (C1.out _ hq).mono ?_)); rintro e w' ⟨rfl, hb⟩; refine ⟨?_, hq.step hb⟩; with_reducible rfl)))) | refine class_skip (by rfl) ?_); try simp only [Act.put, List.setIfInBounds_toArray, List.set_cons_zero, List.set_cons_succ]))
      refine wpQuiet_nil ?_
      intro W2 hW2
      clear o1 O0 iw
      have O2 := Lib.hid hW2; clear hW2 u1 u2 u3 u4
      rcases HR with ⟨h, HR⟩ | ⟨h, HR⟩
      all_goals
        go_wp2_with fail
        go_ret
        exact ⟨by rw [HR.out]; rfl, O2.out.2⟩
end Go.Proofs.YtfbmlbenffkpfaaGreatDoor
