/- Contracts of the reference's rank, sign, inner, ExprText: the text of an expression. -/
import Derived.Test.YtjjmbnflhldoeabDoorShow1
namespace Go.Proofs.YtjjmbnflhldoeabDoor
set_option linter.unusedVariables false
set_option maxRecDepth 100000
open Go.RowKit Go.Shelf Num

theorem ref_rank (k : Int) (w : World) (h1 : 1 ≤ k) (h2 : k ≤ 13) : Calls Tryd.prog 53 #[.int .i64 k] w fun e w' => e = .returned (.int .i64 (lvl k + 1)) ∧ w = w' := by
  have hk : k = 1 ∨ k = 2 ∨ k = 3 ∨ k = 4 ∨ k = 5 ∨ k = 6 ∨ k = 7 ∨ k = 8 ∨ k = 9 ∨ k = 10 ∨ k = 11 ∨ k = 12 ∨ k = 13 := by omega
  rcases hk with rfl | rfl | rfl | rfl | rfl | rfl | rfl | rfl | rfl | rfl | rfl | rfl | rfl
  all_goals
    clear h1 h2
    go_enter Tryd.func53, Tryd.ntmps53
    go_wp2_with fail
    go_ret
    exact ⟨rfl, rfl⟩
set_option maxHeartbeats 4000000 in
theorem ref_sign (k : Int) (w : World) (h1 : 1 ≤ k) (h2 : k ≤ 13) : Calls Tryd.prog 55 #[.int .i64 k] w fun e w' => e = .returned (.string ⟨(sgn k).toArray⟩) ∧ Below w.heap.size w w' := by
  have hk : k = 1 ∨ k = 2 ∨ k = 3 ∨ k = 4 ∨ k = 5 ∨ k = 6 ∨ k = 7 ∨ k = 8 ∨ k = 9 ∨ k = 10 ∨ k = 11 ∨ k = 12 ∨ k = 13 := by omega
  have hb := Lib.hid (below_new (Below.refl w.heap.size w) (.cells #[.string ⟨#[]⟩, .string ⟨#[]⟩, .string ⟨#[]⟩, .string ⟨#[]⟩, .string ⟨#[43]⟩, .string ⟨#[45]⟩, .string ⟨#[42]⟩, .string ⟨#[47]⟩, .string ⟨#[37]⟩, .string ⟨#[60]⟩, .string ⟨#[61]⟩, .string ⟨#[]⟩, .string ⟨#[97, 110, 100]⟩, .string ⟨#[111, 114]⟩] 9))
  rcases hk with rfl | rfl | rfl | rfl | rfl | rfl | rfl | rfl | rfl | rfl | rfl | rfl | rfl
  all_goals
    clear h1 h2
    go_enter Tryd.func55, Tryd.ntmps55
    go_wp2_with fail
    go_ret
    exact ⟨rfl, by first | exact hb.out | (repeat' (first | exact Below.refl _ _ | assumption | refine Below.drew ?_ | refine below_drewN ?_ _ | refine below_new ?_ _ | refine below_set ?_ ?_ _ | refine below_then ?_ (by assumption) | refine below_drawn ?_ (by assumption) | exact Nat.le_refl _ | omega | (simp; done) | (simp; omega)))⟩
/-- What ExprText is for a tree. -/
def TextOk (t : Tree) : Prop := ∀ (w : World) (a : Option Addr) (len cap : Nat), SubAt w w.heap.size t a len → t.ok → len ≤ cap → cap ≤ 9223372036854775807 → (bodyT t).length ≤ 2400 → Pow w →
    Calls Tryd.prog 32 #[.agg #[.int .i64 t.kind, .int .i64 t.num, .slice a len cap]] w (ShowPost (bodyT t) w)
set_option maxHeartbeats 2000000 in
theorem ref_inner (k m : Int) (ks : List Tree) (hT : TextOk (.node k m ks)) (w : World) (a : Option Addr) (len cap : Nat) (least : Int) (hsub : SubAt w w.heap.size (.node k m ks) a len) (hok : (Tree.node k m ks).ok) (hlc : len ≤ cap) (hcap : cap ≤ 9223372036854775807) (hsz : (bodyT (.node k m ks)).length ≤ 2400) (ht : Pow w) (l0 : -1 ≤ least) (l1 : least ≤ 8) :
    Calls Tryd.prog 54 #[.agg #[.int .i64 k, .int .i64 m, .slice a len cap], .int .i64 (least + 1)] w fun e w' => e = .returned (.string ⟨(par least k (bodyT (.node k m ks))).toArray⟩) ∧ Below w.heap.size w w' := by
  have hok' := (Tree.ok_node.1 hok).1
  obtain ⟨k1, k2⟩ := nodeB_kind' hok'
  obtain ⟨v0, v1, _⟩ := lvl_in k1 k2
  have o0 := One.new w (.cells #[.int .i64 k, .int .i64 m, .slice a len cap] 33)
  have HC := Lib.hid (fun (W : World) (h : Below w.heap.size w W) => hT W a len cap ((hsub.below h (Nat.le_refl _)).more h.size) hok hlc hcap hsz (ht.below h))
  have HRK := Lib.hid (fun W => ref_rank k W k1 k2)
  obtain ⟨B, hB⟩ : ∃ B, B = bodyT (.node k m ks) := ⟨_, rfl⟩
  rw [← hB] at hsz ⊢
  have HB := Lib.hid hB
  have e1 := add_list [40] B (40 :: B) rfl (by simp; omega)
  have e2 := add_list (40 :: B) [41] (40 :: (B ++ [41])) rfl (by simp; omega)
  have O0 := Lib.hid o0
  clear hT hsub hok hok' ht hB o0 hsz
  by_cases h : lvl k < least
  · have HR := Lib.hid (show par least k B = 40 :: (B ++ [41]) by unfold par; rw [if_pos h])
    have hb1 : lvl k + 1 < least + 1 := by omega
    go_enter Tryd.func54, Tryd.ntmps54
    go_wp2_with fail
    generalize World.alloc w _ = W0 at O0 ⊢
    refine (HC.out W0 O0.out.2).mono ?_
    unfold ShowPost
    rw [← HB.out]
    rintro e w1 ⟨rfl, hb⟩
    have o1 := O0.out.step hb
    have x0 : w1.cell? ⟨w.heap.size, 0, none⟩ = some (.int .i64 k) := o1.1.cell 0
    have O1 := Lib.hid o1; clear hb o1
    go_wp2_with fail
    refine (HRK.out w1).mono ?_
    rintro e w2 ⟨rfl, rfl⟩
    go_wp2_with fail
    go_ret
    exact ⟨by rw [HR.out]; rfl, O1.out.2⟩
  · have HR := Lib.hid (show par least k B = B by unfold par; rw [if_neg h])
    have hb1 : least + 1 ≤ lvl k + 1 := by omega
    go_enter Tryd.func54, Tryd.ntmps54
    go_wp2_with fail
    generalize World.alloc w _ = W0 at O0 ⊢
    refine (HC.out W0 O0.out.2).mono ?_
    unfold ShowPost
    rw [← HB.out]
    rintro e w1 ⟨rfl, hb⟩
    have o1 := O0.out.step hb
    have x0 : w1.cell? ⟨w.heap.size, 0, none⟩ = some (.int .i64 k) := o1.1.cell 0
    have O1 := Lib.hid o1; clear hb o1
    go_wp2_with fail
    refine (HRK.out w1).mono ?_
    rintro e w2 ⟨rfl, rfl⟩
    go_wp2_with fail
    go_ret
    exact ⟨by rw [HR.out]; rfl, O1.out.2⟩

set_option maxHeartbeats 4000000 in
theorem ref_ExprText : ∀ (t : Tree), TextOk t := by
  intro t
  refine Tree.all (P := TextOk) ?_ t
  intro k m ks ih w a len cap hsub hok hlc hcap hsz ht
  have IH := Lib.hid ih; clear ih
  have SL := hsub.len
  simp only [Tree.kids, Tree.kind, Tree.num] at SL ⊢
  obtain ⟨hlen, hlm, ⟨_, _⟩, m1, m2⟩ := SL
  have hok' := Tree.ok_node.1 hok
  have hnb := hok'.1
  have hkid := bodyT_kid hnb
  obtain ⟨k1, k2⟩ := nodeB_kind' hnb
  have hops := (nodeB_len hnb).2
  rw [hlen] at hops
  obtain ⟨v0, v1, v2⟩ := lvl_in k1 k2
  have HSZ2 := Lib.hid hsz; have HT := Lib.hid ht
  have HSUB := Lib.hid hsub; have HOK := Lib.hid hok'.2; have HKID := Lib.hid hkid; have HLEN := Lib.hid hlen
  have o0 := One.new w (.cells #[.int .i64 k, .int .i64 m, .slice a len cap] 33)
  have O0 := Lib.hid o0; clear o0
  clear ht hsub hok hok' hkid hlen hnb hsz
  obtain ⟨lv, hlv⟩ : ∃ lv, lv = lvl k := ⟨_, rfl⟩
  have RK := fun W => ref_rank k W k1 k2
  rw [← hlv] at v0 v1
  simp only [← hlv] at RK
  have HLV := Lib.hid hlv; clear hlv
  have RK := Lib.hid RK
  obtain ⟨B, hB⟩ : ∃ B, B = bodyT (.node k m ks) := ⟨_, rfl⟩
  rw [← hB] at HSZ2 ⊢
  have HB := Lib.hid hB; clear hB
  have hkn : k = 1 ∨ k = 2 ∨ k = 3 ∨ k = 11 ∨ (k ≠ 1 ∧ k ≠ 2 ∧ k ≠ 3 ∧ k ≠ 11) := by omega
  rcases hkn with rfl | rfl | rfl | rfl | ⟨n1, n2, n3, n4⟩
  · have hl0 : len = 0 := hops
    clear hops
    subst hl0
    obtain rfl : ks = [] := List.length_eq_zero_iff.1 HLEN.out
    have HBB := Lib.hid (show B = Lib.itoa m by rw [HB.out, bodyT_0]; rfl)
    go_enter Tryd.func32, Tryd.ntmps32
    go_wp2_with fail
    generalize World.alloc w _ = W0 at O0 ⊢
    have x0 : W0.cell? ⟨w.heap.size, 0, none⟩ = some (.int .i64 1) := O0.out.1.cell 0
    have x1 : W0.cell? ⟨w.heap.size, 1, none⟩ = some (.int .i64 m) := O0.out.1.cell 1
    refine (RK.out W0).mono ?_
    rintro e w1 ⟨rfl, rfl⟩
    go_wp2_with fail
    refine (lib_Itoa m _ m1 m2 (HT.out.below O0.out.2)).mono ?_
    rintro e w1 ⟨rfl, hb⟩
    have O1 := Lib.hid (O0.out.step hb); clear hb
    go_wp2_with fail
    go_ret
    exact ⟨by rw [HBB.out]; rfl, O1.out.2⟩
  · have hl0 : len = 0 := hops
    clear hops
    subst hl0
    obtain rfl : ks = [] := List.length_eq_zero_iff.1 HLEN.out
    have HBB := Lib.hid (show B = [121] by rw [HB.out, bodyT_0]; rfl)
    go_enter Tryd.func32, Tryd.ntmps32
    go_wp2_with fail
    generalize World.alloc w _ = W0 at O0 ⊢
    have x0 : W0.cell? ⟨w.heap.size, 0, none⟩ = some (.int .i64 2) := O0.out.1.cell 0
    refine (RK.out W0).mono ?_
    rintro e w1 ⟨rfl, rfl⟩
    go_wp2_with fail
    go_ret
    exact ⟨by rw [HBB.out]; rfl, O0.out.2⟩
  · have hl0 : len = 1 := hops
    clear hops
    subst hl0
    obtain ⟨b, off, rfl, hbB, hcs⟩ := HSUB.out.kid (by omega)
    obtain ⟨k', m', ks', a', n', cc, hc0, hc1, hc2, hx, q1, q2, hk⟩ := hcs 0 (by omega)
    simp only [Nat.zero_mul, Nat.add_zero] at hc0 hc1 hc2
    obtain ⟨t', rfl⟩ : ∃ t', ks = [t'] := by
      have := HLEN.out
      match ks, this with
      | [x], _ => exact ⟨x, rfl⟩
    obtain rfl : t' = .node k' m' ks' := by simpa using hx
    have hmem : Tree.node k' m' ks' ∈ [Tree.node k' m' ks'] := by simp
    obtain ⟨K, hK⟩ : ∃ K, K = par lv k' (bodyT (.node k' m' ks')) := ⟨_, rfl⟩
    have HCALL := Lib.hid (fun (W : World) (hb : Below w.heap.size w W) => (show Calls Tryd.prog 54 #[.agg #[.int .i64 k', .int .i64 m', .slice a' n' cc], .int .i64 (lv + 1)] W fun e w' => e = .returned (.string ⟨K.toArray⟩) ∧ Below W.heap.size W w' from by
      rw [hK]; exact ref_inner k' m' ks' (IH.out _ hmem) W a' n' cc lv ((hk.below hb (Nat.le_refl _)).more hb.size) (HOK.out _ hmem) q1 q2 (Nat.le_trans (HKID.out _ hmem) (by rw [← HB.out]; exact HSZ2.out)) (HT.out.below hb) (by omega) (by omega)))
    have hbb : [45] ++ K = B := by rw [HB.out, bodyT_1, hK, HLV.out]; rfl
    have hkz : K.length ≤ 2400 := by have h1 := HSZ2.out; rw [← hbb] at h1; simp at h1; omega
    have u1 := add_list [45] K B hbb (by simp; omega)
    clear hcs hx hk hmem hK hbb hkz
    have y0 := (O0.out.2.cell (p := ⟨b, off, none⟩) hbB).trans hc0
    have y1 := (O0.out.2.cell (p := ⟨b, off + 1, none⟩) hbB).trans hc1
    have y2 := (O0.out.2.cell (p := ⟨b, off + 2, none⟩) hbB).trans hc2
    go_enter Tryd.func32, Tryd.ntmps32
    go_wp2_with fail
    generalize World.alloc w _ = W0 at O0 y0 y1 y2 ⊢
    have x0 : W0.cell? ⟨w.heap.size, 0, none⟩ = some (.int .i64 3) := O0.out.1.cell 0
    have x2 : W0.cell? ⟨w.heap.size, 2, none⟩ = some (.slice (some ⟨b, off, none⟩) 1 cap) := O0.out.1.cell 2
    refine (RK.out W0).mono ?_
    rintro e w1 ⟨rfl, rfl⟩
    go_wp2_with fail
    refine (HCALL.out W0 O0.out.2).mono ?_
    rintro e w1 ⟨rfl, hb⟩
    have O1 := Lib.hid (O0.out.step hb); clear hb
    go_wp2_with fail
    go_ret
    exact ⟨rfl, O1.out.2⟩
  · have hl0 : len = 1 := hops
    clear hops
    subst hl0
    obtain ⟨b, off, rfl, hbB, hcs⟩ := HSUB.out.kid (by omega)
    obtain ⟨k', m', ks', a', n', cc, hc0, hc1, hc2, hx, q1, q2, hk⟩ := hcs 0 (by omega)
    simp only [Nat.zero_mul, Nat.add_zero] at hc0 hc1 hc2
    obtain ⟨t', rfl⟩ : ∃ t', ks = [t'] := by
      have := HLEN.out
      match ks, this with
      | [x], _ => exact ⟨x, rfl⟩
    obtain rfl : t' = .node k' m' ks' := by simpa using hx
    have hmem : Tree.node k' m' ks' ∈ [Tree.node k' m' ks'] := by simp
    obtain ⟨K, hK⟩ : ∃ K, K = par lv k' (bodyT (.node k' m' ks')) := ⟨_, rfl⟩
    have HCALL := Lib.hid (fun (W : World) (hb : Below w.heap.size w W) => (show Calls Tryd.prog 54 #[.agg #[.int .i64 k', .int .i64 m', .slice a' n' cc], .int .i64 (lv + 1)] W fun e w' => e = .returned (.string ⟨K.toArray⟩) ∧ Below W.heap.size W w' from by
      rw [hK]; exact ref_inner k' m' ks' (IH.out _ hmem) W a' n' cc lv ((hk.below hb (Nat.le_refl _)).more hb.size) (HOK.out _ hmem) q1 q2 (Nat.le_trans (HKID.out _ hmem) (by rw [← HB.out]; exact HSZ2.out)) (HT.out.below hb) (by omega) (by omega)))
    have hbb : [110, 111, 116, 32] ++ K = B := by rw [HB.out, bodyT_1, hK, HLV.out]; rfl
    have hkz : K.length ≤ 2400 := by have h1 := HSZ2.out; rw [← hbb] at h1; simp at h1; omega
    have u1 := add_list [110, 111, 116, 32] K B hbb (by simp; omega)
    clear hcs hx hk hmem hK hbb hkz
    have y0 := (O0.out.2.cell (p := ⟨b, off, none⟩) hbB).trans hc0
    have y1 := (O0.out.2.cell (p := ⟨b, off + 1, none⟩) hbB).trans hc1
    have y2 := (O0.out.2.cell (p := ⟨b, off + 2, none⟩) hbB).trans hc2
    go_enter Tryd.func32, Tryd.ntmps32
    go_wp2_with fail
    generalize World.alloc w _ = W0 at O0 y0 y1 y2 ⊢
    have x0 : W0.cell? ⟨w.heap.size, 0, none⟩ = some (.int .i64 11) := O0.out.1.cell 0
    have x2 : W0.cell? ⟨w.heap.size, 2, none⟩ = some (.slice (some ⟨b, off, none⟩) 1 cap) := O0.out.1.cell 2
    refine (RK.out W0).mono ?_
    rintro e w1 ⟨rfl, rfl⟩
    go_wp2_with fail
    refine (HCALL.out W0 O0.out.2).mono ?_
    rintro e w1 ⟨rfl, hb⟩
    have O1 := Lib.hid (O0.out.step hb); clear hb
    go_wp2_with fail
    go_ret
    exact ⟨rfl, O1.out.2⟩
  · have hl0 : len = 2 := by rw [hops]; exact opsOf_2 (by omega) (by omega)
    clear hops
    subst hl0
    obtain ⟨b, off, rfl, hbB, hcs⟩ := HSUB.out.kid (by omega)
    obtain ⟨p0, m0, ks0, a0, n0, cc0, hc0, hc1, hc2, hx0, q1, q2, hk0⟩ := hcs 0 (by omega)
    obtain ⟨p1, m1', ks1, a1, n1', cc1, hd0, hd1, hd2, hx1, r1, r2, hk1⟩ := hcs 1 (by omega)
    simp only [Nat.zero_mul, Nat.add_zero, Nat.one_mul] at hc0 hc1 hc2 hd0 hd1 hd2
    obtain ⟨t0, t1, rfl⟩ : ∃ t0 t1, ks = [t0, t1] := by
      have := HLEN.out
      match ks, this with
      | [x, y], _ => exact ⟨x, y, rfl⟩
    obtain rfl : t0 = .node p0 m0 ks0 := by simpa using hx0
    obtain rfl : t1 = .node p1 m1' ks1 := by simpa using hx1
    have hm0 : Tree.node p0 m0 ks0 ∈ [Tree.node p0 m0 ks0, Tree.node p1 m1' ks1] := by simp
    have hm1 : Tree.node p1 m1' ks1 ∈ [Tree.node p0 m0 ks0, Tree.node p1 m1' ks1] := by simp
    obtain ⟨fs, hfs⟩ : ∃ fs, fs = fst2 k := ⟨_, rfl⟩
    have hfs' : fs = if lv = 3 then lv + 1 else lv := by rw [hfs, HLV.out]; rfl
    have hfb : 0 ≤ fs ∧ fs ≤ 8 := by rw [hfs']; split <;> omega
    obtain ⟨fp, hfp⟩ : ∃ fp, fp = fs + 1 := ⟨_, rfl⟩
    obtain ⟨K0, hK0⟩ : ∃ K, K = par fs p0 (bodyT (.node p0 m0 ks0)) := ⟨_, rfl⟩
    obtain ⟨K1, hK1⟩ : ∃ K, K = par (lv + 1) p1 (bodyT (.node p1 m1' ks1)) := ⟨_, rfl⟩
    have C0 : ∀ W, One w (.cells #[.int .i64 k, .int .i64 m, .slice (some ⟨b, off, none⟩) 2 cap] 33) W → Calls Tryd.prog 54 #[.agg #[.int .i64 p0, .int .i64 m0, .slice a0 n0 cc0], .int .i64 fp] W fun e w' => e = .returned (.string ⟨K0.toArray⟩) ∧ Below W.heap.size W w' := fun W h => by
      rw [hK0, hfp]
      exact ref_inner p0 m0 ks0 (IH.out _ hm0) W a0 n0 cc0 fs ((hk0.below h.2 (Nat.le_refl _)).more h.2.size) (HOK.out _ hm0) q1 q2 (Nat.le_trans (HKID.out _ hm0) (by rw [← HB.out]; exact HSZ2.out)) (HT.out.below h.2) (by omega) (by omega)
    have C1 : ∀ W, One w (.cells #[.int .i64 k, .int .i64 m, .slice (some ⟨b, off, none⟩) 2 cap] 33) W → Calls Tryd.prog 54 #[.agg #[.int .i64 p1, .int .i64 m1', .slice a1 n1' cc1], .int .i64 (lv + 1 + 1)] W fun e w' => e = .returned (.string ⟨K1.toArray⟩) ∧ Below W.heap.size W w' := fun W h => by
      rw [hK1]
      exact ref_inner p1 m1' ks1 (IH.out _ hm1) W a1 n1' cc1 (lv + 1) ((hk1.below h.2 (Nat.le_refl _)).more h.2.size) (HOK.out _ hm1) r1 r2 (Nat.le_trans (HKID.out _ hm1) (by rw [← HB.out]; exact HSZ2.out)) (HT.out.below h.2) (by omega) (by omega)
    have hbb : K0 ++ (32 :: (sgn k ++ (32 :: K1))) = B := by rw [HB.out, bodyT_2, hK0, hK1, ← hfs, HLV.out]; rfl
    have hkz := HSZ2.out
    rw [← hbb] at hkz
    simp only [List.length_append, List.length_cons] at hkz
    obtain ⟨T1, hT1⟩ : ∃ T, T = K0 ++ [32] := ⟨_, rfl⟩
    obtain ⟨T2, hT2⟩ : ∃ T, T = T1 ++ sgn k := ⟨_, rfl⟩
    obtain ⟨T3, hT3⟩ : ∃ T, T = T2 ++ [32] := ⟨_, rfl⟩
    have u1 := add_list K0 [32] T1 hT1.symm (by simp; omega)
    have u2 := add_list T1 (sgn k) T2 hT2.symm (by rw [hT1]; simp; omega)
    have u3 := add_list T2 [32] T3 hT3.symm (by rw [hT2, hT1]; simp; omega)
    have u4 := add_list T3 K1 B (by rw [← hbb, hT3, hT2, hT1]; simp) (by rw [hT3, hT2, hT1]; simp; omega)
    have SG := Lib.hid (fun W => ref_sign k W k1 k2)
    have C0 := Lib.hid C0; have C1 := Lib.hid C1
    clear hT1 hT2 hT3 hcs hx0 hx1 hk0 hk1 hm0 hm1 hK0 hK1 hbb hkz hfs
    have KC := Lib.hid (fun (W : World) (h : Below w.heap.size w W) => And.intro ((h.cell (p := ⟨b, off, none⟩) hbB).trans hc0) (And.intro ((h.cell (p := ⟨b, off + 1, none⟩) hbB).trans hc1) (And.intro ((h.cell (p := ⟨b, off + 2, none⟩) hbB).trans hc2) (And.intro ((h.cell (p := ⟨b, off + 3, none⟩) hbB).trans hd0) (And.intro ((h.cell (p := ⟨b, off + 3 + 1, none⟩) hbB).trans hd1) ((h.cell (p := ⟨b, off + 3 + 2, none⟩) hbB).trans hd2))))))
    clear hc0 hc1 hc2 hd0 hd1 hd2
    have nn1 : (k == 1) = false := by simp; omega
    have nn2 : (k == 2) = false := by simp; omega
    have nn3 : (k == 3) = false := by simp; omega
    have nn4 : (k == 11) = false := by simp; omega
    have iw : IntKind.i64.wrap (lv + 1 + 1) = lv + 1 + 1 := IntWalk.i64_in _ (by omega)
    by_cases h3 : lv = 3
    · rw [if_pos h3] at hfs'
      have hf5 : fp = 5 := by omega
      subst hf5
      have h3b : (lv + 1 == 4) = true := by simpa using (by omega : lv + 1 = 4)
      clear h3 n1 n2 n3 n4 hfs' hfb hfp
      go_enter Tryd.func32, Tryd.ntmps32
      go_wp2_with fail
      generalize World.alloc w _ = W0 at O0 ⊢
      have x0 : W0.cell? ⟨w.heap.size, 0, none⟩ = some (.int .i64 k) := O0.out.1.cell 0
      refine (RK.out W0).mono ?_
      rintro e w1 ⟨rfl, rfl⟩
      go_upto_region 14 with (fail)
      clear x0
      have o1 := O0.out
      (refine region_class (One w (.cells #[.int .i64 k, .int .i64 m, .slice (some ⟨b, off, none⟩) 2 cap] 33)) (by kernel_rfl) (by kernel_rfl) (o1.drew) ?_; repeat ((first | (refine class_take ?_ (by rfl) ?_ ?_; rotate_left; focus (intro wq hq; ((obtain ⟨y0, y1, y2, y3, y4, y5⟩ := KC.out wq hq.2; have x0 : wq.cell? ⟨w.heap.size, 0, none⟩ = some (.int .i64 k) := hq.1.cell 0; have x2 : wq.cell? ⟨w.heap.size, 2, none⟩ = some (.slice (some ⟨b, off, none⟩) 2 cap) := hq.1.cell 2; have hbz : b < wq.heap.size := (by have := hq.2.size; omega))); go_simp; first | done | with_reducible rfl | ((first | (go_at_call 55; (with_reducible refine (SG.out wq).mono ?_); rintro e w' ⟨rfl, hb⟩; refine ⟨?_, hq.step hb⟩; with_reducible rfl) | (go_at_call 54; (first | (with_reducible refine (C0.out _ hq).mono ?_) | (with_reducible refine (C1.out _ hq).mono ?_)); rintro e w' ⟨rfl, hb⟩; refine ⟨?_, hq.step hb⟩; with_reducible rfl))))) | refine class_skip (by rfl) ?_); try simp only [Act.put, List.setIfInBounds_toArray, List.set_cons_zero, List.set_cons_succ]))
      refine wpQuiet_nil ?_
      intro W2 hW2
      clear o1 O0 iw
      have O2 := Lib.hid hW2; clear hW2 u1 u2 u3 u4
      go_wp2_with fail
      go_ret
      exact ⟨rfl, O2.out.2⟩
    · rw [if_neg h3] at hfs'
      have hf5 : fp = lv + 1 := by omega
      subst hf5
      have h3b : (lv + 1 == 4) = false := by simpa using (by omega : ¬ lv + 1 = 4)
      clear h3 n1 n2 n3 n4 hfs' hfb hfp
      go_enter Tryd.func32, Tryd.ntmps32
      go_wp2_with fail
      generalize World.alloc w _ = W0 at O0 ⊢
      have x0 : W0.cell? ⟨w.heap.size, 0, none⟩ = some (.int .i64 k) := O0.out.1.cell 0
      refine (RK.out W0).mono ?_
      rintro e w1 ⟨rfl, rfl⟩
      go_upto_region 14 with (fail)
      clear x0
      have o1 := O0.out
      (refine region_class (One w (.cells #[.int .i64 k, .int .i64 m, .slice (some ⟨b, off, none⟩) 2 cap] 33)) (by kernel_rfl) (by kernel_rfl) (o1.drew) ?_; repeat ((first | (refine class_take ?_ (by rfl) ?_ ?_; rotate_left; focus (intro wq hq; ((obtain ⟨y0, y1, y2, y3, y4, y5⟩ := KC.out wq hq.2; have x0 : wq.cell? ⟨w.heap.size, 0, none⟩ = some (.int .i64 k) := hq.1.cell 0; have x2 : wq.cell? ⟨w.heap.size, 2, none⟩ = some (.slice (some ⟨b, off, none⟩) 2 cap) := hq.1.cell 2; have hbz : b < wq.heap.size := (by have := hq.2.size; omega))); go_simp; first | done | with_reducible rfl | ((first | (go_at_call 55; (with_reducible refine (SG.out wq).mono ?_); rintro e w' ⟨rfl, hb⟩; refine ⟨?_, hq.step hb⟩; with_reducible rfl) | (go_at_call 54; (first | (with_reducible refine (C0.out _ hq).mono ?_) | (with_reducible refine (C1.out _ hq).mono ?_)); rintro e w' ⟨rfl, hb⟩; refine ⟨?_, hq.step hb⟩; with_reducible rfl))))) | refine class_skip (by rfl) ?_); try simp only [Act.put, List.setIfInBounds_toArray, List.set_cons_zero, List.set_cons_succ]))
      refine wpQuiet_nil ?_
      intro W2 hW2
      clear o1 O0 iw
      have O2 := Lib.hid hW2; clear hW2 u1 u2 u3 u4
      go_wp2_with fail
      go_ret
      exact ⟨rfl, O2.out.2⟩
end Go.Proofs.YtjjmbnflhldoeabDoor
