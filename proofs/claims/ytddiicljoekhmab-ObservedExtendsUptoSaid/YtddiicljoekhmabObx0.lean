/- Contracts of slices.Clone, slices.Grow (of nil) and slices.Concat (of two) at []int. -/
import Derived.Test.YtddiicljoekhmabOwn
import Derived.Test.YtddiicljoekhmabRows2
import Derived.Test.YtddiicljoekhmabQuiet
import Derived.Lib.SliceRun
import Derived.Lib.AppendZerosOnto
import Derived.Laws.AppendOwnNone
namespace Go.Proofs.Ytddiicljoekhmab
set_option linter.unusedVariables false
set_option maxRecDepth 100000
open Go.RowKit

theorem Try.infoIntX : (Try.prog.info? 3).map (fun i => (i.zero, i.size, i.bytes)) = some (some (.int .i64 0), 1, 8) := by kernel_rfl
theorem ints_thenX {w w' : World} {a : Option Addr} {n : Nat} {xs : List Int} (h : Ints w w.heap.size a n xs) (hb : Below w.heap.size w w') : Ints w' w'.heap.size a n xs := (h.below hb (Nat.le_refl _)).more hb.size
theorem ints_news {w : World} {B : Nat} {ad : Addr} {n : Nat} {xs : List Int} (h : Ints w B (some ad) n xs) : ∀ j u, (xs.map (Value.int .i64))[j]? = some u → w.cell? (ad.add j) = some u := by
  intro j u hj
  have hl := h.1
  have hjn : j < n := by
    rcases Nat.lt_or_ge j n with h' | h'
    · exact h'
    · rw [List.getElem?_eq_none (by simp; omega)] at hj; cases hj
  obtain ⟨b, off, x, e, _, hc, hx, _⟩ := h.at_ hjn
  injection e with e
  subst e
  rw [List.getElem?_map, hx] at hj
  injection hj with hj
  subst hj
  rw [add_none]; exact hc
theorem ints_some {w : World} {B : Nat} {a : Option Addr} {n : Nat} {xs : List Int} (h : Ints w B a n xs) (hn : 0 < n) : ∃ ad, a = some ad := by
  obtain ⟨b, off, x, e, _⟩ := h.at_ hn
  exact ⟨_, e⟩
def OwnI (w : World) (n : Nat) (xs : List Int) (e : Ending) (w' : World) : Prop := ∃ v, e = .returned v ∧ w'.ownsRow w.heap.size 3 1 v n (xs.map (Value.int .i64)) ∧ Below w.heap.size w w'
theorem one_int {xs : List Int} {u : Value} (hu : u ∈ xs.map (Value.int .i64)) : u.oneCell' = true := by
  obtain ⟨x, _, rfl⟩ := List.mem_map.1 hu; rfl
set_option maxHeartbeats 2000000 in
theorem clone_ints (w : World) (a : Option Addr) (n c : Nat) (xs : List Int) (h : Ints w w.heap.size a n xs) (hn : n ≤ 100000) :
    Calls Try.prog 21 #[.slice a n c] w (OwnI w n xs) := by
  obtain ⟨i0, hi, hz0, hz1, hz2⟩ := info_parts Try.infoIntX
  have hl := h.1
  have q22 : ∀ (w : World) (a : Option Addr) (n c n' c' : Nat), (binOp .eql 22 (.slice a n c) (.slice none n' c')).run Try.prog w = .ok (.bool a.isNone) w := fun w a n c n' c' => Lib.run_eql_slice_nil w _ _ a n c n' c' Try.underlying22
  cases a with
  | none =>
    have h0 : n = 0 := by
      rcases Nat.eq_zero_or_pos n with h0 | h0
      · exact h0
      · obtain ⟨ad, e⟩ := ints_some h h0; cases e
    subst h0
    obtain rfl : xs = [] := List.length_eq_zero_iff.1 hl
    clear h hl
    go_enter Try.func21, Try.ntmps21
    go_wp2_with fail
    go_ret
    exact ⟨_, rfl, World.ownsRow_nil _ _ _ _, Below.refl _ _⟩
  | some ad =>
    have HL := Lib.hid hl; have HC := Lib.hid h
    clear h hl
    go_enter Try.func21, Try.ntmps21
    go_wp2_with (at_builtin; refine wpList_append_own _ rfl _ _ 22 rfl w.heap.size 3 i0 (.int .i64 0) 1 8 Try.underlying22 hi hz0 hz1 hz2 rfl (by decide) _ _ _ rfl (World.ownsRow_made w #[] 0 (Nat.le_refl _) (Nat.zero_le _) rfl) ad n c (xs.map (Value.int .i64)) rfl (by rw [List.length_map, HL.out, Nat.mul_one]) (ints_news (ints_thenX HC.out (below_new (Below.refl _ _) _))) (fun u hu => one_int hu) (by unfold maxLen; omega) (by omega) (by simp) ?_; intro v' w1 hown hgrow hnil)
    have hown' : w1.ownsRow w.heap.size 3 1 v' n (xs.map (Value.int .i64)) := by simpa using hown
    have hgrow' : World.grownBy _ w1 (Value.ownBlock (.slice (some ⟨w.heap.size, 0, none⟩) 0 0)) := hgrow
    have hb1 : Below w.heap.size w w1 := ((Below.refl _ w).alloc (Nat.le_refl _) _).grown hgrow' (by simp) (by intro k hk; simp [Value.ownBlock] at hk; omega)
    have H3 := Lib.hid hown'
    clear hown hown' hgrow hgrow' hnil
    go_wp2_with fail
    go_ret
    exact ⟨_, rfl, H3.out, hb1⟩
set_option maxHeartbeats 2000000 in
theorem grow_nil (w : World) (n : Nat) (hn : n ≤ 200000) :
    Calls Try.prog 31 #[.slice none 0 0, .int .i64 (n : Int)] w (OwnI w 0 []) := by
  rcases Nat.eq_zero_or_pos n with h0 | h0
  · subst h0
    go_enter Try.func31, Try.ntmps31
    go_wp2_with fail
    go_ret
    exact ⟨_, rfl, World.ownsRow_nil _ _ _ _, Below.refl _ _⟩
  · obtain ⟨i0, hi, hz0, hz1, hz2⟩ := info_parts Try.infoIntX
    have hold : (Builtin.firstCells i0.size 0 (.slice none 0 0)).run Try.prog w.drew = .ok ([] : List Value).toArray w.drew := run_firstCells_none w.drew i0.size 0 0 0
    have hrz : ∀ ty, (Builtin.append_ #[22, 3] ty #[.slice none 0 0, .int .i64 (n : Int)]).run Try.prog w = _ := fun ty =>
      Lib.run_append_grow_zeros w 22 3 ty 3 i0 (.int .i64 0) .i64 .i64 Try.underlying22 Try.underlying3 hi hz0 none 0 0 [] hold n h0 (by rw [hz1]; omega) (by omega) (by omega) (by rw [hz2]; omega) (growslice_fits (need := 0 + n) (old := 0) (bytes := i0.bytes) (by omega) (by rw [hz2]; omega))
    have hcap := grownCap_le_maxLen w (0 + n) 0 3 (by unfold maxLen; omega)
    have hge := grownCap_ge w (0 + n) 0 3
    obtain ⟨G, hG⟩ : ∃ G, G = grownCap w (0 + n) 0 3 := ⟨_, rfl⟩
    rw [← hG] at hcap hge
    simp only [← hG] at hrz
    have hpos : (0 : Int) < (n : Int) := by omega
    have hG63 : G ≤ 9223372036854775807 := by unfold maxLen at hcap; omega
    clear hold hG
    go_enter Try.func31, Try.ntmps31
    go_wp2_with (at_builtin; refine Lib.wpList_append_run _ rfl _ _ _ _ rfl _ _ rfl rfl _ _ (hrz _) ?_)
    have hown := World.ownsRow_made (e := 3) (size := 1) (base := w.heap.size) w (Builtin.zeroCells #[Value.int IntKind.i64 0] n ++ Builtin.zeroCells #[Value.int IntKind.i64 0] (G - n)) G (Nat.le_refl _) hcap (by simp [Builtin.zeroCells]; omega)
    go_ret
    exact ⟨_, rfl, hown, (below_new (Below.refl _ _) _).drew⟩
/-- What two slices give, k of them taken. -/
def cat2 (xs ys : List Int) : Nat → List Int
  | 0 => []
  | 1 => xs
  | _ => xs ++ ys
structure Piece (w : World) (sb so k : Nat) (xs ys : List Int) (a : Option Addr) (n c : Nat) (zs : List Int) : Prop where
  cell : w.cell? ⟨sb, so + k, none⟩ = some (.slice a n c)
  ints : Ints w w.heap.size a n zs
  small : n ≤ 100000
  nilc : a = none → c = 0
  next : cat2 xs ys (k + 1) = cat2 xs ys k ++ zs
set_option maxHeartbeats 4000000 in
theorem concat_ints (w : World) (sb so cc : Nat) (a1 a2 : Option Addr) (n1 c1 n2 c2 : Nat) (xs ys : List Int) (hsb : sb < w.heap.size) (x0 : w.cell? ⟨sb, so, none⟩ = some (.slice a1 n1 c1)) (x1 : w.cell? ⟨sb, so + 1, none⟩ = some (.slice a2 n2 c2))
    (h1 : Ints w w.heap.size a1 n1 xs) (h2 : Ints w w.heap.size a2 n2 ys) (hn1 : n1 ≤ 100000) (hn2 : n2 ≤ 100000) (e1 : a1 = none → c1 = 0) (e2 : a2 = none → c2 = 0) :
    Calls Try.prog 22 #[.slice (some ⟨sb, so, none⟩) 2 cc] w (OwnI w (n1 + n2) (xs ++ ys)) := by
  obtain ⟨i0, hi, hz0, hz1, hz2⟩ := info_parts Try.infoIntX
  have l1 := h1.1; have l2 := h2.1
  have PK := Lib.hid (show ∀ k, k < 2 → ∃ a n c zs, Piece w sb so k xs ys a n c zs from fun k hk => by
    have hc : k = 0 ∨ k = 1 := by omega
    rcases hc with rfl | rfl
    · exact ⟨a1, n1, c1, xs, ⟨x0, h1, hn1, e1, by simp [cat2]⟩⟩
    · exact ⟨a2, n2, c2, ys, ⟨x1, h2, hn2, e2, rfl⟩⟩)
  have HLB := Lib.hid (show ∀ k, (cat2 xs ys k).length ≤ 200000 from fun k => by
    match k with
    | 0 => simp [cat2]
    | 1 => show xs.length ≤ _; omega
    | k + 2 => show (xs ++ ys).length ≤ _; rw [List.length_append]; omega)
  have HFIN := Lib.hid (show (cat2 xs ys 2).length = n1 + n2 by show (xs ++ ys).length = _; rw [List.length_append, l1, l2])
  clear h1 h2 e1 e2 l1 l2 x0 x1
  go_enter Try.func22, Try.ntmps22
  go_wp2_with fail
  go_loopw [3, 5, 11] (fun s _ i wr => ∃ k : Nat, k ≤ 2 ∧ i = .int .i64 k ∧ s = .int .i64 ((cat2 xs ys k).length : Int) ∧ w = wr) (fun _ _ i _ => 2 - (intOf i).toNat)
  case atStart => exact ⟨0, by omega, rfl, rfl, rfl⟩
  case round =>
    obtain ⟨k, hk, rfl, rfl, rfl⟩ := hrel
    have hb1 := HLB.out k; have hb2 := HLB.out (k + 1)
    by_cases hlt : k < 2
    · obtain ⟨a, n, c, zs, P⟩ := PK.out k hlt
      have x := P.cell
      have hS := Lib.hid (show ((cat2 xs ys (k + 1)).length : Int) = ((cat2 xs ys k).length : Int) + (n : Int) by rw [P.next, List.length_append, P.ints.1]; omega)
      have hsm := P.small
      have hge : (0 : Int) ≤ ((cat2 xs ys k).length : Int) + (n : Int) := by omega
      generalize (cat2 xs ys k).length = A at *
      go_wp2_with fail
      go_roundw
      case rel => exact ⟨k + 1, by omega, by go_num, by rw [hS.out], by first | rfl | trivial⟩
      case measure => first | (simp [intOf]; done) | (simp [intOf]; omega)
    · obtain rfl : k = 2 := by omega
      rw [HFIN.out]
      clear hb1 hb2 hlt
      go_wp2_with fail
      refine (grow_nil _ (n1 + n2) (by omega)).mono ?_
      rintro e w1 ⟨v, rfl, hown, hb⟩
      have OWN0 := Lib.hid hown; have B0 := Lib.hid hb
      clear hown hb
      go_wp2_with fail
      go_loopw [6, 8, 27] (fun v _ i wr => ∃ k : Nat, k ≤ 2 ∧ i = .int .i64 k ∧ wr.ownsRow w.heap.size 3 1 v (cat2 xs ys k).length ((cat2 xs ys k).map (Value.int .i64)) ∧ Below w.heap.size w wr) (fun _ _ i _ => 2 - (intOf i).toNat)
      case atStart => exact ⟨0, by omega, rfl, OWN0.out, B0.out⟩
      case round =>
        obtain ⟨k, hk, rfl, hown, bw⟩ := hrel
        have hb1 := HLB.out k; have hb2 := HLB.out (k + 1)
        obtain ⟨W2, rfl⟩ : ∃ W2, W2 = wr := ⟨_, rfl⟩
        have OWN := Lib.hid hown; have BW := Lib.hid bw
        have hbs := bw.size
        clear hown
        by_cases hlt : k < 2
        · obtain ⟨a, n, c, zs, P⟩ := PK.out k hlt
          have x : W2.cell? ⟨sb, so + k, none⟩ = some (.slice a n c) := (bw.cell (p := ⟨sb, so + k, none⟩) hsb).trans P.cell
          have hI := Lib.hid (ints_thenX P.ints bw)
          have hN := Lib.hid P.next
          have hZ := Lib.hid P.ints.1
          have hsm := P.small
          have hnl := P.nilc
          have hlen := Lib.hid (show (cat2 xs ys (k + 1)).length = (cat2 xs ys k).length + n by rw [P.next, List.length_append, P.ints.1])
          obtain ⟨zk, hzk⟩ : ∃ zk, zk = cat2 xs ys k := ⟨_, rfl⟩
          rw [← hzk] at OWN hb1 hN hlen
          clear hzk bw P
          cases a with
          | none =>
            obtain rfl := hnl rfl
            have hn0 : n = 0 := by
              rcases Nat.eq_zero_or_pos n with h0 | h0
              · exact h0
              · obtain ⟨ad, e⟩ := ints_some hI.out h0; cases e
            subst hn0
            obtain rfl : zs = [] := List.length_eq_zero_iff.1 hZ.out
            go_wp2_with (at_builtin; refine wpList_append_own_none rfl _ _ 22 rfl w.heap.size 3 i0 1 Try.underlying22 hi _ zk.length (zk.map (Value.int .i64)) rfl OWN.out rfl ?_)
            go_roundw
            case rel => exact ⟨k + 1, by omega, by go_num, by rw [hN.out, List.append_nil]; exact OWN.out, BW.out⟩
            case measure => first | (simp [intOf]; done) | (simp [intOf]; omega)
          | some ad =>
            go_wp2_with (at_builtin; refine wpList_append_own _ rfl _ _ 22 rfl w.heap.size 3 i0 (.int .i64 0) 1 8 Try.underlying22 hi hz0 hz1 hz2 rfl (by decide) _ zk.length (zk.map (Value.int .i64)) rfl OWN.out ad n c (zs.map (Value.int .i64)) rfl (by rw [List.length_map, hZ.out, Nat.mul_one]) (ints_news hI.out) (fun u hu => one_int hu) (by unfold maxLen; omega) (by omega) (by omega) ?_; intro v' w4 hown' hgrow _)
            have bw4 : Below w.heap.size w w4 := BW.out.grown hgrow (by omega) (fun b hb => (OWN.out.lt b hb).1)
            have OWN4 := Lib.hid hown'
            clear hown' hgrow
            go_wp2_with fail
            go_roundw
            case rel => exact ⟨k + 1, by omega, by go_num, by rw [hlen.out, hN.out, List.map_append]; exact OWN4.out, bw4⟩
            case measure => first | (simp [intOf]; done) | (simp [intOf]; omega)
        · obtain rfl : k = 2 := by omega
          go_wp2_with fail
          go_ret
          exact ⟨_, rfl, by rw [← HFIN.out]; exact OWN.out, BW.out⟩
end Go.Proofs.Ytddiicljoekhmab
