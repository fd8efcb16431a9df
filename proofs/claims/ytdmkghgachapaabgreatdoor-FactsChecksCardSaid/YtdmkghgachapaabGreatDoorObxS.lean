import Derived.Test.YtdmkghgachapaabGreatDoorMgO
import Derived.Test.YtdmkghgachapaabGreatDoorMgB
import Derived.Test.YtdmkghgachapaabGreatDoorMg5
import Derived.Lib.SliceRun
import Derived.Lib.AppendZerosOnto
import Derived.Laws.AppendOwnNone
set_option linter.unusedSimpArgs false
namespace Go.Proofs.YtdmkghgachapaabGreatDoor
set_option linter.unusedVariables false
set_option maxRecDepth 100000
open Go.RowKit
theorem infoStrX : (Tryz.prog.info? 9).map (fun i => (i.zero, i.size, i.bytes)) = some (some (.string ⟨#[]⟩), 1, 16) := by kernel_rfl
def encSX (s : ByteArray) : List Value := [.string s]
abbrev TxtsX (w : World) (B : Nat) (a : Option Addr) (n : Nat) (xs : List ByteArray) : Prop := RowsOf 1 encSX w B a n xs
theorem txts_thenX {w w' : World} {a : Option Addr} {n : Nat} {xs : List ByteArray} (h : TxtsX w w.heap.size a n xs) (hb : Below w.heap.size w w') : TxtsX w' w'.heap.size a n xs :=
  ⟨h.1, h.2.1, fun hn => by
    obtain ⟨b, off, e, hlt, hc⟩ := h.2.2 hn
    exact ⟨b, off, e, by have := hb.size; omega, fun i x hx j v hv => (hb.cell (p := ⟨b, _, none⟩) hlt).trans (hc i x hx j v hv)⟩⟩
theorem txts_news {w : World} {B : Nat} {ad : Addr} {n : Nat} {xs : List ByteArray} (h : TxtsX w B (some ad) n xs) : ∀ j u, (xs.map Value.string)[j]? = some u → w.cell? (ad.add j) = some u := by
  intro j u hj
  have hl := h.1
  have hjn : j < n := by
    rcases Nat.lt_or_ge j n with h' | h'
    · exact h'
    · rw [List.getElem?_eq_none (by simp; omega)] at hj; cases hj
  obtain ⟨b, off, e, _, hc⟩ := h.2.2 (by omega)
  injection e with e
  subst e
  rw [List.getElem?_map] at hj
  obtain ⟨x, hx, rfl⟩ := Option.map_eq_some_iff.1 hj
  have := hc j x hx 0 _ rfl
  rw [add_none]
  simpa using this
theorem txts_some {w : World} {B : Nat} {a : Option Addr} {n : Nat} {xs : List ByteArray} (h : TxtsX w B a n xs) (hn : 0 < n) : ∃ ad, a = some ad := by
  obtain ⟨b, off, e, _⟩ := h.2.2 hn
  exact ⟨_, e⟩
def OwnSX (w : World) (n : Nat) (xs : List ByteArray) (e : Ending) (w' : World) : Prop := ∃ v, e = .returned v ∧ w'.ownsRow w.heap.size 9 1 v n (xs.map Value.string) ∧ Below w.heap.size w w'
theorem one_str {xs : List ByteArray} {u : Value} (hu : u ∈ xs.map Value.string) : u.oneCell' = true := by
  obtain ⟨x, _, rfl⟩ := List.mem_map.1 hu; rfl
set_option maxHeartbeats 2000000 in
theorem grow_nilS (w : World) (n : Nat) (hn : n ≤ 200000) :
    Calls Tryz.prog 29 #[.slice none 0 0, .int .i64 (n : Int)] w (OwnSX w 0 []) := by
  rcases Nat.eq_zero_or_pos n with h0 | h0
  · subst h0
    go_enter Tryz.func29, Tryz.ntmps29
    go_wp2_with fail
    go_ret
    exact ⟨_, rfl, World.ownsRow_nil _ _ _ _, Below.refl _ _⟩
  · obtain ⟨i0, hi, hz0, hz1, hz2⟩ := info_parts infoStrX
    have hold : (Builtin.firstCells i0.size 0 (.slice none 0 0)).run Tryz.prog w.drew = .ok ([] : List Value).toArray w.drew := run_firstCells_none w.drew i0.size 0 0 0
    have hrz : ∀ ty, (Builtin.append_ #[22, 3] ty #[.slice none 0 0, .int .i64 (n : Int)]).run Tryz.prog w = _ := fun ty =>
      Lib.run_append_grow_zeros w 22 3 ty 9 i0 (.string ⟨#[]⟩) .i64 .i64 Tryz.underlying22 Tryz.underlying3 hi hz0 none 0 0 [] hold n h0 (by rw [hz1]; omega) (by omega) (by omega) (by rw [hz2]; omega) (growslice_fits (need := 0 + n) (old := 0) (bytes := i0.bytes) (by omega) (by rw [hz2]; omega))
    have hcap := grownCap_le_maxLen w (0 + n) 0 9 (by unfold maxLen; omega)
    have hge := grownCap_ge w (0 + n) 0 9
    obtain ⟨G, hG⟩ : ∃ G, G = grownCap w (0 + n) 0 9 := ⟨_, rfl⟩
    rw [← hG] at hcap hge
    simp only [← hG] at hrz
    have hpos : (0 : Int) < (n : Int) := by omega
    have hG63 : G ≤ 9223372036854775807 := by unfold maxLen at hcap; omega
    clear hold hG
    go_enter Tryz.func29, Tryz.ntmps29
    go_wp2_with (at_builtin; refine Lib.wpList_append_run _ rfl _ _ _ _ rfl _ _ rfl rfl _ _ (hrz _) ?_)
    have hown := World.ownsRow_made (e := 9) (size := 1) (base := w.heap.size) w (Builtin.zeroCells #[Value.string ⟨#[]⟩] n ++ Builtin.zeroCells #[Value.string ⟨#[]⟩] (G - n)) G (Nat.le_refl _) hcap (by simp [Builtin.zeroCells]; omega)
    go_ret
    exact ⟨_, rfl, hown, (below_new (Below.refl _ _) _).drew⟩
def cat2S (xs ys : List ByteArray) : Nat → List ByteArray
  | 0 => []
  | 1 => xs
  | _ => xs ++ ys
structure PieceS (w : World) (sb so k : Nat) (xs ys : List ByteArray) (a : Option Addr) (n c : Nat) (zs : List ByteArray) : Prop where
  cell : w.cell? ⟨sb, so + k, none⟩ = some (.slice a n c)
  ints : TxtsX w w.heap.size a n zs
  small : n ≤ 100000
  nilc : a = none → c = 0
  next : cat2S xs ys (k + 1) = cat2S xs ys k ++ zs
set_option maxHeartbeats 4000000 in
theorem concat_strs (w : World) (sb so cc : Nat) (a1 a2 : Option Addr) (n1 c1 n2 c2 : Nat) (xs ys : List ByteArray) (hsb : sb < w.heap.size) (x0 : w.cell? ⟨sb, so, none⟩ = some (.slice a1 n1 c1)) (x1 : w.cell? ⟨sb, so + 1, none⟩ = some (.slice a2 n2 c2))
    (h1 : TxtsX w w.heap.size a1 n1 xs) (h2 : TxtsX w w.heap.size a2 n2 ys) (hn1 : n1 ≤ 100000) (hn2 : n2 ≤ 100000) (e1 : a1 = none → c1 = 0) (e2 : a2 = none → c2 = 0) :
    Calls Tryz.prog 12 #[.slice (some ⟨sb, so, none⟩) 2 cc] w (OwnSX w (n1 + n2) (xs ++ ys)) := by
  obtain ⟨i0, hi, hz0, hz1, hz2⟩ := info_parts infoStrX
  have l1 := h1.1; have l2 := h2.1
  have PK := Lib.hid (show ∀ k, k < 2 → ∃ a n c zs, PieceS w sb so k xs ys a n c zs from fun k hk => by
    have hc : k = 0 ∨ k = 1 := by omega
    rcases hc with rfl | rfl
    · exact ⟨a1, n1, c1, xs, ⟨x0, h1, hn1, e1, by simp [cat2S]⟩⟩
    · exact ⟨a2, n2, c2, ys, ⟨x1, h2, hn2, e2, rfl⟩⟩)
  have HLB := Lib.hid (show ∀ k, (cat2S xs ys k).length ≤ 200000 from fun k => by
    match k with
    | 0 => simp [cat2S]
    | 1 => show xs.length ≤ _; omega
    | k + 2 => show (xs ++ ys).length ≤ _; rw [List.length_append]; omega)
  have HFIN := Lib.hid (show (cat2S xs ys 2).length = n1 + n2 by show (xs ++ ys).length = _; rw [List.length_append, l1, l2])
  clear h1 h2 e1 e2 l1 l2 x0 x1
  go_enter Tryz.func12, Tryz.ntmps12
  go_wp2_with fail
  go_loopw [3, 5, 11] (fun s _ i wr => ∃ k : Nat, k ≤ 2 ∧ i = .int .i64 k ∧ s = .int .i64 ((cat2S xs ys k).length : Int) ∧ w = wr) (fun _ _ i _ => 2 - (intOf i).toNat)
  case atStart => exact ⟨0, by omega, rfl, rfl, rfl⟩
  case round =>
    obtain ⟨k, hk, rfl, rfl, rfl⟩ := hrel
    have hb1 := HLB.out k; have hb2 := HLB.out (k + 1)
    by_cases hlt : k < 2
    · obtain ⟨a, n, c, zs, P⟩ := PK.out k hlt
      have x := P.cell
      have hS := Lib.hid (show ((cat2S xs ys (k + 1)).length : Int) = ((cat2S xs ys k).length : Int) + (n : Int) by rw [P.next, List.length_append, P.ints.1]; omega)
      have hsm := P.small
      have hge : (0 : Int) ≤ ((cat2S xs ys k).length : Int) + (n : Int) := by omega
      generalize (cat2S xs ys k).length = A at *
      go_wp2_with fail
      go_roundw
      case rel => exact ⟨k + 1, by omega, by go_num, by rw [hS.out], by first | rfl | trivial⟩
      case measure => first | (simp [intOf]; done) | (simp [intOf]; omega)
    · obtain rfl : k = 2 := by omega
      rw [HFIN.out]
      clear hb1 hb2 hlt
      go_wp2_with fail
      refine (grow_nilS _ (n1 + n2) (by omega)).mono ?_
      rintro e w1 ⟨v, rfl, hown, hb⟩
      have OWN0 := Lib.hid hown; have B0 := Lib.hid hb
      clear hown hb
      go_wp2_with fail
      go_loopw [6, 8, 27] (fun v _ i wr => ∃ k : Nat, k ≤ 2 ∧ i = .int .i64 k ∧ wr.ownsRow w.heap.size 9 1 v (cat2S xs ys k).length ((cat2S xs ys k).map Value.string) ∧ Below w.heap.size w wr) (fun _ _ i _ => 2 - (intOf i).toNat)
      case atStart => exact ⟨0, by omega, rfl, OWN0.out, B0.out⟩
      case round =>
        obtain ⟨k, hk, rfl, hown, bw⟩ := hrel
        have hb1 := HLB.out k; have hb2 := HLB.out (k + 1)
        obtain ⟨W2, rfl⟩ : ∃ W2, W2 = wr := ⟨_, rfl⟩
        have OWN := Lib.hid hown; have BW := Lib.hid bw
        have hbs := bw.size
        clear hown
        by_cases hlt : k < 2
        · obtain ⟨a, n, c, zs, P⟩ := PK.out k hlt
          have x : W2.cell? ⟨sb, so + k, none⟩ = some (.slice a n c) := (bw.cell (p := ⟨sb, so + k, none⟩) hsb).trans P.cell
          have hI := Lib.hid (txts_thenX P.ints bw)
          have hN := Lib.hid P.next
          have hZ := Lib.hid P.ints.1
          have hsm := P.small
          have hnl := P.nilc
          have hlen := Lib.hid (show (cat2S xs ys (k + 1)).length = (cat2S xs ys k).length + n by rw [P.next, List.length_append, P.ints.1])
          obtain ⟨zk, hzk⟩ : ∃ zk, zk = cat2S xs ys k := ⟨_, rfl⟩
          rw [← hzk] at OWN hb1 hN hlen
          clear hzk bw P
          cases a with
          | none =>
            obtain rfl := hnl rfl
            have hn0 : n = 0 := by
              rcases Nat.eq_zero_or_pos n with h0 | h0
              · exact h0
              · obtain ⟨ad, e⟩ := txts_some hI.out h0; cases e
            subst hn0
            obtain rfl : zs = [] := List.length_eq_zero_iff.1 hZ.out
            go_wp2_with (at_builtin; refine wpList_append_own_none rfl _ _ 22 rfl w.heap.size 9 i0 1 Tryz.underlying22 hi _ zk.length (zk.map Value.string) rfl OWN.out rfl ?_)
            go_roundw
            case rel => exact ⟨k + 1, by omega, by go_num, by rw [hN.out, List.append_nil]; exact OWN.out, BW.out⟩
            case measure => first | (simp [intOf]; done) | (simp [intOf]; omega)
          | some ad =>
            go_wp2_with (at_builtin; refine wpList_append_own _ rfl _ _ 22 rfl w.heap.size 9 i0 (.string ⟨#[]⟩) 1 16 Tryz.underlying22 hi hz0 hz1 hz2 rfl (by decide) _ zk.length (zk.map Value.string) rfl OWN.out ad n c (zs.map Value.string) rfl (by rw [List.length_map, hZ.out, Nat.mul_one]) (txts_news hI.out) (fun u hu => one_str hu) (by unfold maxLen; omega) (by omega) (by omega) ?_; intro v' w4 hown' hgrow _)
            have bw4 : Below w.heap.size w w4 := BW.out.grown hgrow (by omega) (fun b hb => (OWN.out.lt b hb).1)
            have OWN4 := Lib.hid hown'
            clear hown' hgrow
            go_wp2_with fail
            go_roundw
            case rel => exact ⟨k + 1, by omega, by go_num, by rw [hlen.out, hN.out, List.map_append]; exact OWN4.out, bw4⟩
            case measure => first | (simp [intOf]; done) | (simp [intOf]; omega)
        · obtain rfl : k = 2 := by omega
          go_wp2_with fail
          go_ret
          exact ⟨_, rfl, by rw [← HFIN.out]; exact OWN.out, BW.out⟩
end Go.Proofs.YtdmkghgachapaabGreatDoor
