/- Several texts in one: RefD, Pick. -/
import Derived.Test.YtlpbaljoanfogaaGreatDoorRefm
import Derived.Test.YtlpbaljoanfogaaGreatDoorMg5
import Derived.Test.YtlpbaljoanfogaaGreatDoorMg2
set_option linter.unusedSimpArgs false
namespace Go.Proofs.YtlpbaljoanfogaaGreatDoor
set_option linter.unusedVariables false
set_option maxRecDepth 100000
open Go.RowKit Go.ChangeShapes Go.WideShapes Go.Shelf
def PickTo (xs : List Prt) (x : Int) (i k : Nat) : Prop := (i = 0 ∧ k = 0) ∨ (k < i ∧ (∃ p, xs[k]? = some p ∧ p.1 ≤ x) ∧ ∀ j p, k < j → j < i → xs[j]? = some p → x < p.1)
theorem PickTo.take {xs : List Prt} {x f : Int} {s : ByteArray} {i k : Nat} (h : PickTo xs x i k) (hx : xs[i]? = some (f, s)) (hf : f ≤ x) : PickTo xs x (i + 1) i :=
  .inr ⟨by omega, ⟨_, hx, hf⟩, fun j p h1 h2 => by omega⟩
theorem PickTo.skip {xs : List Prt} {x f : Int} {s : ByteArray} {i k : Nat} (h : PickTo xs x i k) (hx : xs[i]? = some (f, s)) (hf : ¬ f ≤ x) (h0 : headF xs ≤ x) : PickTo xs x (i + 1) k := by
  rcases h with ⟨rfl, rfl⟩ | ⟨h1, h2, h3⟩
  · have : headF xs = f := by rw [headF, List.head?_eq_getElem?, hx]; rfl
    omega
  · refine .inr ⟨by omega, h2, fun j p hj hj2 hp => ?_⟩
    by_cases hji : j = i
    · subst hji
      rw [hx] at hp
      cases hp
      simpa using hf
    · exact h3 j p hj (by omega) hp
theorem PickTo.unique {xs : List Prt} {x : Int} {k k' : Nat} (h0 : 0 < xs.length) (h : PickTo xs x xs.length k) (h' : PickTo xs x xs.length k') : k = k' := by
  rcases h with ⟨h1, _⟩ | ⟨h1, ⟨p, hp, hpx⟩, h3⟩
  · omega
  rcases h' with ⟨h1', _⟩ | ⟨h1', ⟨p', hp', hpx'⟩, h3'⟩
  · omega
  rcases Nat.lt_trichotomy k k' with hlt | he | hlt
  · have := h3 k' p' hlt h1' hp'; omega
  · exact he
  · have := h3' k p hlt h1 hp; omega
theorem partsErr_all : ∀ (l : List Prt) (q : Option Int), partsErr q l = 0 → ∀ p ∈ l, calB p.2 = true ∧ -4000000 ≤ p.1 ∧ p.1 ≤ 4000000
  | [], _, _, p, hp => by simp at hp
  | (f, s) :: l, q, h, p, hp => by
    rw [partsErr_cons] at h
    rcases inB_cases (-4000000) 4000000 f with ⟨hd, d1, d2⟩ | ⟨hd, hd'⟩
    case inr => rw [if_pos hd] at h; omega
    rw [if_neg (by rw [hd]; simp)] at h
    have tail : (if calB s = false then (5 : Int) else partsErr (some f) l) = 0 → calB p.2 = true ∧ -4000000 ≤ p.1 ∧ p.1 ≤ 4000000 := fun h => by
      by_cases h3 : calB s = false
      · rw [if_pos h3] at h; omega
      rw [if_neg h3] at h
      rcases List.mem_cons.1 hp with rfl | hp
      · exact ⟨by simpa using h3, d1, d2⟩
      · exact partsErr_all l _ h p hp
    cases q with
    | none => rw [if_neg (by simp)] at h; exact tail h
    | some q0 =>
      by_cases h2 : f ≤ q0
      · rw [if_pos (by simpa using h2)] at h; omega
      · rw [if_neg (by simpa using h2)] at h; exact tail h
theorem reformErr_parts {nm : ByteArray} {xs : List Prt} (h : reformErr nm xs = 0) : 1 ≤ xs.length ∧ xs.length ≤ 10 ∧ headF xs = -4000000 ∧ ∀ p ∈ xs, calB p.2 = true ∧ -4000000 ≤ p.1 ∧ p.1 ≤ 4000000 := by
  unfold reformErr at h
  split at h
  · omega
  · split at h
    · omega
    · split at h
      · omega
      · rename_i h1 h2 h3
        exact ⟨by omega, by omega, by omega, partsErr_all _ _ h⟩
theorem pick_exists {xs : List Prt} {x : Int} (h0 : headF xs ≤ x) : ∀ i, i ≤ xs.length → ∃ k, PickTo xs x i k
  | 0, _ => ⟨0, .inl ⟨rfl, rfl⟩⟩
  | i + 1, h => by
    obtain ⟨k, hk⟩ := pick_exists h0 i (by omega)
    have hx := List.getElem?_eq_getElem (show i < xs.length by omega)
    by_cases hf : (xs[i]'(by omega)).1 ≤ x
    · exact ⟨i, hk.take hx hf⟩
    · exact ⟨k, hk.skip hx hf h0⟩
abbrev refO (nm : ByteArray) (a : Option Addr) (n c : Nat) : Obj := .cells #[.string nm, .slice a n c] 24
set_option maxHeartbeats 4000000 in
theorem ref_ReformPart (w : World) (nm : ByteArray) (a : Option Addr) (n c : Nat) (xs : List Prt) (hc : n ≤ c) (h : Parts w w.heap.size a n xs) (x : Int) (hn : 1 ≤ n) (h0 : headF xs ≤ x) (kk : Nat) (hp : PickTo xs x n kk) :
    Calls Tryz.prog 14 #[.agg #[.string nm, .slice a n c], .int .i64 x] w fun e w' => e = .returned (.int .i64 (kk : Int)) ∧ Below w.heap.size w w' := by
  have L1 := Lib.hid h.len; have m1 := h.max
  have o0 := One.new w (refO nm a n c)
  obtain ⟨b, off, rfl, hbB, hcs0⟩ := h.open_ (by omega)
  have CS0 := Lib.hid hcs0
  have HP := Lib.hid hp
  clear h hcs0 hp
  go_enter Tryz.func14, Tryz.ntmps14
  have O0 := Lib.hid o0; clear o0
  go_wp2_with fail
  generalize World.alloc w _ = W0 at O0 ⊢
  have y1 : W0.cell? ⟨w.heap.size, 1, none⟩ = some (.slice (some ⟨b, off, none⟩) n c) := O0.out.1.cell 1
  have hz0 := O0.out.1.lt
  have hw1 : IntKind.i64.wrap ((n : Int) - 1) = ((n - 1 : Nat) : Int) := by rw [show (n : Int) - 1 = ((n - 1 : Nat) : Int) by omega]; exact IntWalk.i64_in _ (by omega)
  go_wp2_with fail
  clear y1 hz0
  go_loopw [5] (fun i wr => ∃ k : Nat, k < n ∧ i = .int .i64 k ∧ (∀ j p, k < j → j < n → xs[j]? = some p → x < p.1) ∧ One w (refO nm (some ⟨b, off, none⟩) n c) wr) (fun i _ => (intOf i).toNat)
  case atStart => exact ⟨n - 1, by omega, by first | rfl | (simp; omega), fun j p h1 h2 => by omega, O0.out⟩
  case round =>
    obtain ⟨k, hk, rfl, hall, hone⟩ := hrel
    have HA := Lib.hid hall; clear hall O0
    have hB := hone.2
    obtain ⟨f, s, hc1, hc2, hx, f1, f2, hsz⟩ := CS0.out k hk
    have c1 := (hB.cell (p := ⟨b, off + k * 2, none⟩) hbB).trans hc1
    clear hc1 hc2
    have y1 : wr.cell? ⟨w.heap.size, 1, none⟩ = some (.slice (some ⟨b, off, none⟩) n c) := hone.1.cell 1
    have HX := Lib.hid hx; clear hx
    have hz := hB.size
    have hbz : b < wr.heap.size := by omega
    have hz0 := hone.1.lt
    have HO := Lib.hid hone; clear hone
    have HBB := Lib.hid hB; clear hB
    have hkm : (k : Int) ≥ 0 := by omega
    by_cases hle : f ≤ x
    · have hde : decide (f ≤ x) = true := by simpa using hle
      have hde2 : decide (x ≥ f) = true := by simpa using hle
      go_wp2_with fail
      go_ret
      refine ⟨ret_int ?_, HBB.out⟩
      have hpk : PickTo xs x n k := .inr ⟨hk, ⟨_, HX.out, hle⟩, HA.out⟩
      have := PickTo.unique (by rw [L1.out]; omega) (by rw [L1.out]; exact hpk) (by rw [L1.out]; exact HP.out)
      simp [this]
    · have hde : decide (f ≤ x) = false := by simpa using hle
      have hde2 : decide (x ≥ f) = false := by simpa using hle
      have hk0 : 0 < k := by
        rcases Nat.eq_zero_or_pos k with rfl | hk0
        · exfalso
          have : headF xs = f := by rw [headF, List.head?_eq_getElem?, HX.out]; rfl
          omega
        · exact hk0
      have hw2 : IntKind.i64.wrap ((k : Int) - 1) = ((k - 1 : Nat) : Int) := by rw [show (k : Int) - 1 = ((k - 1 : Nat) : Int) by omega]; exact IntWalk.i64_in _ (by omega)
      go_wp2_with fail
      go_roundw
      case rel =>
        refine ⟨k - 1, by omega, by first | rfl | (simp; omega), fun j p h1 h2 h3 => ?_, HO.out⟩
        by_cases hjk : j = k
        · subst hjk
          rw [HX.out] at h3
          cases h3
          simpa using hle
        · exact HA.out j p (by omega) h2 h3
      case measure => simp [intOf]; omega
abbrev dateZ : Obj := .cells #[.int .i64 0, .int .i64 0, .int .i64 0] 26
theorem set3_below {B : Nat} {a w : World} {b : Nat} (h : Below B a w) (hb : B ≤ b) (u0 u1 u2 : Value) : Below B a (((w.setCell ⟨b, 0, none⟩ u0).setCell ⟨b, 1, none⟩ u1).setCell ⟨b, 2, none⟩ u2) :=
  below_set (p := ⟨b, 2, none⟩) (below_set (p := ⟨b, 1, none⟩) (below_set (p := ⟨b, 0, none⟩) h hb u0) hb u1) hb u2
set_option maxHeartbeats 4000000 in
theorem reform_FromDay_bad (w : World) (nm : ByteArray) (a : Option Addr) (n c : Nat) (xs : List Prt) (hs : nm.size ≤ 9223372036854775807) (hc : n ≤ c) (h : Parts w w.heap.size a n xs) (x E : Int)
    (hE : (reformErr nm xs = E ∧ E ≠ 0) ∨ (reformErr nm xs = 0 ∧ inB (-4000000) 4000000 x = false ∧ E = 3)) :
    Calls Tryz.prog 9 #[.agg #[.string nm, .slice a n c], .int .i64 x] w fun e w' => e = .returned (.tuple #[.agg #[.int .i64 0, .int .i64 0, .int .i64 0], .int .i64 E]) ∧ Below w.heap.size w w' := by
  have a0 := (At.new w (refO nm a n c)).alloc dateZ
  have z0 := At.new1 w (refO nm a n c) dateZ
  have b0 := below_new (below_new (Below.refl w.heap.size w) (refO nm a n c)) dateZ
  have H := Lib.hid h; clear h
  go_enter Tryz.func9, Tryz.ntmps9
  go_wp2_with fail
  generalize World.alloc (World.alloc w _) _ = W0 at a0 z0 b0 ⊢
  have Z0 := Lib.hid z0; have B0 := Lib.hid b0
  have x0 := a0.cell 0; have x1 := a0.cell 1; simp at x0 x1
  have hl := a0.lt
  clear a0 z0 b0
  go_wp2_with fail
  refine (reform_Check W0 nm a n c xs hs hc (H.out.then_ B0.out)).mono ?_
  rcases hE with ⟨he, hne⟩ | ⟨he, hx, rfl⟩
  · rw [he]
    rintro e w1 ⟨rfl, hb⟩
    have hne' : (E != 0) = true := by simpa using hne
    have zz := Z0.out.then_ hb
    have B1 := Lib.hid (below_then B0.out hb)
    clear hb x0 x1 hl Z0 he
    have z0 := zz.cell 0; have z1 := zz.cell 1; have z2 := zz.cell 2; simp at z0 z1 z2
    have f0 := zz.frozen 0; have f1 := zz.frozen 1; have f2 := zz.frozen 2
    have hl := zz.lt
    go_wp2_with fail
    have AF := zz.store3 (.int .i64 0) (.int .i64 0) (.int .i64 0)
    have BF := Lib.hid (set3_below B1.out (b := w.heap.size + 1) (by omega) (.int .i64 0) (.int .i64 0) (.int .i64 0))
    clear f0 f1 f2 z0 z1 z2
    generalize World.setCell (World.setCell _ _ _) _ _ = W3 at AF BF ⊢
    have y0 := AF.cell 0; have y1 := AF.cell 1; have y2 := AF.cell 2; simp at y0 y1 y2
    exact bodyPost_ret (v := .tuple #[.agg #[.int .i64 0, .int .i64 0, .int .i64 0], .int .i64 E]) (by simp [results, Tryz.results9, go_sem, y0, y1, y2]) rfl ⟨rfl, BF.out⟩
  · rw [he]
    rintro e w1 ⟨rfl, hb⟩
    have zz := Z0.out.then_ hb
    have B1 := Lib.hid (below_then B0.out hb)
    clear hb x0 x1 hl Z0 he
    have z0 := zz.cell 0; have z1 := zz.cell 1; have z2 := zz.cell 2; simp at z0 z1 z2
    have f0 := zz.frozen 0; have f1 := zz.frozen 1; have f2 := zz.frozen 2
    have hl := zz.lt
    go_wp2_with (go_at_call 32; refine (line_Is _ _).mono ?_; rw [hx]; rintro e w2 ⟨rfl, rfl⟩)
    have AF := zz.store3 (.int .i64 0) (.int .i64 0) (.int .i64 0)
    have BF := Lib.hid (set3_below B1.out (b := w.heap.size + 1) (by omega) (.int .i64 0) (.int .i64 0) (.int .i64 0))
    clear f0 f1 f2 z0 z1 z2
    generalize World.setCell (World.setCell _ _ _) _ _ = W3 at AF BF ⊢
    have y0 := AF.cell 0; have y1 := AF.cell 1; have y2 := AF.cell 2; simp at y0 y1 y2
    exact bodyPost_ret (v := .tuple #[.agg #[.int .i64 0, .int .i64 0, .int .i64 0], .int .i64 3]) (by simp [results, Tryz.results9, go_sem, y0, y1, y2]) rfl ⟨rfl, BF.out⟩
set_option maxHeartbeats 4000000 in
theorem reform_FromDay_ok (w : World) (nm : ByteArray) (a : Option Addr) (n c : Nat) (xs : List Prt) (hs : nm.size ≤ 9223372036854775807) (hc : n ≤ c) (h : Parts w w.heap.size a n xs) (x : Int)
    (hE : reformErr nm xs = 0) (x1 : -4000000 ≤ x) (x2 : x ≤ 4000000) (kk : Nat) (f : Int) (s : ByteArray) (hkx : xs[kk]? = some (f, s)) (hp : PickTo xs x n kk) (da db dd ee : Int)
    (HD : ∀ W, Below w.heap.size w W → Calls Tryz.prog 33 #[.string s, .int .i64 x] W fun e w' => e = .returned (.tuple #[.agg #[.int .i64 da, .int .i64 db, .int .i64 dd], .int .i64 ee]) ∧ Below W.heap.size W w') :
    Calls Tryz.prog 9 #[.agg #[.string nm, .slice a n c], .int .i64 x] w fun e w' => e = .returned (.tuple #[.agg #[.int .i64 da, .int .i64 db, .int .i64 dd], .int .i64 ee]) ∧ Below w.heap.size w w' := by
  obtain ⟨hn1, hn2, hhd, hall⟩ := reformErr_parts hE
  have L1 := Lib.hid h.len; have m1 := h.max
  have HHD := Lib.hid hhd
  have hnn : 1 ≤ n := by rw [← L1.out]; exact hn1
  have hnm : n ≤ 10 := by rw [← L1.out]; exact hn2
  have a0 := (At.new w (refO nm a n c)).alloc dateZ
  have z0 := At.new1 w (refO nm a n c) dateZ
  have b0 := below_new (below_new (Below.refl w.heap.size w) (refO nm a n c)) dateZ
  have H := Lib.hid h; have HP := Lib.hid hp; have HKX := Lib.hid hkx; have HDD := Lib.hid HD; have HE := Lib.hid hE
  obtain ⟨b, off, rfl, hbB, hcs0⟩ := h.open_ (by omega)
  have CS0 := Lib.hid hcs0
  clear h hp hkx HD hE hn1 hn2 hhd hall hcs0
  go_enter Tryz.func9, Tryz.ntmps9
  go_wp2_with fail
  generalize World.alloc (World.alloc w _) _ = W0 at a0 z0 b0 ⊢
  have A0 := Lib.hid a0; have Z0 := Lib.hid z0; have B0 := Lib.hid b0
  have x0 := a0.cell 0; have x1 := a0.cell 1; simp at x0 x1
  have hl := a0.lt
  clear a0 z0 b0
  go_wp2_with fail
  refine (reform_Check W0 nm (some ⟨b, off, none⟩) n c xs hs hc (H.out.then_ B0.out)).mono ?_
  rw [HE.out]
  rintro e w1 ⟨rfl, hb⟩
  have A1 := Lib.hid (A0.out.then_ hb)
  have Z1 := Lib.hid (Z0.out.then_ hb)
  have B1 := Lib.hid (below_then B0.out hb)
  clear hb x0 x1 hl Z0 A0 B0 H HE
  have y1 : w1.cell? ⟨w.heap.size, 1, none⟩ = some (.slice (some ⟨b, off, none⟩) n c) := A1.out.cell 1
  have hl := A1.out.lt
  go_wp2_with (go_at_call 32; refine (line_Is _ _).mono ?_; rw [inB_yes x1 x2]; rintro e w2 ⟨rfl, rfl⟩)
  clear y1 hl
  go_loopw [7, 8, 9, 23] (fun kv _ _ i wr => ∃ k j : Nat, kv = .int .i64 k ∧ i = .int .i64 j ∧ j ≤ n ∧ PickTo xs x j k ∧ At wr w.heap.size (refO nm (some ⟨b, off, none⟩) n c) ∧ At wr (w.heap.size + 1) dateZ ∧ Below w.heap.size w wr) (fun _ _ _ i _ => n - (intOf i).toNat)
  case atStart => exact ⟨0, 0, rfl, rfl, by omega, .inl ⟨rfl, rfl⟩, A1.out, Z1.out, B1.out⟩
  case round =>
    obtain ⟨k, j, rfl, rfl, hj, hpk, ha, hz, hB⟩ := hrel
    have HPK := Lib.hid hpk; have HA := Lib.hid ha; have HZ := Lib.hid hz; have HBB := Lib.hid hB
    clear hpk A1 Z1 B1
    have y1 : wr.cell? ⟨w.heap.size, 1, none⟩ = some (.slice (some ⟨b, off, none⟩) n c) := ha.cell 1
    have hz0 := ha.lt
    have hzs := hB.size
    have hbz : b < wr.heap.size := by omega
    by_cases hlt : j < n
    · obtain ⟨f', s', hc1, hc2, hx, f1, f2, hsz⟩ := CS0.out j hlt
      have c1 := (hB.cell (p := ⟨b, off + j * 2, none⟩) hbB).trans hc1
      have c2 := (hB.cell (p := ⟨b, off + j * 2 + 1, none⟩) hbB).trans hc2
      have HX := Lib.hid hx
      clear hc1 hc2 hx ha hz hB
      by_cases hle : f' ≤ x
      · have hde : decide (f' ≤ x) = true := by simpa using hle
        go_wp2_with fail
        go_roundw
        case rel => exact ⟨j, j + 1, rfl, by go_num, by omega, HPK.out.take HX.out hle, HA.out.alloc _, HZ.out.alloc _, below_new HBB.out _⟩
        case measure => simp [intOf]; omega
      · have hde : decide (f' ≤ x) = false := by simpa using hle
        go_wp2_with fail
        go_roundw
        case rel => exact ⟨k, j + 1, rfl, by go_num, by omega, HPK.out.skip HX.out hle (by rw [HHD.out]; exact x1), HA.out.alloc _, HZ.out.alloc _, below_new HBB.out _⟩
        case measure => simp [intOf]; omega
    · obtain rfl : j = n := by omega
      obtain rfl : k = kk := PickTo.unique (by rw [L1.out]; omega) (by rw [L1.out]; exact HPK.out) (by rw [L1.out]; exact HP.out)
      have hkn : k < j := by
        rcases HPK.out with ⟨h1, _⟩ | ⟨h1, _⟩
        · omega
        · exact h1
      obtain ⟨f', s', hc1, hc2, hx, f1, f2, hsz⟩ := CS0.out k hkn
      rw [HKX.out] at hx
      cases hx
      have c2 := (hB.cell (p := ⟨b, off + k * 2 + 1, none⟩) hbB).trans hc2
      clear hc1 hc2 ha hz hB
      go_wp2_with fail
      refine (HDD.out wr HBB.out).mono ?_
      rintro e w2 ⟨rfl, hb⟩
      have zz := HZ.out.then_ hb
      have B2 := Lib.hid (below_then HBB.out hb)
      clear hb y1 hz0 hbz c2
      have z0 := zz.cell 0; have z1 := zz.cell 1; have z2 := zz.cell 2; simp at z0 z1 z2
      have f0 := zz.frozen 0; have f1 := zz.frozen 1; have f2 := zz.frozen 2
      have hl := zz.lt
      go_wp2_with fail
      have AF := zz.store3 (.int .i64 da) (.int .i64 db) (.int .i64 dd)
      have BF := Lib.hid (set3_below B2.out (b := w.heap.size + 1) (by omega) (.int .i64 da) (.int .i64 db) (.int .i64 dd))
      clear f0 f1 f2 z0 z1 z2
      generalize World.setCell (World.setCell _ _ _) _ _ = W3 at AF BF ⊢
      have y0 := AF.cell 0; have y1 := AF.cell 1; have y2 := AF.cell 2; simp at y0 y1 y2
      exact bodyPost_ret (v := .tuple #[.agg #[.int .i64 da, .int .i64 db, .int .i64 dd], .int .i64 ee]) (by simp [results, Tryz.results9, go_sem, y0, y1, y2]) rfl ⟨rfl, BF.out⟩
end Go.Proofs.YtlpbaljoanfogaaGreatDoor

set_option linter.unusedSimpArgs false
namespace Go.Proofs.YtlpbaljoanfogaaGreatDoor
set_option linter.unusedVariables false
open Go.RowKit
theorem parts_inc : ∀ (l : List Prt) (q : Option Int), partsErr q l = 0 → Inc (l.map (·.1)) ∧ ∀ q0 p, q = some q0 → (l.map (·.1))[0]? = some p → q0 < p
  | [], q, _ => ⟨fun i a b h => by simp at h, fun q0 p _ h => by simp at h⟩
  | (f, s) :: l, q, h => by
    rw [partsErr_cons] at h
    by_cases h1 : inB (-4000000) 4000000 f = false
    · rw [if_pos h1] at h; omega
    rw [if_neg h1] at h
    have h2 : ∀ q0, q = some q0 → q0 < f := by
      rintro q0 rfl
      by_cases h2 : f ≤ q0
      · rw [if_pos (by simpa using h2)] at h; omega
      · omega
    have h3 : (if calB s = false then (5 : Int) else partsErr (some f) l) = 0 := by
      cases q with
      | none => rw [if_neg (by simp)] at h; exact h
      | some q0 => rw [if_neg (by have := h2 q0 rfl; simp; omega)] at h; exact h
    by_cases h4 : calB s = false
    · rw [if_pos h4] at h3; omega
    rw [if_neg h4] at h3
    obtain ⟨i1, i2⟩ := parts_inc l (some f) h3
    refine ⟨fun i a b ha hb => ?_, fun q0 p hq hp => ?_⟩
    · cases i with
      | zero =>
        simp at ha; subst ha
        exact i2 f b rfl (by simpa using hb)
      | succ i => exact i1 i a b (by simpa using ha) (by simpa using hb)
    · simp at hp; subst hp
      exact h2 q0 hq
theorem pickTo_iff {xs : List Prt} (hi : Inc (xs.map (·.1))) {x : Int} {k : Nat} {s : ByteArray} {f : Int} (hk : xs[k]? = some (f, s)) : PickTo xs x xs.length k ↔ f ≤ x ∧ ∀ p, xs[k + 1]? = some p → x < p.1 := by
  have hlt : k < xs.length := (List.getElem?_eq_some_iff.1 hk).1
  have key := last_iff hi (x := x) (k := k)
  simp only [List.getElem?_map, Option.map_eq_some_iff] at key
  constructor
  · rintro (⟨h, _⟩ | ⟨h1, ⟨p, hp, hpx⟩, h3⟩)
    · omega
    · rw [hk] at hp; cases hp
      exact ⟨hpx, fun p hp => h3 (k + 1) p (by omega) (List.getElem?_eq_some_iff.1 hp).1 hp⟩
  · rintro ⟨h1, h2⟩
    refine .inr ⟨hlt, ⟨_, hk, h1⟩, fun j p hj _ hp => ?_⟩
    exact key.2 (fun p ⟨q, hq, e⟩ => e ▸ h2 q hq) j p.1 hj ⟨p, hp, rfl⟩
end Go.Proofs.YtlpbaljoanfogaaGreatDoor
