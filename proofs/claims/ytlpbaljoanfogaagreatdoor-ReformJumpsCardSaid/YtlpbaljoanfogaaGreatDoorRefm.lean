import Derived.Test.YtlpbaljoanfogaaGreatDoorMgD
import Derived.Test.YtlpbaljoanfogaaGreatDoorMgB
import Derived.Test.YtlpbaljoanfogaaGreatDoorName
import Derived.Test.YtlpbaljoanfogaaGreatDoorMg5
import Derived.Test.YtlpbaljoanfogaaGreatDoorMgW
import Derived.Test.YtlpbaljoanfogaaGreatDoorLayX
set_option linter.unusedSimpArgs false
namespace Go.Proofs.YtlpbaljoanfogaaGreatDoor
set_option linter.unusedVariables false
set_option maxRecDepth 100000
open Go.RowKit Go.ChangeShapes Go.WideShapes Go.Deep Go.Shelf
abbrev Prt := Int × ByteArray
def encPrt (x : Prt) : List Value := [.int .i64 (x.1), .string (x.2)]
def okPrt (x : Prt) : Prop := I64 (x.1) ∧ (x.2).size ≤ 9223372036854775807
def Parts (w : World) (B : Nat) (a : Option Addr) (n : Nat) (xs : List Prt) : Prop := RowsOf 2 encPrt w B a n xs ∧ ∀ x ∈ xs, okPrt x
section
variable {w w' w1 w2 : World} {B B' : Nat} {a : Option Addr} {n : Nat} {xs : List Prt}
theorem Parts.below (h : Parts w B a n xs) (hb : Below B' w w') (hB : B ≤ B') : Parts w' B a n xs := ⟨h.1.below hb hB, h.2⟩
theorem Parts.more (h : Parts w B a n xs) (hB : B ≤ B') : Parts w B' a n xs := ⟨h.1.more hB, h.2⟩
theorem Parts.then_ (h : Parts w w.heap.size a n xs) (b : Below w.heap.size w w1) : Parts w1 w1.heap.size a n xs := (h.below b (Nat.le_refl _)).more b.size
theorem Parts.far (h : Parts w w.heap.size a n xs) (b : Below w.heap.size w w1) (b' : Below w1.heap.size w1 w2) : Parts w2 w2.heap.size a n xs := ⟨h.1.far b b', h.2⟩
theorem Parts.take (h : Parts w B a n xs) {k : Nat} (hk : k ≤ n) : Parts w B a k (xs.take k) := ⟨h.1.take hk, fun x hx => h.2 x (List.mem_of_mem_take hx)⟩
theorem Parts.len (h : Parts w B a n xs) : xs.length = n := h.1.1
theorem Parts.max (h : Parts w B a n xs) : n ≤ 9223372036854775807 := h.1.2.1
theorem Parts.open_ (h : Parts w B a n xs) (hn : 0 < n) :
    ∃ b off, a = some ⟨b, off, none⟩ ∧ b < B ∧ ∀ k, k < n → ∃ (u0 : Int) (u1 : ByteArray), w.cell? ⟨b, off + k * 2, none⟩ = some (.int .i64 (u0)) ∧ w.cell? ⟨b, off + k * 2 + 1, none⟩ = some (.string (u1)) ∧ xs[k]? = some (u0, u1) ∧ -9223372036854775808 ≤ u0 ∧ u0 ≤ 9223372036854775807 ∧ u1.size ≤ 9223372036854775807 := by
  obtain ⟨b, off, e, hlt, hc⟩ := h.1.2.2 hn
  refine ⟨b, off, e, hlt, fun k hk => ?_⟩
  have hl : k < xs.length := by have := h.len; omega
  have hx := List.getElem?_eq_getElem hl
  have hm := h.2 _ (List.getElem_mem hl)
  exact ⟨xs[k].1, xs[k].2, hc k _ hx 0 _ rfl, hc k _ hx 1 _ rfl, hx, hm.1.1, hm.1.2, hm.2⟩
end
theorem open_Parts {H : Type} {enc : TypeId × Value → H} {W : World} {fuel : Nat} {v : Value} {x : DataW H × List MemPlace}
    (h : DataW.trod enc Tryz.prog W 0 (fun _ => true) true fuel 22 [v] = some x) :
    ∃ a n c xs, v = .slice a n c ∧ n ≤ c ∧ c ≤ 9223372036854775807 ∧ Parts W W.heap.size a n xs := by
  obtain ⟨a', len', cap', e', hlc, hcm⟩ := open_cap Tryz.underlying22 h
  obtain ⟨a, len, cap, rfl, hl, hrow⟩ := open_rows Tryz.underlying22 Tryz.underlying44 (by kernel_rfl) (by kernel_rfl) (by decide) h
  obtain ⟨rfl, rfl, rfl⟩ : a = a' ∧ len = len' ∧ cap = cap' := by injection e' with x y z; exact ⟨x, y, z⟩
  by_cases hn : 0 < len
  · obtain ⟨b, off, rfl, hb, hc⟩ := hrow hn
    have hs : ∀ i, i < len → ∃ x : Prt, (∀ j v, (encPrt x)[j]? = some v → W.cell? ⟨b, off + i * 2 + j, none⟩ = some v) ∧ okPrt x := by
      intro i hi
      obtain ⟨n, hf⟩ := hc i hi
      obtain ⟨z0, y0, c0, t0⟩ := hf 0 _ rfl
      obtain ⟨k0, rfl, hk0⟩ := open_num t0
      obtain ⟨z1, y1, c1, t1⟩ := hf 1 _ rfl
      obtain ⟨k1, rfl, hk1⟩ := open_str t1
      refine ⟨(k0, k1), fun j v hv => ?_, hk0, hk1⟩
      match j, hv with
      | 0, hv => simp [encPrt] at hv; subst hv; exact c0
      | 1, hv => simp [encPrt] at hv; subst hv; exact c1
    obtain ⟨xs, hx1, hx2⟩ := listOf hs
    refine ⟨_, len, cap, xs, rfl, hlc, hcm, ⟨hx1, hl, fun _ => ⟨b, off, rfl, hb, fun i x hx => (hx2 i x hx).1⟩⟩, fun x hx => ?_⟩
    obtain ⟨i, hi, rfl⟩ := List.getElem_of_mem hx
    exact (hx2 i _ (List.getElem?_eq_getElem hi)).2
  · obtain rfl : len = 0 := by omega
    exact ⟨a, 0, cap, [], rfl, hlc, hcm, ⟨rfl, by omega, fun h => absurd h (by omega)⟩, by simp⟩
theorem open_Reform {H : Type} {enc : TypeId × Value → H} {v : Value} {d : DataW H} {p : List MemPlace} {base : Nat} {W : World}
    (o : Value.okWide Tryz.prog W .any base 24 v) (h : DataW.Trod enc Tryz.prog W 0 (fun _ => true) true 24 v d p) :
    ∃ (s : ByteArray) (a : Option Addr) (n c : Nat) (xs : List Prt), v = .agg #[.string s, .slice a n c] ∧ s.size ≤ 9223372036854775807 ∧ n ≤ c ∧ c ≤ 9223372036854775807 ∧ Parts W W.heap.size a n xs := by
  obtain ⟨cs, n, rfl, hl, hf⟩ := open_agg Tryz.underlying24 (by kernel_rfl) (by kernel_rfl) o h
  match cs, hl with
  | [v0, v1], _ =>
    obtain ⟨_, _, e0, t0⟩ := hf 0 _ rfl
    obtain ⟨_, _, e1, t1⟩ := hf 1 _ rfl
    obtain ⟨s, rfl, hs⟩ := open_str t0
    obtain ⟨a, n, c, xs, rfl, k1, m1, h1⟩ := open_Parts t1
    simp at e0 e1
    subst e0 e1
    exact ⟨s, a, n, c, xs, rfl, hs, k1, m1, h1⟩
def calB (s : ByteArray) : Bool := namesL.contains s.data.toList
def partsErr : Option Int → List Prt → Int
  | _, [] => 0
  | p, (f, s) :: l => if inB (-4000000) 4000000 f = false then 3 else if (match p with | some q => decide (f ≤ q) | none => false) = true then 9 else if calB s = false then 5 else partsErr (some f) l
theorem partsErr_cons (p : Option Int) (f : Int) (s : ByteArray) (l : List Prt) : partsErr p ((f, s) :: l) = if inB (-4000000) 4000000 f = false then 3 else if (match p with | some q => decide (f ≤ q) | none => false) = true then 9 else if calB s = false then 5 else partsErr (some f) l := by
  rw [partsErr.eq_def]
def headF (xs : List Prt) : Int := (xs.head?.map (·.1)).getD 0
def reformErr (nm : ByteArray) (xs : List Prt) : Int := if isName nm = false then 5 else if ¬ (1 ≤ xs.length ∧ xs.length ≤ 10) then 2 else if headF xs ≠ -4000000 then 8 else partsErr none xs
def prevP (xs : List Prt) : Nat → Option Int
  | 0 => none
  | k + 1 => (xs[k]?).map (·.1)
theorem dropP {α : Type} {xs : List α} {k : Nat} {x : α} (h : xs[k]? = some x) : xs.drop k = x :: xs.drop (k + 1) := by
  obtain ⟨hl, rfl⟩ := List.getElem?_eq_some_iff.1 h
  exact List.drop_eq_getElem_cons hl
def namesB : List ByteArray := namesL.map fun l => ⟨l.toArray⟩
theorem namesB_any (s : ByteArray) : Lib.containsS (namesB.take 40) s = calB s := by
  rw [List.take_of_length_le (by rw [namesB, List.length_map, names_len]; omega), Bool.eq_iff_iff, Lib.containsS_iff]
  unfold namesB calB
  rw [List.contains_iff_mem, List.mem_map]
  constructor
  · rintro ⟨x, hx, rfl⟩
    simpa using hx
  · intro h
    exact ⟨_, h, by simp⟩
theorem texts_some : ∀ i, i < 40 → textsL[i]?.getD [] ≠ [] := by decide +kernel
theorem textOf_nil (s : ByteArray) : textOf s.data.toList = [] ↔ calB s = false := by
  unfold textOf calB
  constructor
  · intro h
    by_cases hc : namesL.contains s.data.toList = true
    · have hlt : namesL.findIdx (· == s.data.toList) < 40 := by
        rw [← names_len, List.findIdx_lt_length]
        exact ⟨_, List.contains_iff_mem.1 hc, by simp⟩
      exact absurd h (texts_some _ hlt)
    · simpa using hc
  · intro h
    have hi : namesL.findIdx (· == s.data.toList) = 40 := by
      rw [← names_len, List.findIdx_eq_length]
      intro x hx
      rw [beq_eq_false_iff_ne]
      intro e
      rw [e] at hx
      have := List.contains_iff_mem.2 hx
      rw [h] at this; cases this
    rw [hi, List.getElem?_eq_none (by rw [texts_len]; omega)]; rfl
set_option maxHeartbeats 4000000 in
theorem reform_Check (w : World) (nm : ByteArray) (a : Option Addr) (n c : Nat) (xs : List Prt) (hs : nm.size ≤ 9223372036854775807) (hc : n ≤ c) (h : Parts w w.heap.size a n xs) :
    Calls Tryz.prog 31 #[.agg #[.string nm, .slice a n c]] w fun e w' => e = .returned (.int .i64 (reformErr nm xs)) ∧ Below w.heap.size w w' := by
  have l1 := h.len
  have m1 := h.max
  have o0 := One.new w (.cells #[.string nm, .slice a n c] 24)
  have H := Lib.hid h; have L1 := Lib.hid l1; clear h
  skip
  rcases Bool.eq_false_or_eq_true (isName nm) with hnm0 | hnm0
  case inr =>
    have ho := Lib.hid (show reformErr nm xs = 5 by rw [reformErr, if_pos hnm0])
    clear l1
    go_enter Tryz.func31, Tryz.ntmps31
    have O0 := Lib.hid o0; clear o0
    go_wp2_with fail
    generalize World.alloc w _ = W0 at O0 ⊢
    have x0 : W0.cell? ⟨w.heap.size, 0, none⟩ = some (.string nm) := O0.out.1.cell 0
    go_wp2_with (go_at_call 56; refine (rule_IsName _ _ hs).mono ?_; rintro e w1 ⟨rfl, rfl⟩)
    go_ret
    exact ⟨ret_int (by rw [ho.out]), O0.out.2⟩
  by_cases hn : ¬ (1 ≤ n ∧ n ≤ 10)
  · have ho := Lib.hid (show reformErr nm xs = 2 by rw [reformErr, if_neg (by rw [hnm0]; simp), if_pos (by omega)])
    clear l1
    have hn' : n < 1 ∨ 10 < n := by omega
    clear hn
    rcases hn' with hl | hl
    all_goals
      go_enter Tryz.func31, Tryz.ntmps31
      have O0 := Lib.hid o0; clear o0
      go_wp2_with fail
      generalize World.alloc w _ = W0 at O0 ⊢
      have x0 : W0.cell? ⟨w.heap.size, 0, none⟩ = some (.string nm) := O0.out.1.cell 0
      have x1 : W0.cell? ⟨w.heap.size, 1, none⟩ = some (.slice a n c) := O0.out.1.cell 1
      go_wp2_with (go_at_call 56; refine (rule_IsName _ _ hs).mono ?_; rintro e w1 ⟨rfl, rfl⟩)
      go_ret
      exact ⟨ret_int (by rw [ho.out]), O0.out.2⟩
  have hn1 : 1 ≤ n := by omega
  have hn8 : n ≤ 10 := by omega
  skip
  obtain ⟨b, off, rfl, hbB, hcs0⟩ := H.out.open_ (by omega)
  have CS0 := Lib.hid hcs0
  obtain ⟨f0, s0, hf0, hs0, hx0, _⟩ := hcs0 0 hn1
  simp only [Nat.zero_mul, Nat.add_zero] at hf0
  have hd0 : headF xs = f0 := by rw [headF, List.head?_eq_getElem?, hx0]; rfl
  clear hcs0 hs0 hx0
  have f0W : (w.alloc (.cells #[.string nm, .slice (some ⟨b, off, none⟩) n c] 24)).cell? ⟨b, off, none⟩ = some (.int .i64 f0) := (o0.2.cell (p := ⟨b, off, none⟩) hbB).trans hf0
  clear hf0
  by_cases hf : f0 = -4000000
  case neg =>
    have ho := Lib.hid (show reformErr nm xs = 8 by rw [reformErr, if_neg (by rw [hnm0]; simp), if_neg (by omega), if_pos (by rw [hd0]; exact hf)])
    have d0 : (f0 != -4000000) = true := by simpa using hf
    clear hf hn hd0 l1
    go_enter Tryz.func31, Tryz.ntmps31
    have O0 := Lib.hid o0; clear o0
    go_wp2_with fail
    generalize World.alloc w _ = W0 at O0 f0W ⊢
    have x0 : W0.cell? ⟨w.heap.size, 0, none⟩ = some (.string nm) := O0.out.1.cell 0
    have x1 : W0.cell? ⟨w.heap.size, 1, none⟩ = some (.slice (some ⟨b, off, none⟩) n c) := O0.out.1.cell 1
    have hb0 : b < W0.heap.size := by have := O0.out.2.size; omega
    go_wp2_with (go_at_call 56; refine (rule_IsName _ _ hs).mono ?_; rintro e w1 ⟨rfl, rfl⟩)
    go_ret
    exact ⟨ret_int (by rw [ho.out]), O0.out.2⟩
  have ho := Lib.hid (show reformErr nm xs = partsErr none xs by rw [reformErr, if_neg (by rw [hnm0]; simp), if_neg (by omega), if_neg (by rw [hd0, hf]; simp)])
  clear hn hd0 l1
  subst hf
  go_enter Tryz.func31, Tryz.ntmps31
  have O0 := Lib.hid o0; clear o0
  go_wp2_with fail
  generalize World.alloc w _ = W0 at O0 f0W ⊢
  have x0 : W0.cell? ⟨w.heap.size, 0, none⟩ = some (.string nm) := O0.out.1.cell 0
  have x1 : W0.cell? ⟨w.heap.size, 1, none⟩ = some (.slice (some ⟨b, off, none⟩) n c) := O0.out.1.cell 1
  have hb0 : b < W0.heap.size := by have := O0.out.2.size; omega
  go_wp2_with (go_at_call 56; refine (rule_IsName _ _ hs).mono ?_; rintro e w1 ⟨rfl, rfl⟩)
  refine (cat_Names _).mono ?_
  rintro e w1 ⟨v, rfl, hown, hb⟩
  obtain ⟨g, cn, rfl, hc40, hg, hcells⟩ := own_strs hown names_len (by omega)
  have CN := Lib.hid (fun (W : World) (hW : Below w1.heap.size w1 W) (s : ByteArray) => show Calls Tryz.prog 57 #[.slice (some ⟨g, 0, none⟩) 40 cn, .string s] W (fun e w' => e = .returned (.bool (calB s)) ∧ w' = W) from by
    have h1 : Calls Tryz.prog 57 #[.slice (some ⟨g, 0, none⟩) 40 cn, .string s] W (fun e w' => e = .returned (.bool (Lib.containsS (namesB.take 40) s)) ∧ w' = W) := Any.slices_Contains_string Tryz.laysn110 g 0 40 cn namesB s W (by rw [namesB, List.length_map, names_len]; omega) (by omega) (fun j hj => by
      rw [namesB, List.length_map] at hj
      have hx := List.getElem?_eq_getElem hj
      rw [(hW.cell (p := ⟨g, 0 + j, none⟩) hg), hcells j _ hx]
      simp [namesB, hj])
    rw [namesB_any] at h1
    exact h1)
  have O1 := Lib.hid (show One w (.cells #[.string nm, .slice (some ⟨b, off, none⟩) n c] 24) w1 from O0.out.step hb)
  have y1 : w1.cell? ⟨w.heap.size, 1, none⟩ = some (.slice (some ⟨b, off, none⟩) n c) := O1.out.1.cell 1
  clear hown hcells hb O0 x0 x1 f0W hb0
  go_wp2_with fail
  clear y1
  go_loopw [4, 5, 30] (fun _ _ i wr => ∃ k : Nat, k ≤ n ∧ i = .int .i64 k ∧ partsErr (prevP xs k) (xs.drop k) = partsErr none xs ∧ One w (.cells #[.string nm, .slice (some ⟨b, off, none⟩) n c] 24) wr ∧ Below w1.heap.size w1 wr) (fun _ _ i _ => n - (intOf i).toNat)
  case atStart => exact ⟨0, by omega, rfl, rfl, O1.out, Below.refl _ _⟩
  case round =>
    obtain ⟨k, hk, rfl, hall, hone, hbw1⟩ := hrel
    have HA := Lib.hid hall; clear hall
    clear O1
    by_cases hlt : k < n
    · have hB := hone.2
      obtain ⟨f, s, hc1, hc2, hx, f1, f2, hsz⟩ := CS0.out k hlt
      have c1 := (hB.cell (p := ⟨b, off + k * 2, none⟩) hbB).trans hc1
      have c2 := (hB.cell (p := ⟨b, off + k * 2 + 1, none⟩) hbB).trans hc2
      clear hc1 hc2
      have y1 : wr.cell? ⟨w.heap.size, 1, none⟩ = some (.slice (some ⟨b, off, none⟩) n c) := hone.1.cell 1
      have hst := Lib.hid ((congrArg (partsErr (prevP xs k)) (dropP hx)).symm.trans HA.out)
      have HX := Lib.hid hx; clear hx
      have hz := hB.size
      have hbz : b < wr.heap.size := by omega
      have hz0 := hone.1.lt
      have HO := Lib.hid hone; clear hone
      have HBB := Lib.hid hB; clear hB
      have HW1 := Lib.hid hbw1; clear hbw1
      rcases inB_cases (-4000000) 4000000 f with ⟨hd, d1, d2⟩ | ⟨hd, hd'⟩
      case inr =>
        have HF := Lib.hid (show reformErr nm xs = 3 by rw [ho.out, ← hst.out, partsErr_cons, if_pos hd])
        go_wp2_with (go_at_call 32; refine (line_Is _ _).mono ?_; rintro e w1 ⟨rfl, rfl⟩)
        go_ret
        exact ⟨ret_int (by rw [HF.out]), below_new HBB.out _⟩
      have hst1 := hst.out
      rw [partsErr_cons, if_neg (by rw [hd]; simp)] at hst1
      have hst2 := Lib.hid hst1; clear hst1 hst
      have hnext := Lib.hid (show prevP xs (k + 1) = some f by rw [prevP, HX.out]; rfl)
      have hP : (∃ m q, k = m + 1 ∧ prevP xs k = some q ∧ (∀ W, Below w.heap.size w W → W.cell? ⟨b, off + m * 2, none⟩ = some (.int .i64 q)) ∧ -9223372036854775808 ≤ q ∧ q ≤ 9223372036854775807) ∨ (k = 0 ∧ prevP xs k = none) := by
        cases k with
        | zero => exact .inr ⟨rfl, rfl⟩
        | succ m =>
          obtain ⟨q, _, hq1, _, hq3, hq4, hq5, _⟩ := CS0.out m (by omega)
          exact .inl ⟨m, q, rfl, by rw [prevP, hq3]; rfl, fun W hW => (hW.cell (p := ⟨b, off + m * 2, none⟩) hbB).trans hq1, hq4, hq5⟩
      rcases hP with ⟨m, q, rfl, hprev, hq, q1, q2⟩ | ⟨rfl, hprev⟩
      · have cq := hq wr HBB.out
        clear hq
        have hmn : m < n := by omega
        have hwm : IntKind.i64.wrap (m : Int) = (m : Int) := IntWalk.i64_in _ (by omega)
        by_cases hle : f ≤ q
        · have HF := Lib.hid (show reformErr nm xs = 9 by rw [ho.out, ← hst2.out, hprev, if_pos (by simpa using hle)])
          clear hprev
          have hde : decide (f ≤ q) = true := by simpa using hle
          go_wp2_with (go_at_call 32; refine (line_Is _ _).mono ?_; rintro e w1 ⟨rfl, rfl⟩)
          go_quiet (fail)
          go_wp2_with fail
          go_ret
          exact ⟨ret_int (by rw [HF.out]), below_drewN (below_new HBB.out _) _⟩
        · have hst3 := hst2.out
          rw [hprev, if_neg (by simpa using hle)] at hst3
          have HS := Lib.hid hst3
          clear hprev hst3 hst2
          have hde : decide (f ≤ q) = false := by simpa using hle
          clear hle
          go_wp2_with (go_at_call 32; refine (line_Is _ _).mono ?_; rintro e w1 ⟨rfl, rfl⟩)
          go_quiet (fail)
          go_wp2_with fail
          refine (CN.out _ (below_drewN (below_new HW1.out _) _) s).mono ?_
          rcases Bool.eq_false_or_eq_true (calB s) with hcal | hcal
          case inr =>
            rw [hcal]
            rintro e w2 ⟨rfl, rfl⟩
            have HF := Lib.hid (show reformErr nm xs = 5 by rw [ho.out, ← HS.out, if_pos hcal])
            go_wp2_with fail
            go_ret
            exact ⟨ret_int (by rw [HF.out]), below_drewN (below_new HBB.out _) _⟩
          rw [hcal]
          rintro e w2 ⟨rfl, rfl⟩
          have HS2 := Lib.hid (show partsErr (some f) (xs.drop (m + 1 + 1)) = partsErr none xs by rw [← HS.out, if_neg (by rw [hcal]; simp)])
          go_wp2_with fail
          go_roundw
          case rel =>
            refine ⟨m + 1 + 1, by omega, by go_num, ?_, HO.out.step (below_drewN (below_new (Below.refl _ _) _) _), below_drewN (below_new HW1.out _) _⟩
            rw [hnext.out, HS2.out]
          case measure => simp [intOf]; omega
      · have hst3 := hst2.out
        rw [hprev, if_neg (by simp)] at hst3
        have HS := Lib.hid hst3
        clear hprev hst3 hst2
        simp only [Nat.zero_mul, Nat.add_zero] at c1 c2
        go_wp2_with (go_at_call 32; refine (line_Is _ _).mono ?_; rintro e w1 ⟨rfl, rfl⟩)
        go_quiet (fail)
        go_wp2_with fail
        refine (CN.out _ (below_drewN (below_new HW1.out _) _) s).mono ?_
        rcases Bool.eq_false_or_eq_true (calB s) with hcal | hcal
        case inr =>
          rw [hcal]
          rintro e w2 ⟨rfl, rfl⟩
          have HF := Lib.hid (show reformErr nm xs = 5 by rw [ho.out, ← HS.out, if_pos hcal])
          go_wp2_with fail
          go_ret
          exact ⟨ret_int (by rw [HF.out]), below_drewN (below_new HBB.out _) _⟩
        rw [hcal]
        rintro e w2 ⟨rfl, rfl⟩
        have HS2 := Lib.hid (show partsErr (some f) (xs.drop (1)) = partsErr none xs by rw [← HS.out, if_neg (by rw [hcal]; simp)])
        go_wp2_with fail
        go_roundw
        case rel =>
          refine ⟨1, by omega, by go_num, ?_, HO.out.step (below_drewN (below_new (Below.refl _ _) _) _), below_drewN (below_new HW1.out _) _⟩
          rw [hnext.out, HS2.out]
        case measure => simp [intOf]; omega
    · have HF := Lib.hid (show reformErr nm xs = 0 by rw [ho.out, ← HA.out, List.drop_eq_nil_of_le (by have := L1.out; omega), partsErr])
      have HBB := Lib.hid hone.2
      clear hone
      go_wp2_with fail
      go_ret
      exact ⟨ret_int (by rw [HF.out]), HBB.out⟩
set_option maxHeartbeats 4000000 in
theorem ref_ReformError (w : World) (mx : Int) (hmx : w.cell? ⟨0, 0, none⟩ = some (.int .i64 mx)) (nm : ByteArray) (a : Option Addr) (n c : Nat) (xs : List Prt) (hs : nm.size ≤ 9223372036854775807) (hc : n ≤ c) (h : Parts w w.heap.size a n xs) :
    Calls Tryz.prog 11 #[.agg #[.string nm, .slice a n c]] w fun e w' => e = .returned (.int .i64 (reformErr nm xs)) ∧ Below w.heap.size w w' := by
  have l1 := h.len
  have m1 := h.max
  have o0 := One.new w (.cells #[.string nm, .slice a n c] 24)
  have H := Lib.hid h; have L1 := Lib.hid l1; clear h
  have hgm := World.block_lt_of_cell? _ _ hmx
  have CT : ∀ (s : ByteArray) (t : List UInt8) (W : World), textOf s.data.toList = t → Below w.heap.size w W → Calls Tryz.prog 35 #[.string s] W (fun e w2 => e = .returned (.string ⟨t.toArray⟩) ∧ Below W.heap.size W w2) := fun s t W ht hW => by
    have h1 := ref_Text W mx ((hW.cell (p := ⟨0, 0, none⟩) hgm).trans hmx) s.data.toList
    rw [ht, show (⟨s.data.toList.toArray⟩ : ByteArray) = s from by simp] at h1
    exact h1
  clear hmx hgm
  rcases Bool.eq_false_or_eq_true (isName nm) with hnm0 | hnm0
  case inr =>
    have ho := Lib.hid (show reformErr nm xs = 5 by rw [reformErr, if_pos hnm0])
    clear l1
    go_enter Tryz.func11, Tryz.ntmps11
    have O0 := Lib.hid o0; clear o0
    go_wp2_with fail
    generalize World.alloc w _ = W0 at O0 ⊢
    have x0 : W0.cell? ⟨w.heap.size, 0, none⟩ = some (.string nm) := O0.out.1.cell 0
    go_wp2_with (go_at_call 34; refine (ref_Name _ _ hs).mono ?_; rintro e w1 ⟨rfl, rfl⟩)
    go_ret
    exact ⟨ret_int (by rw [ho.out]), O0.out.2⟩
  by_cases hn : ¬ (1 ≤ n ∧ n ≤ 10)
  · have ho := Lib.hid (show reformErr nm xs = 2 by rw [reformErr, if_neg (by rw [hnm0]; simp), if_pos (by omega)])
    clear l1
    have hin := Lib.hid (show inB 1 10 (n : Int) = false from by rcases inB_cases 1 10 (n : Int) with ⟨q, q1, q2⟩ | ⟨q, _⟩; exact absurd ⟨by omega, by omega⟩ hn; exact q)
    have hinn : inB 1 10 (n : Int) = false := hin.out
    clear hn
    all_goals
      go_enter Tryz.func11, Tryz.ntmps11
      have O0 := Lib.hid o0; clear o0
      go_wp2_with fail
      generalize World.alloc w _ = W0 at O0 ⊢
      have x0 : W0.cell? ⟨w.heap.size, 0, none⟩ = some (.string nm) := O0.out.1.cell 0
      have x1 : W0.cell? ⟨w.heap.size, 1, none⟩ = some (.slice a n c) := O0.out.1.cell 1
      go_wp2_with (first | (go_at_call 34; refine (ref_Name _ _ hs).mono ?_; rintro e w1 ⟨rfl, rfl⟩) | (go_at_call 20; refine (ref_In _ _ _ _).mono ?_; rintro e w1 ⟨rfl, rfl⟩))
      go_ret
      exact ⟨ret_int (by rw [ho.out]), O0.out.2⟩
  have hn1 : 1 ≤ n := by omega
  have hn8 : n ≤ 10 := by omega
  have hinn : inB 1 10 (n : Int) = true := by rcases inB_cases 1 10 (n : Int) with ⟨q, q1, q2⟩ | ⟨q, q1⟩; exact q; exact absurd q1 (by omega)
  obtain ⟨b, off, rfl, hbB, hcs0⟩ := H.out.open_ (by omega)
  have CS0 := Lib.hid hcs0
  obtain ⟨f0, s0, hf0, hs0, hx0, _⟩ := hcs0 0 hn1
  simp only [Nat.zero_mul, Nat.add_zero] at hf0
  have hd0 : headF xs = f0 := by rw [headF, List.head?_eq_getElem?, hx0]; rfl
  clear hcs0 hs0 hx0
  have f0W : (w.alloc (.cells #[.string nm, .slice (some ⟨b, off, none⟩) n c] 24)).cell? ⟨b, off, none⟩ = some (.int .i64 f0) := (o0.2.cell (p := ⟨b, off, none⟩) hbB).trans hf0
  clear hf0
  by_cases hf : f0 = -4000000
  case neg =>
    have ho := Lib.hid (show reformErr nm xs = 8 by rw [reformErr, if_neg (by rw [hnm0]; simp), if_neg (by omega), if_pos (by rw [hd0]; exact hf)])
    have d0 : (f0 != -4000000) = true := by simpa using hf
    clear hf hn hd0 l1
    go_enter Tryz.func11, Tryz.ntmps11
    have O0 := Lib.hid o0; clear o0
    go_wp2_with fail
    generalize World.alloc w _ = W0 at O0 f0W ⊢
    have x0 : W0.cell? ⟨w.heap.size, 0, none⟩ = some (.string nm) := O0.out.1.cell 0
    have x1 : W0.cell? ⟨w.heap.size, 1, none⟩ = some (.slice (some ⟨b, off, none⟩) n c) := O0.out.1.cell 1
    have hb0 : b < W0.heap.size := by have := O0.out.2.size; omega
    go_wp2_with (first | (go_at_call 34; refine (ref_Name _ _ hs).mono ?_; rintro e w1 ⟨rfl, rfl⟩) | (go_at_call 20; refine (ref_In _ _ _ _).mono ?_; rintro e w1 ⟨rfl, rfl⟩))
    go_ret
    exact ⟨ret_int (by rw [ho.out]), O0.out.2⟩
  have ho := Lib.hid (show reformErr nm xs = partsErr none xs by rw [reformErr, if_neg (by rw [hnm0]; simp), if_neg (by omega), if_neg (by rw [hd0, hf]; simp)])
  clear hn hd0 l1
  subst hf
  go_enter Tryz.func11, Tryz.ntmps11
  have O0 := Lib.hid o0; clear o0
  go_wp2_with fail
  generalize World.alloc w _ = W0 at O0 f0W ⊢
  have x0 : W0.cell? ⟨w.heap.size, 0, none⟩ = some (.string nm) := O0.out.1.cell 0
  have x1 : W0.cell? ⟨w.heap.size, 1, none⟩ = some (.slice (some ⟨b, off, none⟩) n c) := O0.out.1.cell 1
  have hb0 : b < W0.heap.size := by have := O0.out.2.size; omega
  go_wp2_with (first | (go_at_call 34; refine (ref_Name _ _ hs).mono ?_; rintro e w1 ⟨rfl, rfl⟩) | (go_at_call 20; refine (ref_In _ _ _ _).mono ?_; rintro e w1 ⟨rfl, rfl⟩))
  clear x0 x1 f0W hb0
  go_loopw [3, 4, 23] (fun _ _ i wr => ∃ k : Nat, k ≤ n ∧ i = .int .i64 k ∧ partsErr (prevP xs k) (xs.drop k) = partsErr none xs ∧ One w (.cells #[.string nm, .slice (some ⟨b, off, none⟩) n c] 24) wr) (fun _ _ i _ => n - (intOf i).toNat)
  case atStart => exact ⟨0, by omega, rfl, rfl, O0.out⟩
  case round =>
    obtain ⟨k, hk, rfl, hall, hone⟩ := hrel
    have HA := Lib.hid hall; clear hall
    clear O0
    by_cases hlt : k < n
    · have hB := hone.2
      obtain ⟨f, s, hc1, hc2, hx, f1, f2, hsz⟩ := CS0.out k hlt
      have c1 := (hB.cell (p := ⟨b, off + k * 2, none⟩) hbB).trans hc1
      have c2 := (hB.cell (p := ⟨b, off + k * 2 + 1, none⟩) hbB).trans hc2
      clear hc1 hc2
      have y1 : wr.cell? ⟨w.heap.size, 1, none⟩ = some (.slice (some ⟨b, off, none⟩) n c) := hone.1.cell 1
      have hst := Lib.hid ((congrArg (partsErr (prevP xs k)) (dropP hx)).symm.trans HA.out)
      have HX := Lib.hid hx; clear hx
      have hz := hB.size
      have hbz : b < wr.heap.size := by omega
      have hz0 := hone.1.lt
      have HO := Lib.hid hone; clear hone
      have HBB := Lib.hid hB; clear hB
      skip
      rcases inB_cases (-4000000) 4000000 f with ⟨hd, d1, d2⟩ | ⟨hd, hd'⟩
      case inr =>
        have HF := Lib.hid (show reformErr nm xs = 3 by rw [ho.out, ← hst.out, partsErr_cons, if_pos hd])
        go_wp2_with (go_at_call 12; refine (ref_Day _ _).mono ?_; rintro e w1 ⟨rfl, rfl⟩)
        go_ret
        exact ⟨ret_int (by rw [HF.out]), below_new HBB.out _⟩
      have hst1 := hst.out
      rw [partsErr_cons, if_neg (by rw [hd]; simp)] at hst1
      have hst2 := Lib.hid hst1; clear hst1 hst
      have hnext := Lib.hid (show prevP xs (k + 1) = some f by rw [prevP, HX.out]; rfl)
      have hP : (∃ m q, k = m + 1 ∧ prevP xs k = some q ∧ (∀ W, Below w.heap.size w W → W.cell? ⟨b, off + m * 2, none⟩ = some (.int .i64 q)) ∧ -9223372036854775808 ≤ q ∧ q ≤ 9223372036854775807) ∨ (k = 0 ∧ prevP xs k = none) := by
        cases k with
        | zero => exact .inr ⟨rfl, rfl⟩
        | succ m =>
          obtain ⟨q, _, hq1, _, hq3, hq4, hq5, _⟩ := CS0.out m (by omega)
          exact .inl ⟨m, q, rfl, by rw [prevP, hq3]; rfl, fun W hW => (hW.cell (p := ⟨b, off + m * 2, none⟩) hbB).trans hq1, hq4, hq5⟩
      rcases hP with ⟨m, q, rfl, hprev, hq, q1, q2⟩ | ⟨rfl, hprev⟩
      · have cq := hq wr HBB.out
        clear hq
        have hmn : m < n := by omega
        have hwm : IntKind.i64.wrap (m : Int) = (m : Int) := IntWalk.i64_in _ (by omega)
        by_cases hle : f ≤ q
        · have HF := Lib.hid (show reformErr nm xs = 9 by rw [ho.out, ← hst2.out, hprev, if_pos (by simpa using hle)])
          clear hprev
          have hle2 : q ≥ f := hle
          have hde : decide (q ≥ f) = true := by simpa using hle
          go_wp2_with (go_at_call 12; refine (ref_Day _ _).mono ?_; rintro e w1 ⟨rfl, rfl⟩)
          go_quiet (fail)
          go_wp2_with fail
          go_ret
          exact ⟨ret_int (by rw [HF.out]), below_drewN (below_new HBB.out _) _⟩
        · have hst3 := hst2.out
          rw [hprev, if_neg (by simpa using hle)] at hst3
          have HS := Lib.hid hst3
          clear hprev hst3 hst2
          have hde : decide (q ≥ f) = false := by simpa using hle
          clear hle
          go_wp2_with (go_at_call 12; refine (ref_Day _ _).mono ?_; rintro e w1 ⟨rfl, rfl⟩)
          go_quiet (fail)
          go_wp2_with fail
          rcases Bool.eq_false_or_eq_true (calB s) with hcal | hcal
          case inr =>
            have HF := Lib.hid (show reformErr nm xs = 5 by rw [ho.out, ← HS.out, if_pos hcal])
            refine (CT s [] _ ((textOf_nil s).2 hcal) (below_drewN (below_new HBB.out _) _)).mono ?_
            rintro e w2 ⟨rfl, hb2⟩
            go_wp2_with fail
            go_ret
            exact ⟨ret_int (by rw [HF.out]), below_then (below_drewN (below_new HBB.out _) _) hb2⟩
          obtain ⟨tc, tr, hT⟩ : ∃ tc tr, textOf s.data.toList = tc :: tr := by
            cases h0 : textOf s.data.toList with
            | nil => rw [(textOf_nil s).1 h0] at hcal; cases hcal
            | cons tc tr => exact ⟨tc, tr, rfl⟩
          have HS2 := Lib.hid (show partsErr (some f) (xs.drop (m + 1 + 1)) = partsErr none xs by rw [← HS.out, if_neg (by rw [hcal]; simp)])
          refine (CT s _ _ hT (below_drewN (below_new HBB.out _) _)).mono ?_
          rintro e w2 ⟨rfl, hb2⟩
          have HO2 := Lib.hid (HO.out.step (below_then (below_drewN (below_new (Below.refl wr.heap.size wr) _) _) hb2))
          clear hb2
          go_wp2_with fail
          go_roundw
          case rel =>
            refine ⟨m + 1 + 1, by omega, by go_num, ?_, HO2.out⟩
            rw [hnext.out, HS2.out]
          case measure => simp [intOf]; omega
      · have hst3 := hst2.out
        rw [hprev, if_neg (by simp)] at hst3
        have HS := Lib.hid hst3
        clear hprev hst3 hst2
        simp only [Nat.zero_mul, Nat.add_zero] at c1 c2
        go_wp2_with (go_at_call 12; refine (ref_Day _ _).mono ?_; rintro e w1 ⟨rfl, rfl⟩)
        go_quiet (fail)
        go_wp2_with fail
        rcases Bool.eq_false_or_eq_true (calB s) with hcal | hcal
        case inr =>
          have HF := Lib.hid (show reformErr nm xs = 5 by rw [ho.out, ← HS.out, if_pos hcal])
          refine (CT s [] _ ((textOf_nil s).2 hcal) (below_drewN (below_new HBB.out _) _)).mono ?_
          rintro e w2 ⟨rfl, hb2⟩
          go_wp2_with fail
          go_ret
          exact ⟨ret_int (by rw [HF.out]), below_then (below_drewN (below_new HBB.out _) _) hb2⟩
        obtain ⟨tc, tr, hT⟩ : ∃ tc tr, textOf s.data.toList = tc :: tr := by
          cases h0 : textOf s.data.toList with
          | nil => rw [(textOf_nil s).1 h0] at hcal; cases hcal
          | cons tc tr => exact ⟨tc, tr, rfl⟩
        have HS2 := Lib.hid (show partsErr (some f) (xs.drop (1)) = partsErr none xs by rw [← HS.out, if_neg (by rw [hcal]; simp)])
        refine (CT s _ _ hT (below_drewN (below_new HBB.out _) _)).mono ?_
        rintro e w2 ⟨rfl, hb2⟩
        have HO2 := Lib.hid (HO.out.step (below_then (below_drewN (below_new (Below.refl wr.heap.size wr) _) _) hb2))
        clear hb2
        go_wp2_with fail
        go_roundw
        case rel =>
          refine ⟨1, by omega, by go_num, ?_, HO2.out⟩
          rw [hnext.out, HS2.out]
        case measure => simp [intOf]; omega
    · have HF := Lib.hid (show reformErr nm xs = 0 by rw [ho.out, ← HA.out, List.drop_eq_nil_of_le (by have := L1.out; omega), partsErr])
      have HBB := Lib.hid hone.2
      clear hone
      go_wp2_with fail
      go_ret
      exact ⟨ret_int (by rw [HF.out]), HBB.out⟩
end Go.Proofs.YtlpbaljoanfogaaGreatDoor
