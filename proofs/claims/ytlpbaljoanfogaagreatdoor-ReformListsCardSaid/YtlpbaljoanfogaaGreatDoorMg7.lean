/- Several texts in one: RefL, RefL2. -/
import Derived.Test.YtlpbaljoanfogaaGreatDoorMg4
import Derived.Test.YtlpbaljoanfogaaGreatDoorMg9
import Derived.Test.YtlpbaljoanfogaaGreatDoorMgV
import Derived.Test.YtlpbaljoanfogaaGreatDoorMg1
import Derived.Test.YtlpbaljoanfogaaGreatDoorMg8
set_option linter.unusedSimpArgs false
namespace Go.Proofs.YtlpbaljoanfogaaGreatDoor
set_option linter.unusedVariables false
set_option maxRecDepth 100000
open Go.RowKit Go.ChangeShapes Go.WideShapes Go.Shelf
def Answers (xs : List Prt) (y mo d : Int) (N E : Nat → Int) : Prop :=
  ∀ k f s, xs[k]? = some (f, s) → ∃ row, rowOf s.data.toList = some row ∧ ToC row y mo d (N k) (E k) ∧ ToY row y mo d (N k) (E k) ∧ (E k = 0 → -4000000 ≤ N k ∧ N k ≤ 4000000)
def nextB (xs : List Prt) (k : Nat) (x : Int) : Bool := match xs[k + 1]? with | none => true | some p => decide (x < p.1)
def fstAt (xs : List Prt) (k : Nat) : Int := ((xs[k]?).map (·.1)).getD 0
def keepR (xs : List Prt) (N E : Nat → Int) (k : Nat) : Bool := decide (E k = 0) && (decide (fstAt xs k ≤ N k) && nextB xs k (N k))
theorem keepR_iff {xs : List Prt} (hi : Inc (xs.map (·.1))) {N E : Nat → Int} {k : Nat} {f : Int} {s : ByteArray} (hk : xs[k]? = some (f, s)) (he : E k = 0) : keepR xs N E k = true ↔ PickTo xs (N k) xs.length k := by
  unfold keepR fstAt nextB
  rw [pickTo_iff hi hk, decide_eq_true he, hk]
  simp only [Bool.true_and, Bool.and_eq_true, Option.map_some, Option.getD_some, decide_eq_true_eq]
  cases xs[k + 1]? with
  | none => simp
  | some p => simp
abbrev prtO (f : Int) (s : ByteArray) : Obj := .cells #[.int .i64 f, .string s] 44
set_option maxHeartbeats 4000000 in
theorem reform_Days_bad (w : World) (nm : ByteArray) (a : Option Addr) (n c : Nat) (xs : List Prt) (hs : nm.size ≤ 9223372036854775807) (hc : n ≤ c) (h : Parts w w.heap.size a n xs) (y mo d : Int) (E : Int) (hE : reformErr nm xs = E) (hne : E ≠ 0) :
    Calls Tryz.prog 16 #[.agg #[.string nm, .slice a n c], .agg #[.int .i64 y, .int .i64 mo, .int .i64 d]] w fun e w' => e = .returned (.tuple #[.slice none 0 0, .int .i64 E]) ∧ Below w.heap.size w w' := by
  have a0 := (At.new w (refO nm a n c)).alloc (dateO y mo d)
  have b0 := below_new (below_new (Below.refl w.heap.size w) (refO nm a n c)) (dateO y mo d)
  have H := Lib.hid h; clear h
  have hne' : (E != 0) = true := by simpa using hne
  have HE := Lib.hid hE; clear hE hne
  go_enter Tryz.func16, Tryz.ntmps16
  go_wp2_with fail
  generalize World.alloc (World.alloc w _) _ = W0 at a0 b0 ⊢
  have B0 := Lib.hid b0
  have x0 := a0.cell 0; have x1 := a0.cell 1; simp at x0 x1
  have hl := a0.lt
  clear a0 b0
  go_wp2_with fail
  refine (reform_Check W0 nm a n c xs hs hc (H.out.then_ B0.out)).mono ?_
  rw [HE.out]
  rintro e w1 ⟨rfl, hb⟩
  have B1 := Lib.hid (below_then B0.out hb)
  clear hb
  go_wp2_with fail
  go_ret2
  exact ⟨rfl, B1.out⟩
set_option maxHeartbeats 4000000 in
theorem reform_Days_ok (w : World) (mx : Int) (hmx : w.cell? ⟨0, 0, none⟩ = some (.int .i64 mx)) (hlv : Lvl w) (hsg : Sgn w) (nm : ByteArray) (a : Option Addr) (n c : Nat) (xs : List Prt) (hs : nm.size ≤ 9223372036854775807) (hc : n ≤ c) (h : Parts w w.heap.size a n xs) (y mo d : Int)
    (hE : reformErr nm xs = 0) (N E : Nat → Int) (hA : Answers xs y mo d N E) :
    Calls Tryz.prog 16 #[.agg #[.string nm, .slice a n c], .agg #[.int .i64 y, .int .i64 mo, .int .i64 d]] w fun e w' => ∃ v, e = .returned (.tuple #[v, .int .i64 0]) ∧ DaysR (outTo (keepR xs N E) N n) w v w' := by
  obtain ⟨i0, hi, hz0, hz1, hz2⟩ := info_parts infoIntR
  obtain ⟨hn1, hn2, hhd, hall⟩ := reformErr_parts hE
  have L1 := Lib.hid h.len; have m1 := h.max
  have hnn : 1 ≤ n := by rw [← L1.out]; exact hn1
  have hnm : n ≤ 10 := by rw [← L1.out]; exact hn2
  have hgm := World.block_lt_of_cell? _ _ hmx
  have MX : ∀ W, Below w.heap.size w W → W.cell? ⟨0, 0, none⟩ = some (.int .i64 mx) := fun W hW => (hW.cell (p := ⟨0, 0, none⟩) hgm).trans hmx
  have CD := Lib.hid (fun (W : World) (hW : Below w.heap.size w W) (s : ByteArray) (row : List UInt8) (hro : rowOf s.data.toList = some row) (n' e' : Int) (hT : ToC row y mo d n' e') => day_at hro hT W mx (MX W hW) (hlv.below hW) (hsg.below hW))
  have a0 := (At.new w (refO nm a n c)).alloc (dateO y mo d)
  have d0 := At.new1 w (refO nm a n c) (dateO y mo d)
  have b0 := below_new (below_new (Below.refl w.heap.size w) (refO nm a n c)) (dateO y mo d)
  have H := Lib.hid h; have HE := Lib.hid hE; have HA := Lib.hid hA
  have MEM := Lib.hid (fun (k : Nat) (hk : k ≤ n) => outTo_mem (keepR xs N E) N (n := n) (fun k hk hck => by
    have hx := List.getElem?_eq_getElem (show k < xs.length by rw [L1.out]; exact hk)
    obtain ⟨row, _, _, _, hr⟩ := hA k (xs[k]'(by rw [L1.out]; exact hk)).1 (xs[k]'(by rw [L1.out]; exact hk)).2 hx
    have he : E k = 0 := by
      unfold keepR at hck
      rw [Bool.and_eq_true] at hck
      exact of_decide_eq_true hck.1
    have := hr he
    exact ⟨by omega, by omega⟩) k hk)
  obtain ⟨b, off, rfl, hbB, hcs0⟩ := h.open_ (by omega)
  have CS0 := Lib.hid hcs0
  clear h hE hA hn1 hn2 hhd hall hcs0 hmx hlv hsg hgm MX
  go_enter Tryz.func16, Tryz.ntmps16
  go_wp2_with fail
  generalize World.alloc (World.alloc w _) _ = W0 at a0 d0 b0 ⊢
  have A0 := Lib.hid a0; have D0 := Lib.hid d0; have B0 := Lib.hid b0
  have x0 := a0.cell 0; have x1 := a0.cell 1; simp at x0 x1
  have hl := a0.lt
  clear a0 b0 d0
  go_wp2_with fail
  refine (reform_Check W0 nm (some ⟨b, off, none⟩) n c xs hs hc (H.out.then_ B0.out)).mono ?_
  rw [HE.out]
  rintro e w1 ⟨rfl, hb⟩
  have A1 := Lib.hid (A0.out.then_ hb)
  have D1 := Lib.hid (D0.out.then_ hb)
  have B1 := Lib.hid (below_then B0.out hb)
  clear hb x0 x1 hl D0 A0 B0 H HE
  have y1 : w1.cell? ⟨w.heap.size, 1, none⟩ = some (.slice (some ⟨b, off, none⟩) n c) := A1.out.cell 1
  have hl := A1.out.lt
  go_wp2_with fail
  clear y1 hl
  go_loopw [7, 8, 9, 10, 11, 20] (fun v _ _ _ _ i wr => ∃ (k : Nat) (V : Value), V = v ∧ k ≤ n ∧ i = .int .i64 k ∧ wr.ownsRow (w.heap.size + 2) 3 1 v (outTo (keepR xs N E) N k).length ((outTo (keepR xs N E) N k).map (Value.int .i64)) ∧ At wr w.heap.size (refO nm (some ⟨b, off, none⟩) n c) ∧ At wr (w.heap.size + 1) (dateO y mo d) ∧ Below w.heap.size w wr) (fun _ _ _ _ _ i _ => n - (intOf i).toNat)
  case atStart => exact ⟨0, _, rfl, by omega, rfl, World.ownsRow_nil _ _ _ _, A1.out, D1.out, B1.out⟩
  case round =>
    obtain ⟨k, V, rfl, hk, rfl, hown, ha, hd, hB⟩ := hrel
    have OWN := Lib.hid hown; have HAT := Lib.hid ha; have HDT := Lib.hid hd; have HB := Lib.hid hB
    clear hown hd A1 D1 B1
    have y1 : wr.cell? ⟨w.heap.size, 1, none⟩ = some (.slice (some ⟨b, off, none⟩) n c) := ha.cell 1
    have hz0 := ha.lt
    have hzs := hB.size
    have hbz : b < wr.heap.size := by omega
    by_cases hlt : k < n
    · obtain ⟨f, s, hc1, hc2, hx, f1, f2, hsz⟩ := CS0.out k hlt
      obtain ⟨row, hro, hT, _, hrg⟩ := HA.out k f s hx
      have c1 := (hB.cell (p := ⟨b, off + k * 2, none⟩) hbB).trans hc1
      have c2 := (hB.cell (p := ⟨b, off + k * 2 + 1, none⟩) hbB).trans hc2
      have HX := Lib.hid hx; have HT := Lib.hid hT; have HRO := Lib.hid hro; have HRG := Lib.hid hrg
      clear hc1 hc2 hx hT hro hrg ha hB
      have o1 := At.new wr (prtO f s)
      have A2 := Lib.hid (HAT.out.alloc (prtO f s))
      have D2 := Lib.hid (HDT.out.alloc (prtO f s))
      have B2 := Lib.hid (below_new HB.out (prtO f s))
      have OWN2 := Lib.hid (own_thenS OWN.out (below_new (Below.refl wr.heap.size wr) (prtO f s)))
      obtain ⟨T, hT⟩ : ∃ T, T = wr.heap.size := ⟨_, rfl⟩
      rw [← hT] at o1
      go_upto_region 8 with fail
      rw [← hT]
      clear c1 c2 y1 hz0 hzs hbz OWN HAT HDT HB
      generalize World.alloc wr _ = W2 at o1 A2 D2 B2 OWN2 ⊢
      clear hT
      have O2 := Lib.hid o1
      have dd := D2.out
      have x0 := o1.cell 0; have x1 := o1.cell 1; simp at x0 x1
      have z0 := dd.cell 0; have z1 := dd.cell 1; have z2 := dd.cell 2; simp at z0 z1 z2
      have hl := o1.lt; have hl2 := dd.lt
      clear o1 dd
      go_wp2_with fail
      clear x0 x1 z0 z1 z2 hl hl2
      refine (CD.out W2 B2.out s row HRO.out (N k) (E k) HT.out).mono ?_
      obtain ⟨Nk, hNk⟩ : ∃ q, q = N k := ⟨_, rfl⟩
      obtain ⟨Ek, hEk⟩ : ∃ q, q = E k := ⟨_, rfl⟩
      rw [← hNk, ← hEk]
      have HNK := Lib.hid hNk; have HEK := Lib.hid hEk
      clear hNk hEk
      rintro e w4 ⟨rfl, hb⟩
      have O4 := Lib.hid (O2.out.then_ hb)
      have A4 := Lib.hid (A2.out.then_ hb)
      have D4 := Lib.hid (D2.out.then_ hb)
      have B4 := Lib.hid (below_then B2.out hb)
      have OWN4 := Lib.hid (own_thenS OWN2.out hb)
      clear hb O2 A2 D2 B2 OWN2
      have x0 : w4.cell? ⟨T, 0, none⟩ = some (.int .i64 f) := O4.out.cell 0
      have y1 : w4.cell? ⟨w.heap.size, 1, none⟩ = some (.slice (some ⟨b, off, none⟩) n c) := A4.out.cell 1
      have hl := O4.out.lt; have hl2 := A4.out.lt
      have hwk : IntKind.i64.wrap ((k : Int) + 1) = (k : Int) + 1 := IntWalk.i64_in _ (by omega)
      have hfa : fstAt xs k = f := by unfold fstAt; rw [HX.out]; rfl
      have HFA := Lib.hid hfa; clear hfa
      have NOREL := Lib.hid (fun (hc : keepR xs N E k = false) => show (w4.ownsRow (w.heap.size + 2) 3 1 V (outTo (keepR xs N E) N (k + 1)).length ((outTo (keepR xs N E) N (k + 1)).map (Value.int .i64))) from by rw [outTo_no hc]; exact OWN4.out)
      by_cases he : Ek = 0
      case neg =>
        have hee : (Ek == 0) = false := by simpa using he
        have HC := Lib.hid (show keepR xs N E k = false from by unfold keepR; rw [← HEK.out, decide_eq_false he]; rfl)
        clear he
        go_wp2_with fail
        go_roundw
        case rel => exact ⟨k + 1, _, rfl, by omega, by go_num, NOREL.out HC.out, A4.out, D4.out, B4.out⟩
        case measure => simp [intOf]; omega
      subst he
      by_cases hle : f ≤ Nk
      case neg =>
        have hge : decide (Nk ≥ f) = false := by simpa using hle
        have hge2 : decide (f ≤ Nk) = false := by simpa using hle
        have HC := Lib.hid (show keepR xs N E k = false from by unfold keepR; rw [HFA.out, ← HNK.out, decide_eq_false hle]; simp)
        clear hle
        go_wp2_with fail
        go_roundw
        case rel => exact ⟨k + 1, _, rfl, by omega, by go_num, NOREL.out HC.out, A4.out, D4.out, B4.out⟩
        case measure => simp [intOf]; omega
      have hge : decide (Nk ≥ f) = true := by simpa using hle
      have hge2 : decide (f ≤ Nk) = true := by simpa using hle
      have HLE := Lib.hid hle; clear hle
      have NB := Lib.hid (show -4000000 ≤ Nk ∧ Nk ≤ 4000000 from by rw [HNK.out]; exact HRG.out HEK.out.symm)
      have LEN := Lib.hid (outTo_len (keepR xs N E) N k)
      obtain ⟨m, hm⟩ : ∃ m, m = (outTo (keepR xs N E) N k).length := ⟨_, rfl⟩
      have hm10 : m ≤ 10 := by rw [hm]; have := LEN.out; omega
      have YESREL := Lib.hid (fun (hc : keepR xs N E k = true) (v' : Value) (W : World) (h : W.ownsRow (w.heap.size + 2) 3 1 v' (m + 1) ((outTo (keepR xs N E) N k).map (Value.int .i64) ++ [.int .i64 Nk])) => show (W.ownsRow (w.heap.size + 2) 3 1 v' (outTo (keepR xs N E) N (k + 1)).length ((outTo (keepR xs N E) N (k + 1)).map (Value.int .i64))) from by
        rw [outTo_yes hc, List.length_append, ← hm, List.map_append, ← HNK.out]; exact h)
      have OWN5 := Lib.hid (show w4.ownsRow (w.heap.size + 2) 3 1 V m ((outTo (keepR xs N E) N k).map (Value.int .i64)) from by rw [hm]; exact OWN4.out)
      clear OWN4 LEN hm
      have hs4 := D4.out.lt
      by_cases hkn : k + 1 = n
      · have hkk : ((k : Int) + 1 == (n : Int)) = true := by simpa using (by omega : (k : Int) + 1 = (n : Int))
        have HC := Lib.hid (show keepR xs N E k = true from by
          unfold keepR nextB
          rw [HFA.out, ← HNK.out, ← HEK.out, decide_eq_true HLE.out, List.getElem?_eq_none (by rw [L1.out]; omega)]; rfl)
        clear hkn
        go_wp2_with (at_builtin; refine wpList_append_own _ rfl _ _ 34 rfl (w.heap.size + 2) 3 i0 (.int .i64 0) 1 8 Tryz.underlying34 hi hz0 hz1 hz2 rfl (by decide) _ _ _ rfl (OWN5.out.alloc _) ⟨w4.heap.size, 0, none⟩ 1 1 [.int .i64 Nk] rfl rfl (World.news_of_block (cs := #[.int .i64 Nk]) (t := 3) (fr := (0, 0)) (heap_alloc_new w4 _)) (by simp [Value.oneCell']) (by unfold maxLen; omega) (by omega) (by first | omega | (simp; omega)) ?_; intro v' w4 hown' hgrow _)
        have OWN6 := Lib.hid (YESREL.out HC.out _ _ hown')
        have A6 := Lib.hid ((A4.out.alloc (.cells #[.int .i64 Nk] 3)).grown' hgrow (own_aboveL OWN5.out (by omega)))
        have D6 := Lib.hid ((D4.out.alloc (.cells #[.int .i64 Nk] 3)).grown' hgrow (own_aboveL OWN5.out (by omega)))
        have B6 := Lib.hid ((below_new B4.out (.cells #[.int .i64 Nk] 3)).grown hgrow (by simp; omega) (fun bb hbb => by
          rcases Nat.lt_or_ge bb (w.heap.size + 2) with h | h
          · exact absurd hbb.symm (own_aboveL OWN5.out h)
          · omega))
        clear hown' hgrow OWN5
        go_wp2_with fail
        go_roundw
        case rel => exact ⟨k + 1, _, rfl, by omega, by go_num, OWN6.out, A6.out, D6.out, B6.out⟩
        case measure => simp [intOf]; omega
      have hkk : ((k : Int) + 1 == (n : Int)) = false := by rw [beq_eq_false_iff_ne]; omega
      obtain ⟨f', s', hc1', hc2', hx', f1', f2', hsz'⟩ := CS0.out (k + 1) (by omega)
      have c1 := (B4.out.cell (p := ⟨b, off + (k + 1) * 2, none⟩) hbB).trans hc1'
      have hbz : b < w4.heap.size := by have := B4.out.size; omega
      have HX' := Lib.hid hx'
      clear hc1' hc2' hx'
      have hltk : (k : Int) + 1 < (n : Int) := by omega
      have htn : ((k : Int) + 1).toNat = k + 1 := by omega
      have hge0 : (0 : Int) ≤ (k : Int) + 1 := by omega
      have hkn1 : k + 1 < n := by omega
      by_cases hlt2 : Nk < f'
      · have hdl : decide (Nk < f') = true := by simpa using hlt2
        have HC := Lib.hid (show keepR xs N E k = true from by
          unfold keepR nextB
          rw [HFA.out, ← HNK.out, ← HEK.out, decide_eq_true HLE.out, HX'.out]; simpa using hlt2)
        clear hlt2 hkn
        go_wp2_with (at_builtin; refine wpList_append_own _ rfl _ _ 34 rfl (w.heap.size + 2) 3 i0 (.int .i64 0) 1 8 Tryz.underlying34 hi hz0 hz1 hz2 rfl (by decide) _ _ _ rfl (OWN5.out.alloc _) ⟨w4.heap.size, 0, none⟩ 1 1 [.int .i64 Nk] rfl rfl (World.news_of_block (cs := #[.int .i64 Nk]) (t := 3) (fr := (0, 0)) (heap_alloc_new w4 _)) (by simp [Value.oneCell']) (by unfold maxLen; omega) (by omega) (by first | omega | (simp; omega)) ?_; intro v' w4 hown' hgrow _)
        have OWN6 := Lib.hid (YESREL.out HC.out _ _ hown')
        have A6 := Lib.hid ((A4.out.alloc (.cells #[.int .i64 Nk] 3)).grown' hgrow (own_aboveL OWN5.out (by omega)))
        have D6 := Lib.hid ((D4.out.alloc (.cells #[.int .i64 Nk] 3)).grown' hgrow (own_aboveL OWN5.out (by omega)))
        have B6 := Lib.hid ((below_new B4.out (.cells #[.int .i64 Nk] 3)).grown hgrow (by simp; omega) (fun bb hbb => by
          rcases Nat.lt_or_ge bb (w.heap.size + 2) with h | h
          · exact absurd hbb.symm (own_aboveL OWN5.out h)
          · omega))
        clear hown' hgrow OWN5
        go_wp2_with fail
        go_roundw
        case rel => exact ⟨k + 1, _, rfl, by omega, by go_num, OWN6.out, A6.out, D6.out, B6.out⟩
        case measure => simp [intOf]; omega
      · have hdl : decide (Nk < f') = false := by simpa using hlt2
        have HC := Lib.hid (show keepR xs N E k = false from by
          unfold keepR nextB
          rw [HX'.out, ← HNK.out]
          simp only [decide_eq_false hlt2, Bool.and_false])
        clear hlt2 hkn YESREL OWN5
        go_wp2_with fail
        go_roundw
        case rel => exact ⟨k + 1, _, rfl, by omega, by go_num, NOREL.out HC.out, A4.out, D4.out, B4.out⟩
        case measure => simp [intOf]; omega
    · obtain rfl : k = n := by omega
      obtain ⟨aa, cc, rfl, hcap1, hcap2, hI⟩ := own_ints OWN.out (MEM.out k (Nat.le_refl _)) rfl
      have HI := Lib.hid hI
      clear hI OWN ha hB
      go_wp2_with fail
      go_ret2
      exact ⟨_, rfl, aa, _, cc, rfl, hcap1, hcap2, HI.out, HB.out⟩
end Go.Proofs.YtlpbaljoanfogaaGreatDoor

set_option linter.unusedSimpArgs false
namespace Go.Proofs.YtlpbaljoanfogaaGreatDoor
set_option linter.unusedVariables false
set_option maxRecDepth 100000
open Go.RowKit Go.ChangeShapes Go.WideShapes Go.Shelf
set_option maxHeartbeats 4000000 in
theorem ref_ReformDays (w : World) (mx : Int) (hmx : w.cell? ⟨0, 0, none⟩ = some (.int .i64 mx)) (nm : ByteArray) (a : Option Addr) (n c : Nat) (xs : List Prt) (hs : nm.size ≤ 9223372036854775807) (hc : n ≤ c) (h : Parts w w.heap.size a n xs) (y mo d : Int)
    (hE : reformErr nm xs = 0) (N E : Nat → Int) (hA : Answers xs y mo d N E) :
    Calls Tryz.prog 18 #[.agg #[.string nm, .slice a n c], .agg #[.int .i64 y, .int .i64 mo, .int .i64 d]] w fun e w' => ∃ v, e = .returned v ∧ DaysR (outTo (keepR xs N E) N n) w v w' := by
  obtain ⟨i0, hi, hz0, hz1, hz2⟩ := info_parts infoIntR
  obtain ⟨hn1, hn2, hhd, hall⟩ := reformErr_parts hE
  have INC := Lib.hid (show Inc (xs.map (·.1)) from by
    unfold reformErr at hE
    split at hE
    · omega
    split at hE
    · omega
    split at hE
    · omega
    exact (parts_inc xs none hE).1)
  have L1 := Lib.hid h.len; have m1 := h.max
  have HHD := Lib.hid hhd
  have hnn : 1 ≤ n := by rw [← L1.out]; exact hn1
  have hnm : n ≤ 10 := by rw [← L1.out]; exact hn2
  have hgm := World.block_lt_of_cell? _ _ hmx
  have MX : ∀ W, Below w.heap.size w W → W.cell? ⟨0, 0, none⟩ = some (.int .i64 mx) := fun W hW => (hW.cell (p := ⟨0, 0, none⟩) hgm).trans hmx
  have PA : ∀ W, Below w.heap.size w W → Parts W W.heap.size a n xs := fun W hW => (h.below hW (Nat.le_refl _)).more hW.size
  have CN := Lib.hid (fun (W : World) (hW : Below w.heap.size w W) (s : ByteArray) (row : List UInt8) (hro : rowOf s.data.toList = some row) => named_at hro W mx (MX W hW))
  have CP := Lib.hid (fun (W : World) (hW : Below w.heap.size w W) (x : Int) (kk : Nat) (h0 : headF xs ≤ x) (hp : PickTo xs x n kk) => ref_ReformPart W nm a n c xs hc (PA W hW) x hnn h0 kk hp)
  have a0 := (At.new w (refO nm a n c)).alloc (dateO y mo d)
  have d0 := At.new1 w (refO nm a n c) (dateO y mo d)
  have b0 := below_new (below_new (Below.refl w.heap.size w) (refO nm a n c)) (dateO y mo d)
  have HA := Lib.hid hA
  have MEM := Lib.hid (fun (k : Nat) (hk : k ≤ n) => outTo_mem (keepR xs N E) N (n := n) (fun k hk hck => by
    have hx := List.getElem?_eq_getElem (show k < xs.length by rw [L1.out]; exact hk)
    obtain ⟨row, _, _, _, hr⟩ := hA k (xs[k]'(by rw [L1.out]; exact hk)).1 (xs[k]'(by rw [L1.out]; exact hk)).2 hx
    have he : E k = 0 := by
      unfold keepR at hck
      rw [Bool.and_eq_true] at hck
      exact of_decide_eq_true hck.1
    have := hr he
    exact ⟨by omega, by omega⟩) k hk)
  obtain ⟨b, off, rfl, hbB, hcs0⟩ := h.open_ (by omega)
  have CS0 := Lib.hid hcs0
  clear h hE hA hn1 hn2 hhd hall hcs0 hmx hgm MX PA
  go_enter Tryz.func18, Tryz.ntmps18
  go_wp2_with fail
  generalize World.alloc (World.alloc w _) _ = W0 at a0 d0 b0 ⊢
  have A1 := Lib.hid a0; have D1 := Lib.hid d0; have B1 := Lib.hid b0
  have y1 : W0.cell? ⟨w.heap.size, 1, none⟩ = some (.slice (some ⟨b, off, none⟩) n c) := a0.cell 1
  have hl := a0.lt
  clear a0 b0 d0
  go_wp2_with fail
  clear y1 hl
  go_loopw [5, 6, 7, 8, 9, 10, 11, 15] (fun v _ _ _ _ _ _ i wr => ∃ (k : Nat) (V : Value), V = v ∧ k ≤ n ∧ i = .int .i64 k ∧ wr.ownsRow (w.heap.size + 2) 3 1 v (outTo (keepR xs N E) N k).length ((outTo (keepR xs N E) N k).map (Value.int .i64)) ∧ At wr w.heap.size (refO nm (some ⟨b, off, none⟩) n c) ∧ At wr (w.heap.size + 1) (dateO y mo d) ∧ Below w.heap.size w wr) (fun _ _ _ _ _ _ _ i _ => n - (intOf i).toNat)
  case atStart => exact ⟨0, _, rfl, by omega, rfl, World.ownsRow_nil _ _ _ _, A1.out, D1.out, B1.out⟩
  case round =>
    obtain ⟨k, V, rfl, hk, rfl, hown, ha, hd, hB⟩ := hrel
    have OWN := Lib.hid hown; have HAT := Lib.hid ha; have HDT := Lib.hid hd; have HB := Lib.hid hB
    clear hown hd A1 D1 B1
    have y1 : wr.cell? ⟨w.heap.size, 1, none⟩ = some (.slice (some ⟨b, off, none⟩) n c) := ha.cell 1
    have hz0 := ha.lt
    have hzs := hB.size
    have hbz : b < wr.heap.size := by omega
    by_cases hlt : k < n
    · obtain ⟨f, s, hc1, hc2, hx, f1, f2, hsz⟩ := CS0.out k hlt
      obtain ⟨row, hro, _, hT, hrg⟩ := HA.out k f s hx
      have c1 := (hB.cell (p := ⟨b, off + k * 2, none⟩) hbB).trans hc1
      have c2 := (hB.cell (p := ⟨b, off + k * 2 + 1, none⟩) hbB).trans hc2
      have HX := Lib.hid hx; have HT := Lib.hid hT; have HRO := Lib.hid hro; have HRG := Lib.hid hrg
      clear hc1 hc2 hx hT hro hrg ha hB
      have o1 := At.new wr (prtO f s)
      have A2 := Lib.hid (HAT.out.alloc (prtO f s))
      have D2 := Lib.hid (HDT.out.alloc (prtO f s))
      have B2 := Lib.hid (below_new HB.out (prtO f s))
      have OWN2 := Lib.hid (own_thenS OWN.out (below_new (Below.refl wr.heap.size wr) (prtO f s)))
      obtain ⟨T, hT⟩ : ∃ T, T = wr.heap.size := ⟨_, rfl⟩
      rw [← hT] at o1
      go_upto_region 5 with fail
      rw [← hT]
      clear c1 c2 y1 hz0 hzs hbz OWN HAT HDT HB
      generalize World.alloc wr _ = W2 at o1 A2 D2 B2 OWN2 ⊢
      clear hT
      have x0 := o1.cell 0; have x1 := o1.cell 1; simp at x0 x1
      have hl := o1.lt
      clear o1
      go_wp2_with fail
      clear x0 x1 hl
      refine (CN.out W2 B2.out s row HRO.out).mono ?_
      rintro e w4 ⟨v4, rfl, p1, q1, r1, p2, q2, r2, g, rfl, k1, k2, hcal, hmk, hb⟩
      have y4 := At.new w4 (yrW row p1 p2 q1 r1 q2 r2 g)
      have A4 := Lib.hid ((A2.out.then_ hb).alloc (yrW row p1 p2 q1 r1 q2 r2 g))
      have D4 := Lib.hid ((D2.out.then_ hb).alloc (yrW row p1 p2 q1 r1 q2 r2 g))
      have B4 := Lib.hid (below_new (below_then B2.out hb) (yrW row p1 p2 q1 r1 q2 r2 g))
      have OWN4 := Lib.hid (own_thenS (own_thenS OWN2.out hb) (below_new (Below.refl w4.heap.size w4) (yrW row p1 p2 q1 r1 q2 r2 g)))
      have HC4 := Lib.hid (hcal.alloc (yrW row p1 p2 q1 r1 q2 r2 g))
      have HM4 := Lib.hid (hmk.then_ (below_new (Below.refl _ _) (yrW row p1 p2 q1 r1 q2 r2 g)))
      obtain ⟨T4, hT⟩ : ∃ T, T = w4.heap.size := ⟨_, rfl⟩
      rw [← hT] at y4
      clear hb A2 D2 B2 OWN2 hcal hmk k1 k2
      go_upto_region 6 with fail
      rw [← hT]
      generalize World.alloc w4 _ = W4 at y4 A4 D4 B4 OWN4 HC4 HM4 ⊢
      clear hT
      have dd := D4.out
      have x0 := y4.cell 0; have x1 := y4.cell 1; have x2 := y4.cell 2; have x3 := y4.cell 3; have x4 := y4.cell 4; have x5 := y4.cell 5; have x6 := y4.cell 6; have x7 := y4.cell 7; have x8 := y4.cell 8; simp at x0 x1 x2 x3 x4 x5 x6 x7 x8
      have z0 := dd.cell 0; have z1 := dd.cell 1; have z2 := dd.cell 2; simp at z0 z1 z2
      have hl := y4.lt; have hl2 := dd.lt
      clear y4 dd
      go_wp2_with fail
      clear x0 x1 x2 x3 x4 x5 x6 x7 x8 z0 z1 z2 hl hl2
      refine (HT.out W4 g p1 p2 q1 r1 q2 r2 HM4.out HC4.out).mono ?_
      obtain ⟨Nk, hNk⟩ : ∃ q, q = N k := ⟨_, rfl⟩
      obtain ⟨Ek, hEk⟩ : ∃ q, q = E k := ⟨_, rfl⟩
      rw [← hNk, ← hEk]
      have HNK := Lib.hid hNk; have HEK := Lib.hid hEk
      clear hNk hEk
      rintro e w5 ⟨rfl, hb⟩
      have A5 := Lib.hid (A4.out.then_ hb)
      have D5 := Lib.hid (D4.out.then_ hb)
      have B5 := Lib.hid (below_then B4.out hb)
      have OWN5 := Lib.hid (own_thenS OWN4.out hb)
      clear hb A4 D4 B4 OWN4 HC4 HM4
      by_cases he : Ek = 0
      case neg =>
        have hee : (Ek == 0) = false := by simpa using he
        have HC := Lib.hid (show keepR xs N E k = false from by unfold keepR; rw [← HEK.out, decide_eq_false he]; rfl)
        clear he
        go_wp2_with fail
        go_roundw
        case rel => exact ⟨k + 1, _, rfl, by omega, by go_num, by rw [outTo_no HC.out]; exact OWN5.out, A5.out, D5.out, B5.out⟩
        case measure => simp [intOf]; omega
      subst he
      have NB := Lib.hid (show -4000000 ≤ Nk ∧ Nk ≤ 4000000 from by rw [HNK.out]; exact HRG.out HEK.out.symm)
      obtain ⟨kk, hkk⟩ := pick_exists (xs := xs) (x := Nk) (by rw [HHD.out]; exact NB.out.1) xs.length (Nat.le_refl _)
      have hkn : keepR xs N E k = true ↔ kk = k := by
        rw [keepR_iff INC.out HX.out HEK.out.symm, ← HNK.out]
        refine ⟨fun hp => PickTo.unique (by rw [L1.out]; omega) hkk hp, fun e => e ▸ hkk⟩
      have HKN := Lib.hid hkn
      have CK := Lib.hid (fun (W : World) (hW : Below w.heap.size w W) => CP.out W hW Nk kk (by rw [HHD.out]; exact NB.out.1) (by rw [← L1.out]; exact hkk))
      clear hkn hkk
      have aa := A5.out
      have u0 := aa.cell 0; have u1 := aa.cell 1; simp at u0 u1
      have hl := aa.lt
      clear aa
      by_cases hkk : kk = k
      · have HC := Lib.hid (HKN.out.2 hkk)
        clear HKN
        subst hkk
        have LEN := Lib.hid (outTo_len (keepR xs N E) N kk)
        obtain ⟨m, hm⟩ : ∃ m, m = (outTo (keepR xs N E) N kk).length := ⟨_, rfl⟩
        have hm10 : m ≤ 10 := by rw [hm]; have := LEN.out; omega
        have YESREL := Lib.hid (fun (v' : Value) (W : World) (h : W.ownsRow (w.heap.size + 2) 3 1 v' (m + 1) ((outTo (keepR xs N E) N kk).map (Value.int .i64) ++ [.int .i64 Nk])) => show (W.ownsRow (w.heap.size + 2) 3 1 v' (outTo (keepR xs N E) N (kk + 1)).length ((outTo (keepR xs N E) N (kk + 1)).map (Value.int .i64))) from by
          rw [outTo_yes HC.out, List.length_append, ← hm, List.map_append, ← HNK.out]; exact h)
        have OWN6 := Lib.hid (show w5.ownsRow (w.heap.size + 2) 3 1 V m ((outTo (keepR xs N E) N kk).map (Value.int .i64)) from by rw [hm]; exact OWN5.out)
        clear OWN5 LEN hm
        go_wp2_with fail
        refine (CK.out w5 B5.out).mono ?_
        rintro e w6 ⟨rfl, hb⟩
        have A6 := Lib.hid (A5.out.then_ hb)
        have D6 := Lib.hid (D5.out.then_ hb)
        have B6 := Lib.hid (below_then B5.out hb)
        have OWN7 := Lib.hid (own_thenS OWN6.out hb)
        clear hb A5 D5 B5 OWN6 u0 u1 hl CK
        have hs6 := D6.out.lt
        go_wp2_with (at_builtin; refine wpList_append_own _ rfl _ _ 34 rfl (w.heap.size + 2) 3 i0 (.int .i64 0) 1 8 Tryz.underlying34 hi hz0 hz1 hz2 rfl (by decide) _ _ _ rfl (OWN7.out.alloc _) ⟨w6.heap.size, 0, none⟩ 1 1 [.int .i64 Nk] rfl rfl (World.news_of_block (cs := #[.int .i64 Nk]) (t := 3) (fr := (0, 0)) (heap_alloc_new w6 _)) (by simp [Value.oneCell']) (by unfold maxLen; omega) (by omega) (by first | omega | (simp; omega)) ?_; intro v' w4 hown' hgrow _)
        have OWN8 := Lib.hid (YESREL.out _ _ hown')
        have A8 := Lib.hid ((A6.out.alloc (.cells #[.int .i64 Nk] 3)).grown' hgrow (own_aboveL OWN7.out (by omega)))
        have D8 := Lib.hid ((D6.out.alloc (.cells #[.int .i64 Nk] 3)).grown' hgrow (own_aboveL OWN7.out (by omega)))
        have B8 := Lib.hid ((below_new B6.out (.cells #[.int .i64 Nk] 3)).grown hgrow (by simp; omega) (fun bb hbb => by
          rcases Nat.lt_or_ge bb (w.heap.size + 2) with h | h
          · exact absurd hbb.symm (own_aboveL OWN7.out h)
          · omega))
        clear hown' hgrow OWN7
        go_wp2_with fail
        go_roundw
        case rel => exact ⟨kk + 1, _, rfl, by omega, by go_num, OWN8.out, A8.out, D8.out, B8.out⟩
        case measure => simp [intOf]; omega
      · have HC := Lib.hid (show keepR xs N E k = false from by
          cases hb : keepR xs N E k with
          | false => rfl
          | true => exact absurd (HKN.out.1 hb) hkk)
        have hne : ((kk : Int) == (k : Int)) = false := by rw [beq_eq_false_iff_ne]; omega
        clear HKN hkk
        go_wp2_with fail
        refine (CK.out w5 B5.out).mono ?_
        rintro e w6 ⟨rfl, hb⟩
        have A6 := Lib.hid (A5.out.then_ hb)
        have D6 := Lib.hid (D5.out.then_ hb)
        have B6 := Lib.hid (below_then B5.out hb)
        have OWN7 := Lib.hid (own_thenS OWN5.out hb)
        clear hb A5 D5 B5 OWN5 u0 u1 hl CK
        go_wp2_with fail
        go_roundw
        case rel => exact ⟨k + 1, _, rfl, by omega, by go_num, by rw [outTo_no HC.out]; exact OWN7.out, A6.out, D6.out, B6.out⟩
        case measure => simp [intOf]; omega
    · obtain rfl : k = n := by omega
      obtain ⟨aa, cc, rfl, hcap1, hcap2, hI⟩ := own_ints OWN.out (MEM.out k (Nat.le_refl _)) rfl
      have HI := Lib.hid hI
      clear hI OWN ha hB
      go_wp2_with fail
      go_ret
      exact ⟨_, rfl, aa, _, cc, rfl, hcap1, hcap2, HI.out, HB.out⟩
theorem answers_exist {xs : List Prt} (hall : ∀ p ∈ xs, calB p.2 = true ∧ -4000000 ≤ p.1 ∧ p.1 ≤ 4000000) (y mo d : Int) : ∃ N E, Answers xs y mo d N E := by
  have h : ∀ k : Nat, ∃ q : Int × Int, ∀ f s, xs[k]? = some (f, s) → ∃ row, rowOf s.data.toList = some row ∧ ToC row y mo d q.1 q.2 ∧ ToY row y mo d q.1 q.2 ∧ (q.2 = 0 → -4000000 ≤ q.1 ∧ q.1 ≤ 4000000) := by
    intro k
    cases hx : xs[k]? with
    | none => exact ⟨(0, 0), fun f s h => by cases h⟩
    | some p =>
      obtain ⟨row, hro⟩ := calB_row (hall p (List.mem_of_getElem? hx)).1
      obtain ⟨n, ee, h1, h2, h3⟩ := to_atR (List.mem_of_find?_eq_some hro) y mo d
      exact ⟨(n, ee), fun f s h => by cases h; exact ⟨row, hro, h2, h3, h1⟩⟩
  obtain ⟨q, hq⟩ := Classical.skolem.1 h
  exact ⟨fun k => (q k).1, fun k => (q k).2, hq⟩
end Go.Proofs.YtlpbaljoanfogaaGreatDoor
