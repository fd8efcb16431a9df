/- Several texts in one: Fst3, Fst4, FstW. -/
import Derived.Test.YtdmkghgachapaabGreatDoorMgFa
import Derived.Test.YtdmkghgachapaabGreatDoorTree2
import Derived.Deep.CutRange
import Derived.Deep.RegionHeld3
import Derived.Deep.RegionHeldLaw
import Derived.Deep.AppendLies
import Derived.Test.YtdmkghgachapaabGreatDoorMgI
namespace Go.Proofs.YtdmkghgachapaabGreatDoor
set_option linter.unusedVariables false
set_option linter.unusedSimpArgs false
set_option maxRecDepth 100000
open Go.RowKit Go.Shelf
theorem ref_uses (k : Int) (w : World) (h1 : 1 ≤ k) (h2 : k ≤ 12) : Calls Tryz.prog 37 #[.int .i64 k] w fun e w' => e = .returned (.tuple #[.bool (usesN k), .bool (usesA k), .bool (usesB k), .int .i64 (kidsN k : Int)]) ∧ w = w' := by
  obtain ⟨b1, hb1⟩ : ∃ x, x = usesN k := ⟨_, rfl⟩
  obtain ⟨b2, hb2⟩ : ∃ x, x = usesA k := ⟨_, rfl⟩
  obtain ⟨b3, hb3⟩ : ∃ x, x = usesB k := ⟨_, rfl⟩
  obtain ⟨n, hn⟩ : ∃ x, x = (kidsN k : Int) := ⟨_, rfl⟩
  rw [← hb1, ← hb2, ← hb3, ← hn]
  rcases kind_of h1 h2 with rfl | rfl | rfl | rfl | rfl | rfl | rfl | rfl | rfl | rfl | rfl | rfl
  all_goals
    clear h1 h2
    have H1 := Lib.hid hb1; have H2 := Lib.hid hb2; have H3 := Lib.hid hb3; have H4 := Lib.hid hn
    clear hb1 hb2 hb3 hn
    go_enter Tryz.func37, Tryz.ntmps37
    go_wp2_with fail
    exact bodyPost_ret (v := .tuple #[.bool b1, .bool b2, .bool b3, .int .i64 n]) (by simp [results, Tryz.results37, go_sem]; rw [H1.out, H2.out, H3.out, H4.out]; exact ⟨rfl, rfl, rfl, rfl⟩) rfl ⟨rfl, rfl⟩
theorem ref_uses_out (k : Int) (w : World) (h : inB 1 12 k = false) : Calls Tryz.prog 37 #[.int .i64 k] w fun e w' => e = .returned (.tuple #[.bool false, .bool false, .bool false, .int .i64 (-1)]) ∧ w = w' := by
  have hk : ¬ (1 ≤ k ∧ k ≤ 12) := fun hk => by rw [inB_yes hk.1 hk.2] at h; cases h
  have h1 := kne (show k ≠ 1 by omega)
  have h2 := kne (show k ≠ 2 by omega)
  have h3 := kne (show k ≠ 3 by omega)
  have h4 := kne (show k ≠ 4 by omega)
  have h5 := kne (show k ≠ 5 by omega)
  have h6 := kne (show k ≠ 6 by omega)
  have h7 := kne (show k ≠ 7 by omega)
  have h8 := kne (show k ≠ 8 by omega)
  have h9 := kne (show k ≠ 9 by omega)
  have h10 := kne (show k ≠ 10 by omega)
  have h11 := kne (show k ≠ 11 by omega)
  have h12 := kne (show k ≠ 12 by omega)
  clear hk h
  go_enter Tryz.func37, Tryz.ntmps37
  go_wp2_with fail
  exact bodyPost_ret (v := .tuple #[.bool false, .bool false, .bool false, .int .i64 (-1)]) (by simp [results, Tryz.results37, go_sem]) rfl ⟨rfl, rfl⟩
theorem ref_months (s : ByteArray) (w : World) (m : Int) (hm : w.cell? ⟨0, 0, none⟩ = some (.int .i64 m)) :
    Calls Tryz.prog 38 #[.string s] w fun e w' => e = .returned (.int .i64 (monthsN s : Int)) ∧ Below w.heap.size w w' := by
  have hcp := ref_Named s.data.toList w m hm
  have e0 : (⟨s.data.toList.toArray⟩ : ByteArray) = s := by simp
  rw [e0] at hcp
  unfold NamedPost at hcp
  clear hm e0
  cases hro : rowOf s.data.toList with
  | none =>
    rw [hro] at hcp
    have CP := Lib.hid (show Calls Tryz.prog 57 #[.string s] w (fun e w' => e = .returned (.tuple #[.agg zYv, .bool false]) ∧ Below w.heap.size w w') from hcp)
    have hz := Lib.hid (show monthsN s = 0 by unfold monthsN; rw [hro])
    clear hcp hro
    go_enter Tryz.func38, Tryz.ntmps38
    go_wp2_with (go_at_call 57; refine CP.out.mono ?_; rintro e w3 ⟨rfl, hb⟩)
    go_ret
    exact ⟨ret_int (by rw [hz.out]; rfl), below_new hb _⟩
  | some r =>
    rw [hro] at hcp
    have CP := Lib.hid (show Calls Tryz.prog 57 #[.string s] w (fun e w' => ∃ v, e = .returned (.tuple #[v, .bool true]) ∧ YearsRet r w v w') from hcp)
    have hz := Lib.hid (monthsN_some hro)
    have hml := Lib.hid (row_months (List.mem_of_find?_eq_some hro))
    clear hcp hro
    go_enter Tryz.func38, Tryz.ntmps38
    go_upto_region 2 with (go_at_call 57; refine CP.out.mono ?_; rintro e w3 ⟨v, rfl, a1, n1, c1, a2, n2, c2, g, rfl, j1, j2, hcal, hmk, hb⟩)
    have o3 := One.new w3 (.cells #[.string (tkS (ruleL r).nm), .int .i64 (ruleL r).ep, .int .i64 (calN r : Int), .slice a1 n1 c1, .slice a2 n2 c2, .slice (some ⟨g, 0, none⟩) (calN r) (calN r), .int .i64 (shortOf (msL r)), .int .i64 (longOf (msL r)), .int .i64 (daysTo (shortOf (msL r)) (longOf (msL r)) (lsL r) (calN r : Int))] 100)
    have hn1 := Lib.hid hcal.n1
    have hwn : IntKind.i64.wrap (n1 : Int) = (n1 : Int) := IntWalk.i64_in _ (by have := hn1.out; have := hml.out; omega)
    have HB := Lib.hid hb
    clear hb hcal hmk
    generalize World.alloc w3 _ = W3 at o3 ⊢
    have y3 := o3.1.cell 3
    simp at y3
    have O3 := Lib.hid o3.2
    clear o3
    go_wp2_with fail
    go_ret
    exact ⟨ret_int (by rw [hz.out, hn1.out]), below_then HB.out O3.out⟩
theorem Tryz.infoFNode : (Tryz.prog.info? 73).map (fun i => (i.zero, i.size, i.bytes)) = some (some (.agg #[.int .i64 0, .int .i64 0, .int .i64 0, .string ⟨#[]⟩, .slice none 0 0, .int .i64 0, .int .i64 0]), 7, 80) := by kernel_rfl
structure FItem where
  t : Fst
  ad : Option Addr
  n : Nat
  c : Nat
  d : Int
  u : Int
def encF (x : FItem) : List Value := [.int .i64 x.t.kind, .int .i64 x.t.va, .int .i64 x.t.vb, .string x.t.nm, .slice x.ad x.n x.c, .int .i64 x.d, .int .i64 x.u]
def fItemOk (w : World) (x : FItem) : Prop := FSub w w.heap.size x.t x.ad x.n ∧ x.n ≤ x.c ∧ x.c ≤ 9223372036854775807 ∧ 1 ≤ x.d ∧ x.d ≤ 11 ∧ 0 ≤ x.u ∧ x.u ≤ 2
def fItemsOf (l : List FItem) : List (Fst × Int × Int) := l.reverse.map fun x => (x.t, x.d, x.u)
theorem fItems_len (l : List FItem) : (l.flatMap encF).length = l.length * 7 := by
  induction l with
  | nil => rfl
  | cons x l ih => rw [List.flatMap_cons, List.length_append, ih, List.length_cons, Nat.add_mul]; simp [encF]; omega
theorem fItems_snoc (l : List FItem) (x : FItem) : fItemsOf (l ++ [x]) = (x.t, x.d, x.u) :: fItemsOf l := by
  unfold fItemsOf; rw [List.reverse_append]; rfl
theorem fItems_flat (l : List FItem) (x : FItem) : (l ++ [x]).flatMap encF = l.flatMap encF ++ encF x := by
  rw [List.flatMap_append]; simp
theorem fItems_at (l : List FItem) (x : FItem) (i : Nat) (v : Value) (h : (encF x)[i]? = some v) : ((l ++ [x]).flatMap encF)[l.length * 7 + i]? = some v := by
  rw [fItems_flat, List.getElem?_append_right (by rw [fItems_len]; omega), fItems_len, Nat.add_sub_cancel_left]
  exact h
theorem formB_bits2 : ∀ z1 uA zA uB zB uN zN : Bool, (z1 = true ∧ (true && (!z1 && ((uA || !zA) && ((uB || !zB) && (uN || !zN))))) = false) ∨
    (z1 = false ∧ uN = false ∧ zN = true ∧ (true && (!z1 && ((uA || !zA) && ((uB || !zB) && (uN || !zN))))) = false) ∨
    (z1 = false ∧ (uN = true ∨ (uN = false ∧ zN = false)) ∧ uA = false ∧ zA = true ∧ (true && (!z1 && ((uA || !zA) && ((uB || !zB) && (uN || !zN))))) = false) ∨
    (z1 = false ∧ (uN = true ∨ (uN = false ∧ zN = false)) ∧ (uA = true ∨ (uA = false ∧ zA = false)) ∧ uB = false ∧ zB = true ∧ (true && (!z1 && ((uA || !zA) && ((uB || !zB) && (uN || !zN))))) = false) ∨
    (z1 = false ∧ (uN = true ∨ (uN = false ∧ zN = false)) ∧ (uA = true ∨ (uA = false ∧ zA = false)) ∧ (uB = true ∨ (uB = false ∧ zB = false)) ∧ (true && (!z1 && ((uA || !zA) && ((uB || !zB) && (uN || !zN))))) = true) := by decide
abbrev fnO (k a b : Int) (s : ByteArray) (ad : Option Addr) (n c : Nat) (d u : Int) : Obj := .cells #[.int .i64 k, .int .i64 a, .int .i64 b, .string s, .slice ad n c, .int .i64 d, .int .i64 u] 73
end Go.Proofs.YtdmkghgachapaabGreatDoor

namespace Go.Proofs.YtdmkghgachapaabGreatDoor
set_option linter.unusedVariables false
set_option linter.unusedSimpArgs false
set_option maxRecDepth 100000
open Go.RowKit Go.Shelf
set_option maxHeartbeats 32000000 in
theorem ref_FeastError (w : World) (m : Int) (hm : w.cell? ⟨0, 0, none⟩ = some (.int .i64 m)) (k a b : Int) (s : ByteArray) (ks : List Fst) (ad : Option Addr) (len cap : Nat) (h : FSub w w.heap.size (.node k a b s ks) ad len) (hc : len ≤ cap) (hmx : cap ≤ 9223372036854775807) :
    Calls Tryz.prog 21 #[.agg (fV k a b s ad len cap)] w fun e w' => e = .returned (.int .i64 (fstErr (.node k a b s ks))) ∧ Below w.heap.size w w' := by
  obtain ⟨i0, hi, hz0, hz1, hz2⟩ := info_parts Tryz.infoFNode
  have hgm := World.block_lt_of_cell? _ _ hm
  have CM := Lib.hid (fun (W : World) (hW : Below w.heap.size w W) (s : ByteArray) => ref_months s W m ((hW.cell (p := ⟨0, 0, none⟩) hgm).trans hm))
  clear hm hgm
  have H := Lib.hid h; clear h
  have HO := Lib.hid (fstErr_stack (.node k a b s ks))
  go_enter Tryz.func21, Tryz.ntmps21
  go_wp2_with fail
  go_loopw [3, 4, 5, 6, 7, 8, 9, 10, 11, 12, 13, 14] (fun v n _ _ _ _ _ _ _ _ _ _ wr => ∃ (l : List FItem) (c : Int), n = .int .i64 (c + 1) ∧ 0 ≤ c ∧ c ≤ 40 ∧ (l.length : Int) ≤ c + 1 ∧ wr.ownsRow (w.heap.size + 1) 73 7 v l.length (l.flatMap encF) ∧ (∀ x ∈ l, fItemOk w x) ∧ fstErr (.node k a b s ks) = fstStack (fItemsOf l) c ∧ Below w.heap.size w wr) (fun _ n _ _ _ _ _ _ _ _ _ _ _ => 41 - (intOf n).toNat)
  case atStart =>
    refine ⟨[⟨.node k a b s ks, ad, len, cap, 1, 0⟩], 0, rfl, by omega, by omega, by simp, ?_, ?_, HO.out, by (repeat' (first | exact bxR _ _ | assumption | refine bxD ?_ | refine bxN ?_ _ | refine bxA ?_ _ | refine bxS ?_ ?_ _ | refine bxT ?_ (by assumption) | refine bxW ?_ (by assumption) | exact Nat.le_refl _ | omega | (simp; done) | (simp; omega)))⟩
    · have : ((w.alloc (fO k a b s ad len cap)).alloc (fnO k a b s ad len cap 1 0)).ownsRow (w.heap.size + 1) 73 7 (.slice (some ⟨w.heap.size + 1, 0, none⟩) 1 1) 1 [.int .i64 k, .int .i64 a, .int .i64 b, .string s, .slice ad len cap, .int .i64 1, .int .i64 0] :=
        ⟨rfl, .inr ⟨w.heap.size + 1, 1, _, rfl, Nat.le_refl _, by have := At.new1 w (fO k a b s ad len cap) (fnO k a b s ad len cap 1 0); exact this, by omega, by unfold maxLen; omega, rfl, rfl⟩⟩
      exact this
    · intro x hx
      rw [List.mem_singleton] at hx
      subst hx
      exact ⟨H.out, hc, hmx, by simp, by simp, by simp, by simp⟩
  case round =>
    obtain ⟨l, c, rfl, c0, c1, hll, hown, hok, hst, hb⟩ := hrel
    have HST := Lib.hid hst; have HB := Lib.hid hb; clear hst hb
    rcases List.eq_nil_or_concat l with rfl | ⟨l', x, rfl⟩
    · have HF := Lib.hid (show fstErr (.node k a b s ks) = 0 by rw [HST.out]; rfl)
      rcases hown.2 with ⟨rfl, _⟩ | ⟨g, cap', cur, rfl, _⟩
      all_goals
        clear hown
        go_wp2_with fail
        go_ret
        exact ⟨ret_int (by rw [HF.out]), HB.out⟩
    · obtain ⟨⟨k', a', b', s', ks'⟩, ad', n', cc, d, u⟩ := x
      rw [List.concat_eq_append] at *
      obtain ⟨g, cap', rfl, hg1, hg2, hcap1, hcap2⟩ := own_size hown (by simp) (by omega)
      have hlen : (l' ++ [(⟨Fst.node k' a' b' s' ks', ad', n', cc, d, u⟩ : FItem)]).length = l'.length + 1 := by simp
      rw [hlen] at hown hcap1 hll ⊢
      have x0 : wr.cell? ⟨g, l'.length * 7, none⟩ = some (.int .i64 k') := own_cell hown _ (fItems_at l' _ 0 _ rfl)
      have x1 : wr.cell? ⟨g, l'.length * 7 + 1, none⟩ = some (.int .i64 a') := own_cell hown _ (fItems_at l' _ 1 _ rfl)
      have x2 : wr.cell? ⟨g, l'.length * 7 + 2, none⟩ = some (.int .i64 b') := own_cell hown _ (fItems_at l' _ 2 _ rfl)
      have x3 : wr.cell? ⟨g, l'.length * 7 + 3, none⟩ = some (.string s') := own_cell hown _ (fItems_at l' _ 3 _ rfl)
      have x4 : wr.cell? ⟨g, l'.length * 7 + 4, none⟩ = some (.slice ad' n' cc) := own_cell hown _ (fItems_at l' _ 4 _ rfl)
      have x5 : wr.cell? ⟨g, l'.length * 7 + 5, none⟩ = some (.int .i64 d) := own_cell hown _ (fItems_at l' _ 5 _ rfl)
      have x6 : wr.cell? ⟨g, l'.length * 7 + 6, none⟩ = some (.int .i64 u) := own_cell hown _ (fItems_at l' _ 6 _ rfl)
      rw [fItems_flat] at hown
      have hcut := own_cut hown (m := l'.length) (by omega) (fItems_len l')
      have hx := hok _ (List.mem_append_right _ (List.mem_singleton_self _))
      have hst := HST.out
      rw [fItems_snoc] at hst
      have HST2 := Lib.hid hst; have HCUT := Lib.hid hcut; have HOK := Lib.hid hok; have HX := Lib.hid hx
      obtain ⟨_, xc1, xc2, xd1, xd2, xu1, xu2⟩ := hx
      simp only at xc1 xc2 xd1 xd2 xu1 xu2
      generalize hln : l'.length = ln at *
      have HLN := Lib.hid hln; have HLL := Lib.hid hll
      clear hst hcut hok hown HST hln
      have hw1 : IntKind.i64.wrap ((ln : Int) + 1) = (ln : Int) + 1 := IntWalk.i64_in _ (by omega)
      have hkl := HX.out.1.len
      obtain ⟨hkl, hkm, _, hIa, _, _⟩ := hkl
      have HKL := Lib.hid hkl; have HIA := Lib.hid hIa; clear hkl hIa
      have hwl : IntKind.i64.wrap (n' : Int) = (n' : Int) := IntWalk.i64_in _ (by omega)
      -- the box of the node; the rest of the stack
      have ab := At.new wr (fnO k' a' b' s' ad' n' cc d u)
      have hb1 := below_new HB.out (fnO k' a' b' s' ad' n' cc d u)
      have own1 := HCUT.out.alloc (fnO k' a' b' s' ad' n' cc d u)
      go_upto_region 7 with fail
      have hgx : g ≠ wr.heap.size := by omega
      have hTs : w.heap.size < wr.heap.size := by have := HB.out.size; omega
      obtain ⟨T, hT⟩ : ∃ T, T = wr.heap.size := ⟨_, rfl⟩
      rw [← hT] at ab hgx hTs ⊢
      generalize World.alloc wr _ = W1 at ab hb1 own1 ⊢
      clear hT x0 x1 x2 x3 x4 x5 x6 HB HCUT hg2
      have AB := Lib.hid ab; have HB1 := Lib.hid hb1; have OWN1 := Lib.hid own1
      have y0 := ab.cell 0; have y1 := ab.cell 1; have y2 := ab.cell 2; have y3 := ab.cell 3; have y4 := ab.cell 4; have y5 := ab.cell 5; have y6 := ab.cell 6; simp at y0 y1 y2 y3 y4 y5 y6
      clear ab hb1 own1
      obtain ⟨wd, hwd⟩ : ∃ x, x = wideB k' := ⟨_, rfl⟩
      have HWD := Lib.hid hwd
      have hk8 : wd = decide (k' = 8 ∨ k' = 12) := hwd
      clear hwd
      go_cut [6] from 34 to 44 (fun y wx => y = .bool wd ∧ W1 = wx)
      case first =>
        as_aux_lemma =>
        by_cases h8 : k' = 8
        · have hb : (k' == 8) = true := by simpa using h8
          have hw : wd = true := by rw [hk8, decide_eq_true (.inl h8)]
          clear h8 hk8
          go_wp2_with fail
          go_meet
          case rel => exact ⟨by rw [hw], rfl⟩
        by_cases h12 : k' = 12
        · have hb : (k' == 8) = false := kne h8
          have hb2 : (k' == 12) = true := by simpa using h12
          have hw : wd = true := by rw [hk8, decide_eq_true (.inr h12)]
          clear h8 h12 hk8
          go_wp2_with fail
          go_meet
          case rel => exact ⟨by rw [hw], rfl⟩
        · have hb : (k' == 8) = false := kne h8
          have hb2 : (k' == 12) = false := kne h12
          have hw : wd = false := by rw [hk8, decide_eq_false (by omega)]
          clear h8 h12 hk8
          go_wp2_with fail
          go_meet
          case rel => exact ⟨by rw [hw], rfl⟩
      case rest =>
      obtain ⟨rfl, rfl⟩ := hcut
      clear hk8
      obtain ⟨big, hbig⟩ : ∃ x, x = decide (40 < c + 1 ∨ 10 < d ∨ (wd = true ∧ 2 ≤ u)) := ⟨_, rfl⟩
      have HBIG := Lib.hid hbig; clear hbig
      go_upto_region 8 with fail
      go_cut [58] from 44 to 59 (fun y wx => y = .bool big ∧ W1 = wx)
      case first =>
        as_aux_lemma =>
        by_cases h40 : 40 < c + 1
        · have hB := Lib.hid (show big = true by rw [HBIG.out, decide_eq_true (.inl h40)])
          have q1 : decide (40 < c + 1) = true := by simpa using h40
          clear h40
          go_wp2_with fail
          go_meet
          case rel => exact ⟨by rw [hB.out], rfl⟩
        have q1 : decide (40 < c + 1) = false := by simpa using h40
        by_cases h10 : 10 < d
        · have hB := Lib.hid (show big = true by rw [HBIG.out, decide_eq_true (.inr (.inl h10))])
          have q2 : decide (10 < d) = true := by simpa using h10
          clear h40 h10
          go_wp2_with fail
          go_meet
          case rel => exact ⟨by rw [hB.out], rfl⟩
        have q2 : decide (10 < d) = false := by simpa using h10
        cases wd with
        | false =>
          have hB := Lib.hid (show big = false by rw [HBIG.out, decide_eq_false (by rintro (h | h | h); omega; omega; cases h.1)])
          clear h40 h10
          go_wp2_with fail
          go_meet
          case rel => exact ⟨by rw [hB.out], rfl⟩
        | true =>
          by_cases h2 : 2 ≤ u
          · have hB := Lib.hid (show big = true by rw [HBIG.out, decide_eq_true (.inr (.inr ⟨rfl, h2⟩))])
            have q3 : decide (2 ≤ u) = true := by simpa using h2
            clear h40 h10 h2
            go_wp2_with fail
            go_meet
            case rel => exact ⟨by rw [hB.out], rfl⟩
          · have hB := Lib.hid (show big = false by rw [HBIG.out, decide_eq_false (by rintro (h | h | h); omega; omega; exact h2 h.2)])
            have q3 : decide (2 ≤ u) = false := by simpa using h2
            clear h40 h10 h2
            go_wp2_with fail
            go_meet
            case rel => exact ⟨by rw [hB.out], rfl⟩
      case rest =>
      obtain ⟨rfl, rfl⟩ := hcut
      have bad : ∀ E : Int, nodeErr k' a' b' s' ks'.length d u c = E → E ≠ 0 → fstErr (.node k a b s ks) = E := fun E h1 h2 => by
        rw [HST2.out]; exact (fstStack_bad (by rw [h1]; exact h2)).trans h1
      have BAD := Lib.hid bad; clear bad
      cases big with
      | true =>
        have hE := Lib.hid (BAD.out 2 (by unfold nodeErr; rw [if_pos (by rw [← HWD.out]; exact of_decide_eq_true HBIG.out.symm)]) (by omega))
        go_wp2_with fail
        go_ret
        exact ⟨ret_int (by rw [hE.out]), HB1.out⟩
      | false =>
      have hns := Lib.hid (show ¬ (40 < c + 1 ∨ 10 < d ∨ (wideB k' = true ∧ 2 ≤ u)) by rw [← HWD.out]; exact of_decide_eq_false HBIG.out.symm)
      have hc39 : c + 1 ≤ 40 := by have := hns.out; omega
      have hd10 : d ≤ 10 := by have := hns.out; omega
      have HU2 := Lib.hid (show wd = true → u < 2 from fun h => Int.not_le.1 fun hu => hns.out (.inr (.inr ⟨by rw [← HWD.out]; exact h, hu⟩)))
      have HN := Lib.hid (show nodeErr k' a' b' s' ks'.length d u c = if formB k' a' b' s' n' = false then 8 else if usesN k' = true ∧ monthsN s' = 0 then 5 else if rangeB k' a' b' (mostN k' s') = false then 3 else 0 by
        unfold nodeErr; rw [if_neg hns.out, HKL.out])
      clear hns HBIG
      rcases inB_cases 1 12 k' with ⟨hk, k1, k2⟩ | ⟨hk, hk'⟩
      case inr =>
        have hE := Lib.hid (BAD.out 8 (by rw [HN.out, if_pos (by unfold formB; rw [hk]; rfl)]) (by omega))
        have CU := Lib.hid (fun W : World => ref_uses_out k' W hk)
        have hne : ((n' : Int) != -1) = true := by simp
        clear hk hk' HN HWD HU2
        go_wp2_with (go_at_call 37; refine (CU.out _).mono ?_; rintro e w' ⟨rfl, rfl⟩)
        go_ret
        exact ⟨ret_int (by rw [hE.out]), HB1.out⟩
      obtain ⟨uA, hA⟩ : ∃ x, x = usesA k' := ⟨_, rfl⟩
      obtain ⟨uB, hB⟩ : ∃ x, x = usesB k' := ⟨_, rfl⟩
      obtain ⟨uN, hNm⟩ : ∃ x, x = usesN k' := ⟨_, rfl⟩
      obtain ⟨kn, hkn⟩ : ∃ x, x = kidsN k' := ⟨_, rfl⟩
      have CU := Lib.hid (show ∀ W : World, Calls Tryz.prog 37 #[.int .i64 k'] W fun e w' => e = .returned (.tuple #[.bool uN, .bool uA, .bool uB, .int .i64 (kn : Int)]) ∧ W = w' from fun W => by rw [hA, hB, hNm, hkn]; exact ref_uses k' W k1 k2)
      obtain ⟨fb, hfb⟩ : ∃ x, x = formB k' a' b' s' n' := ⟨_, rfl⟩
      have HFE := Lib.hid (show fb = (true && (!((n' : Int) != (kn : Int)) && ((uA || !(a' != 0)) && ((uB || !(b' != 0)) && (uN || !(!s'.toList.isEmpty)))))) by rw [hfb, hA, hB, hNm, hkn, ← hk]; exact formB_eq k' a' b' s' n')
      have HFB := Lib.hid hfb; have HNM := Lib.hid hNm
      clear hA hB hNm hkn hfb hk
      go_upto_region 11 with (go_at_call 37; refine (CU.out _).mono ?_; rintro e w' ⟨rfl, rfl⟩)
      go_cut [103] from 68 to 104 (fun y wx => y = .bool (!fb) ∧ W1 = wx)
      case first =>
        as_aux_lemma =>
        obtain ⟨z1, hz1⟩ : ∃ x, ((n' : Int) != (kn : Int)) = x := ⟨_, rfl⟩
        obtain ⟨zA, hzA⟩ : ∃ x, (a' != 0) = x := ⟨_, rfl⟩
        obtain ⟨zB, hzB⟩ : ∃ x, (b' != 0) = x := ⟨_, rfl⟩
        obtain ⟨zN, hzN⟩ : ∃ x, (!s'.toList.isEmpty) = x := ⟨_, rfl⟩
        have HF := HFE.out
        rw [hz1, hzA, hzB, hzN] at HF
        have key := formB_bits2 z1 uA zA uB zB uN zN
        rw [← HF] at key
        clear HF HFE HFB HNM HN CU
        rcases key with ⟨rfl, e⟩ | ⟨rfl, rfl, rfl, e⟩ | ⟨rfl, rfl | ⟨rfl, rfl⟩, rfl, rfl, e⟩ | ⟨rfl, rfl | ⟨rfl, rfl⟩, rfl | ⟨rfl, rfl⟩, rfl, rfl, e⟩ | ⟨rfl, rfl | ⟨rfl, rfl⟩, rfl | ⟨rfl, rfl⟩, rfl | ⟨rfl, rfl⟩, e⟩
        all_goals
          have HE := Lib.hid e; clear e
          go_wp2_with fail
          go_meet
          case rel => exact ⟨by rw [HE.out]; rfl, rfl⟩
      case rest =>
      obtain ⟨rfl, rfl⟩ := hcut
      clear CU HFE
      cases fb with
      | false =>
        have hE := Lib.hid (BAD.out 8 (by rw [HN.out, if_pos HFB.out.symm]) (by omega))
        go_wp2_with fail
        go_ret
        exact ⟨ret_int (by rw [hE.out]), HB1.out⟩
      | true =>
      have hln2 : n' ≤ 2 := (formB_len HFB.out.symm).2.2.2
      have HN1 := Lib.hid (HN.out.trans (if_neg (by rw [← HFB.out]; simp)))
      clear HN HFB
      simp only [Bool.not_true]
      obtain ⟨M, hM⟩ : ∃ x, x = mostN k' s' := ⟨_, rfl⟩
      have HM := Lib.hid hM; clear hM
      by_cases hbad : uN = true ∧ monthsN s' = 0
      · obtain ⟨rfl, hz⟩ := hbad
        have hE := Lib.hid (BAD.out 5 (HN1.out.trans (if_pos ⟨HNM.out.symm, hz⟩)) (by omega))
        have cp := CM.out W1 HB1.out s'
        rw [hz] at cp
        have CP := Lib.hid cp
        clear hz HN1 cp
        go_wp2_with (go_at_call 38; refine CP.out.mono ?_; rintro e w3 ⟨rfl, hb⟩)
        go_ret
        exact ⟨ret_int (by rw [hE.out]), below_then HB1.out hb⟩
      have HN2 := Lib.hid (HN1.out.trans (if_neg (by rw [← HNM.out]; exact hbad)))
      have HBAD := Lib.hid hbad
      clear hbad HN1
      go_upto_if 104 with fail
      go_cut [11] from 104 to 111 (fun y wx => y = .int .i64 M ∧ Below W1.heap.size W1 wx)
      case first =>
        as_aux_lemma =>
        cases uN with
        | false =>
          have HM0 := Lib.hid (show M = 0 by rw [HM.out]; unfold mostN; rw [if_neg (by rw [← HNM.out]; simp)])
          go_wp2_with fail
          go_meet
          case rel => exact ⟨by rw [HM0.out], Below.refl _ _⟩
        | true =>
          have hM0 : (M == 0) = false := by
            have h1 : M = (monthsN s' : Int) := by rw [HM.out]; unfold mostN; rw [if_pos HNM.out.symm]
            have h2 : monthsN s' ≠ 0 := fun h => HBAD.out ⟨rfl, h⟩
            rw [h1]; simpa using h2
          have cp := CM.out W1 HB1.out s'
          rw [show (monthsN s' : Int) = M by rw [HM.out]; unfold mostN; rw [if_pos HNM.out.symm]] at cp
          have CP := Lib.hid cp
          clear cp HBAD
          go_wp2_with (go_at_call 38; refine CP.out.mono ?_; rintro e w3 ⟨rfl, hb⟩)
          go_meet
          case rel => exact ⟨rfl, hb⟩
      case rest =>
      obtain ⟨rfl, hbm⟩ := hcut
      have ab := AB.out.then_ hbm
      have HB3 := Lib.hid (below_then HB1.out hbm)
      have OWN3 := Lib.hid (own_thenC OWN1.out hbm)
      clear hbm HBAD AB HB1 OWN1 y0 y1 y2 y3 y4 y5 y6
      have AB := Lib.hid ab
      have y0 := ab.cell 0; have y1 := ab.cell 1; have y2 := ab.cell 2; have y3 := ab.cell 3; have y4 := ab.cell 4; have y5 := ab.cell 5; have y6 := ab.cell 6; simp at y0 y1 y2 y3 y4 y5 y6
      clear ab
      obtain ⟨rb, hrb⟩ : ∃ x, x = rangeB k' a' b' M := ⟨_, rfl⟩
      have HRB := Lib.hid hrb; clear hrb
      go_upto_region 18 with fail
      go_cut [12] from 111 (fun y wx => y = .bool false ∧ wc = wx)
      case first =>
        as_aux_lemma =>
        go_wp2_with fail
        go_meet
        case rel => exact ⟨rfl, rfl⟩
      case rest =>
      obtain ⟨rfl, rfl⟩ := hcut
      apply_assumption
      refine wp_seq_k ?_
      intro KK hKK
      go_cut [12] from 111 to 221 (fun y wx => y = .bool (!rb) ∧ wc = wx)
      case first =>
        as_aux_lemma =>
        rcases kind_of k1 k2 with rfl | rfl | rfl | rfl | rfl | rfl | rfl | rfl | rfl | rfl | rfl | rfl
        all_goals clear k1 k2 HWD HN2
        · -- 1
          obtain ⟨b0, hb0⟩ : ∃ x, x = inB 1 M a' := ⟨_, rfl⟩
          obtain ⟨b1, hb1⟩ : ∃ x, x = inB 1 400 b' := ⟨_, rfl⟩
          have HR := Lib.hid (show rb = (b0 && b1) by rw [HRB.out, hb0, hb1]; rfl)
          have C0 := Lib.hid (show ∀ W : World, Calls Tryz.prog 39 #[.int .i64 a', .int .i64 1, .int .i64 M] W fun e w' => e = .returned (.bool b0) ∧ W = w' from fun W => by rw [hb0]; exact ref_In a' 1 M W)
          have C1 := Lib.hid (show ∀ W : World, Calls Tryz.prog 39 #[.int .i64 b', .int .i64 1, .int .i64 400] W fun e w' => e = .returned (.bool b1) ∧ W = w' from fun W => by rw [hb1]; exact ref_In b' 1 400 W)
          clear hb0 hb1
          cases b0 <;> cases b1
          all_goals
            go_wp2_with ((first | (go_at_call 39; with_reducible refine (C0.out _).mono ?_) | (go_at_call 39; with_reducible refine (C1.out _).mono ?_)); rintro e w' ⟨rfl, rfl⟩)
            go_meet
            case rel => exact ⟨by rw [HR.out]; rfl, rfl⟩
        · -- 2
          obtain ⟨b0, hb0⟩ : ∃ x, x = inB 1 M a' := ⟨_, rfl⟩
          have HR := Lib.hid (show rb = b0 by rw [HRB.out, hb0]; rfl)
          have C0 := Lib.hid (show ∀ W : World, Calls Tryz.prog 39 #[.int .i64 a', .int .i64 1, .int .i64 M] W fun e w' => e = .returned (.bool b0) ∧ W = w' from fun W => by rw [hb0]; exact ref_In a' 1 M W)
          clear hb0
          cases b0
          all_goals
            go_wp2_with ((first | (go_at_call 39; with_reducible refine (C0.out _).mono ?_)); rintro e w' ⟨rfl, rfl⟩)
            go_meet
            case rel => exact ⟨by rw [HR.out]; rfl, rfl⟩
        · -- 3
          obtain ⟨b0, hb0⟩ : ∃ x, x = inB 0 6 a' := ⟨_, rfl⟩
          have HR := Lib.hid (show rb = b0 by rw [HRB.out, hb0]; rfl)
          have C0 := Lib.hid (show ∀ W : World, Calls Tryz.prog 39 #[.int .i64 a', .int .i64 0, .int .i64 6] W fun e w' => e = .returned (.bool b0) ∧ W = w' from fun W => by rw [hb0]; exact ref_In a' 0 6 W)
          clear hb0
          cases b0
          all_goals
            go_wp2_with ((first | (go_at_call 39; with_reducible refine (C0.out _).mono ?_)); rintro e w' ⟨rfl, rfl⟩)
            go_meet
            case rel => exact ⟨by rw [HR.out]; rfl, rfl⟩
        · -- 4
          obtain ⟨b0, hb0⟩ : ∃ x, x = inB 1 100000 a' := ⟨_, rfl⟩
          obtain ⟨b1, hb1⟩ : ∃ x, x = inB 0 (a' - 1) b' := ⟨_, rfl⟩
          have HR := Lib.hid (show rb = (b0 && b1) by rw [HRB.out, hb0, hb1]; rfl)
          have C0 := Lib.hid (show ∀ W : World, Calls Tryz.prog 39 #[.int .i64 a', .int .i64 1, .int .i64 100000] W fun e w' => e = .returned (.bool b0) ∧ W = w' from fun W => by rw [hb0]; exact ref_In a' 1 100000 W)
          have C1 := Lib.hid (show ∀ W : World, Calls Tryz.prog 39 #[.int .i64 b', .int .i64 0, .int .i64 (a' - 1)] W fun e w' => e = .returned (.bool b1) ∧ W = w' from fun W => by rw [hb1]; exact ref_In b' 0 (a' - 1) W)
          have B0 := Lib.hid hb0
          clear hb0 hb1
          cases b0 <;> cases b1
          all_goals
            have hz : IntKind.i64.wrap (a' - 1) = a' - 1 ∨ inB 1 100000 a' = false := by
              by_cases h : 1 ≤ a'
              · exact .inl (IntWalk.i64_in _ (by have := HIA.out; unfold I64 at this; omega))
              · exact .inr (inB_no (by omega))
            first | (have hz1 : IntKind.i64.wrap (a' - 1) = a' - 1 := by rcases hz with h | h; exact h; rw [← B0.out] at h; cases h) | skip
            clear hz B0
            go_wp2_with ((first | (go_at_call 39; with_reducible refine (C0.out _).mono ?_) | (go_at_call 39; with_reducible refine (C1.out _).mono ?_)); rintro e w' ⟨rfl, rfl⟩)
            go_meet
            case rel => exact ⟨by rw [HR.out]; rfl, rfl⟩
        · -- 5
          obtain ⟨b0, hb0⟩ : ∃ x, x = inB (-4000000) 4000000 a' := ⟨_, rfl⟩
          have HR := Lib.hid (show rb = b0 by rw [HRB.out, hb0]; rfl)
          have C0 := Lib.hid (show ∀ W : World, Calls Tryz.prog 40 #[.int .i64 a'] W fun e w' => e = .returned (.bool b0) ∧ W = w' from fun W => by rw [hb0]; exact ref_Day a' W)
          clear hb0
          cases b0
          all_goals
            go_wp2_with ((first | (go_at_call 40; with_reducible refine (C0.out _).mono ?_)); rintro e w' ⟨rfl, rfl⟩)
            go_meet
            case rel => exact ⟨by rw [HR.out]; rfl, rfl⟩
        · -- 6
          obtain ⟨b0, hb0⟩ : ∃ x, x = inB (-4000000) 4000000 a' := ⟨_, rfl⟩
          obtain ⟨b1, hb1⟩ : ∃ x, x = inB (-4000000) 4000000 b' := ⟨_, rfl⟩
          obtain ⟨b2, hb2⟩ : ∃ x, x = decide (a' ≤ b') := ⟨_, rfl⟩
          have HR := Lib.hid (show rb = (b0 && (b1 && b2)) by rw [HRB.out, hb0, hb1, hb2]; rfl)
          have C0 := Lib.hid (show ∀ W : World, Calls Tryz.prog 40 #[.int .i64 a'] W fun e w' => e = .returned (.bool b0) ∧ W = w' from fun W => by rw [hb0]; exact ref_Day a' W)
          have C1 := Lib.hid (show ∀ W : World, Calls Tryz.prog 40 #[.int .i64 b'] W fun e w' => e = .returned (.bool b1) ∧ W = w' from fun W => by rw [hb1]; exact ref_Day b' W)
          have hL : decide (b' < a') = !b2 := by rw [hb2]; by_cases h : a' ≤ b' <;> simp [h] <;> omega
          clear hb0 hb1 hb2
          cases b0 <;> cases b1 <;> cases b2
          all_goals
            go_wp2_with ((first | (go_at_call 40; with_reducible refine (C0.out _).mono ?_) | (go_at_call 40; with_reducible refine (C1.out _).mono ?_)); rintro e w' ⟨rfl, rfl⟩)
            go_meet
            case rel => exact ⟨by rw [HR.out]; rfl, rfl⟩
        · -- 7
          obtain ⟨b0, hb0⟩ : ∃ x, x = inB (-400) 400 a' := ⟨_, rfl⟩
          have HR := Lib.hid (show rb = b0 by rw [HRB.out, hb0]; rfl)
          have C0 := Lib.hid (show ∀ W : World, Calls Tryz.prog 39 #[.int .i64 a', .int .i64 (-400), .int .i64 400] W fun e w' => e = .returned (.bool b0) ∧ W = w' from fun W => by rw [hb0]; exact ref_In a' (-400) 400 W)
          clear hb0
          cases b0
          all_goals
            go_wp2_with ((first | (go_at_call 39; with_reducible refine (C0.out _).mono ?_)); rintro e w' ⟨rfl, rfl⟩)
            go_meet
            case rel => exact ⟨by rw [HR.out]; rfl, rfl⟩
        · -- 8
          obtain ⟨b0, hb0⟩ : ∃ x, x = inB 0 6 a' := ⟨_, rfl⟩
          have HR := Lib.hid (show rb = b0 by rw [HRB.out, hb0]; rfl)
          have C0 := Lib.hid (show ∀ W : World, Calls Tryz.prog 39 #[.int .i64 a', .int .i64 0, .int .i64 6] W fun e w' => e = .returned (.bool b0) ∧ W = w' from fun W => by rw [hb0]; exact ref_In a' 0 6 W)
          clear hb0
          cases b0
          all_goals
            go_wp2_with ((first | (go_at_call 39; with_reducible refine (C0.out _).mono ?_)); rintro e w' ⟨rfl, rfl⟩)
            go_meet
            case rel => exact ⟨by rw [HR.out]; rfl, rfl⟩
        · -- 9
          have HR := Lib.hid (show rb = true by rw [HRB.out]; rfl)
          all_goals
            go_wp2_with fail
            go_meet
            case rel => exact ⟨by rw [HR.out]; rfl, rfl⟩
        · -- 10
          have HR := Lib.hid (show rb = true by rw [HRB.out]; rfl)
          all_goals
            go_wp2_with fail
            go_meet
            case rel => exact ⟨by rw [HR.out]; rfl, rfl⟩
        · -- 11
          have HR := Lib.hid (show rb = true by rw [HRB.out]; rfl)
          all_goals
            go_wp2_with fail
            go_meet
            case rel => exact ⟨by rw [HR.out]; rfl, rfl⟩
        · -- 12
          obtain ⟨b0, hb0⟩ : ∃ x, x = inB (-50) 50 a' := ⟨_, rfl⟩
          obtain ⟨b1, hb1⟩ : ∃ x, x = decide (a' ≠ 0) := ⟨_, rfl⟩
          obtain ⟨b2, hb2⟩ : ∃ x, x = inB 0 M b' := ⟨_, rfl⟩
          have HR := Lib.hid (show rb = (b0 && (b1 && b2)) by rw [HRB.out, hb0, hb1, hb2]; rfl)
          have C0 := Lib.hid (show ∀ W : World, Calls Tryz.prog 39 #[.int .i64 a', .int .i64 (-50), .int .i64 50] W fun e w' => e = .returned (.bool b0) ∧ W = w' from fun W => by rw [hb0]; exact ref_In a' (-50) 50 W)
          have C2 := Lib.hid (show ∀ W : World, Calls Tryz.prog 39 #[.int .i64 b', .int .i64 0, .int .i64 M] W fun e w' => e = .returned (.bool b2) ∧ W = w' from fun W => by rw [hb2]; exact ref_In b' 0 M W)
          have hL : (a' == 0) = !b1 := by rw [hb1]; by_cases h : a' = 0 <;> simp [h]
          clear hb0 hb1 hb2
          cases b0 <;> cases b1 <;> cases b2
          all_goals
            go_wp2_with ((first | (go_at_call 39; with_reducible refine (C0.out _).mono ?_) | (go_at_call 39; with_reducible refine (C2.out _).mono ?_)); rintro e w' ⟨rfl, rfl⟩)
            go_meet
            case rel => exact ⟨by rw [HR.out]; rfl, rfl⟩
      case rest =>
      obtain ⟨rfl, rfl⟩ := hcut
      cases rb with
      | false =>
        have hE := Lib.hid (BAD.out 3 (by rw [HN2.out, if_pos (by rw [← HM.out, ← HRB.out])]) (by omega))
        go_wp2_with fail
        go_ret
        exact ⟨ret_int (by rw [hE.out]), HB3.out⟩
      | true =>
      have HN3 := Lib.hid (show fstErr (.node k a b s ks) = fstStack (ks'.map (fun t => (t, d + 1, u + wideI k')) ++ fItemsOf l') (c + 1) by rw [HST2.out]; exact fstStack_next (by rw [HN2.out, if_neg (by rw [← HM.out, ← HRB.out]; simp)]))
      clear HN2 HRB HM BAD HST2 HNM
      obtain ⟨u', hu'⟩ : ∃ x, x = u + wideI k' := ⟨_, rfl⟩
      rw [← hu'] at HN3
      have HU := Lib.hid hu'; clear hu'
      have hu02 : 0 ≤ u' ∧ u' ≤ 2 := by
        have h1 := HU.out
        cases wd with
        | true => rw [wideI_t HWD.out.symm] at h1; have := HU2.out rfl; omega
        | false => rw [wideI_f HWD.out.symm] at h1; omega
      have hwu : IntKind.i64.wrap (u + 1) = u + 1 := IntWalk.i64_in _ (by omega)
      go_upto_if 224 with fail
      go_cut [13] from 224 to 227 (fun y wx => y = .int .i64 u' ∧ wc = wx)
      case first =>
        as_aux_lemma =>
        cases wd with
        | true =>
          have HU3 := Lib.hid (show u' = u + 1 by rw [HU.out, wideI_t HWD.out.symm])
          go_wp2_with fail
          go_meet
          case rel => exact ⟨by rw [HU3.out], rfl⟩
        | false =>
          have HU3 := Lib.hid (show u' = u by rw [HU.out, wideI_f HWD.out.symm]; omega)
          go_wp2_with fail
          go_meet
          case rel => exact ⟨by rw [HU3.out], rfl⟩
      case rest =>
      obtain ⟨rfl, rfl⟩ := hcut
      have HU0 := Lib.hid hu02
      clear HU HU2 HWD hu02 hwu k1 k2 y0 y1 y2 y3 y6 CM
      have XKH := Lib.hid HX.out.1
      clear HX
      go_wp2_with fail
      clear y4 y5
      go_loopw [3, 14] (fun v i wi => ∃ (j : Nat) (q : List FItem), j ≤ n' ∧ i = .int .i64 ((j : Int) - 1) ∧ wi.ownsRow (w.heap.size + 1) 73 7 v (ln + q.length) ((l' ++ q).flatMap encF) ∧ v.ownBlock ≠ some T ∧ q.reverse.map (fun x => (x.t, x.d, x.u)) = (ks'.drop j).map (fun t => (t, d + 1, u')) ∧ (∀ x ∈ q, fItemOk w x) ∧ At wi T (fnO k' a' b' s' ad' n' cc d u) ∧ Below w.heap.size w wi) (fun _ i _ => (intOf i + 1).toNat)
      case atStart =>
        refine ⟨n', [], by omega, rfl, ?_, ?_, ?_, by simp, AB.out, HB3.out⟩
        · simpa using OWN3.out
        · simp [Value.ownBlock]; omega
        · rw [List.drop_eq_nil_of_le (by have := HKL.out; omega)]; rfl
      case round =>
        clear OWN3 AB HB3
        obtain ⟨j, q, hj, rfl, hown, hne2, hq, hqk, ab, hb⟩ := hrel
        have HQ := Lib.hid hq; have HQK := Lib.hid hqk; clear hq hqk
        have hql : q.length = n' - j := by
          have := congrArg List.length HQ.out
          simp at this
          have := HKL.out
          omega
        have hbs := hb.size
        by_cases hj0 : j = 0
        · subst hj0
          have OWN := Lib.hid hown; clear hown
          go_wp2_with fail
          go_roundw
          case rel =>
            refine ⟨l' ++ q, c + 1, rfl, by omega, hc39, by have := HLL.out; have := HLN.out; simp; omega, ?_, ?_, ?_, hb⟩
            · have e : (l' ++ q).length = ln + q.length := by rw [List.length_append, HLN.out]
              rw [e]; exact OWN.out
            · intro x hx
              rcases List.mem_append.1 hx with hx | hx
              · exact HOK.out x (List.mem_append_left _ hx)
              · exact HQK.out x hx
            · rw [HN3.out]
              congr 1
              unfold fItemsOf
              rw [List.reverse_append, List.map_append, HQ.out]; rfl
          case measure => first | (simp [intOf]; done) | (simp [intOf]; omega)
        · obtain ⟨i, rfl⟩ : ∃ i, j = i + 1 := ⟨j - 1, by omega⟩
          obtain ⟨bb, off, rfl, hbB, hcs⟩ := XKH.out.kid (by omega)
          obtain ⟨k2, a2, b2, s2, ks2, ad2, n2, c2, hxx, ⟨z0, z1, z2, z3, z4, q1, q2⟩, hk2⟩ := hcs i (by omega)
          simp only [Fst.kind, Fst.va, Fst.vb, Fst.nm] at z0 z1 z2 z3
          replace z0 := (hb.cell (p := ⟨bb, _, none⟩) hbB).trans z0
          replace z1 := (hb.cell (p := ⟨bb, _, none⟩) hbB).trans z1
          replace z2 := (hb.cell (p := ⟨bb, _, none⟩) hbB).trans z2
          replace z3 := (hb.cell (p := ⟨bb, _, none⟩) hbB).trans z3
          replace z4 := (hb.cell (p := ⟨bb, _, none⟩) hbB).trans z4
          have HXX := Lib.hid hxx; clear hcs hxx
          have y4 : wr.cell? ⟨T, 4, none⟩ = some (.slice (some ⟨bb, off, none⟩) n' cc) := ab.cell 4
          have y5 : wr.cell? ⟨T, 5, none⟩ = some (.int .i64 d) := ab.cell 5
          have OWN := Lib.hid hown; clear hown
          have hin' : i < n' := by omega
          have e1 : ((i + 1 : Nat) : Int) - 1 = (i : Int) := by omega
          rw [e1]
          go_wp2_with fail
          have habl := ab.lt
          have hws : w.heap.size + 1 ≤ wr.heap.size := by omega
          have td : IntKind.i64.wrap (d + 1) = d + 1 := IntWalk.i64_in _ (by omega)
          have hlb := HLL.out; have hln := HLN.out
          have agx : some T ≠ u3.ownBlock := fun e => hne2 e.symm
          have abx := own_apart OWN.out (show bb < w.heap.size + 1 by omega)
          have hin2 : (i : Int) < (n' : Int) := by omega
          have ti : (i : Int).toNat = i := by omega
          have hlnb : ln ≤ 40 := by omega
          clear hln
          go_region_held3 (fun w' => w'.cell? ⟨T, 4, none⟩ = some (.slice (some ⟨bb, off, none⟩) n' cc) ∧ w'.cell? ⟨T, 5, none⟩ = some (.int .i64 d) ∧ w'.cell? ⟨bb, off + i * 5, none⟩ = some (.int .i64 k2) ∧ w'.cell? ⟨bb, off + i * 5 + 1, none⟩ = some (.int .i64 a2) ∧ w'.cell? ⟨bb, off + i * 5 + 2, none⟩ = some (.int .i64 b2) ∧ w'.cell? ⟨bb, off + i * 5 + 3, none⟩ = some (.string s2) ∧ w'.cell? ⟨bb, off + i * 5 + 4, none⟩ = some (.slice ad2 n2 c2))
            (first
              | go_keep
              | (go_split_ands
                 refine ⟨?_, ?_, ?_, ?_, ?_, ?_, ?_⟩
                 · (rw [hgrow.cell_far _ (by simp; omega) agx]; assumption)
                 · (rw [hgrow.cell_far _ (by simp; omega) agx]; assumption)
                 · (rw [hgrow.cell_far _ (by simp; omega) abx]; assumption)
                 · (rw [hgrow.cell_far _ (by simp; omega) abx]; assumption)
                 · (rw [hgrow.cell_far _ (by simp; omega) abx]; assumption)
                 · (rw [hgrow.cell_far _ (by simp; omega) abx]; assumption)
                 · (rw [hgrow.cell_far _ (by simp; omega) abx]; assumption)))
            ((refine step_append_lies _ (by rfl) _ _ _ (by rfl) (w.heap.size + 1) 73 i0 _ 7 80 Tryz.underlying74 hi hz0 hz1 hz2 rfl (by omega) u3 (ln + q.length) ((l' ++ q).flatMap encF) (by rfl) ((OWN.out.alloc _).drew) ⟨wr.heap.size, 0, none⟩ 1 1 [.int .i64 k2, .int .i64 a2, .int .i64 b2, .string s2, .slice ad2 n2 c2, .int .i64 (d + 1), .int .i64 u'] (by rfl) (by rfl) (World.news_of_block (cs := #[.int .i64 k2, .int .i64 a2, .int .i64 b2, .string s2, .slice ad2 n2 c2, .int .i64 (d + 1), .int .i64 u']) (t := 73) (fr := (0, 0)) (heap_alloc_new wr _)) (by simp [Value.oneCell']) (by omega) (by unfold maxLen; omega) (by omega) (by simp; omega) (wr.heap.size + 1) (by simp) ?_; intro gg cap2 w4 hown' hgrow hat hltg))
          have a1' := (ab.alloc (fnO k2 a2 b2 s2 ad2 n2 c2 (d + 1) u')).drew.ungrown hgrow agx
          have b1' : Below w.heap.size w w4 := (below_new hb (fnO k2 a2 b2 s2 ad2 n2 c2 (d + 1) u')).drew.grown hgrow (by simp; omega) (fun b hb => by
            rcases Nat.lt_or_ge b (w.heap.size + 1) with h | h
            · exact absurd hb.symm (own_apart OWN.out h)
            · omega)
          have OWN' := Lib.hid hown'
          have hgb : gg ≠ T := by
            rcases hat with h | h
            · intro e; subst e; exact hne2 h
            · omega
          have hk2' := hk2.len
          clear hown' hgrow hat ab hb OWN z0 z1 z2 z3 z4 y4 y5
          go_wp2_with fail
          go_roundw
          case rel =>
            have hu := HU0.out
            refine ⟨i, q ++ [⟨Fst.node k2 a2 b2 s2 ks2, ad2, n2, c2, d + 1, u'⟩], by omega, by go_num, ?_, ?_, ?_, ?_, a1', b1'⟩
            · rw [← List.append_assoc, fItems_flat]
              have e : ln + (q ++ [(⟨Fst.node k2 a2 b2 s2 ks2, ad2, n2, c2, d + 1, u'⟩ : FItem)]).length = ln + q.length + 1 := by first | (simp; done) | (simp; omega)
              rw [e, ← hql]; exact OWN'.out
            · first | (simp [Value.ownBlock]; done) | (simp [Value.ownBlock]; exact hgb)
            · obtain ⟨hil, hie⟩ := List.getElem?_eq_some_iff.1 HXX.out
              rw [List.reverse_append, List.drop_eq_getElem_cons hil, hie, List.map_cons, ← HQ.out]; rfl
            · intro x hx
              rcases List.mem_append.1 hx with hx | hx
              · exact HQK.out x hx
              · rw [List.mem_singleton] at hx
                subst hx
                exact ⟨hk2, q1, q2, by simp only; omega, by simp only; omega, hu.1, hu.2⟩
          case measure => first | (simp [intOf]; done) | (simp [intOf]; omega)
end Go.Proofs.YtdmkghgachapaabGreatDoor

namespace Go.Proofs.YtdmkghgachapaabGreatDoor
set_option linter.unusedVariables false
set_option linter.unusedSimpArgs false
set_option maxRecDepth 100000
open Go.RowKit Go.Shelf
def FBoth (w : World) (k a b : Int) (s : ByteArray) (ad : Option Addr) (n c : Nat) (E : Int) : Prop := ∀ W : World, Below w.heap.size w W →
  Calls Tryz.prog 18 #[.agg (fV k a b s ad n c)] W (fun e w' => e = .returned (.int .i64 E) ∧ Below W.heap.size W w') ∧
  Calls Tryz.prog 21 #[.agg (fV k a b s ad n c)] W (fun e w' => e = .returned (.int .i64 E) ∧ Below W.heap.size W w')
theorem feast_both (w : World) (m : Int) (hm : w.cell? ⟨0, 0, none⟩ = some (.int .i64 m)) (hlv : Lvl w) (hsg : Sgn w) (k a b : Int) (s : ByteArray) (ks : List Fst) (ad : Option Addr) (n c : Nat) (h : FSub w w.heap.size (.node k a b s ks) ad n) (hc : n ≤ c) (hm' : c ≤ 9223372036854775807) :
    FBoth w k a b s ad n c (fstErr (.node k a b s ks)) := fun W hW => by
  have hgm := World.block_lt_of_cell? _ _ hm
  have hm2 := (hW.cell (p := ⟨0, 0, none⟩) hgm).trans hm
  have h2 := (h.below hW (Nat.le_refl _)).more hW.size
  exact ⟨feast_Check W m hm2 (hlv.below hW) (hsg.below hW) k a b s ks ad n c h2 hc hm', ref_FeastError W m hm2 k a b s ks ad n c h2 hc hm'⟩
end Go.Proofs.YtdmkghgachapaabGreatDoor
