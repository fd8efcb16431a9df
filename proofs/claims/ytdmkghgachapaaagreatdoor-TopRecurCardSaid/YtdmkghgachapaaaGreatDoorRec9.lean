/- Contracts of slices.IndexFunc and slices.DeleteFunc at []int with the closure of recur.without. -/
import Derived.Test.YtdmkghgachapaaaGreatDoorMgF
import Derived.Test.YtdmkghgachapaaaGreatDoorObx0
import Derived.Test.YtdmkghgachapaaaGreatDoorMgA
import Derived.Test.YtdmkghgachapaaaGreatDoorLayS
import Derived.Laws.IdiomCopy
import Derived.Lib.SliceRun
namespace Go.Proofs.YtdmkghgachapaaaGreatDoor
set_option linter.unusedVariables false
set_option maxRecDepth 100000
open Go.RowKit

theorem below_cells {B b : Nat} (hb : B ≤ b) {a : World} : ∀ (vs : List Value) (o : Nat) (w : World), Below B a w → Below B a (w.setCells b o vs)
  | [], _, _, h => h
  | v :: vs, o, w, h => by
    show Below B a ((w.setCell ⟨b, o, none⟩ v).setCells b (o + 1) vs)
    exact below_cells hb vs (o + 1) _ (below_set h (p := ⟨b, o, none⟩) hb v)
theorem sorted_mem {ys : List Int} : ∀ x : Int, ys.contains x = hasB x ys := by
  intro x; unfold hasB; rw [List.contains_eq_mem]
set_option maxHeartbeats 2000000 in
theorem wo_closure (w : World) (v : Int) (a : Option Addr) (n c : Nat) (ys : List Int) (B : Nat) (hc : w.cell? ⟨B, 0, none⟩ = some (.slice a n c)) (h : Ints w w.heap.size a n ys) (hs : ys.Pairwise (· ≤ ·)) (hn : n ≤ 100000) :
    Calls Tryz.prog 42 #[.int .i64 v, .pointer (some ⟨B, 0, none⟩)] w fun e w' => e = .returned (.bool (hasB v ys)) ∧ Drawn w w' := by
  have hb : Calls Tryz.prog 43 #[.slice a n c, .int .i64 v] w fun e w' => ∃ i : Int, e = .returned (.tuple #[.int .i64 i, .bool (hasB v ys)]) ∧ Drawn w w' := by
    rcases Nat.eq_zero_or_pos n with h0 | h0
    · subst h0
      obtain rfl : ys = [] := List.length_eq_zero_iff.1 h.1
      refine (Any.slices_BinarySearch_int_empty Tryz.laysLays2n25 a c v w).mono ?_
      rintro e w' ⟨rfl, rfl⟩
      exact ⟨0, rfl, Drawn.refl _⟩
    · obtain ⟨b, off, rfl, hlt, hcell⟩ := h.2.2.2 h0
      have hl := h.1
      have ht : ys.take n = ys := List.take_of_length_le (by omega)
      refine (Any.slices_BinarySearch_int Tryz.laysLays2n25 b off n c ys v w (by omega) (by omega) (fun j hj => hcell j (by omega)) (by rw [ht]; exact hs)).mono ?_
      rw [ht, sorted_mem]
      rintro e w' ⟨rfl, q, rfl⟩
      exact ⟨_, rfl, ⟨q, rfl⟩⟩
  have HB := Lib.hid hb
  clear hb h hs
  go_enter Tryz.func42, Tryz.ntmps42
  go_wp2_with fail
  refine HB.out.mono ?_
  rintro e w1 ⟨i, rfl, hd⟩
  go_wp2_with fail
  go_ret
  exact ⟨rfl, hd⟩
/-- What IndexFunc leaves. -/
def IdxWo (q : Int → Bool) (xs : List Int) (w : World) (e : Ending) (w' : World) : Prop :=
  ∃ i : Int, e = .returned (.int .i64 i) ∧ ((i = -1 ∧ ∀ x ∈ xs, q x = false) ∨ ∃ (k : Nat) (x : Int), i = k ∧ xs[k]? = some x ∧ q x = true ∧ ∀ y ∈ xs.take k, q y = false) ∧ Drawn w w'
set_option maxHeartbeats 2000000 in
theorem indexFunc_wo (w : World) (ad : Option Addr) (n c B : Nat) (xs : List Int) (q : Int → Bool) (hx : xs.length = n) (hn : n ≤ 100000) (hcur : ∀ (k : Nat) (x : Int), xs[k]? = some x → ∃ g, ad = some ⟨g, 0, none⟩ ∧ w.cell? ⟨g, k, none⟩ = some (.int .i64 x))
    (hcl : ∀ W, Drawn w W → ∀ v, v ∈ xs → Calls Tryz.prog 42 #[.int .i64 v, .pointer (some ⟨B, 0, none⟩)] W fun e w' => e = .returned (.bool (q v)) ∧ Drawn W w') :
    Calls Tryz.prog 61 #[.slice ad n c, .func (.func 42) #[] #[.pointer (some ⟨B, 0, none⟩)]] w (IdxWo q xs w) := by
  have HX := Lib.hid hx; have HC := Lib.hid hcur; have HCL := Lib.hid hcl
  clear hx hcur hcl
  go_enter Tryz.func61, Tryz.ntmps61
  go_wp2_with fail
  go_loopw [5, 8] (fun _ i wr => ∃ k : Nat, k ≤ n ∧ i = .int .i64 k ∧ (∀ y ∈ xs.take k, q y = false) ∧ Drawn w wr) (fun _ i _ => n - (intOf i).toNat)
  case atStart => exact ⟨0, by omega, rfl, by simp, Drawn.refl _⟩
  case round =>
    obtain ⟨k, hk, rfl, hall, hd⟩ := hrel
    have HA := Lib.hid hall; clear hall
    by_cases hlt : k < n
    · obtain ⟨x, hx⟩ : ∃ x, xs[k]? = some x := ⟨_, List.getElem?_eq_getElem (by rw [HX.out]; exact hlt)⟩
      obtain ⟨g, rfl, hce0⟩ := HC.out k x hx
      have hce : wr.cell? ⟨g, k, none⟩ = some (.int .i64 x) := by obtain ⟨nd, rfl⟩ := hd; exact hce0
      clear hce0
      have hfun := HCL.out wr hd x (List.mem_of_getElem? hx)
      have HXX := Lib.hid hx; clear hx
      have HQ := Lib.hid (show ∀ b, q x = b → b = q x from fun b h => h.symm)
      obtain ⟨b, hb⟩ : ∃ b, b = q x := ⟨_, rfl⟩
      rw [← hb] at hfun
      have HB := Lib.hid hb; clear hb
      cases b with
      | true =>
        go_wp2_with (go_at_call 42; refine hfun.mono ?_; rintro e w' ⟨rfl, hd'⟩)
        go_ret
        exact ⟨k, rfl, .inr ⟨k, x, rfl, HXX.out, HB.out.symm, HA.out⟩, hd.trans hd'⟩
      | false =>
        go_wp2_with (go_at_call 42; refine hfun.mono ?_; rintro e w' ⟨rfl, hd'⟩)
        go_roundw
        case rel =>
          refine ⟨k + 1, by omega, by go_num, ?_, hd.trans hd'⟩
          rw [take_oneR HXX.out]
          intro y hy
          rw [List.mem_append, List.mem_singleton] at hy
          rcases hy with hy | rfl
          · exact HA.out y hy
          · exact HB.out.symm
        case measure => simp [intOf]; omega
    · obtain rfl : k = n := by omega
      have hl := HA.out
      rw [List.take_of_length_le (by rw [HX.out]; exact Nat.le_refl _)] at hl
      have HL := Lib.hid hl
      clear hl
      go_wp2_with fail
      go_ret
      exact ⟨-1, rfl, .inl ⟨rfl, HL.out⟩, hd⟩
/-- What DeleteFunc leaves: a slice of the same row that reads as the rest. -/
def DelWo (q : Int → Bool) (xs : List Int) (g c B0 : Nat) (w0 : World) (e : Ending) (w' : World) : Prop :=
  ∃ m : Nat, e = .returned (.slice (some ⟨g, 0, none⟩) m c) ∧ m = (xs.filter fun x => !q x).length ∧ (∀ (k : Nat) (x : Int), (xs.filter fun x => !q x)[k]? = some x → w'.cell? ⟨g, k, none⟩ = some (.int .i64 x)) ∧ Below B0 w0 w' ∧ g < w'.heap.size
theorem filter_one (p : Int → Bool) {xs : List Int} {j : Nat} {x : Int} (h : xs[j]? = some x) : (xs.take (j + 1)).filter p = (xs.take j).filter p ++ (if p x then [x] else []) := by
  rw [take_oneR h, List.filter_append]; simp [List.filter_cons]
set_option maxHeartbeats 4000000 in
theorem deleteFunc_wo (w0 w : World) (g n c B : Nat) (cur : Array Value) (xs : List Int) (q : Int → Bool) (hw : Below w0.heap.size w0 w) (hg : w0.heap.size ≤ g) (hat : At w g (.cells cur 3)) (hsz : n ≤ cur.size) (hcap : n ≤ c) (hc63 : c ≤ 9223372036854775807) (hx : xs.length = n) (hn : n ≤ 100000) (hcur : ∀ (k : Nat) (x : Int), xs[k]? = some x → cur[k]? = some (.int .i64 x))
    (hcl : ∀ W, Below w0.heap.size w0 W → ∀ v, v ∈ xs → Calls Tryz.prog 42 #[.int .i64 v, .pointer (some ⟨B, 0, none⟩)] W fun e w' => e = .returned (.bool (q v)) ∧ Drawn W w') :
    Calls Tryz.prog 41 #[.slice (some ⟨g, 0, none⟩) n c, .func (.func 42) #[] #[.pointer (some ⟨B, 0, none⟩)]] w (DelWo q xs g c w0.heap.size w0) := by
  have HAT := Lib.hid hat; have HX := Lib.hid hx; have HC := Lib.hid hcur; have HCL := Lib.hid hcl; have HW := Lib.hid hw
  have hif := indexFunc_wo w (some ⟨g, 0, none⟩) n c B xs q hx hn (fun k x hk => ⟨g, rfl, (hat.cell k).trans (hcur k x hk)⟩) (fun W hd v hv => hcl W (below_drawn hw hd) v hv)
  clear hat hx hcur hcl hw
  go_enter Tryz.func41, Tryz.ntmps41
  go_wp2_with fail
  refine hif.mono ?_
  rintro e w1 ⟨i, rfl, hi, hd⟩
  have a1 := HAT.out.drawn hd
  have b1 := below_drawn HW.out hd
  rcases hi with ⟨rfl, hall⟩ | ⟨k, x, rfl, hk, hq, hpre⟩
  · have HA := Lib.hid hall
    have A1 := Lib.hid a1
    clear hif hall a1
    go_wp2_with fail
    go_ret
    have hf : (xs.filter fun x => !q x) = xs := by
      rw [List.filter_eq_self]; intro x hx; rw [HA.out x hx]; rfl
    refine ⟨n, rfl, by rw [hf, HX.out], ?_, b1, A1.out.lt⟩
    rw [hf]
    exact fun k x hx => (A1.out.cell k).trans (HC.out k x hx)
  · have hkn : k < n := by have := (List.getElem?_eq_some_iff.1 hk).1; have := HX.out; omega
    have hpf : (xs.take k).filter (fun x => !q x) = xs.take k := by
      rw [List.filter_eq_self]; intro x hx; rw [hpre x hx]; rfl
    have hstart : (xs.take (k + 1)).filter (fun x => !q x) = xs.take k := by rw [filter_one _ hk, hpf, hq]; simp
    have HS := Lib.hid hstart
    have A1 := Lib.hid a1
    have B1 := Lib.hid b1
    clear hif hk hq hpre hpf hstart a1 b1
    have hkw : ((k : Int) == -1) = false := by rw [beq_eq_false_iff_ne]; omega
    go_wp2_with fail
    go_loopw [5, 6, 7] (fun iv jv _ wr => ∃ (i j : Nat) (cs : Array Value), iv = .int .i64 i ∧ jv = .int .i64 j ∧ i < j ∧ j ≤ n ∧ ((xs.take j).filter fun x => !q x).length = i ∧ At wr g (.cells cs 3) ∧ n ≤ cs.size ∧
      (∀ (t : Nat) (x : Int), ((xs.take j).filter fun x => !q x)[t]? = some x → cs[t]? = some (.int .i64 x)) ∧ (∀ (t : Nat) (x : Int), j ≤ t → xs[t]? = some x → cs[t]? = some (.int .i64 x)) ∧ Below w0.heap.size w0 wr) (fun _ jv _ _ => n - (intOf jv).toNat)
    case atStart =>
      refine ⟨k, k + 1, cur, rfl, by go_num, by omega, by omega, ?_, A1.out, hsz, ?_, fun t x ht hx => HC.out t x hx, B1.out⟩
      · rw [HS.out, List.length_take, HX.out]; omega
      · rw [HS.out]
        intro t x hx
        rw [List.getElem?_take] at hx
        split at hx
        · exact HC.out t x hx
        · cases hx
    case round =>
      obtain ⟨i, j, cs, rfl, rfl, hij, hj, hlen, hatr, hcs, hlo, hhi, hbr⟩ := hrel
      have HLEN := Lib.hid hlen; have HLO := Lib.hid hlo; have HHI := Lib.hid hhi; have ATR := Lib.hid hatr
      clear hlen hlo hhi hatr
      by_cases hlt : j < n
      · obtain ⟨x, hx⟩ : ∃ x, xs[j]? = some x := ⟨_, List.getElem?_eq_getElem (by rw [HX.out]; exact hlt)⟩
        have hce : wr.cell? ⟨g, j, none⟩ = some (.int .i64 x) := (ATR.out.cell j).trans (HHI.out j x (Nat.le_refl _) hx)
        have hfun := HCL.out wr hbr x (List.mem_of_getElem? hx)
        have HF1 := Lib.hid (filter_one (fun x => !q x) hx)
        clear hx
        obtain ⟨b, hb⟩ : ∃ b, b = q x := ⟨_, rfl⟩
        rw [← hb] at hfun
        have HB := Lib.hid hb; clear hb
        have hwj : IntKind.i64.wrap ((j : Int) + 1) = (j : Int) + 1 := IntWalk.i64_in _ (by omega)
        have hwi : IntKind.i64.wrap ((i : Int) + 1) = (i : Int) + 1 := IntWalk.i64_in _ (by omega)
        cases b with
        | true =>
          have hnew := Lib.hid (show (xs.take (j + 1)).filter (fun x => !q x) = (xs.take j).filter (fun x => !q x) by rw [HF1.out, ← HB.out]; simp)
          go_wp2_with (go_at_call 42; refine hfun.mono ?_; rintro e w' ⟨rfl, hd'⟩)
          go_roundw
          case rel => exact ⟨i, j + 1, cs, rfl, by go_num, by omega, by omega, by rw [hnew.out]; exact HLEN.out, ATR.out.drawn hd', hcs, by rw [hnew.out]; exact HLO.out, fun t x ht hx => HHI.out t x (by omega) hx, below_drawn hbr hd'⟩
          case measure => simp [intOf]; omega
        | false =>
          have hnew := Lib.hid (show (xs.take (j + 1)).filter (fun x => !q x) = (xs.take j).filter (fun x => !q x) ++ [x] by rw [HF1.out, ← HB.out]; simp)
          go_upto_region 9 with (go_at_call 42; refine hfun.mono ?_; rintro e w' ⟨rfl, hd'⟩)
          have a2 := ATR.out.drawn hd'
          have b2 := below_drawn hbr hd'
          obtain ⟨old, hold⟩ : ∃ old, cs[i]? = some old := ⟨_, Array.getElem?_eq_getElem (by omega)⟩
          have hz := (a2.cell i).trans hold
          have hfz := a2.frozen i
          have A2 := Lib.hid a2; have B2 := Lib.hid b2
          have hin : i < n := by omega
          clear a2 b2 hold hce hfun
          go_wp2_with fail
          go_roundw
          case rel =>
            have a3 := A2.out.store i (.int .i64 x)
            refine ⟨i + 1, j + 1, _, by go_num, by go_num, by omega, by omega, ?_, a3, by simpa using hcs, ?_, ?_, below_set B2.out (p := ⟨g, i, none⟩) hg _⟩
            · rw [hnew.out, List.length_append, HLEN.out]; rfl
            · rw [hnew.out]
              intro t y hy
              rcases Nat.lt_or_ge t i with ht | ht
              · rw [List.getElem?_append_left (by rw [HLEN.out]; exact ht)] at hy
                rw [Array.getElem?_setIfInBounds_ne (by omega)]
                exact HLO.out t y hy
              · rw [List.getElem?_append_right (by rw [HLEN.out]; exact ht), HLEN.out] at hy
                have : t - i = 0 := by
                  rcases Nat.eq_zero_or_pos (t - i) with h | h
                  · exact h
                  · rw [List.getElem?_eq_none (by simp; omega)] at hy; cases hy
                rw [this] at hy
                simp at hy
                subst hy
                obtain rfl : t = i := by omega
                rw [Array.getElem?_setIfInBounds_self_of_lt (by omega)]
            · intro t y ht hy
              rw [Array.getElem?_setIfInBounds_ne (by omega)]
              exact HHI.out t y (by omega) hy
          case measure => simp [intOf]; omega
      · obtain rfl : j = n := by omega
        have hfull : xs.take j = xs := List.take_of_length_le (by rw [HX.out]; exact Nat.le_refl _)
        have hl := HLEN.out; have hlo := HLO.out
        rw [hfull] at hl hlo
        have HL := Lib.hid hl; have HLO2 := Lib.hid hlo
        clear hfull hl hlo
        have hcl' : ∀ ty, (Builtin.clear_ #[22] ty #[.slice (some ⟨g, i, none⟩) (j - i) (c - i)]).run Tryz.prog wr = .ok (.tuple #[]) (wr.setCells g i (List.replicate (j - i) (.int .i64 0))) :=
          fun ty => Lib.run_clear_slice wr _ _ ty _ Tryz.underlying22 (fun _ => by kernel_rfl) rfl rfl g i _ _ (by omega) (fun t ht => by rw [ATR.out.cell (i + t), Array.getElem?_eq_getElem (by omega)]; rfl) (fun t ht => ATR.out.frozen (i + t))
        have hin : i < j := hij
        have hic : i ≤ c := by omega
        have hij' : i ≤ j := by omega
        go_wp2_with fail
        go_ret
        refine ⟨i, rfl, HL.out.symm, ?_, below_cells hg _ _ _ hbr, Nat.lt_of_lt_of_le ATR.out.lt (below_cells (B := 0) (b := g) (Nat.zero_le _) (List.replicate (j - i) (.int .i64 0)) i wr (Below.refl 0 wr)).size⟩
        intro t y hy
        rw [World.cell?_setCells_out _ _ _ _ _ (fun _ _ => .inl (by have := (List.getElem?_eq_some_iff.1 hy).1; have := HL.out; show t < i; omega))]
        exact (ATR.out.cell t).trans (HLO2.out t y hy)
theorem deleteFunc_nil (w : World) (ad : Option Addr) (c B : Nat) : Calls Tryz.prog 41 #[.slice ad 0 c, .func (.func 42) #[] #[.pointer (some ⟨B, 0, none⟩)]] w fun e w' => e = .returned (.slice ad 0 c) ∧ Drawn w w' := by
  have hif := indexFunc_wo w ad 0 c B [] (fun _ => false) rfl (by omega) (fun k x hk => by simp at hk) (fun W hd v hv => by simp at hv)
  go_enter Tryz.func41, Tryz.ntmps41
  go_wp2_with fail
  refine hif.mono ?_
  rintro e w1 ⟨i, rfl, hi, hd⟩
  rcases hi with ⟨rfl, hall⟩ | ⟨k, x, rfl, hk, _⟩
  · clear hif hall
    go_wp2_with fail
    go_ret
    exact ⟨rfl, hd⟩
  · simp at hk
/-- What recur.without leaves. -/
def WoOut (xs ys : List Int) (w : World) (e : Ending) (w' : World) : Prop := ∃ p m c, e = .returned (.slice p m c) ∧ Ints w' w'.heap.size p m (xs.filter fun x => !hasB x ys) ∧ Below w.heap.size w w'
set_option maxHeartbeats 2000000 in
theorem recur_without (w : World) (a1 a2 : Option Addr) (n1 c1 n2 c2 : Nat) (xs ys : List Int) (h1 : Ints w w.heap.size a1 n1 xs) (h2 : Ints w w.heap.size a2 n2 ys) (hs : ys.Pairwise (· ≤ ·)) (L1 : n1 ≤ 100000) (L2 : n2 ≤ 100000) :
    Calls Tryz.prog 23 #[.slice a1 n1 c1, .slice a2 n2 c2] w (WoOut xs ys w) := by
  have H1 := Lib.hid h1; have H2 := Lib.hid h2; have HS := Lib.hid hs; clear h1 h2 hs
  go_enter Tryz.func23, Tryz.ntmps23
  go_wp2_with fail
  have t0 := At.new w (.cells #[.slice a2 n2 c2] 22)
  have b0 := below_new (Below.refl w.heap.size w) (.cells #[.slice a2 n2 c2] 22)
  generalize World.alloc w _ = W0 at t0 b0 ⊢
  have T0 := Lib.hid t0; have B0 := Lib.hid b0
  refine (clone_ints W0 a1 n1 c1 xs (H1.out.far b0 (Below.refl _ _)) L1).mono ?_
  rintro e w1 ⟨v, rfl, hown, hb⟩
  have B1 := Lib.hid hb
  have hcl : ∀ W, Below W0.heap.size W0 W → ∀ x : Int, Calls Tryz.prog 42 #[.int .i64 x, .pointer (some ⟨w.heap.size, 0, none⟩)] W fun e w' => e = .returned (.bool (hasB x ys)) ∧ Drawn W w' :=
    fun W hW x => wo_closure W x a2 n2 c2 ys w.heap.size ((T0.out.then_ hW).cell 0) (H2.out.far B0.out hW) HS.out L2
  have HCL := Lib.hid hcl
  have hl1 := H1.out.1
  have hI1 := H1.out.2.2.1
  have HI1 := Lib.hid hI1
  clear hb t0 b0 hcl hI1
  rcases hown.2 with ⟨rfl, h0⟩ | ⟨g, cap, cur, rfl, hg, hcur, hnc, hcm, hcs, htake⟩
  · have hz : n1 = 0 := h0
    subst hz
    obtain rfl : xs = [] := List.length_eq_zero_iff.1 hl1
    clear hown h0 hl1
    go_wp2_with fail
    refine (deleteFunc_nil w1 none 0 w.heap.size).mono ?_
    rintro e w2 ⟨rfl, hd⟩
    go_wp2_with fail
    go_ret
    exact ⟨none, 0, 0, rfl, ⟨rfl, by omega, by simp, fun h => absurd h (by omega)⟩, below_drawn (below_then B0.out B1.out) hd⟩
  · have hat : At w1 g (.cells cur 3) := hcur
    have hat' := Lib.hid hat
    unfold maxLen at hcm
    have hcu : ∀ (k : Nat) (x : Int), xs[k]? = some x → cur[k]? = some (.int .i64 x) := by
      intro k x hk
      have hkl := (List.getElem?_eq_some_iff.1 hk).1
      have : (xs.map (Value.int .i64))[k]? = some (.int .i64 x) := by rw [List.getElem?_map, hk]; rfl
      rw [← htake, List.getElem?_take] at this
      split at this
      · rwa [Array.getElem?_toList] at this
      · cases this
    have hszc : n1 ≤ cur.size := by
      have := congrArg List.length htake
      rw [List.length_take, List.length_map, hl1] at this
      simp at this
      omega
    have HDEL := Lib.hid (deleteFunc_wo W0 w1 g n1 cap w.heap.size cur xs (fun x => hasB x ys) B1.out hg hat hszc hnc (by omega) hl1 L1 hcu (fun W hW v _ => HCL.out W hW v))
    have hglt := hat.lt
    clear hown hcur hat hcu htake hcs hszc HCL
    go_wp2_with fail
    refine HDEL.out.mono ?_
    rintro e w2 ⟨m, rfl, hm, hcell, hb2, hgl⟩
    have HM := Lib.hid hm; have HCE := Lib.hid hcell; have B2 := Lib.hid hb2
    clear hm hcell hb2
    go_wp2_with fail
    go_ret
    refine ⟨some ⟨g, 0, none⟩, m, cap, rfl, ⟨HM.out.symm, ?_, fun x hx => HI1.out x (List.mem_filter.1 hx).1, fun hm => ⟨g, 0, rfl, ?_, fun i hi => ?_⟩⟩, below_then B0.out B2.out⟩
    · have h := List.length_filter_le (fun x => !hasB x ys) xs
      have := HM.out
      omega
    · exact hgl
    · have hil : i < (xs.filter fun x => !hasB x ys).length := by rw [← HM.out]; exact hi
      rw [Nat.zero_add, HCE.out i _ (List.getElem?_eq_getElem hil), List.getD_eq_getElem?_getD, List.getElem?_eq_getElem hil]
      rfl
end Go.Proofs.YtdmkghgachapaaaGreatDoor
