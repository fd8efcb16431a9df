/- Contract of the reference's LocalInstants. -/
import Derived.Test.YtjpbkkoflaajcabDoorZone7
import Derived.Laws.CopyOwn
import Derived.StillTailTactics
namespace Go.Proofs.YtjpbkkoflaajcabDoor
set_option linter.unusedVariables false
set_option maxRecDepth 100000
open Go.RowKit

theorem insU_at (t : Int) : ∀ (zs : List Int) (i : Nat), i ≤ zs.length → (∀ j x, j < i → zs[j]? = some x → x < t) → (∀ y, zs[i]? = some y → t ≤ y) → insU t zs = if zs[i]? = some t then zs else zs.take i ++ t :: zs.drop i
  | [], i, hi, _, _ => by
    simp at hi; subst hi
    simp [insU]
  | x :: l, 0, hi, h1, h2 => by
    have hx := h2 x rfl
    rw [insU_cons, if_neg (by omega)]
    by_cases q : x = t
    · rw [if_pos q, if_pos (by rw [q]; rfl)]
    · rw [if_neg q, if_neg (by intro e; injection e with e; exact q e)]; rfl
  | x :: l, i + 1, hi, h1, h2 => by
    have hx := h1 0 x (by omega) rfl
    have ih := insU_at t l i (by simpa using hi) (fun j y hj hy => h1 (j + 1) y (by omega) (by simpa using hy)) (fun y hy => h2 y (by simpa using hy))
    rw [insU_cons, if_pos hx, ih]
    simp only [List.getElem?_cons_succ, List.take_succ_cons, List.drop_succ_cons]
    split
    · rfl
    · rfl
theorem take_row6 {α : Type} {xs : List α} {k : Nat} {x : α} (h : xs[k]? = some x) : xs.take (k + 1) = xs.take k ++ [x] := by
  obtain ⟨hl, rfl⟩ := List.getElem?_eq_some_iff.1 h
  exact List.take_succ_eq_append_getElem hl
def keepB (loc f : Int) (xs : List Chg) (o : Int) : Bool := instB (loc - o) && decide ((offAll (loc - o) (f, noText) xs).1 = o)
theorem instRef_keep {loc f o : Int} {xs : List Chg} {out r : List Int} (h : keepB loc f xs o = true) : instRef loc f xs out (o :: r) = instRef loc f xs (insU (loc - o) out) r := by
  unfold keepB at h; rw [instRef_cons, if_pos h]
theorem instRef_skip {loc f o : Int} {xs : List Chg} {out r : List Int} (h : keepB loc f xs o = false) : instRef loc f xs out (o :: r) = instRef loc f xs out r := by
  rw [instRef_cons, if_neg (by unfold keepB at h; rw [h]; simp)]
theorem off_drop {α : Type} {xs : List α} {k : Nat} {x : α} (h : xs[k]? = some x) : xs.drop k = x :: xs.drop (k + 1) := by
  obtain ⟨hl, rfl⟩ := List.getElem?_eq_some_iff.1 h
  exact List.drop_eq_getElem_cons hl
/-- The row behind an insertion. -/
theorem own_insert {w : World} {base : Nat} {g n cap : Nat} {cur : List Value} {zs : List Int} {i : Nat} {t : Int} (hb : base ≤ g) (hg : At w g (.cells cur.toArray 3)) (hn : zs.length = n) (hi : i ≤ n)
    (hc : n + 1 ≤ cap) (hcm : cap ≤ maxLen) (hcl : cur.length = cap) (htk : cur.take (n + 1) = (zs.take i ++ t :: zs.drop i).map (Value.int .i64)) :
    w.ownsRow base 3 1 (.slice (some ⟨g, 0, none⟩) (n + 1) cap) (n + 1) ((zs.take i ++ t :: zs.drop i).map (Value.int .i64)) :=
  ⟨by simp; omega, .inr ⟨g, cap, cur.toArray, rfl, hb, hg, hc, hcm, by simpa using hcl, by simpa using htk⟩⟩
theorem set_take {α : Type} : ∀ (L : List α) (i : Nat) (v : α), i < L.length → (L.take (i + 1)).set i v = L.take i ++ [v]
  | [], i, v, h => by simp at h
  | x :: L, 0, v, h => by simp
  | x :: L, i + 1, v, h => by
    rw [List.take_succ_cons, List.set_cons_succ, set_take L i v (by simpa using h), List.take_succ_cons]; rfl
/-- A place is made, and a value put there. -/
theorem splice_set {α : Type} {L X : List α} {n i : Nat} {u v : α} (hX : X.length = n) (hi : i ≤ n) (hL : n + 1 ≤ L.length) (htk : L.take (n + 1) = X ++ [u]) :
    ((splice L (i + 1) (X.drop i)).set i v).take (n + 1) = X.take i ++ v :: X.drop i := by
  have h1 : L.take i = X.take i := by
    have e := congrArg (List.take i) htk
    rw [List.take_take, Nat.min_eq_left (by omega), List.take_append_of_le_length (by omega)] at e
    exact e
  rw [splice, List.set_append_left _ _ (by rw [List.length_take]; omega), set_take L i v (by omega), h1, List.append_assoc, ← List.append_assoc [v], ← List.append_assoc, List.take_append_of_le_length (by simp; omega), List.take_of_length_le (by simp; omega)]
  simp
theorem own_then8 {w w' : World} {base : Nat} {e : TypeId} {size : Nat} {v : Value} {n : Nat} {xs : List Value} (h : w.ownsRow base e size v n xs) (hb : Below w.heap.size w w') : w'.ownsRow base e size v n xs := by
  refine ⟨h.1, ?_⟩
  rcases h.2 with h0 | ⟨g, cap, cur, hv, hg, hat, rest⟩
  · exact .inl h0
  · exact .inr ⟨g, cap, cur, hv, hg, (show At w g _ from hat).then_ hb, rest⟩
theorem cut_lo (b len cap i : Nat) (x : Int) (hx : x = (i : Int)) (h : i ≤ len) (hc : len ≤ cap) : ∃ dp : Option Addr, (i < len → dp = some ⟨b, i, none⟩) ∧ (∀ W, (Instr.sliceAt 29 (.slice (some ⟨b, 0, none⟩) len cap) (some (.int .i64 x)) none none).run Tryd.prog W = .ok (.slice dp (len - i) (cap - i)) W) ∧ (∀ W, (Instr.slice 29 (.slice (some ⟨b, 0, none⟩) len cap) (some (.int .i64 x)) none none).run Tryd.prog W = .ok (.slice dp (len - i) (cap - i)) W) := by
  subst hx
  have hk : ∀ W, (Instr.slice 29 (.slice (some ⟨b, 0, none⟩) len cap) (some (.int .i64 (i : Int))) none none).run Tryd.prog W = .ok (.slice (if cap = i then some ⟨b, 0, none⟩ else some ⟨b, i, none⟩) (len - i) (cap - i)) W := by
    intro W
    rw [run_slice_l W 29 (some ⟨b, 0, none⟩) len cap (by kernel_rfl) .i64 i (by omega) (by omega)]
    have hsz : (sizeOf (Tryd.prog.elem 29)).run Tryd.prog W = .ok 1 W := by kernel_rfl
    rw [hsz]
    by_cases h0 : i = 0
    · simp [sliced, Result.andThen, Addr.add, h0]
    · simp [sliced, Result.andThen, Addr.add, h0]
  refine ⟨if cap = i then some ⟨b, 0, none⟩ else some ⟨b, i, none⟩, fun hl => if_neg (by omega), fun W => ?_, hk⟩
  rw [run_sliceAt_slice W 29 _ _ _ _ (by kernel_rfl)]
  exact hk W
theorem cell_src {w : World} {gg : Nat} {cl : List Value} {zs : List Int} {i j : Nat} {v u : Value} {t : TypeId} (hA : At w gg (.cells cl.toArray t)) (htk : cl.take (zs.length + 1) = zs.map (Value.int .i64) ++ [u]) (hv : ((zs.map (Value.int .i64)).drop i)[j]? = some v) : w.cell? ⟨gg, i + j, none⟩ = some v := by
  rw [List.getElem?_drop] at hv
  have hl : i + j < zs.length := by
    rcases Nat.lt_or_ge (i + j) zs.length with h | h
    · exact h
    · rw [List.getElem?_eq_none (by simpa using h)] at hv; cases hv
  have h1 : (cl.take (zs.length + 1))[i + j]? = some v := by rw [htk, List.getElem?_append_left (by simpa using hl)]; exact hv
  rw [List.getElem?_take, if_pos (by omega)] at h1
  rw [hA.cell]; simpa using h1
theorem ins_map (zs : List Int) (i : Nat) (T : Int) : (zs.map (Value.int .i64)).take i ++ Value.int .i64 T :: (zs.map (Value.int .i64)).drop i = (zs.take i ++ T :: zs.drop i).map (Value.int .i64) := by
  rw [List.map_append, List.map_cons, List.map_take, List.map_drop]
theorem ins_len (zs : List Int) (i : Nat) (T : Int) (h : i ≤ zs.length) : (zs.take i ++ T :: zs.drop i).length = zs.length + 1 := by
  rw [List.length_append, List.length_cons, List.length_take, List.length_drop]; omega
def LocPost (loc f : Int) (xs : List Chg) (w : World) (e : Ending) (w' : World) : Prop := ∃ a n c, e = .returned (.slice a n c) ∧ n ≤ c ∧ c ≤ 9223372036854775807 ∧ Ints w' w'.heap.size a n (instRef loc f xs [] (f :: xs.map (·.2.1))) ∧ Below w.heap.size w w'
set_option maxHeartbeats 8000000 in
theorem ref_LocalInstants (w : World) (s : ByteArray) (f : Int) (a : Option Addr) (n c : Nat) (xs : List Chg) (day ms : Int) (hok : ZoneOk f xs) (d1 : -4000000 ≤ day) (d2 : day ≤ 4000000) (e1 : 0 ≤ ms) (e2 : ms ≤ 86399999) (h : Changes w w.heap.size a n xs) :
    Calls Tryd.prog 12 #[.agg #[.string s, .int .i64 f, .slice a n c], .int .i64 day, .int .i64 ms] w (LocPost (day * 86400000 + ms) f xs w) := by
  obtain ⟨i0, hi, hz0, hz1, hz2⟩ := info_parts Tryd.infoInt6
  have L1 := Lib.hid h.len
  have hlen := hok.len
  have hn200 : n ≤ 200 := by have := L1.out; omega
  have H := Lib.hid h; have OK := Lib.hid hok; clear h hok hlen
  generalize hloc : day * 86400000 + ms = loc
  have lc1 : -345600000000000 ≤ loc ∧ loc ≤ 345600086400000 := by omega
  obtain ⟨lc1, lc2⟩ := lc1
  obtain ⟨fb1, fb2⟩ := offB_bound OK.out.first
  obtain ⟨R, hR⟩ : ∃ R, R = instRef loc f xs [] (f :: xs.map (·.2.1)) := ⟨_, rfl⟩
  have hpost : LocPost loc f xs w = fun e w' => ∃ a n c, e = .returned (.slice a n c) ∧ n ≤ c ∧ c ≤ 9223372036854775807 ∧ Ints w' w'.heap.size a n R ∧ Below w.heap.size w w' := by rw [hR]; rfl
  rw [hpost]
  have HR := Lib.hid hR; clear hR hpost
  obtain ⟨ofs, hofs⟩ : ∃ ofs : List Int, ofs = f :: xs.map (·.2.1) := ⟨_, rfl⟩
  have HOF := Lib.hid hofs
  have HOL := Lib.hid (show ofs.length = n + 1 by rw [hofs]; simp; exact L1.out)
  have HOB := Lib.hid (show ∀ o ∈ ofs, -64800000 ≤ o ∧ o ≤ 64800000 by
    rw [hofs]; intro o ho
    rcases List.mem_cons.1 ho with rfl | ho
    · exact ⟨fb1, fb2⟩
    · obtain ⟨x, hx, rfl⟩ := List.mem_map.1 ho
      exact offB_bound (OK.out.each x hx).2)
  clear hofs
  go_enter Tryd.func12, Tryd.ntmps12
  go_wp2_with fail
  have a0 := (At.new w (.cells #[.string s, .int .i64 f, .slice a n c] 24)).alloc (.cells #[.int .i64 f] 3)
  have own0 : ((w.alloc (.cells #[.string s, .int .i64 f, .slice a n c] 24)).alloc (.cells #[.int .i64 f] 3)).ownsRow (w.heap.size + 1) 3 1 (.slice (some ⟨w.heap.size + 1, 0, none⟩) 1 1) 1 [.int .i64 f] :=
    ⟨rfl, .inr ⟨w.heap.size + 1, 1, _, rfl, Nat.le_refl _, by have := At.new1 w (.cells #[.string s, .int .i64 f, .slice a n c] 24) (.cells #[.int .i64 f] 3); exact this, by omega, by unfold maxLen; omega, rfl, rfl⟩⟩
  have b0 : Below w.heap.size w ((w.alloc (.cells #[.string s, .int .i64 f, .slice a n c] 24)).alloc (.cells #[.int .i64 f] 3)) := by (repeat' (first | exact Below.refl _ _ | assumption | refine Below.drew ?_ | refine below_drewN ?_ _ | refine below_new ?_ _ | refine below_set ?_ ?_ _ | refine below_then ?_ (by assumption) | refine below_drawn ?_ (by assumption) | exact Nat.le_refl _ | omega | (simp; done) | (simp; omega)))
  generalize World.alloc (World.alloc w _) _ = W0 at a0 own0 b0 ⊢
  go_loopw [9, 11, 28] (fun v _ vi wr => ∃ k : Nat, k ≤ n ∧ vi = .int .i64 k ∧ wr.ownsRow (w.heap.size + 1) 3 1 v (k + 1) ((ofs.take (k + 1)).map (Value.int .i64)) ∧ At wr w.heap.size (.cells #[.string s, .int .i64 f, .slice a n c] 24) ∧ Below w.heap.size w wr) (fun _ _ vi _ => n - (intOf vi).toNat)
  case atStart => exact ⟨0, by omega, rfl, by rw [HOF.out]; exact own0, a0, b0⟩
  case round =>
    clear a0 own0 b0
    obtain ⟨k, hk, rfl, hown, a0, b0⟩ := hrel
    by_cases hlt : k < n
    · obtain ⟨b, off, rfl, hbB, hcs⟩ := (H.out.below b0 (Nat.le_refl _)).open_ (by omega)
      obtain ⟨ta, oa, la, c0, c1, c2, hx, ta1, ta2, oa1, oa2, _⟩ := hcs k hlt
      have hnx := Lib.hid (show (ofs.take (k + 1 + 1)).map (Value.int .i64) = (ofs.take (k + 1)).map (Value.int .i64) ++ [.int .i64 oa] by
        rw [take_row6 (show ofs[k + 1]? = some oa by rw [HOF.out, List.getElem?_cons_succ, List.getElem?_map, hx]; rfl), List.map_append]; rfl)
      have hltw := a0.lt
      have OWN := Lib.hid hown
      have A0 := Lib.hid a0; have B0 := Lib.hid b0
      clear hcs hx hown a0 b0
      go_upto_region 7 with fail
      have a1 := A0.out.alloc (.cells #[.int .i64 ta, .int .i64 oa, .string la] 43)
      have ac := At.new wr (.cells #[.int .i64 ta, .int .i64 oa, .string la] 43)
      have b1 := below_new B0.out (.cells #[.int .i64 ta, .int .i64 oa, .string la] 43)
      have own1 := OWN.out.alloc (.cells #[.int .i64 ta, .int .i64 oa, .string la] 43)
      generalize World.alloc wr _ = W1 at a1 ac b1 own1 ⊢
      generalize wr.heap.size = G at *
      have y0 : W1.cell? ⟨G, 0, none⟩ = some (.int .i64 ta) := ac.cell 0
      have y1 : W1.cell? ⟨G, 1, none⟩ = some (.int .i64 oa) := ac.cell 1
      have y2 : W1.cell? ⟨G, 2, none⟩ = some (.string la) := ac.cell 2
      have hg1 := ac.lt
      have A1 := Lib.hid a1; have B1 := Lib.hid b1; have OWN1 := Lib.hid own1
      clear a1 ac b1 own1 OWN A0 B0 c0 c1 c2
      go_wp2_with (at_builtin; refine wpList_append_own _ rfl _ _ 29 rfl (w.heap.size + 1) 3 i0 (.int .i64 0) 1 8 Tryd.underlying29 hi hz0 hz1 hz2 rfl (by decide) _ _ _ rfl (OWN1.out.alloc _) ⟨W1.heap.size, 0, none⟩ 1 1 [.int .i64 oa] rfl rfl (World.news_of_block (cs := #[.int .i64 oa]) (t := 3) (fr := (0, 0)) (heap_alloc_new W1 _)) (by simp [Value.oneCell']) (by unfold maxLen; omega) (by omega) (by first | omega | (simp; omega)) ?_; intro v' w4 hown' hgrow _)
      have a2 := (A1.out.alloc (.cells #[.int .i64 oa] 3)).grown6 hgrow (own_near OWN1.out (by omega))
      have b2 : Below w.heap.size w w4 := (below_new B1.out (.cells #[.int .i64 oa] 3)).grown hgrow (by first | omega | (simp; omega)) (fun b hb => by
        rcases Nat.lt_or_ge b (w.heap.size + 1) with h | h
        · exact absurd hb.symm (own_near OWN1.out h)
        · omega)
      have OWN2 := Lib.hid hown'
      clear hown' hgrow OWN1 y0 y1 y2
      go_wp2_with fail
      go_roundw
      case rel => exact ⟨k + 1, by omega, by go_num, by rw [hnx.out]; exact OWN2.out, a2, b2⟩
      case measure => first | (simp [intOf]; done) | (simp [intOf]; omega)
    · obtain rfl : n = k := by omega
      rw [List.take_of_length_le (show ofs.length ≤ n + 1 by have := HOL.out; omega)] at hown
      obtain ⟨fa, fc, rfl, hfc1, hfc2, hF⟩ := own_ints hown (fun z hz => by have := HOB.out z hz; unfold I64; omega) HOL.out
      have HF := Lib.hid hF
      have hlw := a0.lt
      have A0 := Lib.hid a0; have B0 := Lib.hid b0
      clear hown hF a0 b0 hlt
      obtain ⟨W1, rfl⟩ : ∃ W1, W1 = wr := ⟨_, rfl⟩
      go_wp2_with fail
      go_loopw [8, 13, 14, 15, 16, 17, 40] (fun vo _ _ _ _ _ vi wr => ∃ (j : Nat) (zs : List Int), j ≤ n + 1 ∧ vi = .int .i64 j ∧ wr.ownsRow W1.heap.size 3 1 vo zs.length (zs.map (Value.int .i64)) ∧ instRef loc f xs zs (ofs.drop j) = R ∧ (zs.Pairwise (· < ·) ∧ ∀ z ∈ zs, -400000000000000 ≤ z ∧ z ≤ 400000000000000) ∧ zs.length ≤ j ∧ Below W1.heap.size W1 wr) (fun _ _ _ _ _ _ vi _ => n + 2 - (intOf vi).toNat)
      case atStart => exact ⟨0, [], by omega, rfl, World.ownsRow_nil _ _ _ _, by rw [HR.out, HOF.out]; rfl, ⟨List.Pairwise.nil, by simp⟩, by simp, Below.refl _ _⟩
      case round =>
        obtain ⟨j, zs, hj, rfl, hown, hspec, hprop, hzl, bw⟩ := hrel
        have HSP := Lib.hid hspec; have HPR := Lib.hid hprop; have OWN := Lib.hid hown; have HZL := Lib.hid hzl
        clear hspec hprop hown hzl
        obtain ⟨W2, rfl⟩ : ∃ W2, W2 = wr := ⟨_, rfl⟩
        have A2 := Lib.hid (A0.out.then_ bw)
        have B2 := Lib.hid (below_then B0.out bw)
        have BW := Lib.hid bw
        have hl2 := A2.out.lt
        have x0 : W2.cell? ⟨w.heap.size, 0, none⟩ = some (.string s) := A2.out.cell 0
        have x1 : W2.cell? ⟨w.heap.size, 1, none⟩ = some (.int .i64 f) := A2.out.cell 1
        have x2 : W2.cell? ⟨w.heap.size, 2, none⟩ = some (.slice a n c) := A2.out.cell 2
        by_cases hlt : j < n + 1
        case neg =>
          obtain rfl : j = n + 1 := by omega
          have hzr : zs = R := by rw [← HSP.out, List.drop_eq_nil_of_le (by rw [HOL.out]; omega)]; rfl
          obtain ⟨aa, cc, rfl, hq1, hq2, hI⟩ := own_ints OWN.out (fun z hz => by have := HPR.out.2 z hz; unfold I64; omega) rfl
          have HI := Lib.hid hI; have HZR := Lib.hid hzr
          clear hI hzr bw
          go_wp2_with fail
          go_ret
          exact ⟨aa, zs.length, cc, rfl, hq1, hq2, by rw [← HZR.out]; exact HI.out, B2.out⟩
        obtain ⟨fb, foff, o, rfl, hfbB, hfc, hox, _, _⟩ := (HF.out.below bw (Nat.le_refl _)).at_ hlt
        obtain ⟨ob1, ob2⟩ := HOB.out o (List.mem_of_getElem? hox)
        have hw0 : IntKind.i64.wrap (loc - o) = loc - o := IntWalk.i64_in _ (by omega)
        have hdr := off_drop hox
        by_cases hk : keepB loc f xs o = true
        case neg =>
          have HNX := Lib.hid (show instRef loc f xs zs (ofs.drop (j + 1)) = R by rw [← HSP.out, hdr, instRef_skip (by simpa using hk)])
          clear hox hdr
          rcases Bool.eq_false_or_eq_true (instB (loc - o)) with hin | hin
          · have hne : ¬ (offAll (loc - o) (f, noText) xs).1 = o := by
              intro h; apply hk; unfold keepB; rw [hin, decide_eq_true h]; rfl
            have hne' : ((offAll (loc - o) (f, noText) xs).1 != o) = true := by simpa using hne
            clear hk hne
            have HSP1 := HSP.out
            clear HSP
            go_wp2_with fail
            refine (ref_InstantB _ _ (by omega) (by omega)).mono ?_; rw [hin]; rintro e w3 ⟨rfl, rfl⟩
            go_wp2_with fail
            refine (ref_OffsetAt _ _ _ _ _ _ xs (loc - o) (H.out.then_ B2.out)).mono ?_
            generalize (offAll (loc - o) (f, noText) xs).1 = v1 at hne' ⊢
            rintro e w3 ⟨rfl, hb⟩
            go_wp2_with fail
            go_roundw
            case rel => exact ⟨j + 1, zs, by omega, by go_num, own_then8 OWN.out hb, HNX.out, HPR.out, by have := HZL.out; omega, below_then BW.out hb⟩
            case measure => first | (simp [intOf]; done) | (simp [intOf]; omega)
          · clear hk
            go_wp2_with fail
            refine (ref_InstantB _ _ (by omega) (by omega)).mono ?_; rw [hin]; rintro e w3 ⟨rfl, rfl⟩
            go_wp2_with fail
            go_roundw
            case rel => exact ⟨j + 1, zs, by omega, by go_num, OWN.out, HNX.out, HPR.out, by have := HZL.out; omega, BW.out⟩
            case measure => first | (simp [intOf]; done) | (simp [intOf]; omega)
        have hkk := hk
        unfold keepB at hkk
        rw [Bool.and_eq_true, decide_eq_true_eq] at hkk
        obtain ⟨hin, hoff⟩ := hkk
        have HNX := Lib.hid (show instRef loc f xs (insU (loc - o) zs) (ofs.drop (j + 1)) = R by rw [← HSP.out, hdr, instRef_keep hk])
        clear hox hdr hk HSP
        go_wp2_with fail
        refine (ref_InstantB _ _ (by omega) (by omega)).mono ?_; rw [hin]; rintro e w3 ⟨rfl, rfl⟩
        go_wp2_with fail
        refine (ref_OffsetAt _ _ _ _ _ _ xs (loc - o) (H.out.then_ B2.out)).mono ?_
        rw [hoff]
        generalize (offAll (loc - o) (f, noText) xs).2 = l2
        rintro e w3 ⟨rfl, hb⟩
        have OWN3 := Lib.hid (own_then8 OWN.out hb)
        have B3 := Lib.hid (below_then BW.out hb)
        obtain ⟨oa, oc, rfl, hq1, hq2, hI⟩ := own_ints OWN3.out (fun z hz => by have := HPR.out.2 z hz; unfold I64; omega) rfl
        have HI := Lib.hid hI
        obtain ⟨tb1, tb2⟩ : -400000000000000 ≤ loc - o ∧ loc - o ≤ 400000000000000 := by omega
        have hbw := B3.out.size
        clear hI hb x0 x1 x2 hfc hin hoff bw hw0 OWN BW
        generalize loc - o = T at *
        go_wp2_with fail
        go_loopw [17] (fun vi wr => ∃ i : Nat, i ≤ zs.length ∧ vi = .int .i64 i ∧ (∀ q x, q < i → zs[q]? = some x → x < T) ∧ w3 = wr) (fun vi _ => zs.length - (intOf vi).toNat)
        case atStart => exact ⟨0, by omega, rfl, fun q x hq => by omega, rfl⟩
        case round =>
          obtain ⟨i, hi', rfl, hall, rfl⟩ := hrel
          have HA := Lib.hid hall; clear hall
          by_cases hil : i < zs.length
          · obtain ⟨gb, goff, x, rfl, hgB, hgc, hzx, _, _⟩ := HI.out.at_ hil
            rcases Int.lt_trichotomy x T with hxt | hxt | hxt
            · have HA2 := Lib.hid (show ∀ q x, q < i + 1 → zs[q]? = some x → x < T from fun q y hq hy => by
                rcases Nat.lt_or_ge q i with h | h
                · exact HA.out q y h hy
                · obtain rfl : q = i := by omega
                  rw [hzx] at hy; injection hy with hy; omega)
              clear hzx
              go_wp2_with fail
              go_roundw
              case rel => exact ⟨i + 1, by omega, by go_num, HA2.out, by first | rfl | trivial⟩
              case measure => first | (simp [intOf]; done) | (simp [intOf]; omega)
            · have HINS := Lib.hid (show insU T zs = zs by rw [insU_at T zs i (by omega) HA.out (fun y hy => by rw [hzx] at hy; injection hy with hy; omega), if_pos (by rw [hzx, hxt])])
              subst hxt
              clear hzx
              go_wp2_with fail
              go_roundw
              case rel => exact ⟨j + 1, zs, by omega, by go_num, OWN3.out, by rw [← HINS.out]; exact HNX.out, HPR.out, by have := HZL.out; omega, B3.out⟩
              case measure => first | (simp [intOf]; done) | (simp [intOf]; omega)
            · have HINS := Lib.hid (show insU T zs = zs.take i ++ T :: zs.drop i by rw [insU_at T zs i (by omega) HA.out (fun y hy => by rw [hzx] at hy; injection hy with hy; omega), if_neg (by rw [hzx]; intro e; injection e with e; omega)])
              have hne : decide (x = T) = false := decide_eq_false (by omega)
              clear hzx
              go_upto_region 20 with fail
              go_wp2_with (at_builtin; refine wpList_append_own _ rfl _ _ 29 rfl W1.heap.size 3 i0 (.int .i64 0) 1 8 Tryd.underlying29 hi hz0 hz1 hz2 rfl (by decide) _ _ _ rfl (OWN3.out.alloc _) ⟨w3.heap.size, 0, none⟩ 1 1 [.int .i64 0] rfl rfl (World.news_of_block (cs := #[.int .i64 0]) (t := 3) (fr := (0, 0)) (heap_alloc_new w3 _)) (by simp [Value.oneCell']) (by have := HZL.out; unfold maxLen; omega) (by have := HZL.out; omega) (by first | omega | (simp; omega)) ?_; intro v' w4 hown' hgrow _)
              rcases hown'.2 with ⟨_, h0⟩ | ⟨gg, cap, cur, hv, hgb, hat, hnc, hcm, hcs, htk⟩
              · omega
              subst hv
              have a4 : At w4 gg (.cells cur.toList.toArray 3) := by rw [Array.toArray_toList]; exact hat
              have b4 : Below W1.heap.size W1 w4 := (below_new B3.out (.cells #[.int .i64 0] 3)).grown hgrow (by first | omega | (simp; omega)) (fun b hb => by
                rcases Nat.lt_or_ge b W1.heap.size with h | h
                · exact absurd hb.symm (own_near OWN3.out h)
                · omega)
              have HTK := Lib.hid (show cur.toList.take (zs.length + 1) = zs.map (Value.int .i64) ++ [.int .i64 0] by simpa using htk)
              have hcl : cur.toList.length = cap := by simpa using hcs
              have hcl2 : zs.length + 1 ≤ cur.toList.length := by omega
              have A4 := Lib.hid a4; have B4 := Lib.hid b4; have HCM := Lib.hid hcm
              generalize cur.toList = cl at *
              clear htk hown' hgrow hat a4 b4 hcm OWN3
              obtain ⟨p1, hp1, hq1, hq2⟩ := cut_lo gg (zs.length + 1) cap (i + 1) ((i : Int) + 1) (by omega) (by omega) hnc
              obtain ⟨p2, hp2, hq3, hq4⟩ := cut_lo gg (zs.length + 1) cap i (i : Int) rfl (by omega) hnc
              obtain rfl := hp2 (by omega)
              have hw1 : IntKind.i64.wrap ((i : Int) + 1) = (i : Int) + 1 := IntWalk.i64_in _ (by have := HZL.out; omega)
              (refine wp_region_still_tail 7 (by kernel_rfl) (by kernel_rfl) ?_; simp only [List.take_succ_cons, List.take_zero, List.drop_succ_cons, List.drop_zero]; change wpStill _ _ (World.drew w4) _ _ _; (repeat still_step); refine wpStill_nil ?_; change wpList _ _ _ _ _ (World.drew w4))
              refine wpList_copy_splice rfl (.tmp 91) (.tmp 94) 29 29 rfl 3 Tryd.underlying29 (by kernel_rfl) (some ⟨gg, i + 1, none⟩) (some ⟨gg, i, none⟩) _ _ _ _ rfl rfl gg (i + 1) cl 3 A4.out ((zs.map (Value.int .i64)).drop i) ?hn (fun h0 => ⟨rfl, _, rfl, fun jj v hv => by rw [add_none]; exact cell_src (w := w4.drew) A4.out HTK.out hv⟩) (by rw [List.length_drop, List.length_map]; omega) (fun v hv => by obtain ⟨z, _, rfl⟩ := List.mem_map.1 (List.mem_of_mem_drop hv); rfl) W1.heap.size W1 B4.out.drew hgb ?_
              case hn =>
                show _ = min _ _
                rw [List.length_drop, List.length_map]; omega
              intro w5 HG5 hB5
              have HS5 := Lib.hid (splice_set (L := cl) (v := Value.int .i64 T) (show (zs.map (Value.int .i64)).length = zs.length by simp) (show i ≤ zs.length by omega) hcl2 HTK.out)
              have HSL := Lib.hid (length_splice cl (i + 1) ((zs.map (Value.int .i64)).drop i) (by rw [List.length_drop, List.length_map]; omega))
              have a5 : At w5 gg (.cells (splice cl (i + 1) ((zs.map (Value.int .i64)).drop i)).toArray 3) := HG5.out
              have HB5 := Lib.hid hB5
              clear hB5 HG5 hp1 hp2 hq1 hq2 hq3 hq4 hw1 A4 B4
              generalize splice cl (i + 1) ((zs.map (Value.int .i64)).drop i) = S5 at *
              have f5 : w5.frozen? ⟨gg, i, none⟩ = false := a5.frozen i
              obtain ⟨u5, hu5⟩ : ∃ u, w5.cell? ⟨gg, i, none⟩ = some u := by
                refine ⟨S5[i]'(by rw [HSL.out]; omega), ?_⟩
                rw [a5.cell, List.getElem?_toArray]; exact List.getElem?_eq_getElem (by rw [HSL.out]; omega)
              have A5 := Lib.hid a5
              have hilt : i < zs.length + 1 := by omega
              have hlen := Lib.hid (ins_len zs i T (by omega))
              clear a5
              go_wp2_with fail
              have a6 : At (w5.setCell ⟨gg, i, none⟩ (.int .i64 T)) gg (.cells (S5.set i (.int .i64 T)).toArray 3) := by
                have h6 := A5.out.store i (.int .i64 T)
                rw [List.setIfInBounds_toArray] at h6
                exact h6
              have ow := Lib.hid (own_insert hgb a6 rfl (show i ≤ zs.length by omega) hnc HCM.out (by rw [List.length_set, HSL.out]; exact hcl) (by rw [HS5.out, ins_map]))
              go_roundw
              case rel => exact ⟨j + 1, zs.take i ++ T :: zs.drop i, by omega, by go_num, by rw [hlen.out]; exact ow.out, by rw [← HINS.out]; exact HNX.out, by rw [← HINS.out]; exact ⟨insU_sorted T zs HPR.out.1, fun z hz => ((mem_insU T z zs).1 hz).elim (fun e => by rw [e]; exact ⟨tb1, tb2⟩) (fun h => HPR.out.2 z h)⟩, by rw [hlen.out]; have := HZL.out; omega, below_set HB5.out hgb _⟩
              case measure => first | (simp [intOf]; done) | (simp [intOf]; omega)
          · obtain rfl : i = zs.length := by omega
            have HINS := Lib.hid (show insU T zs = zs.take zs.length ++ T :: zs.drop zs.length by rw [insU_at T zs zs.length (by omega) HA.out (fun y hy => by rw [List.getElem?_eq_none (Nat.le_refl _)] at hy; cases hy), if_neg (by rw [List.getElem?_eq_none (Nat.le_refl _)]; simp)])
            go_upto_region 20 with fail
            go_wp2_with (at_builtin; refine wpList_append_own _ rfl _ _ 29 rfl W1.heap.size 3 i0 (.int .i64 0) 1 8 Tryd.underlying29 hi hz0 hz1 hz2 rfl (by decide) _ _ _ rfl (OWN3.out.alloc _) ⟨w3.heap.size, 0, none⟩ 1 1 [.int .i64 0] rfl rfl (World.news_of_block (cs := #[.int .i64 0]) (t := 3) (fr := (0, 0)) (heap_alloc_new w3 _)) (by simp [Value.oneCell']) (by have := HZL.out; unfold maxLen; omega) (by have := HZL.out; omega) (by first | omega | (simp; omega)) ?_; intro v' w4 hown' hgrow _)
            rcases hown'.2 with ⟨_, h0⟩ | ⟨gg, cap, cur, hv, hgb, hat, hnc, hcm, hcs, htk⟩
            · omega
            subst hv
            have a4 : At w4 gg (.cells cur.toList.toArray 3) := by rw [Array.toArray_toList]; exact hat
            have b4 : Below W1.heap.size W1 w4 := (below_new B3.out (.cells #[.int .i64 0] 3)).grown hgrow (by first | omega | (simp; omega)) (fun b hb => by
              rcases Nat.lt_or_ge b W1.heap.size with h | h
              · exact absurd hb.symm (own_near OWN3.out h)
              · omega)
            have HTK := Lib.hid (show cur.toList.take (zs.length + 1) = zs.map (Value.int .i64) ++ [.int .i64 0] by simpa using htk)
            have hcl : cur.toList.length = cap := by simpa using hcs
            have hcl2 : zs.length + 1 ≤ cur.toList.length := by omega
            have A4 := Lib.hid a4; have B4 := Lib.hid b4; have HCM := Lib.hid hcm
            generalize cur.toList = cl at *
            clear htk hown' hgrow hat a4 b4 hcm OWN3
            obtain ⟨p1, hp1, hq1, hq2⟩ := cut_lo gg (zs.length + 1) cap (zs.length + 1) ((zs.length : Int) + 1) (by omega) (by omega) hnc
            obtain ⟨p2, hp2, hq3, hq4⟩ := cut_lo gg (zs.length + 1) cap zs.length (zs.length : Int) rfl (by omega) hnc
            obtain rfl := hp2 (by omega)
            have hw1 : IntKind.i64.wrap ((zs.length : Int) + 1) = (zs.length : Int) + 1 := IntWalk.i64_in _ (by have := HZL.out; omega)
            (refine wp_region_still_tail 7 (by kernel_rfl) (by kernel_rfl) ?_; simp only [List.take_succ_cons, List.take_zero, List.drop_succ_cons, List.drop_zero]; change wpStill _ _ (World.drew w4) _ _ _; (repeat still_step); refine wpStill_nil ?_; change wpList _ _ _ _ _ (World.drew w4))
            refine wpList_copy_splice rfl (.tmp 91) (.tmp 94) 29 29 rfl 3 Tryd.underlying29 (by kernel_rfl) p1 (some ⟨gg, zs.length, none⟩) _ _ _ _ rfl rfl gg (zs.length + 1) cl 3 A4.out ((zs.map (Value.int .i64)).drop zs.length) ?hm (fun h0 => ⟨hp1 (by rw [List.length_drop, List.length_map] at h0; omega), _, rfl, fun jj v hv => by rw [add_none]; exact cell_src (w := w4.drew) A4.out HTK.out hv⟩) (by rw [List.length_drop, List.length_map]; omega) (fun v hv => by obtain ⟨z, _, rfl⟩ := List.mem_map.1 (List.mem_of_mem_drop hv); rfl) W1.heap.size W1 B4.out.drew hgb ?_
            case hm =>
              show _ = min _ _
              rw [List.length_drop, List.length_map]; omega
            intro w5 HG5 hB5
            have HS5 := Lib.hid (splice_set (L := cl) (v := Value.int .i64 T) (show (zs.map (Value.int .i64)).length = zs.length by simp) (show zs.length ≤ zs.length by omega) hcl2 HTK.out)
            have HSL := Lib.hid (length_splice cl (zs.length + 1) ((zs.map (Value.int .i64)).drop zs.length) (by rw [List.length_drop, List.length_map]; omega))
            have a5 : At w5 gg (.cells (splice cl (zs.length + 1) ((zs.map (Value.int .i64)).drop zs.length)).toArray 3) := HG5.out
            have HB5 := Lib.hid hB5
            clear hB5 HG5 hp1 hp2 hq1 hq2 hq3 hq4 hw1 A4 B4
            generalize splice cl (zs.length + 1) ((zs.map (Value.int .i64)).drop zs.length) = S5 at *
            have f5 : w5.frozen? ⟨gg, zs.length, none⟩ = false := a5.frozen zs.length
            obtain ⟨u5, hu5⟩ : ∃ u, w5.cell? ⟨gg, zs.length, none⟩ = some u := by
              refine ⟨S5[zs.length]'(by rw [HSL.out]; omega), ?_⟩
              rw [a5.cell, List.getElem?_toArray]; exact List.getElem?_eq_getElem (by rw [HSL.out]; omega)
            have A5 := Lib.hid a5
            have hilt : zs.length < zs.length + 1 := by omega
            have hlen := Lib.hid (ins_len zs zs.length T (by omega))
            clear a5
            go_wp2_with fail
            have a6 : At (w5.setCell ⟨gg, zs.length, none⟩ (.int .i64 T)) gg (.cells (S5.set zs.length (.int .i64 T)).toArray 3) := by
              have h6 := A5.out.store zs.length (.int .i64 T)
              rw [List.setIfInBounds_toArray] at h6
              exact h6
            have ow := Lib.hid (own_insert hgb a6 rfl (show zs.length ≤ zs.length by omega) hnc HCM.out (by rw [List.length_set, HSL.out]; exact hcl) (by rw [HS5.out, ins_map]))
            go_roundw
            case rel => exact ⟨j + 1, zs.take zs.length ++ T :: zs.drop zs.length, by omega, by go_num, by rw [hlen.out]; exact ow.out, by rw [← HINS.out]; exact HNX.out, by rw [← HINS.out]; exact ⟨insU_sorted T zs HPR.out.1, fun z hz => ((mem_insU T z zs).1 hz).elim (fun e => by rw [e]; exact ⟨tb1, tb2⟩) (fun h => HPR.out.2 z h)⟩, by rw [hlen.out]; have := HZL.out; omega, below_set HB5.out hgb _⟩
            case measure => first | (simp [intOf]; done) | (simp [intOf]; omega)
end Go.Proofs.YtjpbkkoflaajcabDoor
