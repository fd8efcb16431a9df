/- The law's plain list of bookings: those of one room, by their beginnings. -/
import Derived.Test.YtddiicljoekhmaaRm8
namespace Go.Proofs.Ytddiicljoekhmaa
set_option linter.unusedVariables false
set_option maxRecDepth 100000
open Go.RowKit

/-- The place that the walk from behind finds. -/
def bkI (l : List Bkg) (f : Int) : Nat → Nat
  | 0 => 0
  | j + 1 => match l[j]? with
    | some y => if f < y.2.1 then bkI l f j else j + 1
    | none => j + 1
theorem bkI_some {l : List Bkg} {f : Int} {j : Nat} {y : Bkg} (h : l[j]? = some y) : bkI l f (j + 1) = if f < y.2.1 then bkI l f j else j + 1 := by rw [bkI, h]
def insE (acc : List Bkg) (x : Bkg) : List Bkg := acc.take (bkI acc x.2.1 acc.length) ++ [x] ++ acc.drop (bkI acc x.2.1 acc.length)
def ofF (r : ByteArray) : List Bkg → List Bkg → List Bkg
  | acc, [] => acc
  | acc, x :: l => if x.1 = r then ofF r (insE acc x) l else ofF r acc l
theorem ofF_cons (r : ByteArray) (acc : List Bkg) (x : Bkg) (l : List Bkg) : ofF r acc (x :: l) = if x.1 = r then ofF r (insE acc x) l else ofF r acc l := by rw [ofF.eq_def]
def OfPost2 (r : ByteArray) (xs : List Bkg) (w : World) (e : Ending) (w' : World) : Prop :=
  ∃ a c, e = .returned (.slice a (ofF r [] xs).length c) ∧ Bkgs w' w'.heap.size a (ofF r [] xs).length (ofF r [] xs) ∧ Below w.heap.size w w' ∧ ∀ b o s, a = some ⟨b, o, s⟩ → w.heap.size ≤ b
def OfPost (r : ByteArray) (xs : List Bkg) (w : World) (e : Ending) (w' : World) : Prop :=
  ∃ a c, e = .returned (.slice a (ofF r [] xs).length c) ∧ Bkgs w' w'.heap.size a (ofF r [] xs).length (ofF r [] xs) ∧ Below w.heap.size w w'
set_option maxHeartbeats 8000000 in
theorem books_of2 (w : World) (b : Nat) (a : Option Addr) (n c : Nat) (xs : List Bkg) (r : ByteArray) (hn : n ≤ 100000) (hbl : b < w.heap.size) (hbc : w.cell? ⟨b, 0, none⟩ = some (.slice a n c)) (h : Bkgs w w.heap.size a n xs) :
    Calls Try.prog 21 #[.pointer (some ⟨b, 0, none⟩), .string r] w (OfPost2 r xs w) := by
  have L1 := Lib.hid h.len
  have m1 := h.max
  have HOK := Lib.hid h.2
  have H := Lib.hid h; clear h
  go_enter Try.func21, Try.ntmps21
  go_wp2_with fail
  clear hbc
  go_loopw [5, 7, 8, 14] (fun v _ _ vi wr => ∃ (k : Nat) (acc : List Bkg), k ≤ n ∧ vi = .int .i64 k ∧ ofF r acc (xs.drop k) = ofF r [] xs ∧ acc.length ≤ k ∧ (∀ y ∈ acc, okBkg y) ∧ wr.ownsRow w.heap.size 39 4 v acc.length (acc.flatMap encBkg) ∧ Below w.heap.size w wr) (fun _ _ _ vi _ => n - (intOf vi).toNat)
  case atStart => exact ⟨0, [], by omega, rfl, rfl, by simp, by simp, World.ownsRow_nil _ _ _ _, Below.refl _ _⟩
  case round =>
    obtain ⟨k, acc, hk, rfl, hof, hal, hacc, hown, hb⟩ := hrel
    obtain ⟨wr0, rfl⟩ : ∃ wr0, wr0 = wr := ⟨_, rfl⟩
    obtain ⟨av, cv, rfl, _, _, _⟩ := own_bkgs hown rfl hacc
    have HA := Lib.hid hof; have HAC := Lib.hid hacc; have OWN := Lib.hid hown; have HB := Lib.hid hb
    clear hof hacc hown
    by_cases hlt : k < n
    · obtain ⟨b1, o1, rfl, hbB, hcs⟩ := (H.out.below hb (Nat.le_refl _)).open_ (by omega)
      obtain ⟨r', f', t', x', k0, k1, k2, k3, hx, _⟩ := hcs k hlt
      have HN := Lib.hid (show (if r' = r then ofF r (insE acc (r', f', t', x')) (xs.drop (k + 1)) else ofF r acc (xs.drop (k + 1))) = ofF r [] xs by rw [← HA.out, drop_row hx, ofF_cons])
      have HOX := Lib.hid (HOK.out _ (List.mem_of_getElem? hx))
      clear hcs hx HA hb
      go_upto_region 5 with fail
      have ax8 := At.new wr0 (.cells #[.string r', .int .i64 f', .int .i64 t', .string x'] 39)
      have bw8 := below_new HB.out (.cells #[.string r', .int .i64 f', .int .i64 t', .string x'] 39)
      have own8 := OWN.out.alloc (.cells #[.string r', .int .i64 f', .int .i64 t', .string x'] 39)
      clear k0 k1 k2 k3
      generalize World.alloc wr0 _ = W8 at ax8 bw8 own8 ⊢
      have e0 : W8.cell? ⟨wr0.heap.size, 0, none⟩ = some (.string r') := ax8.cell 0
      have AX8 := Lib.hid ax8; have BW8 := Lib.hid bw8; have OWN8 := Lib.hid own8
      obtain ⟨_, _, hve, _, _, hch⟩ := own_bkgs own8 rfl HAC.out
      injection hve with hv1 _ hv3
      subst hv1 hv3
      have CH8 := Lib.hid hch
      clear ax8 bw8 own8 hch
      by_cases hr : r' = r
      case neg =>
        have er : (r'.toList == r.toList) = false := by rw [beq_eq_false_iff_ne]; exact fun e => hr (toList_backR e)
        have HT := Lib.hid (show ofF r acc (xs.drop (k + 1)) = ofF r [] xs by have := HN.out; rwa [if_neg hr] at this)
        clear hr HN
        go_wp2_with fail
        go_roundw
        case rel => exact ⟨k + 1, acc, by omega, by go_num, HT.out, by omega, HAC.out, OWN8.out, BW8.out⟩
        case measure => first | (simp [intOf]; done) | (simp [intOf]; omega)
      have er : (r'.toList == r.toList) = true := by simp [hr]
      have HT := Lib.hid (show ofF r (insE acc (r', f', t', x')) (xs.drop (k + 1)) = ofF r [] xs by have := HN.out; rwa [if_pos hr] at this)
      clear hr HN
      go_wp2_with fail
      clear e0 er
      go_loopw [8] (fun vi wr => ∃ j : Nat, j ≤ acc.length ∧ vi = .int .i64 j ∧ bkI acc f' j = bkI acc f' acc.length ∧ Drawn W8 wr) (fun vi _ => (intOf vi).toNat)
      case atStart => exact ⟨acc.length, Nat.le_refl _, rfl, rfl, Drawn.refl _⟩
      case round =>
        obtain ⟨j, hj, rfl, hld, hd⟩ := hrel
        obtain ⟨W10, rfl⟩ : ∃ W10, W10 = wr := ⟨_, rfl⟩
        have HJ := Lib.hid hj
        have HINS := Lib.hid (show ∀ y ∈ acc.take j ++ [(r', f', t', x')] ++ acc.drop j, okBkg y from fun y hy => by
          rcases List.mem_append.1 hy with hy | hy
          · rcases List.mem_append.1 hy with hy | hy
            · exact HAC.out y (List.mem_of_mem_take hy)
            · rw [List.mem_singleton] at hy; subst hy; exact HOX.out
          · exact HAC.out y (List.mem_of_mem_drop hy))
        obtain ⟨ax10, hb10⟩ : At W10 wr0.heap.size (.cells #[.string r', .int .i64 f', .int .i64 t', .string x'] 39) ∧ Below W8.heap.size W8 W10 := by
          obtain ⟨nd, rfl⟩ := hd
          exact ⟨AX8.out.drewN nd, below_drewN (Below.refl _ _) nd⟩
        have HDR := Lib.hid hd
        have e1 : W10.cell? ⟨wr0.heap.size, 1, none⟩ = some (.int .i64 f') := ax10.cell 1
        clear hd
        have HOF0 := Lib.hid (show ∀ p, p = bkI acc f' acc.length → ofF r (acc.take p ++ [(r', f', t', x')] ++ acc.drop p) (xs.drop (k + 1)) = ofF r [] xs from fun p hp => by rw [← HT.out, hp]; rfl)
        rcases Nat.eq_zero_or_pos j with hj0 | hj0
        · subst hj0
          have HOF := Lib.hid (HOF0.out 0 (by rw [← hld]; rfl))
          have HP := Lib.hid (rfl : (0 : Nat) = 0)
          clear hld hj HOF0
          go_wp2_with fail
          go_quiet (fail)
          go_upto_region 9 with fail
          try clear c1
          generalize hWq : World.drewN W10 _ = W11
          have hdq : Drawn W8 W11 := by rw [← hWq]; first | exact HDR.out.drewN _ | exact HDR.out
          clear hWq
          have hb11 : Below W8.heap.size W8 W11 := by obtain ⟨nd, rfl⟩ := hdq; exact below_drewN (Below.refl _ _) nd
          have ax11 := AX8.out.then_ hb11
          have own11 := own_then4 OWN8.out hb11
          have bw11 := below_then BW8.out hb11
          have hs11 := bw11.size
          have q0 : W11.cell? ⟨wr0.heap.size, 0, none⟩ = some (.string r') := ax11.cell 0
          have q1 : W11.cell? ⟨wr0.heap.size, 1, none⟩ = some (.int .i64 f') := ax11.cell 1
          have q2 : W11.cell? ⟨wr0.heap.size, 2, none⟩ = some (.int .i64 t') := ax11.cell 2
          have q3 : W11.cell? ⟨wr0.heap.size, 3, none⟩ = some (.string x') := ax11.cell 3
          have hNn := own_fresh own11
          have OWN11 := Lib.hid own11; have BW11 := Lib.hid bw11
          clear own11 bw11 hdq hb11 ax11 hb10 ax10
          go_wp2_with fail
          refine (bkg_insert w.heap.size acc.length 0 W11.heap.size _ _ [.string r', .int .i64 f', .int .i64 t', .string x'] _ (OWN11.out.alloc _) (by simp; omega) HJ.out (by omega) (At.new W11 _) (fun e => hNn e.symm) rfl (by simp [Value.oneCell']) (fun u hu => bkg_one hu)).mono ?_
          rintro e w4 ⟨v', rfl, own4, hg4, hv4⟩
          have BW4 := Lib.hid ((below_new BW11.out (.cells #[.string r', .int .i64 f', .int .i64 t', .string x'] 39)).grown hg4 (by simp; omega) (fun b hb => own_far5 OWN11.out hb))
          rw [bkg_take, bkg_drop, show ([.string r', .int .i64 f', .int .i64 t', .string x'] : List Value) = [((r', f', t', x') : Bkg)].flatMap encBkg by simp [encBkg], ← List.flatMap_append, ← List.flatMap_append] at own4
          have hl' : (acc.take 0 ++ [(r', f', t', x')] ++ acc.drop 0).length = acc.length + 1 := by rw [List.length_append, List.length_append, List.length_take, List.length_drop]; have := HJ.out; simp; omega
          have OWN4 := Lib.hid own4
          clear own4 hg4 hv4 q0 q1 q2 q3
          go_wp2_with fail
          go_roundw
          case rel => exact ⟨k + 1, acc.take 0 ++ [(r', f', t', x')] ++ acc.drop 0, by omega, by go_num, HOF.out, by rw [hl']; omega, HINS.out, by rw [hl']; exact OWN4.out, BW4.out⟩
          case measure => first | (simp [intOf]; done) | (simp [intOf]; omega)
        · obtain ⟨cb, co, hae, hcb, hcs⟩ := (CH8.out.below hb10 (Nat.le_refl _)).open_ (by omega)
          obtain ⟨r9, f9, t9, x9, c0, c1, c2, c3, hxj, _⟩ := hcs (j - 1) (by omega)
          have HLD := Lib.hid (show (if f' < f9 then bkI acc f' (j - 1) else j) = bkI acc f' acc.length by
            have h1 := bkI_some (f := f') hxj
            rw [show j - 1 + 1 = j by omega] at h1
            rw [← hld, h1])
          subst hae
          have hw0 : IntKind.i64.wrap ((j : Int) - 1) = ((j - 1 : Nat) : Int) := by rw [IntWalk.i64_in _ (by omega)]; omega
          have hjp : (0 : Int) < (j : Int) := by omega
          have hjl : j - 1 < acc.length := by omega
          clear hcs hxj hld c0 c2 c3 hj
          rcases Int.lt_or_le f' f9 with ht | ht
          · have HL2 := Lib.hid (show bkI acc f' (j - 1) = bkI acc f' acc.length by have := HLD.out; rwa [if_pos ht] at this)
            go_wp2_with fail
            go_quiet (fail)
            go_wp2_with fail
            go_roundw
            case rel => exact ⟨j - 1, by omega, by go_num, HL2.out, by first | exact HDR.out.drewN _ | exact HDR.out⟩
            case measure => first | (simp [intOf]; done) | (simp [intOf]; omega)
          · have HOF := Lib.hid (HOF0.out j (by have := HLD.out; rwa [if_neg (by omega)] at this))
            have HP := Lib.hid (rfl : (0 : Nat) = 0)
            clear HOF0
            go_wp2_with fail
            go_quiet (fail)
            go_upto_region 9 with fail
            try clear c1
            generalize hWq : World.drewN W10 _ = W11
            have hdq : Drawn W8 W11 := by rw [← hWq]; first | exact HDR.out.drewN _ | exact HDR.out
            clear hWq
            have hb11 : Below W8.heap.size W8 W11 := by obtain ⟨nd, rfl⟩ := hdq; exact below_drewN (Below.refl _ _) nd
            have ax11 := AX8.out.then_ hb11
            have own11 := own_then4 OWN8.out hb11
            have bw11 := below_then BW8.out hb11
            have hs11 := bw11.size
            have q0 : W11.cell? ⟨wr0.heap.size, 0, none⟩ = some (.string r') := ax11.cell 0
            have q1 : W11.cell? ⟨wr0.heap.size, 1, none⟩ = some (.int .i64 f') := ax11.cell 1
            have q2 : W11.cell? ⟨wr0.heap.size, 2, none⟩ = some (.int .i64 t') := ax11.cell 2
            have q3 : W11.cell? ⟨wr0.heap.size, 3, none⟩ = some (.string x') := ax11.cell 3
            have hNn := own_fresh own11
            have OWN11 := Lib.hid own11; have BW11 := Lib.hid bw11
            clear own11 bw11 hdq hb11 ax11 hb10 ax10
            go_wp2_with fail
            refine (bkg_insert w.heap.size acc.length j W11.heap.size _ _ [.string r', .int .i64 f', .int .i64 t', .string x'] _ (OWN11.out.alloc _) (by simp; omega) HJ.out (by omega) (At.new W11 _) (fun e => hNn e.symm) rfl (by simp [Value.oneCell']) (fun u hu => bkg_one hu)).mono ?_
            rintro e w4 ⟨v', rfl, own4, hg4, hv4⟩
            have BW4 := Lib.hid ((below_new BW11.out (.cells #[.string r', .int .i64 f', .int .i64 t', .string x'] 39)).grown hg4 (by simp; omega) (fun b hb => own_far5 OWN11.out hb))
            rw [bkg_take, bkg_drop, show ([.string r', .int .i64 f', .int .i64 t', .string x'] : List Value) = [((r', f', t', x') : Bkg)].flatMap encBkg by simp [encBkg], ← List.flatMap_append, ← List.flatMap_append] at own4
            have hl' : (acc.take j ++ [(r', f', t', x')] ++ acc.drop j).length = acc.length + 1 := by rw [List.length_append, List.length_append, List.length_take, List.length_drop]; have := HJ.out; simp; omega
            have OWN4 := Lib.hid own4
            clear own4 hg4 hv4 q0 q1 q2 q3
            go_wp2_with fail
            go_roundw
            case rel => exact ⟨k + 1, acc.take j ++ [(r', f', t', x')] ++ acc.drop j, by omega, by go_num, HOF.out, by rw [hl']; omega, HINS.out, by rw [hl']; exact OWN4.out, BW4.out⟩
            case measure => first | (simp [intOf]; done) | (simp [intOf]; omega)
    · have HE := Lib.hid (show acc = ofF r [] xs by rw [← HA.out, List.drop_eq_nil_of_le (by have := L1.out; omega)]; rfl)
      obtain ⟨_, _, hve, _, _, hch⟩ := own_bkgs OWN.out rfl HAC.out
      injection hve with hv1 _ hv3
      subst hv1 hv3
      have CH := Lib.hid hch; clear hch
      go_wp2_with fail
      go_ret
      exact ⟨av, cv, by rw [← HE.out]; rfl, by rw [← HE.out]; exact CH.out, hb, fun b o s e => by subst e; exact own_far5 OWN.out rfl⟩
theorem books_of (w : World) (b : Nat) (a : Option Addr) (n c : Nat) (xs : List Bkg) (r : ByteArray) (hn : n ≤ 100000) (hbl : b < w.heap.size) (hbc : w.cell? ⟨b, 0, none⟩ = some (.slice a n c)) (h : Bkgs w w.heap.size a n xs) :
    Calls Try.prog 21 #[.pointer (some ⟨b, 0, none⟩), .string r] w (OfPost r xs w) :=
  (books_of2 w b a n c xs r hn hbl hbc h).mono fun e w' ⟨a', c', h1, h2, h3, _⟩ => ⟨a', c', h1, h2, h3⟩
theorem Bkgs_block {w w' : World} {B B' : Nat} {a : Option Addr} {n : Nat} {xs : List Bkg} (h : Bkgs w B a n xs) (hk : ∀ b o s, a = some ⟨b, o, s⟩ → 0 < n → w'.heap[b]? = w.heap[b]?) (hB : B ≤ B') : Bkgs w' B' a n xs := by
  refine ⟨⟨h.1.1, h.1.2.1, fun hn => ?_⟩, h.2⟩
  obtain ⟨b, off, e, hlt, hc⟩ := h.1.2.2 hn
  exact ⟨b, off, e, by omega, fun i x hx j v hv => (World.cell?_of_block (a := ⟨b, off + i * 4 + j, none⟩) (hk b off none e hn)).trans (hc i x hx j v hv)⟩
end Go.Proofs.Ytddiicljoekhmaa
