/- Contract of the reference's NumeralRead in the scripts 9 to 12. -/
import Derived.Test.YticflmepmmdnfabDoorNml13
import Derived.Test.YticflmepmmdnfabDoorNml23
namespace Go.Proofs.YticflmepmmdnfabDoor
set_option linter.unusedVariables false
set_option linter.unusedSimpArgs false
set_option maxRecDepth 100000
open Go.RowKit Go.Shelf Nml

/-- What the reference's reader returns: the number with this text, or that there is none. -/
def RdPost (s : Int) (l : List UInt8) (w : World) (e : Ending) (w' : World) : Prop := ∃ (n : Int) (b : Bool), e = .returned (.tuple #[.int .i64 n, .bool b]) ∧ Below w.heap.size w w' ∧ (b = true → inS s n = true ∧ numT s n = l) ∧ (b = false → ∀ m, inS s m = true → ¬ numT s m = l)
def grIn (t : List UInt8) (v high : Nat) : Nat → Nat → List UInt8 → Nat × List UInt8
  | 0, n, rest => (n, rest)
  | f + 1, n, rest => if t.isPrefixOf rest = true ∧ n ≤ high then grIn t v high f (n + v) (rest.drop t.length) else (n, rest)
def grStep (high : Nat) (st : Nat × List UInt8) (x : Nat × List UInt8) : Nat × List UInt8 := grIn x.2 x.1 high (st.2.length + 1) st.1 st.2
def grTo (xs : List (Nat × List UInt8)) (high : Nat) (l : List UInt8) (k : Nat) : Nat × List UInt8 := (xs.take k).foldl (grStep high) (0, l)
theorem grTo_succ {xs : List (Nat × List UInt8)} {high : Nat} {l : List UInt8} (k v : Nat) (t : List UInt8) (h : xs[k]? = some (v, t)) : grTo xs high l (k + 1) = grIn t v high ((grTo xs high l k).2.length + 1) (grTo xs high l k).1 (grTo xs high l k).2 := by
  unfold grTo
  rw [List.take_add_one, h, List.foldl_append]; rfl
def grP (xs : List (Nat × List UInt8)) (high : Nat) (l : List UInt8) : Nat × List UInt8 := grTo xs high l xs.length
theorem grIn_small (t : List UInt8) (v high : Nat) (hv : v ≤ 1000) (hh : high ≤ 4000) : ∀ f n rest, n ≤ 5000 → (grIn t v high f n rest).1 ≤ 5000
  | 0, n, rest, h => h
  | f + 1, n, rest, h => by
    unfold grIn
    split
    · exact grIn_small t v high hv hh f _ _ (by omega)
    · exact h
theorem grTo_small {xs : List (Nat × List UInt8)} (hx : ∀ x ∈ xs, x.1 ≤ 1000) (high : Nat) (hh : high ≤ 4000) (l : List UInt8) : ∀ k, (grTo xs high l k).1 ≤ 5000
  | 0 => by simp [grTo]
  | k + 1 => by
    cases hp : xs[k]? with
    | none =>
      have : grTo xs high l (k + 1) = grTo xs high l k := by unfold grTo; rw [List.take_add_one, hp]; simp
      rw [this]; exact grTo_small hx high hh l k
    | some p =>
      obtain ⟨v, t⟩ := p
      rw [grTo_succ k v t hp]
      exact grIn_small t v high (hx _ (List.mem_of_getElem? hp)) hh _ _ _ (grTo_small hx high hh l k)
theorem numT_size (s n : Int) (hs : inB 0 12 s = true) (hn : inS s n = true) : True := trivial
set_option maxHeartbeats 8000000 in
theorem gr_rom (n : Nat) (h0 : 0 < n) (h : n < 4000) : grP listR 3999 (romS n) = (n, []) := by
  have := four_of (fun n => n == 0 || decide (grP listR 3999 (romS n) = (n, []))) 4 (by decide +kernel) n (by omega)
  rw [Bool.or_eq_true] at this
  rcases this with e | e
  · simp at e; omega
  · exact of_decide_eq_true e
set_option maxHeartbeats 8000000 in
theorem gr_sigG (n : Nat) (h0 : 0 < n) (h : n < 1000) : grP listG 999 (sigS true n) = (n, []) := by
  have := four_of (fun n => n == 0 || decide (grP listG 999 (sigS true n) = (n, []))) 1 (by decide +kernel) n (by omega)
  rw [Bool.or_eq_true] at this
  rcases this with e | e
  · simp at e; omega
  · exact of_decide_eq_true e
set_option maxHeartbeats 8000000 in
theorem gr_sigH (n : Nat) (h0 : 0 < n) (h : n < 1000) : grP listH 999 (sigS false n) = (n, []) := by
  have := four_of (fun n => n == 0 || decide (grP listH 999 (sigS false n) = (n, []))) 1 (by decide +kernel) n (by omega)
  rw [Bool.or_eq_true] at this
  rcases this with e | e
  · simp at e; omega
  · exact of_decide_eq_true e
theorem gr_numT9 (m : Int) (hm : inS 9 m = true) : grP listR 3999 (numT 9 m) = (m.toNat, []) := by
  obtain ⟨-, -, b9, -, -⟩ := inS_bounds hm
  obtain ⟨c1, c2⟩ := b9 rfl
  exact gr_rom m.toNat (by omega) (by omega)
theorem gr_numT10 (m : Int) (hm : inS 10 m = true) : grP listG 999 (numT 10 m) = (m.toNat, []) := by
  obtain ⟨-, -, -, b9, -⟩ := inS_bounds hm
  obtain ⟨c1, c2⟩ := b9 (.inl rfl)
  exact gr_sigG m.toNat (by omega) (by omega)
theorem gr_numT11 (m : Int) (hm : inS 11 m = true) : grP listH 999 (numT 11 m) = (m.toNat, []) := by
  obtain ⟨-, -, -, b9, -⟩ := inS_bounds hm
  obtain ⟨c1, c2⟩ := b9 (.inr rfl)
  exact gr_sigH m.toNat (by omega) (by omega)
theorem slice_from (R : ByteArray) (k : Nat) (h : k ≤ R.size) : ∃ R' : ByteArray, R'.data.toList = R.data.toList.drop k ∧ ∀ W, (Instr.slice 9 (.string R) (some (.int .i64 (k : Int))) none none).run Tryd.prog W = .ok (.string R') W := by
  refine ⟨R.extract k R.size, Lib.extract_to_end R k, fun W => ?_⟩
  go_simp
theorem SgIn.drewN {w W : World} {b off : Nat} {xs : List (Nat × List UInt8)} (h : SgIn w b off xs W) (n : Nat) : SgIn w b off xs (W.drewN n) := h.step (below_drewN (Below.refl _ _) n)
def sgBox (v : Nat) (t : List UInt8) : Obj := .cells #[.int .i64 (v : Int), .string ⟨t.toArray⟩] 50
def SgBx (w : World) (b off : Nat) (xs : List (Nat × List UInt8)) (C v : Nat) (t : List UInt8) (W : World) : Prop := SgIn w b off xs W ∧ At W C (sgBox v t)
theorem SgBx.drewN {w W : World} {b off C v : Nat} {t : List UInt8} {xs : List (Nat × List UInt8)} (h : SgBx w b off xs C v t W) (n : Nat) : SgBx w b off xs C v t (W.drewN n) := ⟨h.1.drewN n, h.2.drewN n⟩
set_option maxHeartbeats 16000000 in
theorem ref_NumeralRead9 (S : ByteArray) (w : World) (hS : S.size ≤ 60) (hp : Pow w) :
    Calls Tryd.prog 15 #[.int .i64 9, .string S] w (RdPost 9 S.data.toList w) := by
  have HGR := Lib.hid (fun (m : Int) hm => gr_numT9 m hm)
  have CR := Lib.hid (ref_NumeralRange 9 w (by omega) (by omega))
  have HX := Lib.hid (list_small listR (by simp))
  have HLN := Lib.hid (fun k => grTo_small (xs := listR) (fun x hx => (HX.out x hx).2.1) 3999 (by omega) S.data.toList k)
  have HT0 := Lib.hid (show ∀ x ∈ listR, 1 ≤ x.2.length by decide +kernel)
  have CL := Lib.hid (fun W => ref_list9 W)
  have HP := Lib.hid hp
  have CT := Lib.hid (fun (n : Int) (W : World) (hn : inS 9 n = true) (hb : Below w.heap.size w W) => ref_NumeralText 9 n W (by decide) hn (HP.out.below hb))
  have hlow : lowS 9 = 1 := rfl
  have hhigh : highS 9 = 3999 := rfl
  rw [hlow, hhigh] at CR
  have hin : ∀ n : Int, inB 1 3999 n = inS 9 n := fun n => by unfold inB inS; rw [hlow, hhigh]; simp
  have HIN := Lib.hid hin
  clear hlow hhigh hin hp
  have h30 : listR.length ≤ 30 := by decide
  have HGP := Lib.hid (show ∀ l, grP listR 3999 l = grTo listR 3999 l listR.length from fun l => rfl)
  generalize listR = xs at *
  unfold RdPost
  go_enter Tryd.func15, Tryd.ntmps15
  go_wp2_with fail
  refine CR.out.mono ?_
  rintro e w0 ⟨rfl, rfl⟩
  go_wp2_with fail
  refine (CL.out _).mono ?_
  rintro e w1 ⟨b, off, rfl, hsg, hb⟩
  have HS := Lib.hid (show SgIn w b off xs w1 from ⟨hsg, hb⟩); clear hsg hb
  obtain ⟨LN, hLN⟩ : ∃ LN, LN = xs.length := ⟨_, rfl⟩
  rw [← hLN] at h30 ⊢
  have HLEN := Lib.hid hLN; clear hLN
  go_wp2_with fail
  go_loopw [8, 9, 34] (fun m v i wr => ∃ (k : Nat) (R : ByteArray), k ≤ LN ∧ i = .int .i64 k ∧ v = .string R ∧ R.data.toList = (grTo xs 3999 S.data.toList k).2 ∧ m = .int .i64 ((grTo xs 3999 S.data.toList k).1 : Int) ∧ SgIn w b off xs wr) (fun _ _ i _ => LN - (intOf i).toNat)
  case atStart => exact ⟨0, S, by omega, rfl, rfl, rfl, rfl, HS.out⟩
  case round =>
    clear HS
    obtain ⟨k, R, hk, rfl, rfl, hR, rfl, hp⟩ := hrel
    have hlen := HLN.out k
    by_cases hlt : k < LN
    · have hg : xs[k]? = some (xs[k]'(by rw [← HLEN.out]; exact hlt)) := List.getElem?_eq_getElem _
      obtain ⟨v, t, hvt⟩ : ∃ v t, xs[k]? = some (v, t) := ⟨_, _, hg⟩
      obtain ⟨v1, v2, t4⟩ := HX.out _ (List.mem_of_getElem? hvt)
      have t1 := HT0.out _ (List.mem_of_getElem? hvt)
      simp only [] at v1 v2 t4 t1
      obtain ⟨c0, c1⟩ := hp.1.2 k v t hvt
      have hbl := hp.1.1
      have HSU := Lib.hid (grTo_succ (xs := xs) (high := 3999) (l := S.data.toList) k v t hvt)
      clear hg hvt
      generalize grTo xs 3999 S.data.toList k = st at hlen HSU hR ⊢
      obtain ⟨m0, rest⟩ := st
      simp only [] at hlen HSU hR ⊢
      obtain ⟨NX, hNX⟩ : ∃ NX, NX = grTo xs 3999 S.data.toList (k + 1) := ⟨_, rfl⟩
      rw [← hNX] at HSU
      have HNX := Lib.hid hNX; clear hNX
      have HP1 := Lib.hid hp; clear hp
      obtain ⟨TB, hTB⟩ : ∃ TB : ByteArray, TB = ⟨t.toArray⟩ := ⟨_, rfl⟩
      have hTBL : TB.data.toList = t := by rw [hTB]
      rw [← hTB] at c1
      have HTB := Lib.hid hTB; have HTBL := Lib.hid hTBL
      clear hTB hTBL
      go_wp2_with fail
      have pc : SgBx w b off xs wr.heap.size v t (wr.alloc (.cells #[.int .i64 (v : Int), .string TB] 50)) := by
        rw [HTB.out]; exact ⟨HP1.out.step (below_new (Below.refl _ _) _), At.new wr _⟩
      have PC := Lib.hid pc; clear pc c0 c1
      generalize World.alloc wr _ = W4 at PC ⊢
      obtain ⟨C, hC⟩ : ∃ C, C = wr.heap.size := ⟨_, rfl⟩
      rw [← hC] at PC ⊢
      clear hC hbl HP1
      have CH := Lib.hid (fun (X : ByteArray) (W : World) => Any.strings_HasPrefix { Tryd.laysn99 with } X TB W)
      go_loopw [8, 9] (fun m u wr => ∃ (f n : Nat) (R' : ByteArray), m = .int .i64 (n : Int) ∧ u = .string R' ∧ n ≤ 5000 ∧ R'.data.toList.length < f ∧ grIn t v 3999 f n R'.data.toList = NX ∧ SgBx w b off xs C v t wr) (fun _ u wr => match u with | .string R' => R'.data.toList.length | _ => 0)
      case atStart => exact ⟨rest.length + 1, m0, R, rfl, rfl, hlen, by rw [hR]; omega, by rw [hR]; exact HSU.out.symm, PC.out⟩
      case round =>
        clear hR HSU PC
        obtain ⟨f, n, R', rfl, rfl, hn5, hf, hgr, hbx⟩ := hrel
        obtain ⟨f', rfl⟩ : ∃ f', f = f' + 1 := ⟨f - 1, by omega⟩
        unfold grIn at hgr
        have CHR := CH.out R'
        rw [HTBL.out] at CHR
        have y0 : wr.cell? ⟨C, 0, none⟩ = some (.int .i64 (v : Int)) := hbx.2.cell 0
        have y1 : wr.cell? ⟨C, 1, none⟩ = some (.string TB) := by rw [HTB.out]; exact hbx.2.cell 1
        have HBX := Lib.hid hbx; clear hbx
        by_cases hpre : t.isPrefixOf R'.data.toList = true
        · have hpre2 : Lib.hasPrefix R'.data.toList t = true := hpre
          rw [hpre2] at CHR
          have CHR := Lib.hid CHR
          by_cases hnh : n ≤ 3999
          · rw [if_pos ⟨hpre, hnh⟩] at hgr
            have htl : t.length ≤ R'.data.toList.length := List.IsPrefix.length_le (List.isPrefixOf_iff_prefix.1 hpre)
            have hTBs : TB.size = t.length := by rw [← HTBL.out, str_len]
            have hR2 : (R'.extract TB.size R'.size).data.toList = R'.data.toList.drop t.length := by rw [Lib.extract_to_end, hTBs]
            rw [← hR2] at hgr
            have hR2l : (R'.extract TB.size R'.size).data.toList.length = R'.data.toList.length - t.length := by rw [hR2, List.length_drop]
            have HGR2 := Lib.hid hgr
            have hn2 : (n : Int) ≤ 3999 := by omega
            have hR5 : R'.data.toList.length = R'.size := str_len R'
            have hle : (TB.size : Int) ≤ R'.size := by omega
            clear hgr hpre hpre2 hR2 hTBs
            go_wp2_with fail
            refine (CHR.out _).mono ?_
            rintro e w3 ⟨rfl, rfl⟩
            go_wp2_with fail
            go_quiet (fail)
            go_wp2_with fail
            have hb2 := HBX.out.drewN nq
            go_roundw
            case rel => exact ⟨f', n + v, R'.extract TB.size R'.size, by go_num, rfl, by omega, by omega, HGR2.out, hb2⟩
            case measure => show (R'.extract TB.size R'.size).data.toList.length < R'.data.toList.length; omega
          · have hno : ¬ (t.isPrefixOf R'.data.toList = true ∧ n ≤ 3999) := fun h => hnh h.2
            rw [if_neg hno] at hgr
            have hn2 : ¬ (n : Int) ≤ 3999 := by omega
            have HE := Lib.hid hgr
            clear hgr hpre hpre2 hno
            go_wp2_with fail
            refine (CHR.out _).mono ?_
            rintro e w3 ⟨rfl, rfl⟩
            go_wp2_with fail
            go_roundw
            case rel => exact ⟨k + 1, R', by omega, by go_num, rfl, by rw [← HNX.out, ← HE.out], by rw [← HNX.out, ← HE.out], HBX.out.1⟩
            case measure => simp [intOf]; omega
        · have hno : ¬ (t.isPrefixOf R'.data.toList = true ∧ n ≤ 3999) := fun h => hpre h.1
          rw [if_neg hno] at hgr
          have hpre2 : Lib.hasPrefix R'.data.toList t = false := Bool.eq_false_iff.2 hpre
          rw [hpre2] at CHR
          have CHR := Lib.hid CHR
          have HE := Lib.hid hgr
          clear hgr hpre hpre2 hno
          go_wp2_with fail
          refine (CHR.out _).mono ?_
          rintro e w3 ⟨rfl, rfl⟩
          go_wp2_with fail
          go_roundw
          case rel => exact ⟨k + 1, R', by omega, by go_num, rfl, by rw [← HNX.out, ← HE.out], by rw [← HNX.out, ← HE.out], HBX.out.1⟩
          case measure => simp [intOf]; omega
    · obtain rfl : k = LN := by omega
      have HPP := Lib.hid hp; clear hp
      have hfin := HGP.out S.data.toList
      rw [← HLEN.out] at hfin
      have HNO := Lib.hid (show ∀ m, inS 9 m = true → numT 9 m = S.data.toList → grTo xs 3999 S.data.toList k = (m.toNat, []) from fun m hm he => by
        rw [← hfin, ← he]; exact HGR.out m hm)
      clear hfin HGR HLN HX HT0 CL CR HGP
      generalize grTo xs 3999 S.data.toList k = st at hlen hR HNO ⊢
      obtain ⟨n, rest⟩ := st
      simp only [] at hlen hR HNO ⊢
      by_cases hre : R.data.toList = []
      · have he : R = ⟨#[]⟩ := by rw [← str_eta R, hre]
        subst he
        by_cases hin : inS 9 (n : Int) = true
        · have HI := Lib.hid ((HIN.out (n : Int)).trans hin)
          have CTn := CT.out (n : Int)
          obtain ⟨T, hT⟩ : ∃ T : ByteArray, T = ⟨(numT 9 (n : Int)).toArray⟩ := ⟨_, rfl⟩
          have hTL : T.data.toList = numT 9 (n : Int) := by rw [hT]
          rw [← hT] at CTn
          have CTn := Lib.hid (fun W => CTn W hin)
          have HINN := Lib.hid hin
          by_cases heq : T.data.toList = S.data.toList
          · have he : T = S := by rw [← str_eta T, heq, str_eta]
            subst he
            have HTL := Lib.hid hTL
            clear hin hT hTL heq hR hre
            go_wp2_with fail
            refine (ref_In _ _ _ _).mono ?_
            rw [HI.out]
            rintro e w3 ⟨rfl, rfl⟩
            go_wp2_with fail
            refine (CTn.out _ HPP.out.2).mono ?_
            rintro e w4 ⟨rfl, b4⟩
            have B4 := Lib.hid (below_then HPP.out.2 b4); clear b4
            go_wp2_with fail
            go_ret2
            exact ⟨_, _, rfl, B4.out, fun _ => ⟨HINN.out, HTL.out.symm⟩, fun h => by simp at h⟩
          · obtain ⟨f1, f2, f3, f4⟩ := diff_facts heq
            have HTL := Lib.hid hTL
            have HEQ := Lib.hid heq
            clear hin hT hTL heq hR hre
            go_wp2_with fail
            refine (ref_In _ _ _ _).mono ?_
            rw [HI.out]
            rintro e w3 ⟨rfl, rfl⟩
            go_wp2_with fail
            refine (CTn.out _ HPP.out.2).mono ?_
            rintro e w4 ⟨rfl, b4⟩
            have B4 := Lib.hid (below_then HPP.out.2 b4); clear b4
            go_wp2_with fail
            go_ret2
            exact ⟨_, _, rfl, B4.out, fun h => by simp [f2] at h, fun _ m hm he => by
              have h3 := HNO.out m hm he
              injection h3 with h3 h4
              refine HEQ.out ?_
              rw [HTL.out, h3, show ((m.toNat : Nat) : Int) = m by have := (inS_bounds hm); omega]; exact he⟩
        · have hin' : inS 9 (n : Int) = false := by simpa using hin
          have HI := Lib.hid ((HIN.out (n : Int)).trans hin')
          have HINN := Lib.hid hin'
          clear hin hin' hR hre
          go_wp2_with fail
          refine (ref_In _ _ _ _).mono ?_
          rw [HI.out]
          rintro e w3 ⟨rfl, rfl⟩
          go_wp2_with fail
          go_ret2
          exact ⟨_, _, rfl, HPP.out.2, fun h => by simp at h, fun _ m hm he => by
            have h3 := HNO.out m hm he
            injection h3 with h3 h4
            have h5 := HINN.out
            rw [h3, show ((m.toNat : Nat) : Int) = m by have := (inS_bounds hm); omega, hm] at h5
            cases h5⟩
      · have hne : ¬ R.data.toList = (⟨#[]⟩ : ByteArray).data.toList := hre
        obtain ⟨f1, f2, f3, f4⟩ := diff_facts hne
        have hem : R.toList.isEmpty = false := by
          rw [str_list]; cases hq : R.data.toList with
          | nil => exact absurd hq hre
          | cons a b => rfl
        have hem2 : (!R.toList.isEmpty) = true := by rw [hem]; rfl
        have HRE := Lib.hid hre
        have HRR := Lib.hid hR
        clear hne hre hR
        go_wp2_with fail
        go_ret2
        exact ⟨_, _, rfl, HPP.out.2, fun h => by simp at h, fun _ m hm he => by
          have h3 := HNO.out m hm he
          injection h3 with h3 h4
          exact HRE.out (by rw [HRR.out, h4])⟩
set_option maxHeartbeats 16000000 in
theorem ref_NumeralRead10 (S : ByteArray) (w : World) (hS : S.size ≤ 60) (hp : Pow w) :
    Calls Tryd.prog 15 #[.int .i64 10, .string S] w (RdPost 10 S.data.toList w) := by
  have HGR := Lib.hid (fun (m : Int) hm => gr_numT10 m hm)
  have CR := Lib.hid (ref_NumeralRange 10 w (by omega) (by omega))
  have HX := Lib.hid (list_small listG (by simp))
  have HLN := Lib.hid (fun k => grTo_small (xs := listG) (fun x hx => (HX.out x hx).2.1) 999 (by omega) S.data.toList k)
  have HT0 := Lib.hid (show ∀ x ∈ listG, 1 ≤ x.2.length by decide +kernel)
  have CL := Lib.hid (fun W => ref_list10 W)
  have HP := Lib.hid hp
  have CT := Lib.hid (fun (n : Int) (W : World) (hn : inS 10 n = true) (hb : Below w.heap.size w W) => ref_NumeralText 10 n W (by decide) hn (HP.out.below hb))
  have hlow : lowS 10 = 1 := rfl
  have hhigh : highS 10 = 999 := rfl
  rw [hlow, hhigh] at CR
  have hin : ∀ n : Int, inB 1 999 n = inS 10 n := fun n => by unfold inB inS; rw [hlow, hhigh]; simp
  have HIN := Lib.hid hin
  clear hlow hhigh hin hp
  have h30 : listG.length ≤ 30 := by decide
  have HGP := Lib.hid (show ∀ l, grP listG 999 l = grTo listG 999 l listG.length from fun l => rfl)
  generalize listG = xs at *
  unfold RdPost
  go_enter Tryd.func15, Tryd.ntmps15
  go_wp2_with fail
  refine CR.out.mono ?_
  rintro e w0 ⟨rfl, rfl⟩
  go_wp2_with fail
  refine (CL.out _).mono ?_
  rintro e w1 ⟨b, off, rfl, hsg, hb⟩
  have HS := Lib.hid (show SgIn w b off xs w1 from ⟨hsg, hb⟩); clear hsg hb
  obtain ⟨LN, hLN⟩ : ∃ LN, LN = xs.length := ⟨_, rfl⟩
  rw [← hLN] at h30 ⊢
  have HLEN := Lib.hid hLN; clear hLN
  go_wp2_with fail
  go_loopw [8, 9, 34] (fun m v i wr => ∃ (k : Nat) (R : ByteArray), k ≤ LN ∧ i = .int .i64 k ∧ v = .string R ∧ R.data.toList = (grTo xs 999 S.data.toList k).2 ∧ m = .int .i64 ((grTo xs 999 S.data.toList k).1 : Int) ∧ SgIn w b off xs wr) (fun _ _ i _ => LN - (intOf i).toNat)
  case atStart => exact ⟨0, S, by omega, rfl, rfl, rfl, rfl, HS.out⟩
  case round =>
    clear HS
    obtain ⟨k, R, hk, rfl, rfl, hR, rfl, hp⟩ := hrel
    have hlen := HLN.out k
    by_cases hlt : k < LN
    · have hg : xs[k]? = some (xs[k]'(by rw [← HLEN.out]; exact hlt)) := List.getElem?_eq_getElem _
      obtain ⟨v, t, hvt⟩ : ∃ v t, xs[k]? = some (v, t) := ⟨_, _, hg⟩
      obtain ⟨v1, v2, t4⟩ := HX.out _ (List.mem_of_getElem? hvt)
      have t1 := HT0.out _ (List.mem_of_getElem? hvt)
      simp only [] at v1 v2 t4 t1
      obtain ⟨c0, c1⟩ := hp.1.2 k v t hvt
      have hbl := hp.1.1
      have HSU := Lib.hid (grTo_succ (xs := xs) (high := 999) (l := S.data.toList) k v t hvt)
      clear hg hvt
      generalize grTo xs 999 S.data.toList k = st at hlen HSU hR ⊢
      obtain ⟨m0, rest⟩ := st
      simp only [] at hlen HSU hR ⊢
      obtain ⟨NX, hNX⟩ : ∃ NX, NX = grTo xs 999 S.data.toList (k + 1) := ⟨_, rfl⟩
      rw [← hNX] at HSU
      have HNX := Lib.hid hNX; clear hNX
      have HP1 := Lib.hid hp; clear hp
      obtain ⟨TB, hTB⟩ : ∃ TB : ByteArray, TB = ⟨t.toArray⟩ := ⟨_, rfl⟩
      have hTBL : TB.data.toList = t := by rw [hTB]
      rw [← hTB] at c1
      have HTB := Lib.hid hTB; have HTBL := Lib.hid hTBL
      clear hTB hTBL
      go_wp2_with fail
      have pc : SgBx w b off xs wr.heap.size v t (wr.alloc (.cells #[.int .i64 (v : Int), .string TB] 50)) := by
        rw [HTB.out]; exact ⟨HP1.out.step (below_new (Below.refl _ _) _), At.new wr _⟩
      have PC := Lib.hid pc; clear pc c0 c1
      generalize World.alloc wr _ = W4 at PC ⊢
      obtain ⟨C, hC⟩ : ∃ C, C = wr.heap.size := ⟨_, rfl⟩
      rw [← hC] at PC ⊢
      clear hC hbl HP1
      have CH := Lib.hid (fun (X : ByteArray) (W : World) => Any.strings_HasPrefix { Tryd.laysn99 with } X TB W)
      go_loopw [8, 9] (fun m u wr => ∃ (f n : Nat) (R' : ByteArray), m = .int .i64 (n : Int) ∧ u = .string R' ∧ n ≤ 5000 ∧ R'.data.toList.length < f ∧ grIn t v 999 f n R'.data.toList = NX ∧ SgBx w b off xs C v t wr) (fun _ u wr => match u with | .string R' => R'.data.toList.length | _ => 0)
      case atStart => exact ⟨rest.length + 1, m0, R, rfl, rfl, hlen, by rw [hR]; omega, by rw [hR]; exact HSU.out.symm, PC.out⟩
      case round =>
        clear hR HSU PC
        obtain ⟨f, n, R', rfl, rfl, hn5, hf, hgr, hbx⟩ := hrel
        obtain ⟨f', rfl⟩ : ∃ f', f = f' + 1 := ⟨f - 1, by omega⟩
        unfold grIn at hgr
        have CHR := CH.out R'
        rw [HTBL.out] at CHR
        have y0 : wr.cell? ⟨C, 0, none⟩ = some (.int .i64 (v : Int)) := hbx.2.cell 0
        have y1 : wr.cell? ⟨C, 1, none⟩ = some (.string TB) := by rw [HTB.out]; exact hbx.2.cell 1
        have HBX := Lib.hid hbx; clear hbx
        by_cases hpre : t.isPrefixOf R'.data.toList = true
        · have hpre2 : Lib.hasPrefix R'.data.toList t = true := hpre
          rw [hpre2] at CHR
          have CHR := Lib.hid CHR
          by_cases hnh : n ≤ 999
          · rw [if_pos ⟨hpre, hnh⟩] at hgr
            have htl : t.length ≤ R'.data.toList.length := List.IsPrefix.length_le (List.isPrefixOf_iff_prefix.1 hpre)
            have hTBs : TB.size = t.length := by rw [← HTBL.out, str_len]
            have hR2 : (R'.extract TB.size R'.size).data.toList = R'.data.toList.drop t.length := by rw [Lib.extract_to_end, hTBs]
            rw [← hR2] at hgr
            have hR2l : (R'.extract TB.size R'.size).data.toList.length = R'.data.toList.length - t.length := by rw [hR2, List.length_drop]
            have HGR2 := Lib.hid hgr
            have hn2 : (n : Int) ≤ 999 := by omega
            have hR5 : R'.data.toList.length = R'.size := str_len R'
            have hle : (TB.size : Int) ≤ R'.size := by omega
            clear hgr hpre hpre2 hR2 hTBs
            go_wp2_with fail
            refine (CHR.out _).mono ?_
            rintro e w3 ⟨rfl, rfl⟩
            go_wp2_with fail
            go_quiet (fail)
            go_wp2_with fail
            have hb2 := HBX.out.drewN nq
            go_roundw
            case rel => exact ⟨f', n + v, R'.extract TB.size R'.size, by go_num, rfl, by omega, by omega, HGR2.out, hb2⟩
            case measure => show (R'.extract TB.size R'.size).data.toList.length < R'.data.toList.length; omega
          · have hno : ¬ (t.isPrefixOf R'.data.toList = true ∧ n ≤ 999) := fun h => hnh h.2
            rw [if_neg hno] at hgr
            have hn2 : ¬ (n : Int) ≤ 999 := by omega
            have HE := Lib.hid hgr
            clear hgr hpre hpre2 hno
            go_wp2_with fail
            refine (CHR.out _).mono ?_
            rintro e w3 ⟨rfl, rfl⟩
            go_wp2_with fail
            go_roundw
            case rel => exact ⟨k + 1, R', by omega, by go_num, rfl, by rw [← HNX.out, ← HE.out], by rw [← HNX.out, ← HE.out], HBX.out.1⟩
            case measure => simp [intOf]; omega
        · have hno : ¬ (t.isPrefixOf R'.data.toList = true ∧ n ≤ 999) := fun h => hpre h.1
          rw [if_neg hno] at hgr
          have hpre2 : Lib.hasPrefix R'.data.toList t = false := Bool.eq_false_iff.2 hpre
          rw [hpre2] at CHR
          have CHR := Lib.hid CHR
          have HE := Lib.hid hgr
          clear hgr hpre hpre2 hno
          go_wp2_with fail
          refine (CHR.out _).mono ?_
          rintro e w3 ⟨rfl, rfl⟩
          go_wp2_with fail
          go_roundw
          case rel => exact ⟨k + 1, R', by omega, by go_num, rfl, by rw [← HNX.out, ← HE.out], by rw [← HNX.out, ← HE.out], HBX.out.1⟩
          case measure => simp [intOf]; omega
    · obtain rfl : k = LN := by omega
      have HPP := Lib.hid hp; clear hp
      have hfin := HGP.out S.data.toList
      rw [← HLEN.out] at hfin
      have HNO := Lib.hid (show ∀ m, inS 10 m = true → numT 10 m = S.data.toList → grTo xs 999 S.data.toList k = (m.toNat, []) from fun m hm he => by
        rw [← hfin, ← he]; exact HGR.out m hm)
      clear hfin HGR HLN HX HT0 CL CR HGP
      generalize grTo xs 999 S.data.toList k = st at hlen hR HNO ⊢
      obtain ⟨n, rest⟩ := st
      simp only [] at hlen hR HNO ⊢
      by_cases hre : R.data.toList = []
      · have he : R = ⟨#[]⟩ := by rw [← str_eta R, hre]
        subst he
        by_cases hin : inS 10 (n : Int) = true
        · have HI := Lib.hid ((HIN.out (n : Int)).trans hin)
          have CTn := CT.out (n : Int)
          obtain ⟨T, hT⟩ : ∃ T : ByteArray, T = ⟨(numT 10 (n : Int)).toArray⟩ := ⟨_, rfl⟩
          have hTL : T.data.toList = numT 10 (n : Int) := by rw [hT]
          rw [← hT] at CTn
          have CTn := Lib.hid (fun W => CTn W hin)
          have HINN := Lib.hid hin
          by_cases heq : T.data.toList = S.data.toList
          · have he : T = S := by rw [← str_eta T, heq, str_eta]
            subst he
            have HTL := Lib.hid hTL
            clear hin hT hTL heq hR hre
            go_wp2_with fail
            refine (ref_In _ _ _ _).mono ?_
            rw [HI.out]
            rintro e w3 ⟨rfl, rfl⟩
            go_wp2_with fail
            refine (CTn.out _ HPP.out.2).mono ?_
            rintro e w4 ⟨rfl, b4⟩
            have B4 := Lib.hid (below_then HPP.out.2 b4); clear b4
            go_wp2_with fail
            go_ret2
            exact ⟨_, _, rfl, B4.out, fun _ => ⟨HINN.out, HTL.out.symm⟩, fun h => by simp at h⟩
          · obtain ⟨f1, f2, f3, f4⟩ := diff_facts heq
            have HTL := Lib.hid hTL
            have HEQ := Lib.hid heq
            clear hin hT hTL heq hR hre
            go_wp2_with fail
            refine (ref_In _ _ _ _).mono ?_
            rw [HI.out]
            rintro e w3 ⟨rfl, rfl⟩
            go_wp2_with fail
            refine (CTn.out _ HPP.out.2).mono ?_
            rintro e w4 ⟨rfl, b4⟩
            have B4 := Lib.hid (below_then HPP.out.2 b4); clear b4
            go_wp2_with fail
            go_ret2
            exact ⟨_, _, rfl, B4.out, fun h => by simp [f2] at h, fun _ m hm he => by
              have h3 := HNO.out m hm he
              injection h3 with h3 h4
              refine HEQ.out ?_
              rw [HTL.out, h3, show ((m.toNat : Nat) : Int) = m by have := (inS_bounds hm); omega]; exact he⟩
        · have hin' : inS 10 (n : Int) = false := by simpa using hin
          have HI := Lib.hid ((HIN.out (n : Int)).trans hin')
          have HINN := Lib.hid hin'
          clear hin hin' hR hre
          go_wp2_with fail
          refine (ref_In _ _ _ _).mono ?_
          rw [HI.out]
          rintro e w3 ⟨rfl, rfl⟩
          go_wp2_with fail
          go_ret2
          exact ⟨_, _, rfl, HPP.out.2, fun h => by simp at h, fun _ m hm he => by
            have h3 := HNO.out m hm he
            injection h3 with h3 h4
            have h5 := HINN.out
            rw [h3, show ((m.toNat : Nat) : Int) = m by have := (inS_bounds hm); omega, hm] at h5
            cases h5⟩
      · have hne : ¬ R.data.toList = (⟨#[]⟩ : ByteArray).data.toList := hre
        obtain ⟨f1, f2, f3, f4⟩ := diff_facts hne
        have hem : R.toList.isEmpty = false := by
          rw [str_list]; cases hq : R.data.toList with
          | nil => exact absurd hq hre
          | cons a b => rfl
        have hem2 : (!R.toList.isEmpty) = true := by rw [hem]; rfl
        have HRE := Lib.hid hre
        have HRR := Lib.hid hR
        clear hne hre hR
        go_wp2_with fail
        go_ret2
        exact ⟨_, _, rfl, HPP.out.2, fun h => by simp at h, fun _ m hm he => by
          have h3 := HNO.out m hm he
          injection h3 with h3 h4
          exact HRE.out (by rw [HRR.out, h4])⟩
set_option maxHeartbeats 16000000 in
theorem ref_NumeralRead11 (S : ByteArray) (w : World) (hS : S.size ≤ 60) (hp : Pow w) :
    Calls Tryd.prog 15 #[.int .i64 11, .string S] w (RdPost 11 S.data.toList w) := by
  have HGR := Lib.hid (fun (m : Int) hm => gr_numT11 m hm)
  have CR := Lib.hid (ref_NumeralRange 11 w (by omega) (by omega))
  have HX := Lib.hid (list_small listH (by simp))
  have HLN := Lib.hid (fun k => grTo_small (xs := listH) (fun x hx => (HX.out x hx).2.1) 999 (by omega) S.data.toList k)
  have HT0 := Lib.hid (show ∀ x ∈ listH, 1 ≤ x.2.length by decide +kernel)
  have CL := Lib.hid (fun W => ref_list11 W)
  have HP := Lib.hid hp
  have CT := Lib.hid (fun (n : Int) (W : World) (hn : inS 11 n = true) (hb : Below w.heap.size w W) => ref_NumeralText 11 n W (by decide) hn (HP.out.below hb))
  have hlow : lowS 11 = 1 := rfl
  have hhigh : highS 11 = 999 := rfl
  rw [hlow, hhigh] at CR
  have hin : ∀ n : Int, inB 1 999 n = inS 11 n := fun n => by unfold inB inS; rw [hlow, hhigh]; simp
  have HIN := Lib.hid hin
  clear hlow hhigh hin hp
  have h30 : listH.length ≤ 30 := by decide
  have HGP := Lib.hid (show ∀ l, grP listH 999 l = grTo listH 999 l listH.length from fun l => rfl)
  generalize listH = xs at *
  unfold RdPost
  go_enter Tryd.func15, Tryd.ntmps15
  go_wp2_with fail
  refine CR.out.mono ?_
  rintro e w0 ⟨rfl, rfl⟩
  go_wp2_with fail
  refine (CL.out _).mono ?_
  rintro e w1 ⟨b, off, rfl, hsg, hb⟩
  have HS := Lib.hid (show SgIn w b off xs w1 from ⟨hsg, hb⟩); clear hsg hb
  obtain ⟨LN, hLN⟩ : ∃ LN, LN = xs.length := ⟨_, rfl⟩
  rw [← hLN] at h30 ⊢
  have HLEN := Lib.hid hLN; clear hLN
  go_wp2_with fail
  go_loopw [8, 9, 34] (fun m v i wr => ∃ (k : Nat) (R : ByteArray), k ≤ LN ∧ i = .int .i64 k ∧ v = .string R ∧ R.data.toList = (grTo xs 999 S.data.toList k).2 ∧ m = .int .i64 ((grTo xs 999 S.data.toList k).1 : Int) ∧ SgIn w b off xs wr) (fun _ _ i _ => LN - (intOf i).toNat)
  case atStart => exact ⟨0, S, by omega, rfl, rfl, rfl, rfl, HS.out⟩
  case round =>
    clear HS
    obtain ⟨k, R, hk, rfl, rfl, hR, rfl, hp⟩ := hrel
    have hlen := HLN.out k
    by_cases hlt : k < LN
    · have hg : xs[k]? = some (xs[k]'(by rw [← HLEN.out]; exact hlt)) := List.getElem?_eq_getElem _
      obtain ⟨v, t, hvt⟩ : ∃ v t, xs[k]? = some (v, t) := ⟨_, _, hg⟩
      obtain ⟨v1, v2, t4⟩ := HX.out _ (List.mem_of_getElem? hvt)
      have t1 := HT0.out _ (List.mem_of_getElem? hvt)
      simp only [] at v1 v2 t4 t1
      obtain ⟨c0, c1⟩ := hp.1.2 k v t hvt
      have hbl := hp.1.1
      have HSU := Lib.hid (grTo_succ (xs := xs) (high := 999) (l := S.data.toList) k v t hvt)
      clear hg hvt
      generalize grTo xs 999 S.data.toList k = st at hlen HSU hR ⊢
      obtain ⟨m0, rest⟩ := st
      simp only [] at hlen HSU hR ⊢
      obtain ⟨NX, hNX⟩ : ∃ NX, NX = grTo xs 999 S.data.toList (k + 1) := ⟨_, rfl⟩
      rw [← hNX] at HSU
      have HNX := Lib.hid hNX; clear hNX
      have HP1 := Lib.hid hp; clear hp
      obtain ⟨TB, hTB⟩ : ∃ TB : ByteArray, TB = ⟨t.toArray⟩ := ⟨_, rfl⟩
      have hTBL : TB.data.toList = t := by rw [hTB]
      rw [← hTB] at c1
      have HTB := Lib.hid hTB; have HTBL := Lib.hid hTBL
      clear hTB hTBL
      go_wp2_with fail
      have pc : SgBx w b off xs wr.heap.size v t (wr.alloc (.cells #[.int .i64 (v : Int), .string TB] 50)) := by
        rw [HTB.out]; exact ⟨HP1.out.step (below_new (Below.refl _ _) _), At.new wr _⟩
      have PC := Lib.hid pc; clear pc c0 c1
      generalize World.alloc wr _ = W4 at PC ⊢
      obtain ⟨C, hC⟩ : ∃ C, C = wr.heap.size := ⟨_, rfl⟩
      rw [← hC] at PC ⊢
      clear hC hbl HP1
      have CH := Lib.hid (fun (X : ByteArray) (W : World) => Any.strings_HasPrefix { Tryd.laysn99 with } X TB W)
      go_loopw [8, 9] (fun m u wr => ∃ (f n : Nat) (R' : ByteArray), m = .int .i64 (n : Int) ∧ u = .string R' ∧ n ≤ 5000 ∧ R'.data.toList.length < f ∧ grIn t v 999 f n R'.data.toList = NX ∧ SgBx w b off xs C v t wr) (fun _ u wr => match u with | .string R' => R'.data.toList.length | _ => 0)
      case atStart => exact ⟨rest.length + 1, m0, R, rfl, rfl, hlen, by rw [hR]; omega, by rw [hR]; exact HSU.out.symm, PC.out⟩
      case round =>
        clear hR HSU PC
        obtain ⟨f, n, R', rfl, rfl, hn5, hf, hgr, hbx⟩ := hrel
        obtain ⟨f', rfl⟩ : ∃ f', f = f' + 1 := ⟨f - 1, by omega⟩
        unfold grIn at hgr
        have CHR := CH.out R'
        rw [HTBL.out] at CHR
        have y0 : wr.cell? ⟨C, 0, none⟩ = some (.int .i64 (v : Int)) := hbx.2.cell 0
        have y1 : wr.cell? ⟨C, 1, none⟩ = some (.string TB) := by rw [HTB.out]; exact hbx.2.cell 1
        have HBX := Lib.hid hbx; clear hbx
        by_cases hpre : t.isPrefixOf R'.data.toList = true
        · have hpre2 : Lib.hasPrefix R'.data.toList t = true := hpre
          rw [hpre2] at CHR
          have CHR := Lib.hid CHR
          by_cases hnh : n ≤ 999
          · rw [if_pos ⟨hpre, hnh⟩] at hgr
            have htl : t.length ≤ R'.data.toList.length := List.IsPrefix.length_le (List.isPrefixOf_iff_prefix.1 hpre)
            have hTBs : TB.size = t.length := by rw [← HTBL.out, str_len]
            have hR2 : (R'.extract TB.size R'.size).data.toList = R'.data.toList.drop t.length := by rw [Lib.extract_to_end, hTBs]
            rw [← hR2] at hgr
            have hR2l : (R'.extract TB.size R'.size).data.toList.length = R'.data.toList.length - t.length := by rw [hR2, List.length_drop]
            have HGR2 := Lib.hid hgr
            have hn2 : (n : Int) ≤ 999 := by omega
            have hR5 : R'.data.toList.length = R'.size := str_len R'
            have hle : (TB.size : Int) ≤ R'.size := by omega
            clear hgr hpre hpre2 hR2 hTBs
            go_wp2_with fail
            refine (CHR.out _).mono ?_
            rintro e w3 ⟨rfl, rfl⟩
            go_wp2_with fail
            go_quiet (fail)
            go_wp2_with fail
            have hb2 := HBX.out.drewN nq
            go_roundw
            case rel => exact ⟨f', n + v, R'.extract TB.size R'.size, by go_num, rfl, by omega, by omega, HGR2.out, hb2⟩
            case measure => show (R'.extract TB.size R'.size).data.toList.length < R'.data.toList.length; omega
          · have hno : ¬ (t.isPrefixOf R'.data.toList = true ∧ n ≤ 999) := fun h => hnh h.2
            rw [if_neg hno] at hgr
            have hn2 : ¬ (n : Int) ≤ 999 := by omega
            have HE := Lib.hid hgr
            clear hgr hpre hpre2 hno
            go_wp2_with fail
            refine (CHR.out _).mono ?_
            rintro e w3 ⟨rfl, rfl⟩
            go_wp2_with fail
            go_roundw
            case rel => exact ⟨k + 1, R', by omega, by go_num, rfl, by rw [← HNX.out, ← HE.out], by rw [← HNX.out, ← HE.out], HBX.out.1⟩
            case measure => simp [intOf]; omega
        · have hno : ¬ (t.isPrefixOf R'.data.toList = true ∧ n ≤ 999) := fun h => hpre h.1
          rw [if_neg hno] at hgr
          have hpre2 : Lib.hasPrefix R'.data.toList t = false := Bool.eq_false_iff.2 hpre
          rw [hpre2] at CHR
          have CHR := Lib.hid CHR
          have HE := Lib.hid hgr
          clear hgr hpre hpre2 hno
          go_wp2_with fail
          refine (CHR.out _).mono ?_
          rintro e w3 ⟨rfl, rfl⟩
          go_wp2_with fail
          go_roundw
          case rel => exact ⟨k + 1, R', by omega, by go_num, rfl, by rw [← HNX.out, ← HE.out], by rw [← HNX.out, ← HE.out], HBX.out.1⟩
          case measure => simp [intOf]; omega
    · obtain rfl : k = LN := by omega
      have HPP := Lib.hid hp; clear hp
      have hfin := HGP.out S.data.toList
      rw [← HLEN.out] at hfin
      have HNO := Lib.hid (show ∀ m, inS 11 m = true → numT 11 m = S.data.toList → grTo xs 999 S.data.toList k = (m.toNat, []) from fun m hm he => by
        rw [← hfin, ← he]; exact HGR.out m hm)
      clear hfin HGR HLN HX HT0 CL CR HGP
      generalize grTo xs 999 S.data.toList k = st at hlen hR HNO ⊢
      obtain ⟨n, rest⟩ := st
      simp only [] at hlen hR HNO ⊢
      by_cases hre : R.data.toList = []
      · have he : R = ⟨#[]⟩ := by rw [← str_eta R, hre]
        subst he
        by_cases hin : inS 11 (n : Int) = true
        · have HI := Lib.hid ((HIN.out (n : Int)).trans hin)
          have CTn := CT.out (n : Int)
          obtain ⟨T, hT⟩ : ∃ T : ByteArray, T = ⟨(numT 11 (n : Int)).toArray⟩ := ⟨_, rfl⟩
          have hTL : T.data.toList = numT 11 (n : Int) := by rw [hT]
          rw [← hT] at CTn
          have CTn := Lib.hid (fun W => CTn W hin)
          have HINN := Lib.hid hin
          by_cases heq : T.data.toList = S.data.toList
          · have he : T = S := by rw [← str_eta T, heq, str_eta]
            subst he
            have HTL := Lib.hid hTL
            clear hin hT hTL heq hR hre
            go_wp2_with fail
            refine (ref_In _ _ _ _).mono ?_
            rw [HI.out]
            rintro e w3 ⟨rfl, rfl⟩
            go_wp2_with fail
            refine (CTn.out _ HPP.out.2).mono ?_
            rintro e w4 ⟨rfl, b4⟩
            have B4 := Lib.hid (below_then HPP.out.2 b4); clear b4
            go_wp2_with fail
            go_ret2
            exact ⟨_, _, rfl, B4.out, fun _ => ⟨HINN.out, HTL.out.symm⟩, fun h => by simp at h⟩
          · obtain ⟨f1, f2, f3, f4⟩ := diff_facts heq
            have HTL := Lib.hid hTL
            have HEQ := Lib.hid heq
            clear hin hT hTL heq hR hre
            go_wp2_with fail
            refine (ref_In _ _ _ _).mono ?_
            rw [HI.out]
            rintro e w3 ⟨rfl, rfl⟩
            go_wp2_with fail
            refine (CTn.out _ HPP.out.2).mono ?_
            rintro e w4 ⟨rfl, b4⟩
            have B4 := Lib.hid (below_then HPP.out.2 b4); clear b4
            go_wp2_with fail
            go_ret2
            exact ⟨_, _, rfl, B4.out, fun h => by simp [f2] at h, fun _ m hm he => by
              have h3 := HNO.out m hm he
              injection h3 with h3 h4
              refine HEQ.out ?_
              rw [HTL.out, h3, show ((m.toNat : Nat) : Int) = m by have := (inS_bounds hm); omega]; exact he⟩
        · have hin' : inS 11 (n : Int) = false := by simpa using hin
          have HI := Lib.hid ((HIN.out (n : Int)).trans hin')
          have HINN := Lib.hid hin'
          clear hin hin' hR hre
          go_wp2_with fail
          refine (ref_In _ _ _ _).mono ?_
          rw [HI.out]
          rintro e w3 ⟨rfl, rfl⟩
          go_wp2_with fail
          go_ret2
          exact ⟨_, _, rfl, HPP.out.2, fun h => by simp at h, fun _ m hm he => by
            have h3 := HNO.out m hm he
            injection h3 with h3 h4
            have h5 := HINN.out
            rw [h3, show ((m.toNat : Nat) : Int) = m by have := (inS_bounds hm); omega, hm] at h5
            cases h5⟩
      · have hne : ¬ R.data.toList = (⟨#[]⟩ : ByteArray).data.toList := hre
        obtain ⟨f1, f2, f3, f4⟩ := diff_facts hne
        have hem : R.toList.isEmpty = false := by
          rw [str_list]; cases hq : R.data.toList with
          | nil => exact absurd hq hre
          | cons a b => rfl
        have hem2 : (!R.toList.isEmpty) = true := by rw [hem]; rfl
        have HRE := Lib.hid hre
        have HRR := Lib.hid hR
        clear hne hre hR
        go_wp2_with fail
        go_ret2
        exact ⟨_, _, rfl, HPP.out.2, fun h => by simp at h, fun _ m hm he => by
          have h3 := HNO.out m hm he
          injection h3 with h3 h4
          exact HRE.out (by rw [HRR.out, h4])⟩
end Go.Proofs.YticflmepmmdnfabDoor
