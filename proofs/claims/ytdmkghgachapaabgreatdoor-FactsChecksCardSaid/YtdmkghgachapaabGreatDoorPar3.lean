import Derived.Test.YtdmkghgachapaabGreatDoorMgP
import Derived.Test.YtdmkghgachapaabGreatDoorMgA
import Derived.Test.YtdmkghgachapaabGreatDoorMg5
import Derived.Test.YtdmkghgachapaabGreatDoorTxt0
set_option linter.unusedSimpArgs false
namespace Go.Proofs.YtdmkghgachapaabGreatDoor
set_option linter.unusedVariables false
set_option maxRecDepth 100000
open Go.RowKit
set_option maxHeartbeats 4000000 in
theorem rule_run (S : ByteArray) (i lo hi : Nat) (w : World) (hS : S.size ≤ 9223372036854775807) (hi' : i ≤ S.size) (h1 : lo ≤ 255) (h2 : hi ≤ 255) :
    Calls Tryz.prog 149 #[.string S, .int .i64 i, .int .u8 lo, .int .u8 hi] w fun e w' => e = .returned (.int .i64 (runTo (inR lo hi) S.data.toList i : Nat)) ∧ Below w.heap.size w w' := by
  obtain ⟨R, hR⟩ : ∃ R, R = runTo (inR lo hi) S.data.toList i := ⟨_, rfl⟩
  rw [← hR]
  have HR := Lib.hid hR
  have hl := str_len S
  have HL := Lib.hid hl
  clear hR hl
  go_enter Tryz.func149, Tryz.ntmps149
  go_wp2_with fail
  go_loopw [1] (fun v wr => ∃ k : Nat, k ≤ S.size ∧ v = .int .i64 k ∧ R = runTo (inR lo hi) S.data.toList k ∧ Below w.heap.size w wr) (fun v _ => S.size - (intOf v).toNat)
  case atStart => exact ⟨i, hi', rfl, HR.out, Below.refl _ _⟩
  case round =>
    obtain ⟨k, hk, rfl, hr, hb⟩ := hrel
    have HB := Lib.hid hb; have HRR := Lib.hid hr
    clear hb hr
    by_cases hlt : k < S.size
    · have HG := Lib.hid (str_get S k hlt)
      by_cases d1 : (lo : Int) ≤ (S[k].toNat : Int)
      · by_cases d2 : (S[k].toNat : Int) ≤ (hi : Int)
        · have HN := Lib.hid (show R = runTo (inR lo hi) S.data.toList (k + 1) by
            rw [HRR.out]; exact runTo_yes _ _ _ _ HG.out (by unfold inR; rw [decide_eq_true (show lo ≤ S[k].toNat by omega), decide_eq_true (show S[k].toNat ≤ hi by omega)]; rfl))
          go_wp2_with fail
          go_roundw
          case rel => exact ⟨k + 1, by omega, by go_num, HN.out, by have := HB.out; (repeat' (first | exact bxR _ _ | assumption | refine bxD ?_ | refine bxN ?_ _ | refine bxA ?_ _ | refine bxS ?_ ?_ _ | refine bxT ?_ (by assumption) | refine bxW ?_ (by assumption) | exact Nat.le_refl _ | omega | (simp; done) | (simp; omega)))⟩
          case measure => simp [intOf]; omega
        · have HN := Lib.hid (show R = k by
            rw [HRR.out]; exact runTo_no _ _ _ _ HG.out (by unfold inR; rw [decide_eq_false (show ¬ S[k].toNat ≤ hi by omega)]; simp))
          go_wp2_with fail
          go_ret
          exact ⟨by rw [HN.out]; rfl, by have := HB.out; (repeat' (first | exact bxR _ _ | assumption | refine bxD ?_ | refine bxN ?_ _ | refine bxA ?_ _ | refine bxS ?_ ?_ _ | refine bxT ?_ (by assumption) | refine bxW ?_ (by assumption) | exact Nat.le_refl _ | omega | (simp; done) | (simp; omega)))⟩
      · have HN := Lib.hid (show R = k by
          rw [HRR.out]; exact runTo_no _ _ _ _ HG.out (by unfold inR; rw [decide_eq_false (show ¬ lo ≤ S[k].toNat by omega)]; simp))
        go_wp2_with fail
        go_ret
        exact ⟨by rw [HN.out]; rfl, by have := HB.out; (repeat' (first | exact bxR _ _ | assumption | refine bxD ?_ | refine bxN ?_ _ | refine bxA ?_ _ | refine bxS ?_ ?_ _ | refine bxT ?_ (by assumption) | refine bxW ?_ (by assumption) | exact Nat.le_refl _ | omega | (simp; done) | (simp; omega)))⟩
    · have HN := Lib.hid (show R = k by rw [HRR.out]; exact runTo_end _ _ _ (by rw [HL.out]; omega))
      go_wp2_with fail
      go_ret
      exact ⟨by rw [HN.out]; rfl, by have := HB.out; (repeat' (first | exact bxR _ _ | assumption | refine bxD ?_ | refine bxN ?_ _ | refine bxA ?_ _ | refine bxS ?_ ?_ _ | refine bxT ?_ (by assumption) | refine bxW ?_ (by assumption) | exact Nat.le_refl _ | omega | (simp; done) | (simp; omega)))⟩
abbrev rd (S : ByteArray) (a n o : Nat) (e : Int) : Obj := .cells #[.string S, .int .i64 a, .int .i64 n, .int .i64 o, .int .i64 e] 151
theorem rd_cells {w : World} {g : Nat} {S : ByteArray} {a n o : Nat} {e : Int} (h : At w g (rd S a n o e)) :
    w.cell? ⟨g, 0, none⟩ = some (.string S) ∧ w.cell? ⟨g, 1, none⟩ = some (.int .i64 a) ∧ w.cell? ⟨g, 2, none⟩ = some (.int .i64 n) ∧ w.cell? ⟨g, 3, none⟩ = some (.int .i64 o) ∧ w.cell? ⟨g, 4, none⟩ = some (.int .i64 e) ∧
    w.frozen? ⟨g, 1, none⟩ = false ∧ w.frozen? ⟨g, 2, none⟩ = false ∧ w.frozen? ⟨g, 3, none⟩ = false ∧ w.frozen? ⟨g, 4, none⟩ = false :=
  ⟨h.cell 0, h.cell 1, h.cell 2, h.cell 3, h.cell 4, h.frozen 1, h.frozen 2, h.frozen 3, h.frozen 4⟩
theorem rd_at {w : World} {g : Nat} {S : ByteArray} {a n o : Nat} {e : Int} (h : At w g (rd S a n o e)) (k : Nat) : At (w.setCell ⟨g, 1, none⟩ (.int .i64 k)) g (rd S k n o e) := h.store 1 _
theorem rd_nx {w : World} {g : Nat} {S : ByteArray} {a n o : Nat} {e : Int} (h : At w g (rd S a n o e)) (k : Nat) : At (w.setCell ⟨g, 2, none⟩ (.int .i64 k)) g (rd S a k o e) := h.store 2 _
theorem rd_open {w : World} {g : Nat} {S : ByteArray} {a n o : Nat} {e : Int} (h : At w g (rd S a n o e)) (k : Nat) : At (w.setCell ⟨g, 3, none⟩ (.int .i64 k)) g (rd S a n k e) := h.store 3 _
theorem rd_code {w : World} {g : Nat} {S : ByteArray} {a n o : Nat} {e : Int} (h : At w g (rd S a n o e)) (k : Int) : At (w.setCell ⟨g, 4, none⟩ (.int .i64 k)) g (rd S a n o k) := h.store 4 _
def RdK (g : Nat) (S : ByteArray) (a n o : Nat) (e : Int) (w W : World) : Prop := At W g (rd S a n o e) ∧ OneKept g w W
theorem RdK.then_ {g : Nat} {S : ByteArray} {a n o : Nat} {e : Int} {w W W' : World} (h : RdK g S a n o e w W) (k : Below W.heap.size W W') : RdK g S a n o e w W' := ⟨h.1.then_ k, h.2.then_ k⟩
set_option maxHeartbeats 4000000 in
theorem rule_scan (S : ByteArray) (g a n o : Nat) (w : World) (h : At w g (rd S a n o 0)) (hS : S.size ≤ 9223372036854775807) (hn : n ≤ S.size) :
    Calls Tryz.prog 123 #[.pointer (some ⟨g, 0, none⟩)] w fun e w' => e = .returned (.tuple #[]) ∧ RdK g S (scanAt S.data.toList n) (scanNx S.data.toList n) o 0 w w' := by
  obtain ⟨A, hA⟩ : ∃ A, A = scanAt S.data.toList n := ⟨_, rfl⟩
  obtain ⟨X, hX⟩ : ∃ X, X = scanNx S.data.toList n := ⟨_, rfl⟩
  rw [← hA, ← hX]
  have hlen := str_len S
  have hAl : A ≤ S.size := by rw [hA, ← hlen]; exact runTo_le _ _ _ (by omega)
  obtain ⟨r1, hr1⟩ : ∃ r, r = runTo (inR 97 122) S.data.toList A := ⟨_, rfl⟩
  obtain ⟨r2, hr2⟩ : ∃ r, r = runTo (inR 48 57) S.data.toList A := ⟨_, rfl⟩
  have r1l : r1 ≤ S.size := by rw [hr1, ← hlen]; exact runTo_le _ _ _ (by omega)
  have r2l : r2 ≤ S.size := by rw [hr2, ← hlen]; exact runTo_le _ _ _ (by omega)
  have hXe : X = if max r1 r2 = A ∧ A < S.size then max r1 r2 + 1 else max r1 r2 := by
    rw [hX, hr1, hr2, hA, ← hlen]; rfl
  obtain ⟨M, hM⟩ : ∃ M, M = max r1 r2 := ⟨_, rfl⟩
  rw [← hM] at hXe
  have HXE := Lib.hid hXe
  have HM := Lib.hid hM
  have hMl : M ≤ S.size := by omega
  have C0 := Lib.hid (fun W => show Calls Tryz.prog 149 #[.string S, .int .i64 n, .int .u8 32, .int .u8 32] W (fun e w' => e = .returned (.int .i64 (scanAt S.data.toList n : Nat)) ∧ Below W.heap.size W w') from rule_run S n 32 32 W hS hn (by omega) (by omega))
  have C1 := Lib.hid (fun W => show Calls Tryz.prog 149 #[.string S, .int .i64 A, .int .u8 97, .int .u8 122] W (fun e w' => e = .returned (.int .i64 (runTo (inR 97 122) S.data.toList A : Nat)) ∧ Below W.heap.size W w') from rule_run S A 97 122 W hS hAl (by omega) (by omega))
  have C2 := Lib.hid (fun W => show Calls Tryz.prog 149 #[.string S, .int .i64 A, .int .u8 48, .int .u8 57] W (fun e w' => e = .returned (.int .i64 (runTo (inR 48 57) S.data.toList A : Nat)) ∧ Below W.heap.size W w') from rule_run S A 48 57 W hS hAl (by omega) (by omega))
  rw [← hA] at C0
  rw [← hr1] at C1
  rw [← hr2] at C2
  have hlt := h.lt
  have K0 := Lib.hid (show RdK g S a n o 0 w w.drew from ⟨h.drew, (OneKept.refl g w).drew⟩)
  clear hA hX hr1 hr2 hXe h hlen hM hMl
  go_enter Tryz.func123, Tryz.ntmps123
  go_wp2_with fail
  (refine region_class_tail 10 (RdK g S a n o 0 w) (by kernel_rfl) (by kernel_rfl) (K0.out) ?_; simp only [List.take_succ_cons, List.take_zero, List.drop_succ_cons, List.drop_zero]; repeat ((first | (refine class_take ?_ (by rfl) ?_ ?_; rotate_left; focus (intro wq hq; ((obtain ⟨x0, x1, x2, x3, x4, f1, f2, f3, f4⟩ := rd_cells hq.1)); go_simp; first | done | with_reducible rfl | ((go_at_call 149; (with_reducible refine (C0.out _).mono ?_); rintro e w' ⟨rfl, hb⟩; refine ⟨?_, hq.then_ hb⟩; with_reducible rfl)))) | refine class_skip (by rfl) ?_); try simp only [Act.put, List.setIfInBounds_toArray, List.set_cons_zero, List.set_cons_succ]))
  refine wpQuiet_nil ?_
  intro W1 hW1
  obtain ⟨x0, x1, x2, x3, x4, f1, f2, f3, f4⟩ := rd_cells hW1.1
  have hlt1 := hW1.1.lt
  have K1 := Lib.hid (show RdK g S A n o 0 w (W1.setCell ⟨g, 1, none⟩ (.int .i64 A)) from ⟨rd_at hW1.1 A, hW1.2.set 1 _⟩)
  clear hW1 C0 K0
  go_wp2_with fail
  generalize World.setCell W1 _ _ = W2 at K1 ⊢
  clear x0 x1 x2 x3 x4 f1 f2 f3 f4 hlt1
  (refine region_class_tail 20 (RdK g S A n o 0 w) (by kernel_rfl) (by kernel_rfl) (K1.out.then_ ((Below.refl _ _).drew)) ?_; simp only [List.take_succ_cons, List.take_zero, List.drop_succ_cons, List.drop_zero]; repeat ((first | (refine class_take ?_ (by rfl) ?_ ?_; rotate_left; focus (intro wq hq; ((obtain ⟨x0, x1, x2, x3, x4, f1, f2, f3, f4⟩ := rd_cells hq.1)); go_simp; first | done | with_reducible rfl | ((go_at_call 149; (first | (with_reducible refine (C1.out _).mono ?_) | (with_reducible refine (C2.out _).mono ?_)); rintro e w' ⟨rfl, hb⟩; refine ⟨?_, hq.then_ hb⟩; with_reducible rfl)))) | refine class_skip (by rfl) ?_); try simp only [Act.put, List.setIfInBounds_toArray, List.set_cons_zero, List.set_cons_succ]))
  refine wpQuiet_nil ?_
  intro W3 hW3
  obtain ⟨x0, x1, x2, x3, x4, f1, f2, f3, f4⟩ := rd_cells hW3.1
  have hlt1 := hW3.1.lt
  have F2 := Lib.hid hW3
  clear hW3 C1 C2 K1
  go_wp2_with fail
  rotate_left
  rename_i hge
  obtain rfl : M = r1 := by rw [HM.out]; exact Nat.max_eq_left (by omega)
  rotate_left
  rename_i hle
  obtain rfl : M = r2 := by rw [HM.out]; exact Nat.max_eq_right (by omega)
  all_goals
    have K2 := Lib.hid (show RdK g S A M o 0 w (W3.setCell ⟨g, 2, none⟩ (.int .i64 M)) from ⟨rd_nx F2.out.1 M, F2.out.2.set 2 _⟩)
    clear F2 x0 x1 x2 x3 x4 f1 f2 f3 f4 hlt1
    generalize World.setCell W3 _ _ = W4 at K2 ⊢
    obtain ⟨x0, x1, x2, x3, x4, f1, f2, f3, f4⟩ := rd_cells K2.out.1
    have hlt1 := K2.out.1.lt
    by_cases c1 : M = A
    · have e1 : ((M : Int) == (A : Int)) = true := by simp [c1]
      by_cases c2 : A < S.size
      · have hXX : X = M + 1 := by rw [HXE.out, if_pos ⟨c1, c2⟩]
        have c2' : (A : Int) < S.size := by omega
        have hM9 : (M : Int) < 9223372036854775807 := by omega
        clear c1
        go_wp2_with fail
        go_quiet (fail)
        go_wp2_with fail
        go_end0
        subst hXX
        exact ⟨rfl, rd_nx K2.out.1 (M + 1), (K2.out.2.drewN _).set 2 _⟩
      · have hXX : X = M := by rw [HXE.out, if_neg (fun h => c2 h.2)]
        have c2' : ¬ (A : Int) < S.size := by omega
        clear c1
        go_wp2_with fail
        go_quiet (fail)
        go_wp2_with fail
        go_end0
        subst hXX
        exact ⟨rfl, K2.out.then_ (by (repeat' (first | exact bxR _ _ | assumption | refine bxD ?_ | refine bxN ?_ _ | refine bxA ?_ _ | refine bxS ?_ ?_ _ | refine bxT ?_ (by assumption) | refine bxW ?_ (by assumption) | exact Nat.le_refl _ | omega | (simp; done) | (simp; omega))))⟩
    · have e1 : ((M : Int) == (A : Int)) = false := by simp; omega
      have hXX : X = M := by rw [HXE.out, if_neg (fun h => c1 h.1)]
      clear c1
      go_wp2_with fail
      go_quiet (fail)
      go_wp2_with fail
      go_end0
      subst hXX
      exact ⟨rfl, K2.out.then_ (by (repeat' (first | exact bxR _ _ | assumption | refine bxD ?_ | refine bxN ?_ _ | refine bxA ?_ _ | refine bxS ?_ ?_ _ | refine bxT ?_ (by assumption) | refine bxW ?_ (by assumption) | exact Nat.le_refl _ | omega | (simp; done) | (simp; omega))))⟩
abbrev tkS (t : Tok) : ByteArray := ⟨t.toArray⟩
set_option maxHeartbeats 4000000 in
theorem rule_token (S : ByteArray) (g a n o : Nat) (e : Int) (w : World) (h : At w g (rd S a n o e)) (hS : S.size ≤ 9223372036854775807) (ha : a ≤ n) (hn : n ≤ S.size) :
    Calls Tryz.prog 130 #[.pointer (some ⟨g, 0, none⟩)] w fun e' w' => e' = .returned (.string (tkS ((S.data.toList.drop a).take (n - a)))) ∧ Below w.heap.size w w' := by
  have hk : S.extract a n = tkS ((S.data.toList.drop a).take (n - a)) := by
    refine ByteArray.ext (Array.ext' ?_)
    simp [ByteArray.data_extract]
  rw [← hk]
  obtain ⟨x0, x1, x2, x3, x4, f1, f2, f3, f4⟩ := rd_cells h
  have hlt := h.lt
  clear hk
  go_enter Tryz.func130, Tryz.ntmps130
  go_wp2_with fail
  go_quiet (fail)
  go_wp2_with fail
  go_ret
  exact ⟨rfl, by (repeat' (first | exact bxR _ _ | assumption | refine bxD ?_ | refine bxN ?_ _ | refine bxA ?_ _ | refine bxS ?_ ?_ _ | refine bxT ?_ (by assumption) | refine bxW ?_ (by assumption) | exact Nat.le_refl _ | omega | (simp; done) | (simp; omega)))⟩
set_option maxHeartbeats 4000000 in
theorem rule_fail (S : ByteArray) (g a n o : Nat) (c : Int) (w : World) (h : At w g (rd S a n o 0)) :
    Calls Tryz.prog 125 #[.pointer (some ⟨g, 0, none⟩), .int .i64 c] w fun e' w' => e' = .returned (.bool false) ∧ RdK g S a n o c w w' := by
  obtain ⟨x0, x1, x2, x3, x4, f1, f2, f3, f4⟩ := rd_cells h
  have hlt := h.lt
  have H := Lib.hid h; clear h
  go_enter Tryz.func125, Tryz.ntmps125
  go_wp2_with fail
  go_ret
  exact ⟨rfl, rd_code H.out c, (OneKept.refl g w).set 4 _⟩
theorem tkS_inj {x t : Tok} : tkS x = tkS t ↔ x = t := by
  constructor
  · intro h
    have := congrArg (fun b : ByteArray => b.data.toList) h
    simpa using this
  · rintro rfl; rfl
theorem tkS_len (t : Tok) : (tkS t).size = t.length := by show t.toArray.size = _; simp
def RdAt (w : World) (g : Nat) (S : ByteArray) (l : List Tok) (o : Nat) : Prop := ∃ a n, (Pos S.data.toList a n l ∧ ∀ t ∈ l, okT t) ∧ At w g (rd S a n o 0)
def BadAt (w : World) (g : Nat) (c : Int) : Prop := ∃ (S : ByteArray) (a n o : Int), At w g (.cells #[.string S, .int .i64 a, .int .i64 n, .int .i64 o, .int .i64 c] 151)
theorem RdAt.then_ {w W : World} {g : Nat} {S : ByteArray} {l : List Tok} {o : Nat} (h : RdAt w g S l o) (k : Below w.heap.size w W) : RdAt W g S l o := by
  obtain ⟨a, n, hp, ha⟩ := h
  exact ⟨a, n, hp, ha.then_ k⟩
theorem RdAt.lt {w : World} {g : Nat} {S : ByteArray} {l : List Tok} {o : Nat} (h : RdAt w g S l o) : g < w.heap.size := by
  obtain ⟨a, n, hp, ha⟩ := h
  exact ha.lt
theorem BadAt.then_ {w W : World} {g : Nat} {c : Int} (h : BadAt w g c) (k : Below w.heap.size w W) : BadAt W g c := by
  obtain ⟨S, a, n, o, ha⟩ := h
  exact ⟨S, a, n, o, ha.then_ k⟩
theorem RdAt.hd_len {w : World} {g : Nat} {S : ByteArray} {l : List Tok} {o : Nat} (h : RdAt w g S l o) : (hd l).length ≤ S.size := by
  obtain ⟨a, n, hp, ha⟩ := h
  rw [hp.1.2.2.1, List.length_take, List.length_drop]
  have := str_len S
  omega
def Went (g : Nat) (S : ByteArray) (l : List Tok) (o : Nat) (w W : World) : Prop := RdAt W g S l o ∧ OneKept g w W
def Failed (g : Nat) (c : Int) (w W : World) : Prop := BadAt W g c ∧ OneKept g w W
theorem Went.then_ {g : Nat} {S : ByteArray} {l : List Tok} {o : Nat} {w W W' : World} (h : Went g S l o w W) (k : Below W.heap.size W W') : Went g S l o w W' := ⟨h.1.then_ k, h.2.then_ k⟩
theorem Went.trans {g : Nat} {S S' : ByteArray} {l l' : List Tok} {o o' : Nat} {w W W' : World} (h : Went g S l o w W) (k : Went g S' l' o' W W') : Went g S' l' o' w W' := ⟨k.1, h.2.trans k.2⟩
theorem Went.failed {g : Nat} {S : ByteArray} {l : List Tok} {o : Nat} {c : Int} {w W W' : World} (h : Went g S l o w W) (k : Failed g c W W') : Failed g c w W' := ⟨k.1, h.2.trans k.2⟩
theorem Failed.then_ {g : Nat} {c : Int} {w W W' : World} (h : Failed g c w W) (k : Below W.heap.size W W') : Failed g c w W' := ⟨h.1.then_ k, h.2.then_ k⟩
theorem Went.refl {g : Nat} {S : ByteArray} {l : List Tok} {o : Nat} {w : World} (h : RdAt w g S l o) : Went g S l o w w := ⟨h, OneKept.refl g w⟩
theorem rd_scan {S : ByteArray} {g o : Nat} {l : List Tok} {w : World} (h : RdAt w g S l o) (hS : S.size ≤ 9223372036854775807) :
    Calls Tryz.prog 123 #[.pointer (some ⟨g, 0, none⟩)] w fun e w' => e = .returned (.tuple #[]) ∧ Went g S l.tail o w w' := by
  obtain ⟨a, n, ⟨hp, hok⟩, ha⟩ := h
  have hn : n ≤ S.size := by rw [← str_len S]; exact hp.2.1
  refine (rule_scan S g a n o w ha hS hn).mono ?_
  rintro e w' ⟨rfl, k1, k2⟩
  exact ⟨rfl, ⟨_, _, ⟨by rw [hp.2.2.2.1]; exact scan_pos _ _ hp.2.1, fun t ht => hok t (List.mem_of_mem_tail ht)⟩, k1⟩, k2⟩
theorem rd_scan0 {S : ByteArray} {g o : Nat} {w : World} (h : At w g (rd S 0 0 o 0)) (hS : S.size ≤ 9223372036854775807) :
    Calls Tryz.prog 123 #[.pointer (some ⟨g, 0, none⟩)] w fun e w' => e = .returned (.tuple #[]) ∧ Went g S (toks S.data.toList) o w w' := by
  refine (rule_scan S g 0 0 o w h hS (by omega)).mono ?_
  rintro e w' ⟨rfl, k1, k2⟩
  exact ⟨rfl, ⟨_, _, ⟨by have := scan_pos S.data.toList 0 (by omega); simpa using this, toks_ok _ _ (Nat.le_refl _)⟩, k1⟩, k2⟩
theorem rd_token {S : ByteArray} {g o : Nat} {l : List Tok} {w : World} (h : RdAt w g S l o) (hS : S.size ≤ 9223372036854775807) :
    Calls Tryz.prog 130 #[.pointer (some ⟨g, 0, none⟩)] w fun e w' => e = .returned (.string (tkS (hd l))) ∧ Below w.heap.size w w' := by
  obtain ⟨a, n, ⟨hp, _⟩, ha⟩ := h
  rw [hp.2.2.1]
  exact rule_token S g a n o 0 w ha hS hp.1 (by rw [← str_len S]; exact hp.2.1)
theorem rd_fail {S : ByteArray} {g o : Nat} {l : List Tok} {w : World} (c : Int) (h : RdAt w g S l o) :
    Calls Tryz.prog 125 #[.pointer (some ⟨g, 0, none⟩), .int .i64 c] w fun e w' => e = .returned (.bool false) ∧ Failed g c w w' := by
  obtain ⟨a, n, hp, ha⟩ := h
  refine (rule_fail S g a n o c w ha).mono ?_
  rintro e w' ⟨rfl, k1, k2⟩
  exact ⟨rfl, ⟨_, _, _, _, k1⟩, k2⟩
set_option maxHeartbeats 4000000 in
theorem rd_take {S : ByteArray} {g o : Nat} {l : List Tok} {w : World} (t : Tok) (h : RdAt w g S l o) (hS : S.size ≤ 9223372036854775807) :
    Calls Tryz.prog 124 #[.pointer (some ⟨g, 0, none⟩), .string (tkS t)] w fun e w' => e = .returned (.bool (decide (hd l = t))) ∧ Went g S (if hd l = t then l.tail else l) o w w' := by
  have CT := Lib.hid (rd_token h hS)
  have H := Lib.hid h; clear h
  by_cases ht : hd l = t
  · rw [decide_eq_true ht, if_pos ht]
    rw [ht] at CT
    obtain ⟨T, hT⟩ : ∃ T, T = tkS t := ⟨_, rfl⟩
    rw [← hT] at CT ⊢
    clear ht hT
    go_enter Tryz.func124, Tryz.ntmps124
    go_wp2_with (go_at_call 130; refine (CT.out).mono ?_; rintro e w1 ⟨rfl, hb⟩)
    have CS := Lib.hid (rd_scan (H.out.then_ hb) hS)
    refine CS.out.mono ?_
    rintro e w2 ⟨rfl, hw⟩
    have HW := Lib.hid hw; clear hw
    go_wp2_with fail
    go_ret
    exact ⟨rfl, HW.out.1, (OneKept.of_below hb).trans HW.out.2⟩
  · rw [decide_eq_false ht, if_neg ht]
    obtain ⟨T, hT⟩ : ∃ T, T = tkS t := ⟨_, rfl⟩
    obtain ⟨X, hX⟩ : ∃ X, X = tkS (hd l) := ⟨_, rfl⟩
    have hne : X ≠ T := by rw [hT, hX]; exact fun e => ht (tkS_inj.1 e)
    rw [← hT]
    rw [← hX] at CT
    have e1 : (X.toList == T.toList) = false := by
      rw [str_list, str_list]
      have : X.data.toList ≠ T.data.toList := fun e => hne (by rw [← str_eta X, e, str_eta])
      simpa using this
    have e2 : X.toList ≠ T.toList := by simpa using e1
    clear ht hT hX hne
    go_enter Tryz.func124, Tryz.ntmps124
    go_wp2_with (go_at_call 130; refine (CT.out).mono ?_; rintro e w1 ⟨rfl, hb⟩)
    go_ret
    exact ⟨rfl, H.out.then_ hb, OneKept.of_below hb⟩
end Go.Proofs.YtdmkghgachapaabGreatDoor
