import Derived.Test.YtlpbaljoanfogaaGreatDoorEraS
import Derived.Test.YtlpbaljoanfogaaGreatDoorMgD
set_option linter.unusedSimpArgs false
namespace Go.Proofs.YtlpbaljoanfogaaGreatDoor
set_option linter.unusedVariables false
set_option maxRecDepth 100000
open Go.RowKit Go.ChangeShapes Go.WideShapes Go.Shelf
theorem from_bothI {s : ByteArray} {f : Int} {C : Nat} {ms : List Mon} {ls : List Int} (hs : s.size ≤ 9223372036854775807) (q : calErr s f (C : Int) ms ls = 0) (x : Int) : ∃ a b d ee : Int, (ee = 0 ∨ ee = 3) ∧ (ee = 0 → -10000 ≤ a ∧ a ≤ 10000 ∧ InYear ms ls f C a x) ∧
    (∀ (w : World) (a1 a2 : Option Addr) (n1 c1 n2 c2 : Nat), n1 ≤ c1 → CalAt w a1 a2 n1 n2 ms ls → Calls Tryz.prog 29 #[.agg #[.string s, .int .i64 f, .int .i64 (C : Int), .slice a1 n1 c1, .slice a2 n2 c2], .int .i64 x] w fun e w' => e = .returned (.tuple #[.agg #[.int .i64 a, .int .i64 b, .int .i64 d], .int .i64 ee]) ∧ Below w.heap.size w w') ∧
    (∀ (w : World) (g : Nat) (a1 a2 : Option Addr) (n1 c1 n2 c2 : Nat), MarksAt w g C ls → CalAt w a1 a2 n1 n2 ms ls → Calls Tryz.prog 15 #[.agg #[.string s, .int .i64 f, .int .i64 (C : Int), .slice a1 n1 c1, .slice a2 n2 c2, .slice (some ⟨g, 0, none⟩) C C, .int .i64 (shortOf ms), .int .i64 (longOf ms), .int .i64 (daysTo (shortOf ms) (longOf ms) ls (C : Int))], .int .i64 x] w fun e w' => e = .returned (.tuple #[.agg #[.int .i64 a, .int .i64 b, .int .i64 d], .int .i64 ee]) ∧ Below w.heap.size w w') := by
  have ok := calOk_of q
  rcases inB_cases (-4000000) 4000000 x with ⟨hx, xx1, xx2⟩ | ⟨hx, hx'⟩
  case inr =>
    exact ⟨0, 0, 0, 3, .inr rfl, (fun h => by omega), fun w a1 a2 n1 c1 n2 c2 k1 h => arith_FromDay_ok w s f C a1 a2 n1 c1 n2 c2 ms ls x 0 0 0 3 hs k1 h q (fun W hW => arith_fromDay_out W s f C a1 a2 n1 c1 n2 c2 x hx),
      fun w g a1 a2 n1 c1 n2 c2 hm h => years_FromDay_out w s f C a1 a2 n1 c1 n2 c2 ms ls g x hx⟩
  obtain ⟨y, hin⟩ := year_exists ok x
  rcases inB_cases (-10000) 10000 y with ⟨hy, y1, y2⟩ | ⟨hy, hy'⟩
  · obtain ⟨⟨k, r'⟩, hk⟩ : ∃ kr, findM (flag ls (placeOf C y)) ms (x - nyOf (shortOf ms) (longOf ms) f C ls y) 0 = kr := ⟨_, rfl⟩
    exact ⟨y, (k : Int) + 1, r' + 1, 0, .inl rfl, (fun _ => ⟨y1, y2, hin⟩), fun w a1 a2 n1 c1 n2 c2 k1 h => arith_FromDay_ok w s f C a1 a2 n1 c1 n2 c2 ms ls x y ((k : Int) + 1) (r' + 1) 0 hs k1 h q (fun W hW => arith_fromDay_yes W s f C a1 a2 n1 c1 n2 c2 ms ls x (y + 10002).toNat y (place_of_year ok hin y1 y2) (by omega) y1 y2 ok xx1 xx2 (h.then_ hW) k r' hk hin),
      fun w g a1 a2 n1 c1 n2 c2 hm h => years_FromDay_yes w s f C a1 a2 n1 c1 n2 c2 ms ls g x y ok xx1 xx2 hm h hin y1 y2 k r' hk⟩
  · obtain ⟨r, hr⟩ := place_exists ms ls f C x
    have hyr : inB (-10000) 10000 (-10001 + (r : Int) - 1) = false := by
      rcases inB_cases (-10000) 10000 (-10001 + (r : Int) - 1) with ⟨_, u1, u2⟩ | ⟨u, _⟩
      · have := (year_of_place hr u1 u2).unique ok hin
        omega
      · exact u
    exact ⟨0, 0, 0, 3, .inr rfl, (fun h => by omega), fun w a1 a2 n1 c1 n2 c2 k1 h => arith_FromDay_ok w s f C a1 a2 n1 c1 n2 c2 ms ls x 0 0 0 3 hs k1 h q (fun W hW => arith_fromDay_no W s f C a1 a2 n1 c1 n2 c2 ms ls x r hr hyr ok xx1 xx2 (h.then_ hW)),
      fun w g a1 a2 n1 c1 n2 c2 hm h => years_FromDay_no w s f C a1 a2 n1 c1 n2 c2 ms ls g x y ok xx1 xx2 hm h hin hy⟩
theorem from_in {row : List UInt8} (hrow : row ∈ rowsL) (x : Int) : ∃ a b d ee, (ee = 0 ∨ ee = 3) ∧ (ee = 0 → -10000 ≤ a ∧ a ≤ 10000 ∧ InYear (msL row) (lsL row) (ruleL row).ep (calN row : Int) a x) ∧ FromC row x a b d ee ∧ FromY row x a b d ee := from_bothI (tkS_le hrow) (row_cal hrow) x
def modA (a n : Int) : Int := (a.tmod n + n).tmod n
theorem modA_in (a n : Int) (h : 0 < n) : 0 ≤ modA a n ∧ modA a n < n := by
  unfold modA
  have h1 := Int.tmod_lt_of_pos a h
  have h2 : -n < a.tmod n := by
    rcases Int.le_total 0 a with ha | ha
    · have := Int.tmod_nonneg n ha; omega
    · have h3 := Int.tmod_lt_of_pos (-a) h
      rw [Int.neg_tmod] at h3
      omega
  rw [Int.tmod_eq_emod_of_nonneg (by omega)]
  exact ⟨Int.emod_nonneg _ (by omega), Int.emod_lt_of_pos _ h⟩
theorem tmod_in64 (a n : Int) (h : 0 < n) (hn : n ≤ 1000000) : -1000000 ≤ a.tmod n ∧ a.tmod n ≤ 1000000 := by
  have h1 := Int.tmod_lt_of_pos a h
  rcases Int.le_total 0 a with ha | ha
  · have := Int.tmod_nonneg n ha; omega
  · have h3 := Int.tmod_lt_of_pos (-a) h
    rw [Int.neg_tmod] at h3
    omega
set_option maxHeartbeats 1000000 in
theorem top_aMod (a n : Int) (w : World) (h : 0 < n) (hn : n ≤ 1000000) : Calls Tryz.prog 48 #[.int .i64 a, .int .i64 n] w fun e w' => e = .returned (.int .i64 (modA a n)) ∧ w = w' := by
  obtain ⟨t1, t2⟩ := tmod_in64 a n h hn
  obtain ⟨m1, m2⟩ := modA_in a n h
  have hz : (n == 0) = false := by rw [beq_eq_false_iff_ne]; omega
  have hz' : ¬ n = 0 := by omega
  have hw1 : IntKind.i64.wrap (a.tmod n) = a.tmod n := IntWalk.i64_in _ (by omega)
  have hw2 : IntKind.i64.wrap (a.tmod n + n) = a.tmod n + n := IntWalk.i64_in _ (by omega)
  have hw3 : IntKind.i64.wrap ((a.tmod n + n).tmod n) = (a.tmod n + n).tmod n := IntWalk.i64_in _ (by unfold modA at m1 m2; omega)
  have he : modA a n = (a.tmod n + n).tmod n := rfl
  have HE := Lib.hid he; clear he m1 m2 t1 t2
  go_enter Tryz.func48, Tryz.ntmps48
  go_wp2_with fail
  go_ret
  exact ⟨ret_int (by rw [HE.out]), rfl⟩
set_option maxHeartbeats 1000000 in
theorem top_aCut (x low n : Int) (w : World) (h : 0 < n) (hn : n ≤ 1000000) (l1 : -1000000 ≤ low) (l2 : low ≤ 1000000) : Calls Tryz.prog 26 #[.int .i64 x, .int .i64 low, .int .i64 n] w fun e w' => e = .returned (.int .i64 (low + modA x n)) ∧ w = w' := by
  obtain ⟨m1, m2⟩ := modA_in x n h
  have CM := Lib.hid (fun W => top_aMod x n W h hn)
  generalize modA x n = M at *
  go_enter Tryz.func26, Tryz.ntmps26
  go_wp2_with fail
  refine (CM.out _).mono ?_
  rintro e w' ⟨rfl, rfl⟩
  have hw : IntKind.i64.wrap (low + M) = low + M := IntWalk.i64_in _ (by omega)
  go_wp2_with fail
  go_ret
  exact ⟨ret_int rfl, rfl⟩
def nameK (k : Int) : List UInt8 := namesL.getD (modA k 40).toNat []
theorem names_row : ∀ i, i < 40 → (rowOf (namesL.getD i [])).isSome = true := by decide +kernel
theorem nameK_row (k : Int) : ∃ row, rowOf (nameK k) = some row := by
  have h := modA_in k 40 (by omega)
  have := names_row (modA k 40).toNat (by omega)
  exact Option.isSome_iff_exists.1 this
theorem namesL_len : namesL.length = 40 := by decide +kernel
set_option maxHeartbeats 2000000 in
theorem top_aName (k : Int) (w : World) : Calls Tryz.prog 27 #[.int .i64 k] w fun e w' => e = .returned (.string ⟨(nameK k).toArray⟩) ∧ Below w.heap.size w w' := by
  obtain ⟨m1, m2⟩ := modA_in k 40 (by omega)
  have CM := Lib.hid (fun W => top_aMod k 40 W (by omega) (by omega))
  obtain ⟨NM, hNM⟩ : ∃ q, q = nameK k := ⟨_, rfl⟩
  rw [← hNM]
  unfold nameK at hNM
  obtain ⟨i, hi⟩ : ∃ i : Nat, modA k 40 = (i : Int) := ⟨(modA k 40).toNat, by omega⟩
  rw [hi] at m2 CM hNM
  have hi40 : i < 40 := by omega
  have hx : namesL[i]? = some NM := by
    rw [hNM, Int.toNat_natCast, List.getD_eq_getElem?_getD, List.getElem?_eq_getElem (by rw [namesL_len]; exact hi40)]; rfl
  have HX := Lib.hid hx
  have hi0 : (0 : Int) ≤ (i : Int) := by omega
  have hi4 : (i : Int) < 40 := by omega
  clear hx hNM hi m1 m2
  go_enter Tryz.func27, Tryz.ntmps27
  go_wp2_with fail
  refine (cat_Names w).mono ?_
  rintro e w1 ⟨v, rfl, hown, hb⟩
  obtain ⟨g, c, rfl, hc, hg, hcells⟩ := own_strs hown namesL_len (by omega)
  have hc1 := hcells i NM HX.out
  rw [Nat.zero_add] at hc1
  have B1 := Lib.hid hb
  clear hown hcells hb
  go_wp2_with (go_at_call 48; refine (CM.out _).mono ?_; rintro e w2 ⟨rfl, rfl⟩)
  go_ret
  exact ⟨by simp, B1.out⟩
structure SaidAt (xs : List (ByteArray × Int)) (row : List UInt8) (mode x : Int) (n k : Nat) (s : ByteArray) (m y y' f : Int) : Prop where
  pick : PickE xs x n (k : Int)
  at_ : xs[k]? = some (s, f)
  yb : -10000 ≤ y ∧ y ≤ 10000
  yb' : -10000 ≤ y' ∧ y' ≤ 10000
  inY : InYear (msL row) (lsL row) (ruleL row).ep (calN row : Int) y x
  inY' : InYear (msL row) (lsL row) (ruleL row).ep (calN row : Int) y' f
  eq : m = y - y' + moreE mode
  fc : ∃ mo d, FromC row x y mo d 0
theorem say_any (w : World) (mx : Int) (hmx : w.cell? ⟨0, 0, none⟩ = some (.int .i64 mx)) (hlv : Lvl w) (hsg : Sgn w) (a : Option Addr) (n c : Nat) (xs : List (ByteArray × Int)) (h : Reigns w w.heap.size a n xs) (nl : List UInt8) (mode x : Int) (row : List UInt8) (hro : rowOf nl = some row) :
    ∃ (s : ByteArray) (m E : Int), (∀ W, Below w.heap.size w W → Calls Tryz.prog 22 #[.slice a n c, .string ⟨nl.toArray⟩, .int .i64 mode, .int .i64 x] W fun e w' => e = .returned (sayV s m E) ∧ Below W.heap.size W w') ∧
      ((E ≠ 0 ∧ (eraErr xs nl mode = 0 → -4000000 ≤ x → x ≤ 4000000 → (∃ k : Nat, PickE xs x n (k : Int)) → E = 3)) ∨
       (E = 0 ∧ eraErr xs nl mode = 0 ∧ -4000000 ≤ x ∧ x ≤ 4000000 ∧ ∃ (k : Nat) (y y' f : Int), SaidAt xs row mode x n k s m y y' f)) := by
  have hgm := World.block_lt_of_cell? _ _ hmx
  have MX : ∀ W, Below w.heap.size w W → W.cell? ⟨0, 0, none⟩ = some (.int .i64 mx) := fun W hW => (hW.cell (p := ⟨0, 0, none⟩) hgm).trans hmx
  have RA : ∀ W, Below w.heap.size w W → Reigns W W.heap.size a n xs := fun W hW => (h.below hW (Nat.le_refl _)).more hW.size
  have hrow : row ∈ rowsL := List.mem_of_find?_eq_some hro
  by_cases hE : eraErr xs nl mode = 0
  case neg => exact ⟨⟨#[]⟩, 0, eraErr xs nl mode, fun W hW => era_Say_bad W mx (MX W hW) (hlv.below hW) (hsg.below hW) a n c xs (RA W hW) nl mode x _ (.inl ⟨rfl, hE⟩), .inl ⟨hE, fun h0 => absurd h0 hE⟩⟩
  rcases inB_cases (-4000000) 4000000 x with ⟨hd, x1, x2⟩ | ⟨hd, hd'⟩
  case inr => exact ⟨⟨#[]⟩, 0, 3, fun W hW => era_Say_bad W mx (MX W hW) (hlv.below hW) (hsg.below hW) a n c xs (RA W hW) nl mode x _ (.inr (.inl ⟨hE, hd, rfl⟩)), .inl ⟨by omega, fun _ _ _ _ => rfl⟩⟩
  obtain ⟨kk, hpk⟩ := PickE.exists xs x xs.length (Nat.le_refl _)
  have hpk0 := hpk
  rw [h.1] at hpk
  rcases (show kk = -1 ∨ ∃ k : Nat, kk = k ∧ k < n from by
    rcases hpk with ⟨hk, _⟩ | ⟨k, hk, hkn, _⟩
    · exact .inl hk
    · exact .inr ⟨k, hk, hkn⟩) with rfl | ⟨k, rfl, hkn⟩
  · refine ⟨⟨#[]⟩, 0, 6, fun W hW => era_Say_bad W mx (MX W hW) (hlv.below hW) (hsg.below hW) a n c xs (RA W hW) nl mode x _ (.inr (.inr ⟨hE, hd, hpk, rfl⟩)), .inl ⟨by omega, fun _ _ _ ⟨k, hk⟩ => ?_⟩⟩
    rw [← h.1] at hk
    have := PickE.unique hpk0 hk
    omega
  have hx := List.getElem?_eq_getElem (show k < xs.length by rw [h.1]; exact hkn)
  obtain ⟨⟨s', f⟩, hsf⟩ : ∃ p, p = xs[k]'(by rw [h.1]; exact hkn) := ⟨_, rfl⟩
  rw [← hsf] at hx
  obtain ⟨y, mo, d, ee, z1, b1, f1, _⟩ := from_in hrow x
  obtain ⟨y', mo', d', ee', z1', b1', f1', _⟩ := from_in hrow f
  have hcall := fun W hW => era_Say_ok W mx (MX W hW) (hlv.below hW) (hsg.below hW) a n c xs (RA W hW) nl mode x hE hd k hpk s' f hx row hro y mo d ee y' mo' d' ee' f1 f1' (fun h => ⟨(b1 h).1, (b1 h).2.1⟩) (fun h => ⟨(b1' h).1, (b1' h).2.1⟩)
  by_cases h1 : ee = 0
  case neg =>
    refine ⟨⟨#[]⟩, 0, ee, fun W hW => ?_, .inl ⟨h1, fun _ _ _ _ => by omega⟩⟩
    have := hcall W hW
    rw [sayOut, if_pos h1] at this
    exact this
  by_cases h2 : ee' = 0
  case neg =>
    refine ⟨⟨#[]⟩, 0, ee', fun W hW => ?_, .inl ⟨h2, fun _ _ _ _ => by omega⟩⟩
    have := hcall W hW
    rw [sayOut, if_neg (by simpa using h1), if_pos h2] at this
    exact this
  refine ⟨s', y - y' + moreE mode, 0, fun W hW => ?_, .inr ⟨rfl, hE, x1, x2, k, y, y', f, ⟨hpk, hx, ⟨(b1 h1).1, (b1 h1).2.1⟩, ⟨(b1' h2).1, (b1' h2).2.1⟩, (b1 h1).2.2, (b1' h2).2.2, rfl, mo, d, h1 ▸ f1⟩⟩⟩
  have := hcall W hW
  rw [sayOut, if_neg (by simpa using h1), if_neg (by simpa using h2)] at this
  exact this
theorem new_year {row : List UInt8} (hrow : row ∈ rowsL) (y : Int) : ∃ nx ee, (∀ (w : World) (a1 a2 : Option Addr) (n1 c1 n2 c2 : Nat), n1 ≤ c1 → CalAt w a1 a2 n1 n2 (msL row) (lsL row) → Calls Tryz.prog 30 #[calA row a1 a2 n1 c1 n2 c2, .int .i64 y] w fun e w' => e = .returned (.tuple #[.int .i64 nx, .int .i64 ee]) ∧ Below w.heap.size w w') ∧
    (ee = 0 → nx = nyOf (shortOf (msL row)) (longOf (msL row)) (ruleL row).ep (calN row : Int) (lsL row) y ∧ -4000000 ≤ nx ∧ nx ≤ 4000000) := by
  rcases inB_cases (-10000) 10000 y with ⟨hy, y1, y2⟩ | ⟨hy, hy'⟩
  · have h1 := fun (w : World) (a1 a2 : Option Addr) (n1 c1 n2 c2 : Nat) (k1 : n1 ≤ c1) (hc : CalAt w a1 a2 n1 n2 (msL row) (lsL row)) => arith_NewYear_ok w (tkS (ruleL row).nm) (ruleL row).ep (calN row : Int) a1 a2 n1 c1 n2 c2 (msL row) (lsL row) y (tkS_le hrow) k1 hc (row_cal hrow) y1 y2
    unfold dayOr at h1
    rcases inB_cases (-4000000) 4000000 (nyOf (shortOf (msL row)) (longOf (msL row)) (ruleL row).ep (calN row : Int) (lsL row) y) with ⟨hq, q1, q2⟩ | ⟨hq, _⟩
    · rw [if_pos hq] at h1
      exact ⟨_, 0, h1, fun _ => ⟨rfl, q1, q2⟩⟩
    · rw [if_neg (by rw [hq]; simp)] at h1
      exact ⟨0, 3, h1, fun h => by omega⟩
  · have hne : ayErr (calErr (tkS (ruleL row).nm) (ruleL row).ep (calN row : Int) (msL row) (lsL row)) y = 3 := by rw [row_cal hrow, ayErr_range hy]
    refine ⟨0, 3, fun w a1 a2 n1 c1 n2 c2 k1 hc => ?_, fun h => by omega⟩
    have h1 := arith_NewYear_err w (tkS (ruleL row).nm) (ruleL row).ep (calN row : Int) a1 a2 n1 c1 n2 c2 (msL row) (lsL row) y (tkS_le hrow) k1 hc (by rw [hne]; omega)
    rw [hne] at h1
    exact h1
end Go.Proofs.YtlpbaljoanfogaaGreatDoor
