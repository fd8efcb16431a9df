/- rooms: Find. -/
import Derived.Test.YtddiicljoekhmaaRmC
namespace Go.Proofs.Ytddiicljoekhmaa
set_option linter.unusedVariables false
set_option linter.unusedSimpArgs false
set_option maxRecDepth 100000
open Go.RowKit

def FindPost (len f t : Int) (xs1 xs2 : List Bkg) (w : World) (e : Ending) (w' : World) : Prop :=
  e = .returned (.tuple #[.string (findO len f t xs1 xs2).1, .int .i64 (findO len f t xs1 xs2).2.1, .int .i64 (findO len f t xs1 xs2).2.2]) ∧ Below w.heap.size w w'
theorem findO_err {len f t : Int} {xs1 xs2 : List Bkg} {k : Int} (h : findE len f t = k) (hk : k ≠ 0) : findO len f t xs1 xs2 = (⟨#[]⟩, 0, k) := by
  unfold findO; rw [h, if_pos hk]
theorem findO_ok {len f t : Int} {xs1 xs2 : List Bkg} (h : findE len f t = 0) : findO len f t xs1 xs2 = if (foldK t len f xs1 xs2 2).1 < 0 then (⟨#[]⟩, 0, 6) else (if (foldK t len f xs1 xs2 2).1 = 0 then one3 else two3, (foldK t len f xs1 xs2 2).2, 0) := by
  unfold findO; rw [h, if_neg (by omega), foldK_pick]
theorem fwdF_bound {len a : Int} {l : List Bkg} (ha : -100000000000000000 ≤ a ∧ a ≤ 100000000000000000) (h : FarB l) : -100000000000000000 ≤ fwdF len a l ∧ fwdF len a l ≤ 100000000000000000 := by
  rcases fwdF_mem len l a with e | ⟨y, h1, h2⟩
  · rw [e]; exact ha
  · rw [h2]; exact h y h1
set_option maxHeartbeats 8000000 in
theorem rooms_Find (w : World) (P gn gb cn base : Nat) (v1 v2 : Value) (xs1 xs2 : List Bkg) (len f t : Int) (hlen : I64 len) (hf : I64 f) (ht : I64 t) (h : RoomsSt w P gn gb cn base v1 v2 xs1 xs2) (far1 : FarB xs1) (far2 : FarB xs2) :
    Calls Try.prog 22 #[.pointer (some ⟨P, 0, none⟩), .int .i64 len, .int .i64 f, .int .i64 t] w (FindPost len f t xs1 xs2 w) := by
  have HE := Lib.hid (show findE len f t = if len < 1 ∨ 86400000 < len then 1 else if (instB f && instB t) = false then 3 else if t < f then 9 else 0 from rfl)
  have f1 := hf.1; have f2 := hf.2; have t1 := ht.1; have t2 := ht.2; have n1 := hlen.1; have n2 := hlen.2
  have CI := Lib.hid (fun (W : World) => line_IsInstant f W f1 f2)
  have CT := Lib.hid (fun (W : World) => line_IsInstant t W t1 t2)
  rcases Int.lt_or_le len 1 with h1 | h1
  · have HF := Lib.hid (findO_err (xs1 := xs1) (xs2 := xs2) (HE.out.trans (if_pos (.inl h1))) (by decide))
    go_enter Try.func22, Try.ntmps22
    go_wp2_with fail
    go_ret3
    exact ⟨by rw [HF.out]; rfl, Below.refl _ _⟩
  rcases Int.lt_or_le 86400000 len with h2 | h2
  · have HF := Lib.hid (findO_err (xs1 := xs1) (xs2 := xs2) (HE.out.trans (if_pos (.inr h2))) (by decide))
    go_enter Try.func22, Try.ntmps22
    go_wp2_with fail
    go_ret3
    exact ⟨by rw [HF.out]; rfl, Below.refl _ _⟩
  have HE1 := Lib.hid (HE.out.trans (if_neg (by omega))); clear HE
  cases hp : instB f with
  | false =>
    have HF := Lib.hid (findO_err (xs1 := xs1) (xs2 := xs2) (HE1.out.trans (if_pos (by rw [hp]; rfl))) (by decide))
    go_enter Try.func22, Try.ntmps22
    go_wp2_with (go_at_call 37; refine (CI.out _).mono ?_; rw [hp]; rintro e w4 ⟨rfl, hd⟩)
    go_ret3
    exact ⟨by rw [HF.out]; rfl, by obtain ⟨nd, rfl⟩ := hd; exact below_drewN (Below.refl _ _) nd⟩
  | true =>
  cases hq : instB t with
  | false =>
    have HF := Lib.hid (findO_err (xs1 := xs1) (xs2 := xs2) (HE1.out.trans (if_pos (by rw [hp, hq]; rfl))) (by decide))
    go_enter Try.func22, Try.ntmps22
    go_wp2_with (go_at_call 37; refine (CI.out _).mono ?_; rw [hp]; rintro e w4 ⟨rfl, hd⟩)
    refine (CT.out _).mono ?_; rw [hq]; rintro e w5 ⟨rfl, hd2⟩
    go_wp2_with fail
    go_ret3
    exact ⟨by rw [HF.out]; rfl, by obtain ⟨nd, rfl⟩ := hd.trans hd2; exact below_drewN (Below.refl _ _) nd⟩
  | true =>
  have HE2 := Lib.hid (show findE len f t = if t < f then 9 else 0 by rw [HE1.out, hp, hq]; rfl); clear HE1
  rcases Int.lt_or_le t f with h3 | h3
  · have HF := Lib.hid (findO_err (xs1 := xs1) (xs2 := xs2) (HE2.out.trans (if_pos h3)) (by decide))
    go_enter Try.func22, Try.ntmps22
    go_wp2_with (go_at_call 37; refine (CI.out _).mono ?_; rw [hp]; rintro e w4 ⟨rfl, hd⟩)
    refine (CT.out _).mono ?_; rw [hq]; rintro e w5 ⟨rfl, hd2⟩
    go_wp2_with fail
    go_ret3
    exact ⟨by rw [HF.out]; rfl, by obtain ⟨nd, rfl⟩ := hd.trans hd2; exact below_drewN (Below.refl _ _) nd⟩
  have HF := Lib.hid (findO_ok (xs1 := xs1) (xs2 := xs2) (HE2.out.trans (if_neg (by omega)))); clear HE2
  have fb := inst_bound hp
  have HX1 := Lib.hid far1; have HX2 := Lib.hid far2; clear far1 far2
  have HROW := Lib.hid (fun k (hk : k < 2) => h.row hk)
  have HFAR := Lib.hid (show ∀ k, k < 2 → FarB (rowL k xs1 xs2) from fun k hk => by
    match k, hk with
    | 0, _ => exact HX1.out
    | 1, _ => exact HX2.out)
  have H := Lib.hid h
  have HPL := h.rooms.at_.lt; have HGL := h.rooms.rows.lt
  clear h
  go_enter Try.func22, Try.ntmps22
  go_wp2_with (go_at_call 37; refine (CI.out _).mono ?_; rw [hp]; rintro e w4 ⟨rfl, hd⟩)
  refine (CT.out _).mono ?_; rw [hq]; rintro e w5 ⟨rfl, hd2⟩
  have hb5 : Below w.heap.size w w5 := by obtain ⟨nd, rfl⟩ := hd.trans hd2; exact below_drewN (Below.refl _ _) nd
  clear hd hd2 hp hq
  have x1 : w5.cell? ⟨P, 1, none⟩ = some (.slice (some ⟨gb, 0, none⟩) 2 2) := (H.out.then_ hb5).rooms.at_.cell 1
  go_wp2_with fail
  clear x1
  have HB5 := Lib.hid hb5; clear hb5
  go_loopw [11, 12, 13, 14, 15, 17, 43] (fun bv fv _ _ _ _ vi wr => ∃ k : Nat, k ≤ 2 ∧ vi = .int .i64 k ∧ bv = .int .i64 (foldK t len f xs1 xs2 k).1 ∧ fv = .int .i64 (foldK t len f xs1 xs2 k).2 ∧ Below w.heap.size w wr) (fun _ _ _ _ _ _ vi _ => 2 - (intOf vi).toNat)
  case atStart => exact ⟨0, by omega, rfl, rfl, rfl, HB5.out⟩
  case round =>
    obtain ⟨k, hk, rfl, rfl, rfl, hb⟩ := hrel
    have HB := Lib.hid hb; clear hb
    have HBW := Lib.hid (foldK_cases t len f xs1 xs2 k)
    by_cases hlt : k < 2
    · obtain ⟨a, c, hv, hc, hx⟩ := HROW.out k hlt
      have far := HFAR.out k hlt
      have HN := Lib.hid (show foldK t len f xs1 xs2 (k + 1) = nextB t len (foldK t len f xs1 xs2 k) k (fwdF len f (rowL k xs1 xs2)) from rfl)
      generalize hL : rowL k xs1 xs2 = L at *
      clear hL
      have yk : wr.cell? ⟨gb, k, none⟩ = some (.slice a L.length c) := by
        rw [(H.out.then_ HB.out).rooms.rows.cell, ← hv]
        match k, hlt with
        | 0, _ => rfl
        | 1, _ => rfl
      have hm := hx.max
      have HX := Lib.hid (hx.below HB.out (Nat.le_refl _)); have FAR := Lib.hid far
      obtain ⟨BV, hBV⟩ : ∃ BV, BV = (foldK t len f xs1 xs2 k).1 := ⟨_, rfl⟩
      obtain ⟨FV, hFV⟩ : ∃ FV, FV = (foldK t len f xs1 xs2 k).2 := ⟨_, rfl⟩
      rw [← hBV, ← hFV]
      have HBV := Lib.hid hBV; have HFV := Lib.hid hFV
      clear hv hx far hBV hFV
      have hkI0 : (0 : Int) ≤ (k : Int) := by omega
      have hkI2 : (k : Int) < 2 := by omega
      have hgw : gb < wr.heap.size := by have := HB.out.size; omega
      go_wp2_with fail
      clear yk
      go_loopw [15, 17, 51] (fun av _ vj wr2 => ∃ (j : Nat) (A : Int), j ≤ L.length ∧ vj = .int .i64 j ∧ av = .int .i64 A ∧ -100000000000000000 ≤ A ∧ A ≤ 100000000000000000 ∧ fwdF len A (L.drop j) = fwdF len f L ∧ Below wr.heap.size wr wr2) (fun _ _ vj _ => L.length - (intOf vj).toNat)
      case atStart => exact ⟨0, f, by omega, rfl, rfl, fb.1, fb.2, rfl, Below.refl _ _⟩
      case round =>
        obtain ⟨j, A, hj, rfl, rfl, hA1, hA2, hfw, hb2⟩ := hrel
        have HFW := Lib.hid hfw; have HB2 := Lib.hid hb2
        clear hfw
        have hw1 : IntKind.i64.wrap (A + len) = A + len := IntWalk.i64_in _ (by omega)
        by_cases hjl : j < L.length
        · obtain ⟨cb, co, hae, hcb, hcs⟩ := (HX.out.below hb2 HB.out.size).open_ (by omega)
          obtain ⟨r', f', t', x', c0, c1, c2, c3, hxj, _⟩ := hcs j hjl
          subst hae
          have HT := FAR.out _ (List.mem_of_getElem? hxj)
          simp only at HT
          have HW := Lib.hid (show fwdF len (stepF len A (r', f', t', x')) (L.drop (j + 1)) = fwdF len f L by rw [← HFW.out, drop_row hxj, fwdF_cons])
          have HS := Lib.hid (show stepF len A (r', f', t', x') = if f' < A + len ∧ A < t' then t' else A from rfl)
          have HB3 := Lib.hid (below_new HB2.out (.cells #[.string r', .int .i64 f', .int .i64 t', .string x'] 39))
          clear hcs hxj hb2
          by_cases h5 : f' < A + len
          · by_cases h6 : A < t'
            · have HW2 := Lib.hid (show fwdF len t' (L.drop (j + 1)) = fwdF len f L by rw [← HW.out, HS.out, if_pos ⟨h5, h6⟩])
              clear HW HS HFW
              go_wp2_with fail
              go_roundw
              case rel => exact ⟨j + 1, t', by omega, by go_num, rfl, HT.1, HT.2, HW2.out, HB3.out⟩
              case measure => first | (simp [intOf]; done) | (simp [intOf]; omega)
            · have HW2 := Lib.hid (show fwdF len A (L.drop (j + 1)) = fwdF len f L by rw [← HW.out, HS.out, if_neg (fun hh => h6 hh.2)])
              clear HW HS HFW
              go_wp2_with fail
              go_roundw
              case rel => exact ⟨j + 1, A, by omega, by go_num, rfl, hA1, hA2, HW2.out, HB3.out⟩
              case measure => first | (simp [intOf]; done) | (simp [intOf]; omega)
          · have HW2 := Lib.hid (show fwdF len A (L.drop (j + 1)) = fwdF len f L by rw [← HW.out, HS.out, if_neg (fun hh => h5 hh.1)])
            clear HW HS HFW
            go_wp2_with fail
            go_roundw
            case rel => exact ⟨j + 1, A, by omega, by go_num, rfl, hA1, hA2, HW2.out, HB3.out⟩
            case measure => first | (simp [intOf]; done) | (simp [intOf]; omega)
        · have HA := Lib.hid (show A = fwdF len f L by rw [← HFW.out, List.drop_eq_nil_of_le (by omega)]; rfl)
          have HB4 := Lib.hid (below_then HB.out HB2.out)
          have HN2 := Lib.hid (show foldK t len f xs1 xs2 (k + 1) = if A + len ≤ t ∧ (BV < 0 ∨ A < FV) then ((k : Int), A) else (BV, FV) by rw [HN.out, nextB, ← HA.out, ← HBV.out, ← HFV.out, HBV.out, HFV.out])
          clear HN HFW hb2
          have hkw : IntKind.i64.wrap ((k : Int) + 1) = (k : Int) + 1 := IntWalk.i64_in _ (by omega)
          by_cases h5 : A + len ≤ t
          · by_cases h6 : BV < 0
            · have HN3 := Lib.hid (HN2.out.trans (if_pos ⟨h5, .inl h6⟩))
              clear HN2
              go_wp2_with fail
              go_roundw
              case rel => exact ⟨k + 1, by omega, by go_num, by rw [HN3.out], by rw [HN3.out], HB4.out⟩
              case measure => first | (simp [intOf]; done) | (simp [intOf]; omega)
            · by_cases h7 : A < FV
              · have HN3 := Lib.hid (HN2.out.trans (if_pos ⟨h5, .inr h7⟩))
                clear HN2
                go_wp2_with fail
                go_roundw
                case rel => exact ⟨k + 1, by omega, by go_num, by rw [HN3.out], by rw [HN3.out], HB4.out⟩
                case measure => first | (simp [intOf]; done) | (simp [intOf]; omega)
              · have HN3 := Lib.hid (HN2.out.trans (if_neg (fun hh => hh.2.elim h6 h7)))
                clear HN2
                go_wp2_with fail
                go_roundw
                case rel => exact ⟨k + 1, by omega, by go_num, by rw [HN3.out], by rw [HN3.out], HB4.out⟩
                case measure => first | (simp [intOf]; done) | (simp [intOf]; omega)
          · have HN3 := Lib.hid (HN2.out.trans (if_neg (fun hh => h5 hh.1)))
            clear HN2
            go_wp2_with fail
            go_roundw
            case rel => exact ⟨k + 1, by omega, by go_num, by rw [HN3.out], by rw [HN3.out], HB4.out⟩
            case measure => first | (simp [intOf]; done) | (simp [intOf]; omega)
    · obtain rfl : k = 2 := by omega
      obtain ⟨BV, hBV⟩ : ∃ BV, BV = (foldK t len f xs1 xs2 2).1 := ⟨_, rfl⟩
      obtain ⟨FV, hFV⟩ : ∃ FV, FV = (foldK t len f xs1 xs2 2).2 := ⟨_, rfl⟩
      rw [← hBV, ← hFV] at HF ⊢
      rw [← hBV] at HBW
      clear hBV hFV hlt hk
      rcases HBW.out with e | ⟨j, hj2, e⟩
      · subst e
        have HR := Lib.hid (HF.out.trans (if_pos (by omega)))
        clear HF HBW
        go_wp2_with fail
        go_ret3
        exact ⟨by rw [HR.out]; rfl, HB.out⟩
      · have HR := Lib.hid (HF.out.trans (if_neg (by omega)))
        have x0 : wr.cell? ⟨P, 0, none⟩ = some (.slice (some ⟨gn, 0, none⟩) 2 cn) := (H.out.then_ HB.out).rooms.at_.cell 0
        have hP2 : P < wr.heap.size := by have := HB.out.size; omega
        obtain ⟨b9, o9, s9, e9, hb9, hc9, hx9⟩ := txts_at (H.out.then_ HB.out).rooms.names hj2
        obtain ⟨rfl, rfl⟩ : gn = b9 ∧ 0 = o9 := by injection e9 with e9; injection e9 with ea eb; exact ⟨ea, eb⟩
        rw [Nat.zero_add] at hc9
        subst e
        have hjI : ¬ (j : Int) < 0 := by omega
        have hjI0 : (0 : Int) ≤ (j : Int) := by omega
        have hjI2 : (j : Int) < 2 := by omega
        have HS9 := Lib.hid (show (if (j : Int) = 0 then one3 else two3) = s9 by
          match j, hj2, hx9 with
          | 0, _, hx => simpa using hx
          | 1, _, hx => simpa using hx)
        clear HF HBW hx9 e9
        go_wp2_with fail
        go_ret3
        exact ⟨by rw [HR.out, HS9.out]; rfl, HB.out⟩
end Go.Proofs.Ytddiicljoekhmaa
