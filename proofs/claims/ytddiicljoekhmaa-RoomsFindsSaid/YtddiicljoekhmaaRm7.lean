/- rooms: Book. -/
import Derived.Test.YtddiicljoekhmaaRm6
import Derived.Test.YtddiicljoekhmaaName
namespace Go.Proofs.Ytddiicljoekhmaa
set_option linter.unusedVariables false
set_option maxRecDepth 100000
open Go.RowKit

/-- How many stand ahead of an instant. -/
def leadF : List Bkg → Int → Nat
  | [], _ => 0
  | x :: r, f => if x.2.1 < f then leadF r f + 1 else 0
theorem leadF_cons (x : Bkg) (r : List Bkg) (f : Int) : leadF (x :: r) f = if x.2.1 < f then leadF r f + 1 else 0 := by rw [leadF.eq_def]
def insF (x : Bkg) (l : List Bkg) : List Bkg := l.take (leadF l x.2.1) ++ [x] ++ l.drop (leadF l x.2.1)
def bookE (r : ByteArray) (f t : Int) (x : ByteArray) (xs1 xs2 : List Bkg) : Int :=
  if roomNo r < 0 then 5 else if isName x = false then 5 else if stretchE f t ≠ 0 then stretchE f t else if (rowOf r xs1 xs2).any (lapB f t) = true then 7 else if 200 ≤ (rowOf r xs1 xs2).length then 2 else 0
def book1 (r : ByteArray) (f t : Int) (x : ByteArray) (xs1 xs2 : List Bkg) : List Bkg := if bookE r f t x xs1 xs2 = 0 ∧ roomNo r = 0 then insF (r, f, t, x) xs1 else xs1
def book2 (r : ByteArray) (f t : Int) (x : ByteArray) (xs1 xs2 : List Bkg) : List Bkg := if bookE r f t x xs1 xs2 = 0 ∧ roomNo r = 1 then insF (r, f, t, x) xs2 else xs2
def BookPost (P gn gb cn base : Nat) (v1 v2 : Value) (xs1 xs2 : List Bkg) (r : ByteArray) (f t : Int) (x : ByteArray) (w : World) (e : Ending) (w' : World) : Prop :=
  e = .returned (.int .i64 (bookE r f t x xs1 xs2)) ∧ After w w' P gn gb cn base v1 v2 (book1 r f t x xs1 xs2) (book2 r f t x xs1 xs2)
set_option maxHeartbeats 8000000 in
theorem rooms_Book (w : World) (P gn gb cn base : Nat) (v1 v2 : Value) (xs1 xs2 : List Bkg) (r : ByteArray) (f t : Int) (x : ByteArray) (h : RoomsSt w P gn gb cn base v1 v2 xs1 xs2) (hok0 : okBkg (r, f, t, x)) (hl1 : xs1.length ≤ 300) (hl2 : xs2.length ≤ 300) :
    Calls Try.prog 13 #[.pointer (some ⟨P, 0, none⟩), .agg #[.string r, .int .i64 f, .int .i64 t, .string x]] w (BookPost P gn gb cn base v1 v2 xs1 xs2 r f t x w) := by
  have HO := Lib.hid (show bookE r f t x xs1 xs2 = if roomNo r < 0 then 5 else if isName x = false then 5 else if stretchE f t ≠ 0 then stretchE f t else if (rowOf r xs1 xs2).any (lapB f t) = true then 7 else if 200 ≤ (rowOf r xs1 xs2).length then 2 else 0 from rfl)
  have H := Lib.hid h
  have hsame : bookE r f t x xs1 xs2 ≠ 0 → ∀ w', Below w.heap.size w w' → After w w' P gn gb cn base v1 v2 (book1 r f t x xs1 xs2) (book2 r f t x xs1 xs2) := fun h0 w' hb => by
    unfold book1 book2
    rw [if_neg (fun hh => h0 hh.1), if_neg (fun hh => h0 hh.1)]
    exact .of_below h hb
  have HS := Lib.hid hsame; clear hsame
  obtain ⟨hrs, hf, ht, hxs⟩ := hok0
  simp only at hrs hf ht hxs
  rcases room_cases r with hr | ⟨k, hk, hr⟩
  · have HF := Lib.hid (HO.out.trans (if_pos (by omega))); clear HO h
    go_enter Try.func13, Try.ntmps13
    go_wp2_with fail
    have hb : Below w.heap.size w (w.alloc (.cells #[.string r, .int .i64 f, .int .i64 t, .string x] 39)) := by (repeat' (first | exact Below.refl _ _ | assumption | refine Below.drew ?_ | refine below_drewN ?_ _ | refine below_new ?_ _ | refine below_set ?_ ?_ _ | refine below_then ?_ (by assumption) | refine below_drawn ?_ (by assumption) | exact Nat.le_refl _ | omega | (simp; done) | (simp; omega)))
    have ax := At.new w (.cells #[.string r, .int .i64 f, .int .i64 t, .string x] 39)
    generalize World.alloc w _ = W1 at hb ax ⊢
    refine (rooms_find _ P gn gb cn v1 v2 r (H.out.then_ hb).rooms).mono ?_; rw [hr]; rintro e w1 ⟨rfl, rfl⟩
    clear hr
    go_wp2_with fail
    go_ret
    exact ⟨by rw [HF.out]; rfl, HS.out (by rw [HF.out]; omega) _ hb⟩
  have hrow : rowOf r xs1 xs2 = rowL k xs1 xs2 := by unfold rowOf; rw [hr]; rfl
  have HF0 := Lib.hid (HO.out.trans (if_neg (by omega)))
  rw [hrow] at HF0
  obtain ⟨a, c, hv, hc, hx⟩ := h.row hk
  have hok : ∀ y ∈ rowL k xs1 xs2, okBkg y := hx.2
  have hlen : (rowL k xs1 xs2).length ≤ 300 := by unfold rowL; split <;> omega
  have hown : w.ownsRow base 39 4 (.slice a (rowL k xs1 xs2).length c) (rowL k xs1 xs2).length ((rowL k xs1 xs2).flatMap encBkg) := by
    rw [← hv]
    match k, hk with
    | 0, _ => exact h.own1
    | 1, _ => exact h.own2
  have hcell : ∀ W, Below w.heap.size w W → W.cell? ⟨gb, k, none⟩ = some (.slice a (rowL k xs1 xs2).length c) := fun W hb => by
    rw [(h.rooms.rows.then_ hb).cell, ← hv]
    match k, hk with
    | 0, _ => rfl
    | 1, _ => rfl
  have HD0 := Lib.hid (show bookE r f t x xs1 xs2 = 0 → book1 r f t x xs1 xs2 = (if k = 0 then (rowL k xs1 xs2).take (leadF (rowL k xs1 xs2) f) ++ [(r, f, t, x)] ++ (rowL k xs1 xs2).drop (leadF (rowL k xs1 xs2) f) else xs1) ∧ book2 r f t x xs1 xs2 = (if k = 0 then xs2 else (rowL k xs1 xs2).take (leadF (rowL k xs1 xs2) f) ++ [(r, f, t, x)] ++ (rowL k xs1 xs2).drop (leadF (rowL k xs1 xs2) f)) from fun h0 => by
    match k, hk with
    | 0, _ =>
      refine ⟨?_, ?_⟩
      · rw [book1, if_pos ⟨h0, hr⟩, if_pos rfl]; rfl
      · rw [book2, if_neg (fun hh => by rw [hr] at hh; omega), if_pos rfl]
    | 1, _ =>
      refine ⟨?_, ?_⟩
      · rw [book1, if_neg (fun hh => by rw [hr] at hh; omega), if_neg (by omega)]
      · rw [book2, if_pos ⟨h0, hr⟩, if_neg (by omega)]; rfl)
  have HX := Lib.hid hx; have HOK := Lib.hid hok; have OWN := Lib.hid hown; have HCE := Lib.hid hcell; have HV := Lib.hid hv
  obtain ⟨l1, l2, l3, l4, l5⟩ := h.low
  clear hx hok hown hcell hv HO h hrow
  generalize hL : rowL k xs1 xs2 = L at *
  clear hL
  have hkI0 : (0 : Int) ≤ (k : Int) := by omega
  have hkI2 : (k : Int) < 2 := by omega
  go_enter Try.func13, Try.ntmps13
  go_wp2_with fail
  have hb : Below w.heap.size w (w.alloc (.cells #[.string r, .int .i64 f, .int .i64 t, .string x] 39)) := by (repeat' (first | exact Below.refl _ _ | assumption | refine Below.drew ?_ | refine below_drewN ?_ _ | refine below_new ?_ _ | refine below_set ?_ ?_ _ | refine below_then ?_ (by assumption) | refine below_drawn ?_ (by assumption) | exact Nat.le_refl _ | omega | (simp; done) | (simp; omega)))
  have ax := At.new w (.cells #[.string r, .int .i64 f, .int .i64 t, .string x] 39)
  generalize World.alloc w _ = W1 at hb ax ⊢
  refine (rooms_find _ P gn gb cn v1 v2 r (H.out.then_ hb).rooms).mono ?_; rw [hr]; rintro e w1 ⟨rfl, rfl⟩
  clear hr
  have e3 : W1.cell? ⟨w.heap.size, 3, none⟩ = some (.string x) := ax.cell 3
  have e1 : W1.cell? ⟨w.heap.size, 1, none⟩ = some (.int .i64 f) := ax.cell 1
  have e2 : W1.cell? ⟨w.heap.size, 2, none⟩ = some (.int .i64 t) := ax.cell 2
  rcases Bool.eq_false_or_eq_true (isName x) with hn | hn
  case inr =>
    have HF := Lib.hid (HF0.out.trans (if_pos hn)); clear HF0
    go_wp2_with (go_at_call 24; refine (rule_IsName _ _ hxs).mono ?_; rw [hn]; rintro e w1 ⟨rfl, rfl⟩)
    go_ret
    exact ⟨by rw [HF.out]; rfl, HS.out (by rw [HF.out]; omega) _ hb⟩
  have HF1 := Lib.hid (HF0.out.trans (if_neg (by rw [hn]; simp))); clear HF0
  go_wp2_with (go_at_call 24; refine (rule_IsName _ _ hxs).mono ?_; rw [hn]; rintro e w1 ⟨rfl, rfl⟩)
  refine (rooms_stretch f t _ hf ht).mono ?_
  clear hn
  by_cases hs : stretchE f t = 0
  case neg =>
    have HF := Lib.hid (HF1.out.trans (if_pos hs)); clear HF1
    have hq : (stretchE f t != 0) = true := by simpa using hs
    have HQ := Lib.hid hs; clear hs
    generalize stretchE f t = E at hq HF HQ ⊢
    rintro e w2 ⟨rfl, hd⟩
    go_wp2_with fail
    go_ret
    exact ⟨by rw [HF.out]; rfl, HS.out (by rw [HF.out]; exact HQ.out) _ (by obtain ⟨nd, rfl⟩ := hd; exact below_drewN hb nd)⟩
  have HF2 := Lib.hid (HF1.out.trans (if_neg (by omega))); clear HF1
  rw [hs]; clear hs
  rintro e w2 ⟨rfl, hd⟩
  have hd2 : Below W1.heap.size W1 w2 := by obtain ⟨nd, rfl⟩ := hd; exact below_drewN (Below.refl _ _) nd
  have hb2 := below_then hb hd2
  have ax2 := ax.then_ hd2
  clear hd hd2 hb ax e1 e2 e3
  have e1 : w2.cell? ⟨w.heap.size, 1, none⟩ = some (.int .i64 f) := ax2.cell 1
  have e2 : w2.cell? ⟨w.heap.size, 2, none⟩ = some (.int .i64 t) := ax2.cell 2
  go_wp2_with fail
  refine (rooms_taken w2 P gn gb cn v1 v2 k a L.length c L f t hk (H.out.then_ hb2).rooms HV.out (HX.out.then_ hb2)).mono ?_
  rcases Bool.eq_false_or_eq_true (L.any (lapB f t)) with hn | hn
  · have HF := Lib.hid (HF2.out.trans (if_pos hn)); clear HF2
    rw [hn]
    rintro e w3 ⟨rfl, hb3⟩
    go_wp2_with fail
    go_ret
    exact ⟨by rw [HF.out]; rfl, HS.out (by rw [HF.out]; omega) _ (below_then hb2 hb3)⟩
  have HF3 := Lib.hid (HF2.out.trans (if_neg (by rw [hn]; simp))); clear HF2
  rw [hn]; clear hn
  rintro e w5 ⟨rfl, hb3⟩
  have hb5 := below_then hb2 hb3
  have ax5 := ax2.then_ hb3
  clear hb2 hb3 ax2 e1 e2
  have x1 : w5.cell? ⟨P, 1, none⟩ = some (.slice (some ⟨gb, 0, none⟩) 2 2) := (H.out.then_ hb5).rooms.at_.cell 1
  have y : w5.cell? ⟨gb, k, none⟩ = some (.slice a L.length c) := HCE.out _ hb5
  by_cases h200 : 200 ≤ L.length
  · have HF := Lib.hid (HF3.out.trans (if_pos h200)); clear HF3
    go_wp2_with fail
    go_ret
    exact ⟨by rw [HF.out]; rfl, HS.out (by rw [HF.out]; omega) _ hb5⟩
  have HF := Lib.hid (HF3.out.trans (if_neg h200)); clear HF3
  have HD := Lib.hid (HD0.out HF.out); clear HD0
  have HB5 := Lib.hid hb5; have AX5 := Lib.hid ax5
  have CH5 := Lib.hid (HX.out.then_ hb5)
  go_wp2_with fail
  clear x1 y hb5 ax5
  go_loopw [8] (fun vi wr => ∃ j : Nat, j ≤ L.length ∧ vi = .int .i64 j ∧ j + leadF (L.drop j) f = leadF L f ∧ Drawn w5 wr) (fun vi _ => L.length - (intOf vi).toNat)
  case atStart => exact ⟨0, by omega, rfl, by simp, Drawn.refl _⟩
  case round =>
    obtain ⟨j, hj, rfl, hld, hd⟩ := hrel
    obtain ⟨W10, rfl⟩ : ∃ W10, W10 = wr := ⟨_, rfl⟩
    have HJ := Lib.hid hj
    have HINS := Lib.hid (show ∀ y ∈ L.take j ++ [(r, f, t, x)] ++ L.drop j, okBkg y from fun y hy => by
      rcases List.mem_append.1 hy with hy | hy
      · rcases List.mem_append.1 hy with hy | hy
        · exact HOK.out y (List.mem_of_mem_take hy)
        · rw [List.mem_singleton] at hy; subst hy; exact ⟨hrs, hf, ht, hxs⟩
      · exact HOK.out y (List.mem_of_mem_drop hy))
    obtain ⟨ax10, hb10⟩ : At W10 w.heap.size (.cells #[.string r, .int .i64 f, .int .i64 t, .string x] 39) ∧ Below w5.heap.size w5 W10 := by
      obtain ⟨nd, rfl⟩ := hd
      exact ⟨AX5.out.drewN nd, below_drewN (Below.refl _ _) nd⟩
    have HDR := Lib.hid hd
    have e1 : W10.cell? ⟨w.heap.size, 1, none⟩ = some (.int .i64 f) := ax10.cell 1
    clear hd
    by_cases hlt : j < L.length
    · obtain ⟨cb, co, hae, hcb, hcs⟩ := (CH5.out.below hb10 (Nat.le_refl _)).open_ (by omega)
      obtain ⟨r', f', t', x', c0, c1, c2, c3, hxj, _⟩ := hcs j hlt
      have HLD := Lib.hid (show j + (if f' < f then leadF (L.drop (j + 1)) f + 1 else 0) = leadF L f by rw [← hld, drop_row hxj, leadF_cons])
      clear hcs hxj hld c0 c2 c3 ax10 hj
      subst hae
      by_cases hc' : f' < f
      · have HL2 := Lib.hid (show (j + 1) + leadF (L.drop (j + 1)) f = leadF L f by have := HLD.out; rw [if_pos hc'] at this; omega)
        go_wp2_with fail
        go_quiet (fail)
        go_wp2_with fail
        go_roundw
        case rel => exact ⟨j + 1, by omega, by go_num, HL2.out, by first | exact HDR.out.drewN _ | exact HDR.out⟩
        case measure => first | (simp [intOf]; done) | (simp [intOf]; omega)
      · have HP := Lib.hid (show j = leadF L f by have := HLD.out; rw [if_neg hc'] at this; omega)
        go_wp2_with fail
        go_quiet (fail)
        go_upto_region 15 with fail
        clear hb10 e1 c1
        generalize ha : some (⟨cb, co, none⟩ : Addr) = a at *
        clear ha
        generalize hWq : World.drewN W10 _ = W11
        have hdq : Drawn w5 W11 := by rw [← hWq]; first | exact HDR.out.drewN _ | exact HDR.out
        clear hWq
        have hb11 : Below w5.heap.size w5 W11 := by obtain ⟨nd, rfl⟩ := hdq; exact below_drewN (Below.refl _ _) nd
        have hb12 : Below w.heap.size w W11 := below_then HB5.out hb11
        have ax11 := AX5.out.then_ hb11
        have HB12 := Lib.hid hb12; have AX11 := Lib.hid ax11
        have x1' : W11.cell? ⟨P, 1, none⟩ = some (.slice (some ⟨gb, 0, none⟩) 2 2) := (H.out.then_ hb12).rooms.at_.cell 1
        have x1 : W11.drew.cell? ⟨P, 1, none⟩ = some (.slice (some ⟨gb, 0, none⟩) 2 2) := x1'
        have fr : W11.drew.frozen? ⟨gb, k, none⟩ = false := (H.out.then_ hb12).rooms.rows.frozen k
        have yk : W11.drew.cell? ⟨gb, k, none⟩ = some (.slice a L.length c) := HCE.out _ hb12.drew
        have q0 : W11.drew.cell? ⟨w.heap.size, 0, none⟩ = some (.string r) := ax11.cell 0
        have q1 : W11.drew.cell? ⟨w.heap.size, 1, none⟩ = some (.int .i64 f) := ax11.cell 1
        have q2 : W11.drew.cell? ⟨w.heap.size, 2, none⟩ = some (.int .i64 t) := ax11.cell 2
        have q3 : W11.drew.cell? ⟨w.heap.size, 3, none⟩ = some (.string x) := ax11.cell 3
        have own2 := own_then4 OWN.out hb12
        have far2 : ∀ g, Value.ownBlock (.slice a L.length c) = some g → base ≤ g := fun g e => own_far5 own2 e
        have hs12 := hb12.size
        have hP2 : P < W11.heap.size := by omega
        have hB2 : gb < W11.heap.size := by omega
        have hPn : some P ≠ Value.ownBlock (.slice a L.length c) := fun e => by have := far2 P e.symm; omega
        have hBn : some gb ≠ Value.ownBlock (.slice a L.length c) := fun e => by have := far2 gb e.symm; omega
        have hNn := own_fresh own2
        have OWN2 := Lib.hid own2
        clear own2 far2 hdq hb11 hb12 ax11
        go_region_law
          (first | (rw [if_pos (by rfl)]; go_simp; go_at_call 31; refine (bkg_insert base L.length j W11.heap.size _ _ [.string r, .int .i64 f, .int .i64 t, .string x] (W11.drew.alloc (.cells #[.string r, .int .i64 f, .int .i64 t, .string x] 39)) (OWN2.out.alloc _) (by simp; omega) HJ.out (by omega) (At.new W11.drew _) (fun e => hNn e.symm) rfl (by simp [Value.oneCell']) (fun u hu => bkg_one hu)).mono ?_; rintro e w4 ⟨v', rfl, own4, hg4, hv4⟩; have z1 : w4.cell? ⟨P, 1, none⟩ = some (.slice (some ⟨gb, 0, none⟩) 2 2) := (hg4.cell_far ⟨P, 1, none⟩ (by simp; omega) hPn).trans (cell_allocF x1); have z2 : w4.cell? ⟨gb, k, none⟩ = some (.slice a L.length c) := (hg4.cell_far ⟨gb, k, none⟩ (by simp; omega) hBn).trans (cell_allocF yk); have z3 : w4.frozen? ⟨gb, k, none⟩ = false := (hg4.frozen_far ⟨gb, k, none⟩ (by simp; omega) hBn).trans (((H.out.then_ HB12.out).rooms.rows.drew.alloc _).frozen k); (rw [bkg_take, bkg_drop, show ([.string r, .int .i64 f, .int .i64 t, .string x] : List Value) = [((r, f, t, x) : Bkg)].flatMap encBkg by simp [encBkg], ← List.flatMap_append, ← List.flatMap_append] at own4); (obtain ⟨a4, c4, rfl, _, _, _⟩ := own_bkgs own4 (by rw [List.length_append, List.length_append, List.length_take, List.length_drop]; have := HJ.out; simp; omega) HINS.out)))
        all_goals
          have hl' : (L.take j ++ [(r, f, t, x)] ++ L.drop j).length = L.length + 1 := by rw [List.length_append, List.length_append, List.length_take, List.length_drop]; have := HJ.out; simp; omega
          have HA := Lib.hid (After.step (w2 := W11.drew.alloc (.cells #[.string r, .int .i64 f, .int .i64 t, .string x] 39)) H.out (below_new HB12.out.drew _) k hk _ (L.take j ++ [(r, f, t, x)] ++ L.drop j) (by rw [HV.out]; exact hg4) (by rw [hl']; exact own4) (fun g e => by rw [HV.out]; exact hv4 g e) HINS.out)
          clear own4 hg4 hv4 z1 z2 z3
          go_wp2_with fail
          go_ret
          exact ⟨by rw [HF.out]; rfl, by rw [HD.out.1, HD.out.2, ← HP.out]; exact HA.out⟩
    · have HP := Lib.hid (show j = leadF L f by rw [← hld, List.drop_eq_nil_of_le (by omega)]; rfl)
      clear hld ax10 hj
      go_wp2_with fail
      go_quiet (fail)
      go_upto_region 15 with fail
      clear hb10 e1
      generalize hWq : World.drewN W10 _ = W11
      have hdq : Drawn w5 W11 := by rw [← hWq]; first | exact HDR.out.drewN _ | exact HDR.out
      clear hWq
      have hb11 : Below w5.heap.size w5 W11 := by obtain ⟨nd, rfl⟩ := hdq; exact below_drewN (Below.refl _ _) nd
      have hb12 : Below w.heap.size w W11 := below_then HB5.out hb11
      have ax11 := AX5.out.then_ hb11
      have HB12 := Lib.hid hb12; have AX11 := Lib.hid ax11
      have x1' : W11.cell? ⟨P, 1, none⟩ = some (.slice (some ⟨gb, 0, none⟩) 2 2) := (H.out.then_ hb12).rooms.at_.cell 1
      have x1 : W11.drew.cell? ⟨P, 1, none⟩ = some (.slice (some ⟨gb, 0, none⟩) 2 2) := x1'
      have fr : W11.drew.frozen? ⟨gb, k, none⟩ = false := (H.out.then_ hb12).rooms.rows.frozen k
      have yk : W11.drew.cell? ⟨gb, k, none⟩ = some (.slice a L.length c) := HCE.out _ hb12.drew
      have q0 : W11.drew.cell? ⟨w.heap.size, 0, none⟩ = some (.string r) := ax11.cell 0
      have q1 : W11.drew.cell? ⟨w.heap.size, 1, none⟩ = some (.int .i64 f) := ax11.cell 1
      have q2 : W11.drew.cell? ⟨w.heap.size, 2, none⟩ = some (.int .i64 t) := ax11.cell 2
      have q3 : W11.drew.cell? ⟨w.heap.size, 3, none⟩ = some (.string x) := ax11.cell 3
      have own2 := own_then4 OWN.out hb12
      have far2 : ∀ g, Value.ownBlock (.slice a L.length c) = some g → base ≤ g := fun g e => own_far5 own2 e
      have hs12 := hb12.size
      have hP2 : P < W11.heap.size := by omega
      have hB2 : gb < W11.heap.size := by omega
      have hPn : some P ≠ Value.ownBlock (.slice a L.length c) := fun e => by have := far2 P e.symm; omega
      have hBn : some gb ≠ Value.ownBlock (.slice a L.length c) := fun e => by have := far2 gb e.symm; omega
      have hNn := own_fresh own2
      have OWN2 := Lib.hid own2
      clear own2 far2 hdq hb11 hb12 ax11
      go_region_law
        (first | (rw [if_pos (by rfl)]; go_simp; go_at_call 31; refine (bkg_insert base L.length j W11.heap.size _ _ [.string r, .int .i64 f, .int .i64 t, .string x] (W11.drew.alloc (.cells #[.string r, .int .i64 f, .int .i64 t, .string x] 39)) (OWN2.out.alloc _) (by simp; omega) HJ.out (by omega) (At.new W11.drew _) (fun e => hNn e.symm) rfl (by simp [Value.oneCell']) (fun u hu => bkg_one hu)).mono ?_; rintro e w4 ⟨v', rfl, own4, hg4, hv4⟩; have z1 : w4.cell? ⟨P, 1, none⟩ = some (.slice (some ⟨gb, 0, none⟩) 2 2) := (hg4.cell_far ⟨P, 1, none⟩ (by simp; omega) hPn).trans (cell_allocF x1); have z2 : w4.cell? ⟨gb, k, none⟩ = some (.slice a L.length c) := (hg4.cell_far ⟨gb, k, none⟩ (by simp; omega) hBn).trans (cell_allocF yk); have z3 : w4.frozen? ⟨gb, k, none⟩ = false := (hg4.frozen_far ⟨gb, k, none⟩ (by simp; omega) hBn).trans (((H.out.then_ HB12.out).rooms.rows.drew.alloc _).frozen k); (rw [bkg_take, bkg_drop, show ([.string r, .int .i64 f, .int .i64 t, .string x] : List Value) = [((r, f, t, x) : Bkg)].flatMap encBkg by simp [encBkg], ← List.flatMap_append, ← List.flatMap_append] at own4); (obtain ⟨a4, c4, rfl, _, _, _⟩ := own_bkgs own4 (by rw [List.length_append, List.length_append, List.length_take, List.length_drop]; have := HJ.out; simp; omega) HINS.out)))
      all_goals
        have hl' : (L.take j ++ [(r, f, t, x)] ++ L.drop j).length = L.length + 1 := by rw [List.length_append, List.length_append, List.length_take, List.length_drop]; have := HJ.out; simp; omega
        have HA := Lib.hid (After.step (w2 := W11.drew.alloc (.cells #[.string r, .int .i64 f, .int .i64 t, .string x] 39)) H.out (below_new HB12.out.drew _) k hk _ (L.take j ++ [(r, f, t, x)] ++ L.drop j) (by rw [HV.out]; exact hg4) (by rw [hl']; exact own4) (fun g e => by rw [HV.out]; exact hv4 g e) HINS.out)
        clear own4 hg4 hv4 z1 z2 z3
        go_wp2_with fail
        go_ret
        exact ⟨by rw [HF.out]; rfl, by rw [HD.out.1, HD.out.2, ← HP.out]; exact HA.out⟩
end Go.Proofs.Ytddiicljoekhmaa
