/- rooms: Drop. -/
import Derived.Test.YtddiicljoekhmaaRm5
import Derived.Deep.RegionLaw
import Derived.Deep.Cut
import Derived.Deep.CutRange
namespace Go.Proofs.Ytddiicljoekhmaa
set_option linter.unusedVariables false
set_option maxRecDepth 100000
open Go.RowKit

def DropPost (P gn gb cn base : Nat) (v1 v2 : Value) (xs1 xs2 : List Bkg) (s : ByteArray) (f : Int) (w : World) (e : Ending) (w' : World) : Prop :=
  e = .returned (.int .i64 (dropE s f xs1 xs2)) ∧ After w w' P gn gb cn base v1 v2 (drop1 s f xs1 xs2) (drop2 s f xs1 xs2)
set_option maxHeartbeats 4000000 in
theorem rooms_Drop (w : World) (P gn gb cn base : Nat) (v1 v2 : Value) (xs1 xs2 : List Bkg) (s : ByteArray) (f : Int) (h : RoomsSt w P gn gb cn base v1 v2 xs1 xs2) (hl1 : xs1.length ≤ 200) (hl2 : xs2.length ≤ 200) :
    Calls Try.prog 15 #[.pointer (some ⟨P, 0, none⟩), .string s, .int .i64 f] w (DropPost P gn gb cn base v1 v2 xs1 xs2 s f w) := by
  have HO := Lib.hid (show dropE s f xs1 xs2 = if roomNo s < 0 then 5 else if idxP (atB f) (rowOf s xs1 xs2) 0 < 0 then 6 else 0 from rfl)
  have H := Lib.hid h
  have hsame : dropE s f xs1 xs2 ≠ 0 → ∀ w', Below w.heap.size w w' → After w w' P gn gb cn base v1 v2 (drop1 s f xs1 xs2) (drop2 s f xs1 xs2) := fun h0 w' hb => by
    unfold drop1 drop2
    rw [if_neg (fun hh => h0 hh.1), if_neg (fun hh => h0 hh.1)]
    exact .of_below h hb
  have HS := Lib.hid hsame; clear hsame
  rcases room_cases s with hr | ⟨k, hk, hr⟩
  · have HF := Lib.hid (HO.out.trans (if_pos (by omega))); clear HO h
    go_enter Try.func15, Try.ntmps15
    go_wp2_with fail
    have hb : Below w.heap.size w (w.alloc (.cells #[.int .i64 f] 3)) := by (repeat' (first | exact Below.refl _ _ | assumption | refine Below.drew ?_ | refine below_drewN ?_ _ | refine below_new ?_ _ | refine below_set ?_ ?_ _ | refine below_then ?_ (by assumption) | refine below_drawn ?_ (by assumption) | exact Nat.le_refl _ | omega | (simp; done) | (simp; omega)))
    generalize World.alloc w _ = W1 at hb ⊢
    refine (rooms_find _ P gn gb cn v1 v2 s (H.out.then_ hb).rooms).mono ?_; rw [hr]; rintro e w1 ⟨rfl, rfl⟩
    clear hr
    go_wp2_with fail
    go_ret
    exact ⟨by rw [HF.out]; rfl, HS.out (by rw [HF.out]; omega) _ hb⟩
  have hrow : rowOf s xs1 xs2 = rowL k xs1 xs2 := by unfold rowOf; rw [hr]; rfl
  have HF := Lib.hid (HO.out.trans (if_neg (by omega)))
  rw [hrow] at HF
  obtain ⟨a, c, hv, hc, hx⟩ := h.row hk
  have hok : ∀ x ∈ rowL k xs1 xs2, okBkg x := hx.2
  have hlen : (rowL k xs1 xs2).length ≤ 200 := by unfold rowL; split <;> omega
  have hown : w.ownsRow base 39 4 (.slice a (rowL k xs1 xs2).length c) (rowL k xs1 xs2).length ((rowL k xs1 xs2).flatMap encBkg) := by
    rw [← hv]
    match k, hk with
    | 0, _ => exact h.own1
    | 1, _ => exact h.own2
  have hcell : ∀ W, Below w.heap.size w W → W.cell? ⟨gb, k, none⟩ = some (.slice a (rowL k xs1 xs2).length c) := fun W hb => by
    rw [(h.rooms.rows.then_ hb).cell, ← hv]
    match k, hk with
    | 0, _ => rfl
    | 1, _ => rfl
  have HD := Lib.hid (show ∀ i : Nat, idxP (atB f) (rowL k xs1 xs2) 0 = (i : Int) → dropE s f xs1 xs2 = 0 → drop1 s f xs1 xs2 = (if k = 0 then (rowL k xs1 xs2).take i ++ (rowL k xs1 xs2).drop (i + 1) else xs1) ∧ drop2 s f xs1 xs2 = (if k = 0 then xs2 else (rowL k xs1 xs2).take i ++ (rowL k xs1 xs2).drop (i + 1)) from fun i hi h0 => by
    match k, hk with
    | 0, _ =>
      refine ⟨?_, ?_⟩
      · rw [drop1, if_pos ⟨h0, hr⟩, if_pos rfl, delB, show idxP (atB f) xs1 0 = (i : Int) from hi]; rfl
      · rw [drop2, if_neg (fun hh => by rw [hr] at hh; omega), if_pos rfl]
    | 1, _ =>
      refine ⟨?_, ?_⟩
      · rw [drop1, if_neg (fun hh => by rw [hr] at hh; omega), if_neg (by omega)]
      · rw [drop2, if_pos ⟨h0, hr⟩, if_neg (by omega), delB, show idxP (atB f) xs2 0 = (i : Int) from hi]; rfl)
  have HX := Lib.hid hx; have HOK := Lib.hid hok; have OWN := Lib.hid hown; have HCE := Lib.hid hcell; have HV := Lib.hid hv
  obtain ⟨l1, l2, l3, l4, l5⟩ := h.low
  clear hx hok hown hcell hv HO h hrow
  generalize hL : rowL k xs1 xs2 = L at *
  clear hL
  go_enter Try.func15, Try.ntmps15
  go_wp2_with fail
  have hb : Below w.heap.size w (w.alloc (.cells #[.int .i64 f] 3)) := by (repeat' (first | exact Below.refl _ _ | assumption | refine Below.drew ?_ | refine below_drewN ?_ _ | refine below_new ?_ _ | refine below_set ?_ ?_ _ | refine below_then ?_ (by assumption) | refine below_drawn ?_ (by assumption) | exact Nat.le_refl _ | omega | (simp; done) | (simp; omega)))
  have ax := At.new w (.cells #[.int .i64 f] 3)
  generalize World.alloc w _ = W1 at hb ax ⊢
  refine (rooms_find _ P gn gb cn v1 v2 s (H.out.then_ hb).rooms).mono ?_; rw [hr]; rintro e w1 ⟨rfl, rfl⟩
  clear hr
  have x1 : W1.cell? ⟨P, 1, none⟩ = some (.slice (some ⟨gb, 0, none⟩) 2 2) := (H.out.then_ hb).rooms.at_.cell 1
  have y : W1.cell? ⟨gb, k, none⟩ = some (.slice a L.length c) := HCE.out _ hb
  go_wp2_with fail
  refine (drop_index _ a L.length c L w.heap.size f (HX.out.then_ hb) ax.lt (ax.cell 0)).mono ?_
  rintro e w2 ⟨rfl, hb2⟩
  have hb3 := below_then hb hb2
  clear hb hb2 ax x1 y
  rcases Int.lt_or_le (idxP (atB f) L 0) 0 with hneg | hpos
  · have HF2 := Lib.hid (HF.out.trans (if_pos hneg)); clear HF
    go_wp2_with fail
    go_ret
    exact ⟨by rw [HF2.out]; rfl, HS.out (by rw [HF2.out]; omega) _ hb3⟩
  have HF2 := Lib.hid (HF.out.trans (if_neg (by omega))); clear HF
  obtain ⟨i, hi⟩ := Int.eq_ofNat_of_zero_le hpos
  have hil : i < L.length := by have := idxP_bounds (atB f) L 0; omega
  have HDI := Lib.hid (HD.out i hi HF2.out)
  rw [hi]; clear hi hpos HD
  have x1 : w2.drew.cell? ⟨P, 1, none⟩ = some (.slice (some ⟨gb, 0, none⟩) 2 2) := (H.out.then_ hb3).rooms.at_.cell 1
  have x1' : w2.cell? ⟨P, 1, none⟩ = some (.slice (some ⟨gb, 0, none⟩) 2 2) := x1
  have y' : w2.cell? ⟨gb, k, none⟩ = some (.slice a L.length c) := HCE.out _ hb3
  have y : w2.drew.cell? ⟨gb, k, none⟩ = some (.slice a L.length c) := y'
  have fr : w2.drew.frozen? ⟨gb, k, none⟩ = false := (H.out.then_ hb3).rooms.rows.frozen k
  have hw1 : IntKind.i64.wrap ((i : Int) + 1) = (i : Int) + 1 := IntWalk.i64_in _ (by omega)
  have own2 := own_then4 OWN.out hb3
  have far2 : ∀ g, Value.ownBlock (.slice a L.length c) = some g → base ≤ g := fun g e => own_far5 own2 e
  have hP2 : P < w2.heap.size := by have := hb3.size; omega
  have hB2 : gb < w2.heap.size := by have := hb3.size; omega
  have hPn : some P ≠ Value.ownBlock (.slice a L.length c) := fun e => by have := far2 P e.symm; omega
  have hBn : some gb ≠ Value.ownBlock (.slice a L.length c) := fun e => by have := far2 gb e.symm; omega
  have OWN2 := Lib.hid own2; have HB3 := Lib.hid hb3; clear own2 hb3 far2
  have hkI0 : (0 : Int) ≤ (k : Int) := by omega
  have hkI2 : (k : Int) < 2 := by omega
  go_upto_region 7 with fail
  go_region_law
    (first | (rw [if_pos (by rfl)]; go_simp; go_at_call 14; refine (bkg_delete base L.length i _ _ w2.drew OWN2.out hil (by omega) (fun u hu => bkg_one hu)).mono ?_; rintro e w4 ⟨v', rfl, own4, hg4, hv4⟩; have z1 : w4.cell? ⟨P, 1, none⟩ = some (.slice (some ⟨gb, 0, none⟩) 2 2) := (hg4.cell_far ⟨P, 1, none⟩ hP2 hPn).trans x1; have z2 : w4.cell? ⟨gb, k, none⟩ = some (.slice a L.length c) := (hg4.cell_far ⟨gb, k, none⟩ hB2 hBn).trans y; have z3 : w4.frozen? ⟨gb, k, none⟩ = false := (hg4.frozen_far ⟨gb, k, none⟩ hB2 hBn).trans fr; (rw [bkg_take, bkg_drop, ← List.flatMap_append] at own4); (obtain ⟨a4, c4, rfl, _, _, _⟩ := own_bkgs own4 (by rw [List.length_append, List.length_take, List.length_drop]; omega) (fun x hx => HOK.out x ((List.mem_append.1 hx).elim List.mem_of_mem_take List.mem_of_mem_drop)))))
  all_goals
    have hl' : (L.take i ++ L.drop (i + 1)).length = L.length - 1 := by rw [List.length_append, List.length_take, List.length_drop]; omega
    have HA := Lib.hid (After.step (w2 := w2.drew) H.out HB3.out.drew k hk _ (L.take i ++ L.drop (i + 1)) (by rw [HV.out]; exact hg4) (by rw [hl']; exact own4) (fun g e => .inl (by rw [HV.out, ← hv4]; exact e)) (fun x hx => HOK.out x ((List.mem_append.1 hx).elim List.mem_of_mem_take List.mem_of_mem_drop)))
    clear own4 hg4 hv4 z1 z2 z3
    go_wp2_with fail
    go_ret
    exact ⟨by rw [HF2.out]; rfl, by rw [HDI.out.1, HDI.out.2]; exact HA.out⟩
end Go.Proofs.Ytddiicljoekhmaa
