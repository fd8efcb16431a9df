/- rooms: Free and List. -/
import Derived.Test.YtddiicljoekhmaaRm2
import Derived.Test.YtddiicljoekhmaaInsB
import Derived.Test.YtddiicljoekhmaaDelB
import Derived.Deep.AppendLies
namespace Go.Proofs.Ytddiicljoekhmaa
set_option linter.unusedVariables false
set_option maxRecDepth 100000
open Go.RowKit

theorem room_cases (s : ByteArray) : (roomNo s = -1) ∨ ∃ k : Nat, k < 2 ∧ roomNo s = (k : Int) := by
  unfold roomNo
  split
  · exact .inr ⟨0, by omega, rfl⟩
  · split
    · exact .inr ⟨1, by omega, rfl⟩
    · exact .inl rfl
def rowL (k : Nat) (xs1 xs2 : List Bkg) : List Bkg := if k = 0 then xs1 else xs2
/-- Two rooms with their bookings, all rows the call's own. -/
structure RoomsSt (W : World) (P gn gb cn base : Nat) (v1 v2 : Value) (xs1 xs2 : List Bkg) : Prop where
  rooms : RoomsAt W P gn gb cn v1 v2
  low : P < base ∧ gn < base ∧ gb < base ∧ base ≤ W.heap.size ∧ P ≠ gb
  own1 : W.ownsRow base 39 4 v1 xs1.length (xs1.flatMap encBkg)
  own2 : W.ownsRow base 39 4 v2 xs2.length (xs2.flatMap encBkg)
  apart : v1.ownBlock = none ∨ v1.ownBlock ≠ v2.ownBlock
  ok1 : ∀ x ∈ xs1, okBkg x
  ok2 : ∀ x ∈ xs2, okBkg x
section
variable {W W' : World} {P gn gb cn base : Nat} {v1 v2 : Value} {xs1 xs2 : List Bkg}
theorem RoomsSt.then_ (h : RoomsSt W P gn gb cn base v1 v2 xs1 xs2) (hb : Below W.heap.size W W') : RoomsSt W' P gn gb cn base v1 v2 xs1 xs2 :=
  ⟨h.rooms.then_ hb, ⟨h.low.1, h.low.2.1, h.low.2.2.1, Nat.le_trans h.low.2.2.2.1 hb.size, h.low.2.2.2.2⟩, own_then4 h.own1 hb, own_then4 h.own2 hb, h.apart, h.ok1, h.ok2⟩
theorem RoomsSt.row (h : RoomsSt W P gn gb cn base v1 v2 xs1 xs2) {k : Nat} (hk : k < 2) : ∃ a c, rowV k v1 v2 = .slice a (rowL k xs1 xs2).length c ∧ c ≤ 9223372036854775807 ∧ Bkgs W W.heap.size a (rowL k xs1 xs2).length (rowL k xs1 xs2) := by
  match k, hk with
  | 0, _ =>
    obtain ⟨a, c, e, _, h3, h4⟩ := own_bkgs h.own1 rfl h.ok1
    exact ⟨a, c, e, h3, h4⟩
  | 1, _ =>
    obtain ⟨a, c, e, _, h3, h4⟩ := own_bkgs h.own2 rfl h.ok2
    exact ⟨a, c, e, h3, h4⟩
end
def freeE (s : ByteArray) (f t : Int) : Int := if roomNo s < 0 then 5 else stretchE f t
def rowOf (s : ByteArray) (xs1 xs2 : List Bkg) : List Bkg := rowL (roomNo s).toNat xs1 xs2
theorem rooms_Free (w : World) (P gn gb cn base : Nat) (v1 v2 : Value) (xs1 xs2 : List Bkg) (s : ByteArray) (f t : Int) (hf : I64 f) (ht : I64 t) (h : RoomsSt w P gn gb cn base v1 v2 xs1 xs2) :
    Calls Try.prog 16 #[.pointer (some ⟨P, 0, none⟩), .string s, .int .i64 f, .int .i64 t] w fun e w' => e = .returned (.tuple #[.bool (decide (freeE s f t = 0) && !(rowOf s xs1 xs2).any (lapB f t)), .int .i64 (freeE s f t)]) ∧ Below w.heap.size w w' := by
  have HO := Lib.hid (show freeE s f t = if roomNo s < 0 then 5 else stretchE f t from rfl)
  have H := Lib.hid h; clear h
  rcases room_cases s with hr | ⟨k, hk, hr⟩
  · have HF := Lib.hid (HO.out.trans (if_pos (by omega))); clear HO
    go_enter Try.func16, Try.ntmps16
    go_wp2_with fail
    refine (rooms_find _ P gn gb cn v1 v2 s H.out.rooms).mono ?_; rw [hr]; rintro e w1 ⟨rfl, rfl⟩
    clear hr
    go_wp2_with fail
    go_ret2
    exact ⟨by rw [HF.out]; rfl, Below.refl _ _⟩
  have HF := Lib.hid (HO.out.trans (if_neg (by omega))); clear HO
  have HR := Lib.hid (show rowOf s xs1 xs2 = rowL k xs1 xs2 by unfold rowOf; rw [hr]; rfl)
  by_cases hs : stretchE f t = 0
  case neg =>
    have hq : (stretchE f t != 0) = true := by simpa using hs
    have HQ := Lib.hid hs; clear hs
    obtain ⟨E, hE⟩ : ∃ E, E = stretchE f t := ⟨_, rfl⟩
    rw [← hE] at hq HF HQ
    have HE := Lib.hid hE; clear hE
    go_enter Try.func16, Try.ntmps16
    go_wp2_with fail
    refine (rooms_find _ P gn gb cn v1 v2 s H.out.rooms).mono ?_; rw [hr]; rintro e w1 ⟨rfl, rfl⟩
    clear hr
    go_wp2_with fail
    refine (rooms_stretch f t _ hf ht).mono ?_; rw [← HE.out]; rintro e w2 ⟨rfl, hd⟩
    go_wp2_with fail
    go_ret2
    exact ⟨by rw [HF.out, decide_eq_false HQ.out]; rfl, by obtain ⟨nd, rfl⟩ := hd; exact below_drewN (Below.refl _ _) nd⟩
  have HF2 := Lib.hid (HF.out.trans hs)
  have HS := Lib.hid hs; clear hs HF
  obtain ⟨a, c, hv, hc, hx⟩ := H.out.row hk
  have HV := Lib.hid hv; have HX := Lib.hid hx; clear hv hx
  generalize hL : rowL k xs1 xs2 = L at *
  go_enter Try.func16, Try.ntmps16
  go_wp2_with fail
  refine (rooms_find _ P gn gb cn v1 v2 s H.out.rooms).mono ?_; rw [hr]; rintro e w1 ⟨rfl, rfl⟩
  clear hr
  go_wp2_with fail
  refine (rooms_stretch f t _ hf ht).mono ?_; rw [HS.out]; rintro e w2 ⟨rfl, hd⟩
  have hb : Below w.heap.size w w2 := by obtain ⟨nd, rfl⟩ := hd; exact below_drewN (Below.refl _ _) nd
  clear hd
  go_wp2_with fail
  refine (rooms_taken w2 P gn gb cn v1 v2 k a L.length c L f t hk (H.out.then_ hb).rooms HV.out (HX.out.then_ hb)).mono ?_
  rintro e w3 ⟨rfl, hb2⟩
  go_wp2_with fail
  go_ret2
  exact ⟨by rw [HF2.out, HR.out]; rfl, below_then hb hb2⟩
end Go.Proofs.Ytddiicljoekhmaa
