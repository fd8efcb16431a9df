/- Contract of zone.One. -/
import Derived.Test.YtjpbkkoflaajcabDoorZone7
namespace Go.Proofs.YtjpbkkoflaajcabDoor
set_option linter.unusedVariables false
set_option maxRecDepth 100000
open Go.RowKit

def oneOut (E : Int) (L : List Int) : Int × Int := if E ≠ 0 then (0, E) else if L.length = 0 then (0, 15) else if 1 < L.length then (0, 16) else (L.getD 0 0, 0)
def OnePost (r : Int × Int) (w : World) (e : Ending) (w' : World) : Prop := e = .returned (.tuple #[.int .i64 r.1, .int .i64 r.2]) ∧ Below w.heap.size w w'
theorem onePost_of {r : Int × Int} {x y : Int} {w w' : World} (h : r = (x, y)) (hb : Below w.heap.size w w') : OnePost r w (.returned (.tuple #[.int .i64 x, .int .i64 y])) w' := by
  subst h; exact ⟨rfl, hb⟩
set_option maxHeartbeats 4000000 in
theorem zone_One (w : World) (s : ByteArray) (f : Int) (a : Option Addr) (n c : Nat) (xs : List Chg) (day ms : Int) (hs : s.size ≤ 9223372036854775807) (f1 : -9223372036854775808 ≤ f) (f2 : f ≤ 9223372036854775807) (h : Changes w w.heap.size a n xs) :
    Calls Tryd.prog 6 #[.agg #[.string s, .int .i64 f, .slice a n c], .int .i64 day, .int .i64 ms] w (OnePost (oneOut (instErr s f xs day ms) (instList s f xs day ms)) w) := by
  have H := Lib.hid h; clear h
  obtain ⟨E, hE⟩ : ∃ E, E = instErr s f xs day ms := ⟨_, rfl⟩
  obtain ⟨L, hL⟩ : ∃ L, L = instList s f xs day ms := ⟨_, rfl⟩
  rw [← hE, ← hL]
  have HE := Lib.hid hE; have HL := Lib.hid hL; clear hE hL
  go_enter Tryd.func6, Tryd.ntmps6
  go_wp2_with fail
  have b0 : Below w.heap.size w (w.alloc (.cells #[.string s, .int .i64 f, .slice a n c] 24)) := by (repeat' (first | exact Below.refl _ _ | assumption | refine Below.drew ?_ | refine below_drewN ?_ _ | refine below_new ?_ _ | refine below_set ?_ ?_ _ | refine below_then ?_ (by assumption) | refine below_drawn ?_ (by assumption) | exact Nat.le_refl _ | omega | (simp; done) | (simp; omega)))
  generalize World.alloc w _ = W0 at b0 ⊢
  refine (zone_Instants _ s f a n c xs day ms hs f1 f2 (H.out.then_ b0)).mono ?_
  rintro e w1 ⟨a', n', c', rfl, h1, h2, hI, hb⟩
  rw [← HE.out]
  rw [← HL.out] at hI
  have hl := hI.len
  have HI := Lib.hid hI; have HLN := Lib.hid hl; clear hI hl
  have b1 := below_then b0 hb
  clear hb b0
  by_cases q : E = 0
  case neg =>
    have hf := Lib.hid (show oneOut E L = (0, E) from if_pos q)
    have q' : (E != 0) = true := by simpa using q
    clear q
    go_wp2_with fail
    go_ret2
    exact onePost_of hf.out b1
  subst q
  have hf := Lib.hid (show oneOut 0 L = if L.length = 0 then (0, 15) else if 1 < L.length then (0, 16) else (L.getD 0 0, 0) from if_neg (by simp))
  by_cases hn0 : n' = 0
  · subst hn0
    have hf2 := Lib.hid (hf.out.trans (if_pos HLN.out))
    go_wp2_with fail
    go_ret2
    exact onePost_of hf2.out b1
  have hz : ((n' : Int) == 0) = false := by simp; omega
  have hf2 := Lib.hid (hf.out.trans (if_neg (by rw [HLN.out]; exact hn0)))
  by_cases hn1 : 1 < n'
  · have hf3 := Lib.hid (hf2.out.trans (if_pos (by rw [HLN.out]; exact hn1)))
    have hn1' : (1 : Int) < (n' : Int) := by omega
    clear hn0
    go_wp2_with fail
    go_ret2
    exact onePost_of hf3.out b1
  · have hf3 := Lib.hid (hf2.out.trans (if_neg (by rw [HLN.out]; exact hn1)))
    obtain rfl : n' = 1 := by omega
    obtain ⟨b, off, x, rfl, hbB, hc, hx, _⟩ := HI.out.at_ (show 0 < 1 by omega)
    simp only [Nat.add_zero] at hc
    have hfx := Lib.hid (show oneOut 0 L = (x, 0) by rw [hf3.out, List.getD_eq_getElem?_getD, hx]; rfl)
    clear hx
    go_wp2_with fail
    go_ret2
    exact onePost_of hfx.out b1
end Go.Proofs.YtjpbkkoflaajcabDoor
