/- rooms: a clone of bookings, List. -/
import Derived.Test.YtddiicljoekhmaaRm3
namespace Go.Proofs.Ytddiicljoekhmaa
set_option linter.unusedVariables false
set_option maxRecDepth 100000
open Go.RowKit

def CloneB (w : World) (n : Nat) (xs : List Bkg) (e : Ending) (w' : World) : Prop := ∃ v, e = .returned v ∧ w'.ownsRow w.heap.size 39 4 v n (xs.flatMap encBkg) ∧ Below w.heap.size w w'
set_option maxHeartbeats 2000000 in
theorem clone_bkgs (w : World) (a : Option Addr) (n c : Nat) (xs : List Bkg) (h : Bkgs w w.heap.size a n xs) (hn : n ≤ 500) :
    Calls Try.prog 36 #[.slice a n c] w (CloneB w n xs) := by
  obtain ⟨i0, hi, hz0, hz1, hz2⟩ := info_parts bkg_info
  have hl := h.len
  have q22 : ∀ (w : World) (a : Option Addr) (n c n' c' : Nat), (binOp .eql 33 (.slice a n c) (.slice none n' c')).run Try.prog w = .ok (.bool a.isNone) w := fun w a n c n' c' => Lib.run_eql_slice_nil w _ _ a n c n' c' Try.underlying33
  cases a with
  | none =>
    have h0 : n = 0 := by
      rcases Nat.eq_zero_or_pos n with h0 | h0
      · exact h0
      · obtain ⟨ad, e⟩ := bkgs_some h h0; cases e
    subst h0
    obtain rfl : xs = [] := List.length_eq_zero_iff.1 hl
    clear h hl
    go_enter Try.func36, Try.ntmps36
    go_wp2_with fail
    go_ret
    exact ⟨_, rfl, World.ownsRow_nil _ _ _ _, Below.refl _ _⟩
  | some ad =>
    have HN := Lib.hid (bkgs_news h); have HL := Lib.hid hl
    have HC := Lib.hid h
    clear h hl
    go_enter Try.func36, Try.ntmps36
    go_wp2_with (at_builtin; refine wpList_append_own _ rfl _ _ 33 rfl w.heap.size 39 i0 (.agg #[.string ⟨#[]⟩, .int .i64 0, .int .i64 0, .string ⟨#[]⟩]) 4 48 Try.underlying33 hi hz0 hz1 hz2 rfl (by decide) _ _ _ rfl (World.ownsRow_made w #[] 0 (Nat.le_refl _) (Nat.zero_le _) rfl) ad n c (xs.flatMap encBkg) rfl (by rw [bkg_len, HL.out]) (bkgs_news (HC.out.then_ (below_new (Below.refl _ _) _))) (fun u hu => bkg_one hu) (by unfold maxLen; omega) (by omega) (by simp) ?_; intro v' w1 hown hgrow hnil)
    have hown' : w1.ownsRow w.heap.size 39 4 v' n (xs.flatMap encBkg) := by simpa using hown
    have hgrow' : World.grownBy _ w1 (Value.ownBlock (.slice (some ⟨w.heap.size, 0, none⟩) 0 0)) := hgrow
    have hb1 : Below w.heap.size w w1 := ((Below.refl _ w).alloc (Nat.le_refl _) _).grown hgrow' (by simp) (by intro k hk; simp [Value.ownBlock] at hk; omega)
    have H3 := Lib.hid hown'
    clear hown hown' hgrow hgrow' hnil
    go_wp2_with fail
    go_ret
    exact ⟨_, rfl, H3.out, hb1⟩
def listL (s : ByteArray) (xs1 xs2 : List Bkg) : List Bkg := if roomNo s < 0 then [] else rowOf s xs1 xs2
def listE (s : ByteArray) : Int := if roomNo s < 0 then 5 else 0
def ListPost (s : ByteArray) (xs1 xs2 : List Bkg) (w : World) (e : Ending) (w' : World) : Prop :=
  ∃ a c, e = .returned (.tuple #[.slice a (listL s xs1 xs2).length c, .int .i64 (listE s)]) ∧ Bkgs w' w'.heap.size a (listL s xs1 xs2).length (listL s xs1 xs2) ∧ Below w.heap.size w w'
theorem bkgs_none (w : World) (B : Nat) : Bkgs w B none 0 [] := ⟨⟨rfl, by omega, fun h => absurd h (by omega)⟩, by simp⟩
theorem rooms_List (w : World) (P gn gb cn base : Nat) (v1 v2 : Value) (xs1 xs2 : List Bkg) (s : ByteArray) (h : RoomsSt w P gn gb cn base v1 v2 xs1 xs2) (hl1 : xs1.length ≤ 200) (hl2 : xs2.length ≤ 200) :
    Calls Try.prog 19 #[.pointer (some ⟨P, 0, none⟩), .string s] w (ListPost s xs1 xs2 w) := by
  have H := Lib.hid h
  rcases room_cases s with hr | ⟨k, hk, hr⟩
  · have HL := Lib.hid (show listL s xs1 xs2 = [] from if_pos (by omega))
    have HE := Lib.hid (show listE s = 5 from if_pos (by omega))
    clear h
    go_enter Try.func19, Try.ntmps19
    go_wp2_with fail
    refine (rooms_find _ P gn gb cn v1 v2 s H.out.rooms).mono ?_; rw [hr]; rintro e w1 ⟨rfl, rfl⟩
    clear hr
    go_wp2_with fail
    go_ret2
    exact ⟨none, 0, by rw [HE.out, HL.out]; rfl, by rw [HL.out]; exact bkgs_none _ _, Below.refl _ _⟩
  have HL := Lib.hid (show listL s xs1 xs2 = rowL k xs1 xs2 by unfold listL rowOf; rw [if_neg (by omega), hr]; rfl)
  have HE := Lib.hid (show listE s = 0 from if_neg (by omega))
  obtain ⟨a, c, hv, hc, hx⟩ := h.row hk
  have hok : ∀ x ∈ rowL k xs1 xs2, okBkg x := hx.2
  have hlen : (rowL k xs1 xs2).length ≤ 500 := by unfold rowL; split <;> omega
  have y : w.cell? ⟨gb, k, none⟩ = some (.slice a (rowL k xs1 xs2).length c) := by
    rw [h.rooms.rows.cell, ← hv]
    match k, hk with
    | 0, _ => rfl
    | 1, _ => rfl
  have x1 : w.cell? ⟨P, 1, none⟩ = some (.slice (some ⟨gb, 0, none⟩) 2 2) := h.rooms.at_.cell 1
  have HX := Lib.hid hx; have HOK := Lib.hid hok; clear hv hx hok h
  generalize hL : rowL k xs1 xs2 = L at *
  clear hL
  go_enter Try.func19, Try.ntmps19
  go_wp2_with fail
  refine (rooms_find _ P gn gb cn v1 v2 s H.out.rooms).mono ?_; rw [hr]; rintro e w1 ⟨rfl, rfl⟩
  clear hr
  go_wp2_with fail
  refine (clone_bkgs _ a L.length c L HX.out hlen).mono ?_
  rintro e w2 ⟨v, rfl, hown, hb⟩
  obtain ⟨a2, c2, rfl, _, _, hch⟩ := own_bkgs hown rfl HOK.out
  have HCH := Lib.hid hch
  clear hown hch
  go_wp2_with fail
  go_ret2
  exact ⟨a2, c2, by rw [HE.out, HL.out]; rfl, by rw [HL.out]; exact HCH.out, hb⟩
end Go.Proofs.Ytddiicljoekhmaa
