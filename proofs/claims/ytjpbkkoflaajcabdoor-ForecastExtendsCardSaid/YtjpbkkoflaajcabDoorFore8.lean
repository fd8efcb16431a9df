/- Contract of forecast.Extend. -/
import Derived.Test.YtjpbkkoflaajcabDoorFore7
import Derived.Deep.RegionLaw
import Derived.Deep.Cut
import Derived.Deep.CutRange
namespace Go.Proofs.YtjpbkkoflaajcabDoor
set_option linter.unusedVariables false
set_option maxRecDepth 100000
open Go.RowKit greg

theorem own_set8 {w : World} {base : Nat} {e : TypeId} {size : Nat} {v : Value} {n : Nat} {xs : List Value} (h : w.ownsRow base e size v n xs) {p : Addr} (hp : p.block < base) (u : Value) : (w.setCell p u).ownsRow base e size v n xs := by
  refine ⟨h.1, ?_⟩
  rcases h.2 with h0 | ⟨g, cap, cur, hv, hg, hat, rest⟩
  · exact .inl h0
  · exact .inr ⟨g, cap, cur, hv, hg, (Below.heap_setCell w p u g (by omega)).trans hat, rest⟩
set_option maxHeartbeats 8000000 in
theorem forecast_Extend (w : World) (s : ByteArray) (f : Int) (p : Option Addr) (n c : Nat) (xs : List Chg) (pl : Option Addr) (nl cl : Nat) (rs : List Rul) (a b : Int) (hs : s.size ≤ 9223372036854775807) (f1 : -9223372036854775808 ≤ f) (f2 : f ≤ 9223372036854775807) (h1 : Changes w w.heap.size p n xs) (h2 : Rules w w.heap.size pl nl rs) :
    Calls Tryd.prog 20 #[.agg #[.string s, .int .i64 f, .slice p n c], .slice pl nl cl, .int .i64 a, .int .i64 b] w (ExtPost s f xs rs a b w) := by
  obtain ⟨i0, hi, hz0, hz1, hz2⟩ := info_parts Tryd.infoChange
  have L1 := Lib.hid h1.len; have L2 := Lib.hid h2.len
  have HLB := Lib.hid (rules_lab h2)
  have HCO := Lib.hid h1.2
  have H1 := Lib.hid h1; have H2 := Lib.hid h2; clear h1 h2
  have HO := Lib.hid (show extErr s f xs rs a b = if rulesErr rs ≠ 0 then rulesErr rs else if zoneErr s f xs ≠ 0 then zoneErr s f xs else if ¬ (-10000 ≤ a ∧ a ≤ 10000 ∧ a ≤ b ∧ b ≤ 10000) then 3 else if 50 < b - a then 2 else zoneErr s f (extTo f rs a xs (b - a + 1).toNat) from rfl)
  go_enter Tryd.func20, Tryd.ntmps20
  go_wp2_with fail
  have a0 := (At.new w (.cells #[.string s, .int .i64 f, .slice p n c] 24)).alloc (.cells #[.string ⟨#[]⟩, .int .i64 0, .slice none 0 0] 24)
  have ar := At.new1 w (.cells #[.string s, .int .i64 f, .slice p n c] 24) (.cells #[.string ⟨#[]⟩, .int .i64 0, .slice none 0 0] 24)
  have b0 : Below w.heap.size w ((w.alloc (.cells #[.string s, .int .i64 f, .slice p n c] 24)).alloc (.cells #[.string ⟨#[]⟩, .int .i64 0, .slice none 0 0] 24)) := by (repeat' (first | exact Below.refl _ _ | assumption | refine Below.drew ?_ | refine below_drewN ?_ _ | refine below_new ?_ _ | refine below_set ?_ ?_ _ | refine below_then ?_ (by assumption) | refine below_drawn ?_ (by assumption) | exact Nat.le_refl _ | omega | (simp; done) | (simp; omega)))
  generalize World.alloc (World.alloc w _) _ = W0 at a0 ar b0 ⊢
  refine (forecast_Check _ pl nl cl rs (H2.out.then_ b0)).mono ?_
  by_cases q : rulesErr rs = 0
  case neg =>
    have hf := Lib.hid (HO.out.trans (if_pos q))
    have q' : (rulesErr rs != 0) = true := by simpa using q
    have Q := Lib.hid q
    generalize rulesErr rs = E at hf q' Q ⊢
    rintro e w1 ⟨rfl, hb⟩
    clear q HO
    replace b0 := below_then b0 hb
    replace ar := ar.then_ hb
    clear hb a0
    have f0 : w1.frozen? ⟨w.heap.size + 1, 0, none⟩ = false := ar.frozen 0
    have f1 : w1.frozen? ⟨w.heap.size + 1, 1, none⟩ = false := ar.frozen 1
    have f2 : w1.frozen? ⟨w.heap.size + 1, 2, none⟩ = false := ar.frozen 2
    have z0 : w1.cell? ⟨w.heap.size + 1, 0, none⟩ = some (.string ⟨#[]⟩) := ar.cell 0
    have z1 : w1.cell? ⟨w.heap.size + 1, 1, none⟩ = some (.int .i64 0) := ar.cell 1
    have z2 : w1.cell? ⟨w.heap.size + 1, 2, none⟩ = some (.slice none 0 0) := ar.cell 2
    have AR := Lib.hid ar; clear ar
    go_wp2_with fail
    have AF := AR.out.store3 (.string ⟨#[]⟩) (.int .i64 0) (.slice none 0 0)
    have y0 : (((w1.setCell ⟨w.heap.size + 1, 0, none⟩ (.string ⟨#[]⟩)).setCell ⟨w.heap.size + 1, 1, none⟩ (.int .i64 0)).setCell ⟨w.heap.size + 1, 2, none⟩ (.slice none 0 0)).cell? ⟨w.heap.size + 1, 0, none⟩ = some (.string ⟨#[]⟩) := AF.cell 0
    have y1 : (((w1.setCell ⟨w.heap.size + 1, 0, none⟩ (.string ⟨#[]⟩)).setCell ⟨w.heap.size + 1, 1, none⟩ (.int .i64 0)).setCell ⟨w.heap.size + 1, 2, none⟩ (.slice none 0 0)).cell? ⟨w.heap.size + 1, 1, none⟩ = some (.int .i64 0) := AF.cell 1
    have y2 : (((w1.setCell ⟨w.heap.size + 1, 0, none⟩ (.string ⟨#[]⟩)).setCell ⟨w.heap.size + 1, 1, none⟩ (.int .i64 0)).setCell ⟨w.heap.size + 1, 2, none⟩ (.slice none 0 0)).cell? ⟨w.heap.size + 1, 2, none⟩ = some (.slice none 0 0) := AF.cell 2
    exact bodyPost_ret (v := .tuple #[.agg #[.string ⟨#[]⟩, .int .i64 0, .slice none 0 0], .int .i64 E]) (by simp [results, Tryd.results20, go_sem, y0, y1, y2]) rfl (.inl ⟨by rw [hf.out]; first | exact Q.out | omega, by rw [hf.out], below_set3 b0 (by omega) _ _ _⟩)
  have Q1 := Lib.hid q
  have hf := Lib.hid (HO.out.trans (if_neg (by omega)))
  rw [q]
  clear q HO
  rintro e w1 ⟨rfl, hb⟩
  replace b0 := below_then b0 hb
  replace ar := ar.then_ hb
  replace a0 := a0.then_ hb
  clear hb
  have hl0 := a0.lt; have hl1 := ar.lt
  have x0 : w1.cell? ⟨w.heap.size, 0, none⟩ = some (.string s) := a0.cell 0
  have x1 : w1.cell? ⟨w.heap.size, 1, none⟩ = some (.int .i64 f) := a0.cell 1
  have x2 : w1.cell? ⟨w.heap.size, 2, none⟩ = some (.slice p n c) := a0.cell 2
  go_wp2_with fail
  refine (zone_Check _ s f p n c xs hs f1 f2 (H1.out.then_ b0)).mono ?_
  clear x0 x1 x2
  by_cases q : zoneErr s f xs = 0
  case neg =>
    have hf2 := Lib.hid (hf.out.trans (if_pos q))
    have q' : (zoneErr s f xs != 0) = true := by simpa using q
    have Q := Lib.hid q
    generalize zoneErr s f xs = E at hf2 q' Q ⊢
    rintro e w2 ⟨rfl, hb⟩
    clear q hf
    replace b0 := below_then b0 hb
    replace ar := ar.then_ hb
    clear hb a0 hl0 hl1
    have f0 : w2.frozen? ⟨w.heap.size + 1, 0, none⟩ = false := ar.frozen 0
    have f1 : w2.frozen? ⟨w.heap.size + 1, 1, none⟩ = false := ar.frozen 1
    have f2 : w2.frozen? ⟨w.heap.size + 1, 2, none⟩ = false := ar.frozen 2
    have z0 : w2.cell? ⟨w.heap.size + 1, 0, none⟩ = some (.string ⟨#[]⟩) := ar.cell 0
    have z1 : w2.cell? ⟨w.heap.size + 1, 1, none⟩ = some (.int .i64 0) := ar.cell 1
    have z2 : w2.cell? ⟨w.heap.size + 1, 2, none⟩ = some (.slice none 0 0) := ar.cell 2
    have AR := Lib.hid ar; clear ar
    go_wp2_with fail
    have AF := AR.out.store3 (.string ⟨#[]⟩) (.int .i64 0) (.slice none 0 0)
    have y0 : (((w2.setCell ⟨w.heap.size + 1, 0, none⟩ (.string ⟨#[]⟩)).setCell ⟨w.heap.size + 1, 1, none⟩ (.int .i64 0)).setCell ⟨w.heap.size + 1, 2, none⟩ (.slice none 0 0)).cell? ⟨w.heap.size + 1, 0, none⟩ = some (.string ⟨#[]⟩) := AF.cell 0
    have y1 : (((w2.setCell ⟨w.heap.size + 1, 0, none⟩ (.string ⟨#[]⟩)).setCell ⟨w.heap.size + 1, 1, none⟩ (.int .i64 0)).setCell ⟨w.heap.size + 1, 2, none⟩ (.slice none 0 0)).cell? ⟨w.heap.size + 1, 1, none⟩ = some (.int .i64 0) := AF.cell 1
    have y2 : (((w2.setCell ⟨w.heap.size + 1, 0, none⟩ (.string ⟨#[]⟩)).setCell ⟨w.heap.size + 1, 1, none⟩ (.int .i64 0)).setCell ⟨w.heap.size + 1, 2, none⟩ (.slice none 0 0)).cell? ⟨w.heap.size + 1, 2, none⟩ = some (.slice none 0 0) := AF.cell 2
    exact bodyPost_ret (v := .tuple #[.agg #[.string ⟨#[]⟩, .int .i64 0, .slice none 0 0], .int .i64 E]) (by simp [results, Tryd.results20, go_sem, y0, y1, y2]) rfl (.inl ⟨by rw [hf2.out]; first | exact Q.out | omega, by rw [hf2.out], below_set3 b0 (by omega) _ _ _⟩)
  have Q2 := Lib.hid q
  have hf2 := Lib.hid (hf.out.trans (if_neg (by omega)))
  rw [q]
  clear q hf
  rintro e w2 ⟨rfl, hb⟩
  replace b0 := below_then b0 hb
  replace ar := ar.then_ hb
  replace a0 := a0.then_ hb
  clear hb hl0 hl1
  by_cases hr : -10000 ≤ a ∧ a ≤ 10000 ∧ a ≤ b ∧ b ≤ 10000
  case neg =>
    have hf3 := Lib.hid (hf2.out.trans (if_pos hr))
    clear a0 hf2
    rcases inB_cases (-10000) 10000 a with ⟨hi2, i1, i2⟩ | ⟨hi2, hi2'⟩
    case inr =>
      clear hr hi2'
      go_wp2_with fail
      refine (forecast_isYear _ _).mono ?_; rw [hi2]; rintro e w3 ⟨rfl, rfl⟩
      have f0 : w2.frozen? ⟨w.heap.size + 1, 0, none⟩ = false := ar.frozen 0
      have f1 : w2.frozen? ⟨w.heap.size + 1, 1, none⟩ = false := ar.frozen 1
      have f2 : w2.frozen? ⟨w.heap.size + 1, 2, none⟩ = false := ar.frozen 2
      have z0 : w2.cell? ⟨w.heap.size + 1, 0, none⟩ = some (.string ⟨#[]⟩) := ar.cell 0
      have z1 : w2.cell? ⟨w.heap.size + 1, 1, none⟩ = some (.int .i64 0) := ar.cell 1
      have z2 : w2.cell? ⟨w.heap.size + 1, 2, none⟩ = some (.slice none 0 0) := ar.cell 2
      have AR := Lib.hid ar; clear ar
      go_wp2_with fail
      have AF := AR.out.store3 (.string ⟨#[]⟩) (.int .i64 0) (.slice none 0 0)
      have y0 : (((w2.setCell ⟨w.heap.size + 1, 0, none⟩ (.string ⟨#[]⟩)).setCell ⟨w.heap.size + 1, 1, none⟩ (.int .i64 0)).setCell ⟨w.heap.size + 1, 2, none⟩ (.slice none 0 0)).cell? ⟨w.heap.size + 1, 0, none⟩ = some (.string ⟨#[]⟩) := AF.cell 0
      have y1 : (((w2.setCell ⟨w.heap.size + 1, 0, none⟩ (.string ⟨#[]⟩)).setCell ⟨w.heap.size + 1, 1, none⟩ (.int .i64 0)).setCell ⟨w.heap.size + 1, 2, none⟩ (.slice none 0 0)).cell? ⟨w.heap.size + 1, 1, none⟩ = some (.int .i64 0) := AF.cell 1
      have y2 : (((w2.setCell ⟨w.heap.size + 1, 0, none⟩ (.string ⟨#[]⟩)).setCell ⟨w.heap.size + 1, 1, none⟩ (.int .i64 0)).setCell ⟨w.heap.size + 1, 2, none⟩ (.slice none 0 0)).cell? ⟨w.heap.size + 1, 2, none⟩ = some (.slice none 0 0) := AF.cell 2
      exact bodyPost_ret (v := .tuple #[.agg #[.string ⟨#[]⟩, .int .i64 0, .slice none 0 0], .int .i64 3]) (by simp [results, Tryd.results20, go_sem, y0, y1, y2]) rfl (.inl ⟨by rw [hf3.out]; first | exact Q.out | omega, by rw [hf3.out], below_set3 b0 (by omega) _ _ _⟩)
    have hq : b < a ∨ (a ≤ b ∧ 10000 < b) := by omega
    clear hr
    rcases hq with hq | ⟨hq, hq2⟩
    · go_wp2_with fail
      refine (forecast_isYear _ _).mono ?_; rw [hi2]; rintro e w3 ⟨rfl, rfl⟩
      have f0 : w2.frozen? ⟨w.heap.size + 1, 0, none⟩ = false := ar.frozen 0
      have f1 : w2.frozen? ⟨w.heap.size + 1, 1, none⟩ = false := ar.frozen 1
      have f2 : w2.frozen? ⟨w.heap.size + 1, 2, none⟩ = false := ar.frozen 2
      have z0 : w2.cell? ⟨w.heap.size + 1, 0, none⟩ = some (.string ⟨#[]⟩) := ar.cell 0
      have z1 : w2.cell? ⟨w.heap.size + 1, 1, none⟩ = some (.int .i64 0) := ar.cell 1
      have z2 : w2.cell? ⟨w.heap.size + 1, 2, none⟩ = some (.slice none 0 0) := ar.cell 2
      have AR := Lib.hid ar; clear ar
      go_wp2_with fail
      have AF := AR.out.store3 (.string ⟨#[]⟩) (.int .i64 0) (.slice none 0 0)
      have y0 : (((w2.setCell ⟨w.heap.size + 1, 0, none⟩ (.string ⟨#[]⟩)).setCell ⟨w.heap.size + 1, 1, none⟩ (.int .i64 0)).setCell ⟨w.heap.size + 1, 2, none⟩ (.slice none 0 0)).cell? ⟨w.heap.size + 1, 0, none⟩ = some (.string ⟨#[]⟩) := AF.cell 0
      have y1 : (((w2.setCell ⟨w.heap.size + 1, 0, none⟩ (.string ⟨#[]⟩)).setCell ⟨w.heap.size + 1, 1, none⟩ (.int .i64 0)).setCell ⟨w.heap.size + 1, 2, none⟩ (.slice none 0 0)).cell? ⟨w.heap.size + 1, 1, none⟩ = some (.int .i64 0) := AF.cell 1
      have y2 : (((w2.setCell ⟨w.heap.size + 1, 0, none⟩ (.string ⟨#[]⟩)).setCell ⟨w.heap.size + 1, 1, none⟩ (.int .i64 0)).setCell ⟨w.heap.size + 1, 2, none⟩ (.slice none 0 0)).cell? ⟨w.heap.size + 1, 2, none⟩ = some (.slice none 0 0) := AF.cell 2
      exact bodyPost_ret (v := .tuple #[.agg #[.string ⟨#[]⟩, .int .i64 0, .slice none 0 0], .int .i64 3]) (by simp [results, Tryd.results20, go_sem, y0, y1, y2]) rfl (.inl ⟨by rw [hf3.out]; first | exact Q.out | omega, by rw [hf3.out], below_set3 b0 (by omega) _ _ _⟩)
    · go_wp2_with fail
      refine (forecast_isYear _ _).mono ?_; rw [hi2]; rintro e w3 ⟨rfl, rfl⟩
      have f0 : w2.frozen? ⟨w.heap.size + 1, 0, none⟩ = false := ar.frozen 0
      have f1 : w2.frozen? ⟨w.heap.size + 1, 1, none⟩ = false := ar.frozen 1
      have f2 : w2.frozen? ⟨w.heap.size + 1, 2, none⟩ = false := ar.frozen 2
      have z0 : w2.cell? ⟨w.heap.size + 1, 0, none⟩ = some (.string ⟨#[]⟩) := ar.cell 0
      have z1 : w2.cell? ⟨w.heap.size + 1, 1, none⟩ = some (.int .i64 0) := ar.cell 1
      have z2 : w2.cell? ⟨w.heap.size + 1, 2, none⟩ = some (.slice none 0 0) := ar.cell 2
      have AR := Lib.hid ar; clear ar
      go_wp2_with fail
      have AF := AR.out.store3 (.string ⟨#[]⟩) (.int .i64 0) (.slice none 0 0)
      have y0 : (((w2.setCell ⟨w.heap.size + 1, 0, none⟩ (.string ⟨#[]⟩)).setCell ⟨w.heap.size + 1, 1, none⟩ (.int .i64 0)).setCell ⟨w.heap.size + 1, 2, none⟩ (.slice none 0 0)).cell? ⟨w.heap.size + 1, 0, none⟩ = some (.string ⟨#[]⟩) := AF.cell 0
      have y1 : (((w2.setCell ⟨w.heap.size + 1, 0, none⟩ (.string ⟨#[]⟩)).setCell ⟨w.heap.size + 1, 1, none⟩ (.int .i64 0)).setCell ⟨w.heap.size + 1, 2, none⟩ (.slice none 0 0)).cell? ⟨w.heap.size + 1, 1, none⟩ = some (.int .i64 0) := AF.cell 1
      have y2 : (((w2.setCell ⟨w.heap.size + 1, 0, none⟩ (.string ⟨#[]⟩)).setCell ⟨w.heap.size + 1, 1, none⟩ (.int .i64 0)).setCell ⟨w.heap.size + 1, 2, none⟩ (.slice none 0 0)).cell? ⟨w.heap.size + 1, 2, none⟩ = some (.slice none 0 0) := AF.cell 2
      exact bodyPost_ret (v := .tuple #[.agg #[.string ⟨#[]⟩, .int .i64 0, .slice none 0 0], .int .i64 3]) (by simp [results, Tryd.results20, go_sem, y0, y1, y2]) rfl (.inl ⟨by rw [hf3.out]; first | exact Q.out | omega, by rw [hf3.out], below_set3 b0 (by omega) _ _ _⟩)
  have hf3 := Lib.hid (hf2.out.trans (if_neg (by omega)))
  clear hf2
  obtain ⟨r1, r2, r3, r4⟩ := hr
  have hiy : inB (-10000) 10000 a = true := inB_iff.2 ⟨r1, r2⟩
  have hwd : IntKind.i64.wrap (b - a) = b - a := IntWalk.i64_in _ (by omega)
  by_cases h50 : 50 < b - a
  case pos =>
    have hf4 := Lib.hid (hf3.out.trans (if_pos h50))
    clear a0 hf3
    go_wp2_with fail
    refine (forecast_isYear _ _).mono ?_; rw [hiy]; rintro e w3 ⟨rfl, rfl⟩
    have f0 : w2.frozen? ⟨w.heap.size + 1, 0, none⟩ = false := ar.frozen 0
    have f1 : w2.frozen? ⟨w.heap.size + 1, 1, none⟩ = false := ar.frozen 1
    have f2 : w2.frozen? ⟨w.heap.size + 1, 2, none⟩ = false := ar.frozen 2
    have z0 : w2.cell? ⟨w.heap.size + 1, 0, none⟩ = some (.string ⟨#[]⟩) := ar.cell 0
    have z1 : w2.cell? ⟨w.heap.size + 1, 1, none⟩ = some (.int .i64 0) := ar.cell 1
    have z2 : w2.cell? ⟨w.heap.size + 1, 2, none⟩ = some (.slice none 0 0) := ar.cell 2
    have AR := Lib.hid ar; clear ar
    go_wp2_with fail
    have AF := AR.out.store3 (.string ⟨#[]⟩) (.int .i64 0) (.slice none 0 0)
    have y0 : (((w2.setCell ⟨w.heap.size + 1, 0, none⟩ (.string ⟨#[]⟩)).setCell ⟨w.heap.size + 1, 1, none⟩ (.int .i64 0)).setCell ⟨w.heap.size + 1, 2, none⟩ (.slice none 0 0)).cell? ⟨w.heap.size + 1, 0, none⟩ = some (.string ⟨#[]⟩) := AF.cell 0
    have y1 : (((w2.setCell ⟨w.heap.size + 1, 0, none⟩ (.string ⟨#[]⟩)).setCell ⟨w.heap.size + 1, 1, none⟩ (.int .i64 0)).setCell ⟨w.heap.size + 1, 2, none⟩ (.slice none 0 0)).cell? ⟨w.heap.size + 1, 1, none⟩ = some (.int .i64 0) := AF.cell 1
    have y2 : (((w2.setCell ⟨w.heap.size + 1, 0, none⟩ (.string ⟨#[]⟩)).setCell ⟨w.heap.size + 1, 1, none⟩ (.int .i64 0)).setCell ⟨w.heap.size + 1, 2, none⟩ (.slice none 0 0)).cell? ⟨w.heap.size + 1, 2, none⟩ = some (.slice none 0 0) := AF.cell 2
    exact bodyPost_ret (v := .tuple #[.agg #[.string ⟨#[]⟩, .int .i64 0, .slice none 0 0], .int .i64 2]) (by simp [results, Tryd.results20, go_sem, y0, y1, y2]) rfl (.inl ⟨by rw [hf4.out]; first | exact Q.out | omega, by rw [hf4.out], below_set3 b0 (by omega) _ _ _⟩)
  obtain ⟨J, rfl⟩ : ∃ J : Nat, b = a + (J : Int) := ⟨(b - a).toNat, by omega⟩
  have hJ : J ≤ 50 := by omega
  have hf4 := Lib.hid (show extErr s f xs rs a (a + (J : Int)) = zoneErr s f (extTo f rs a xs (J + 1)) by rw [hf3.out, if_neg h50, show (a + (J : Int) - a + 1).toNat = J + 1 by omega])
  have h50' : a + (J : Int) - a ≤ 50 := by omega
  clear hf3 h50
  obtain ⟨zf, zx, zl⟩ := zoneErr_off Q2.out
  have ZF := Lib.hid zf; have ZX := Lib.hid zx
  have hn200 : n ≤ 200 := by have := L1.out; omega
  obtain ⟨rl1, rl2⟩ := rules_len Q1.out
  have HEACH := Lib.hid (rules_each Q1.out)
  clear zf zx
  go_wp2_with fail
  refine (forecast_isYear _ _).mono ?_; rw [hiy]; rintro e w3 ⟨rfl, rfl⟩
  clear hiy
  have hl0 := a0.lt; have hl1 := ar.lt
  have x0 : w2.cell? ⟨w.heap.size, 0, none⟩ = some (.string s) := a0.cell 0
  have x1 : w2.cell? ⟨w.heap.size, 1, none⟩ = some (.int .i64 f) := a0.cell 1
  have x2 : w2.cell? ⟨w.heap.size, 2, none⟩ = some (.slice p n c) := a0.cell 2
  obtain ⟨w3, rfl⟩ : ∃ w3, w3 = w2 := ⟨_, rfl⟩
  go_wp2_with fail
  have ac := At.new w3 (.cells #[.string s, .int .i64 f, .slice p n c] 24)
  have bc := below_new (Below.refl w3.heap.size w3) (.cells #[.string s, .int .i64 f, .slice p n c] 24)
  have hse : (World.alloc w3 (.cells #[.string s, .int .i64 f, .slice p n c] 24)).heap.size = w3.heap.size + 1 := by simp only [World.size_alloc]
  clear x0 x1 x2
  generalize World.alloc w3 _ = W4 at ac bc hse ⊢
  refine (clone_changes _ p n c xs (H1.out.then_ (below_then b0 bc)) (by omega)).mono ?_
  rintro e w5 ⟨v0, rfl, hown, hb⟩
  rw [hse] at hown
  obtain ⟨va, vc, rfl, _, _, _⟩ := own_changes hown L1.out HCO.out
  replace ac := ac.then_ hb
  replace bc := below_then bc hb
  clear hb hse
  have A0 := Lib.hid a0; have AR := Lib.hid ar; have B00 := Lib.hid b0
  clear a0 ar b0
  generalize hG : w3.heap.size = G at *
  have g2 : w5.cell? ⟨G, 2, none⟩ = some (.slice p n c) := ac.cell 2
  have g3 : w5.frozen? ⟨G, 2, none⟩ = false := ac.frozen 2
  have hgl5 := ac.lt
  have OWN0 := Lib.hid hown
  clear hown
  go_upto_region 13 with fail
  have ac1 := ac.store 2 (.slice va n vc)
  have bc1 : Below G w3 (w5.setCell ⟨G, 2, none⟩ (.slice va n vc)) := below_set bc (p := ⟨G, 2, none⟩) (Nat.le_refl _) (.slice va n vc)
  have own1 := own_set8 OWN0.out (p := ⟨G, 2, none⟩) (by simp only; omega) (.slice va n vc)
  simp only [List.setIfInBounds_toArray, List.set_cons_succ, List.set_cons_zero] at ac1
  clear ac bc g2 g3 hgl5 OWN0
  generalize World.setCell w5 _ _ = W6 at ac1 bc1 own1 ⊢
  have bw6 : Below w3.heap.size w3 W6 := by rw [hG]; exact bc1
  have a6 := A0.out.then_ bw6
  have b6 := below_then B00.out bw6
  have x1 : W6.cell? ⟨w.heap.size, 1, none⟩ = some (.int .i64 f) := a6.cell 1
  have x2 : W6.cell? ⟨w.heap.size, 2, none⟩ = some (.slice p n c) := a6.cell 2
  have AC1 := Lib.hid ac1; have BC1 := Lib.hid bc1; have OWN1 := Lib.hid own1
  clear ac1 bc1 own1
  go_upto_if 58 with fail
  go_cut [13] from 57 to 67 (fun vb wx => vb = .int .i64 (lastO f xs) ∧ W6 = wx)
  case first =>
    rcases Nat.eq_zero_or_pos n with hn0 | hn0
    · subst hn0
      have hx : lastO f xs = f := by rw [List.length_eq_zero_iff.1 L1.out]; rfl
      have HX := Lib.hid hx; clear hx
      go_wp2_with fail
      go_meet
      case rel => exact ⟨by rw [HX.out], rfl⟩
    · obtain ⟨cb, co, rfl, hcb, hcs⟩ := (H1.out.then_ b6).open_ hn0
      obtain ⟨ta, oa, la, c0, c1, c2, hx, _⟩ := hcs (n - 1) (by omega)
      have HX := Lib.hid (lastO_at (f := f) (show xs.length = n - 1 + 1 by have := L1.out; omega) hx)
      have hpos : (0 : Int) < (n : Int) := by omega
      have hkm : n - 1 < n := by omega
      have hw0 : IntKind.i64.wrap ((n : Int) - 1) = ((n - 1 : Nat) : Int) := by rw [IntWalk.i64_in _ (by omega)]; omega
      clear hcs hx
      go_wp2_with fail
      go_meet
      case rel => exact ⟨by rw [HX.out], rfl⟩
  case rest =>
  obtain ⟨rfl, rfl⟩ := hcut
  clear x1 x2 a6 b6 bw6
  go_wp2_with fail
  go_loopw [13, 15] (fun vb vy wr => ∃ (j : Nat) (v : Value), j ≤ J + 1 ∧ vb = .int .i64 (lastO f (extTo f rs a xs j)) ∧ vy = .int .i64 (a + (j : Int)) ∧ wr.ownsRow (G + 1) 43 3 v (n + j * rs.length) ((extTo f rs a xs j).flatMap encChg) ∧ At wr G (.cells #[.string s, .int .i64 f, v] 24) ∧ Below G w3 wr) (fun _ vy _ => J + 2 - (intOf vy - a).toNat)
  case atStart => exact ⟨0, .slice va n vc, by omega, rfl, by simp, by simpa [extTo] using OWN1.out, AC1.out, BC1.out⟩
  case round =>
    obtain ⟨j, v, hj, rfl, rfl, hown, ac, bw⟩ := hrel
    have bw' : Below w3.heap.size w3 wr := by rw [hG]; exact bw
    have hbs := bw'.size
    have hgl := ac.lt
    have hm204 : j * rs.length ≤ 204 := Nat.le_trans (Nat.mul_le_mul (show j ≤ 51 by omega) rl2) (by omega)
    have OWN := Lib.hid hown; have AC := Lib.hid ac; have BW := Lib.hid bw; have B0 := Lib.hid (below_then B00.out bw')
    clear hown bw
    have HYL := Lib.hid (yearTo_len (y := a + (j : Int)) (b := lastO f (extTo f rs a xs j)) (xs := rs) rs.length (Nat.le_refl _))
    obtain ⟨lb1, lb2⟩ := lastO_in ZF.out (extTo_off (f := f) (a := a) HEACH.out ZX.out j)
    by_cases hlt : j ≤ J
    · have hlt2 : a + (j : Int) ≤ a + (J : Int) := by omega
      have HYOK := Lib.hid (yearTo_ok (y := a + (j : Int)) HEACH.out HLB.out lb1 lb2 (by omega) (by omega) rs.length)
      obtain ⟨m, hm⟩ : ∃ m, m = n + j * rs.length := ⟨_, rfl⟩
      have hm2 : m ≤ 404 := by omega
      have hm3 := Lib.hid (show m + rs.length = n + (j + 1) * rs.length by rw [hm, Nat.add_mul, Nat.one_mul, Nat.add_assoc])
      rw [← hm] at OWN
      have e2 : wr.drew.cell? ⟨G, 2, none⟩ = some v := ac.cell 2
      have e2' : wr.cell? ⟨G, 2, none⟩ = some v := ac.cell 2
      clear ac hm hm204
      go_upto_region 20 with fail
      go_cut [] from 72 to 86 (fun wx => ∃ v', wx.ownsRow (G + 1) 43 3 v' (m + rs.length) ((extTo f rs a xs (j + 1)).flatMap encChg) ∧ At wx G (.cells #[.string s, .int .i64 f, v'] 24) ∧ Below G w3 wx)
      case first =>
        go_region_law
          (first
            | (rw [if_pos (by rfl)]; go_simp; go_at_call 31; refine (forecast_changes _ pl nl cl rs (lastO f (extTo f rs a xs j)) (a + (j : Int)) Q1.out lb1 lb2 (by omega) (by omega) (H2.out.then_ B0.out.drew)).mono ?_; rintro e w2 ⟨v2, rfl, hown2, hb⟩; (obtain ⟨pa, pc, rfl, _, _, hch⟩ := own_changes hown2 HYL.out HYOK.out); (obtain ⟨ad, rfl⟩ := changes_some hch (by have := L2.out; omega)); have hnews := changes_news hch; have x2 : w2.cell? ⟨G, 2, none⟩ = some v := (hb.cell (p := ⟨G, 2, none⟩) (by first | (simp only; omega) | (simp; omega))).trans e2; have ownw := own_then4 (w := wr.drew) OWN.out hb; have hg2 : G < w2.heap.size := Nat.lt_of_lt_of_le hgl hb.size)
            | (refine step_append_lies _ (by rfl) _ _ _ (by rfl) (G + 1) 43 i0 _ 3 32 Tryd.underlying22 hi hz0 hz1 hz2 rfl (by omega) v m ((extTo f rs a xs j).flatMap encChg) (by rfl) ownw ad rs.length pc ((yearTo (a + (j : Int)) (lastO f (extTo f rs a xs j)) rs rs.length).flatMap encChg) (by rfl) (by rw [chg_len, HYL.out]) hnews (fun u hu => chg_one hu) (by omega) (by unfold maxLen; omega) (by omega) (by omega) w2.heap.size rfl ?_; intro gg cap w4 hown' hgrow hat hltg; have hne : some G ≠ Value.ownBlock v := own_near ownw (by omega); have y4 : w4.cell? ⟨G, 2, none⟩ = some v := (hgrow.cell_far ⟨G, 2, none⟩ hg2 hne).trans x2; have y5 : w4.frozen? ⟨G, 2, none⟩ = false := (hgrow.frozen_far ⟨G, 2, none⟩ hg2 hne).trans (AC.out.drew.then_ hb |>.frozen 2)))
        · have ac4 := (AC.out.drew.then_ hb).grown6 hgrow hne
          have bw4 : Below G w3 w4 := ((BW.out.drew).trans (hb.mono (by show G ≤ wr.heap.size; omega))).grown hgrow (by omega) (fun b hb => by have := own_far5 ownw hb; omega)
          have own4 := own_set8 hown' (p := ⟨G, 2, none⟩) (by simp only; omega) (.slice (some ⟨gg, 0, none⟩) (m + rs.length) cap)
          have ac5 := ac4.store 2 (.slice (some ⟨gg, 0, none⟩) (m + rs.length) cap)
          have bw5 := below_set bw4 (p := ⟨G, 2, none⟩) (Nat.le_refl _) (.slice (some ⟨gg, 0, none⟩) (m + rs.length) cap)
          go_wp2_with fail
          go_meet
          case rel => exact ⟨_, by rw [extTo_succ, List.flatMap_append]; exact own4, ac5, bw5⟩
        · have ac4 := (AC.out.drew.then_ hb).grown6 hgrow hne
          have bw4 : Below G w3 w4 := ((BW.out.drew).trans (hb.mono (by show G ≤ wr.heap.size; omega))).grown hgrow (by omega) (fun b hb => by have := own_far5 ownw hb; omega)
          have own4 := own_set8 hown' (p := ⟨G, 2, none⟩) (by simp only; omega) (.slice (some ⟨gg, 0, none⟩) (m + rs.length) cap)
          have ac5 := ac4.store 2 (.slice (some ⟨gg, 0, none⟩) (m + rs.length) cap)
          have bw5 := below_set bw4 (p := ⟨G, 2, none⟩) (Nat.le_refl _) (.slice (some ⟨gg, 0, none⟩) (m + rs.length) cap)
          go_wp2_with fail
          go_meet
          case rel => exact ⟨_, by rw [extTo_succ, List.flatMap_append]; exact own4, ac5, bw5⟩
      case rest =>
      obtain ⟨v', hown, ac, bw⟩ := hcut
      obtain ⟨W7, rfl⟩ : ∃ W7, W7 = wc := ⟨_, rfl⟩
      have OWN7 := Lib.hid hown; have AC7 := Lib.hid ac; have BW7 := Lib.hid bw
      have b7 := below_then B00.out (show Below w3.heap.size w3 W7 by rw [hG]; exact bw)
      have hnl0 : 0 < nl := by have := L2.out; omega
      obtain ⟨rb, ro, rfl, hrb, hcs⟩ := (H2.out.then_ b7).open_ hnl0
      obtain ⟨m', wk', wd', t', o', l', c0, c1, c2, c3, c4, c5, hx, _⟩ := hcs (nl - 1) (by omega)
      have HLO := Lib.hid (ext_last (f := f) (a := a) (xs := xs) (j := j) (show rs.length = nl - 1 + 1 by have := L2.out; omega) hx)
      have hkm : nl - 1 < nl := by omega
      have hw0 : IntKind.i64.wrap ((nl : Int) - 1) = ((nl - 1 : Nat) : Int) := by rw [IntWalk.i64_in _ (by have := L2.out; omega)]; omega
      clear hcs hx hown ac bw e2 e2' OWN AC BW
      go_wp2_with fail
      go_roundw
      case rel => exact ⟨j + 1, v', by omega, by rw [HLO.out], by go_num, by rw [← hm3.out]; exact OWN7.out, AC7.out, BW7.out⟩
      case measure => first | (simp [intOf]; done) | (simp [intOf]; omega)
    · obtain rfl : j = J + 1 := by omega
      obtain ⟨va2, vc2, rfl, _, _, hch⟩ := own_changes OWN.out (by rw [extTo_len, L1.out]) (extTo_ok HEACH.out HLB.out ZF.out ZX.out HCO.out r1 (J + 1) (by omega))
      have HOKX := Lib.hid (extTo_ok (f := f) (a := a) HEACH.out HLB.out ZF.out ZX.out HCO.out r1 (J + 1) (by omega))
      have HLX := Lib.hid (show (extTo f rs a xs (J + 1)).length = n + (J + 1) * rs.length by rw [extTo_len, L1.out])
      have HCH := Lib.hid hch
      have g0 : wr.cell? ⟨G, 0, none⟩ = some (.string s) := ac.cell 0
      have g1 : wr.cell? ⟨G, 1, none⟩ = some (.int .i64 f) := ac.cell 1
      have g2 : wr.cell? ⟨G, 2, none⟩ = some (.slice va2 (n + (J + 1) * rs.length) vc2) := ac.cell 2
      have ar0 := AR.out.then_ bw'
      have AR0 := Lib.hid ar0
      generalize hLL : extTo f rs a xs (J + 1) = LL at *
      generalize hMM : n + (J + 1) * rs.length = MM at *
      clear hch ac ar0 hMM hm204 lb1 lb2 HYL hbs bw'
      go_wp2_with fail
      refine (zone_Check _ s f va2 MM vc2 LL hs f1 f2 HCH.out).mono ?_
      clear g0 g1 g2
      by_cases q : zoneErr s f LL = 0
      case neg =>
        have q' : (zoneErr s f LL != 0) = true := by simpa using q
        have Q := Lib.hid q
        generalize zoneErr s f LL = E at hf4 q' Q ⊢
        rintro e w8 ⟨rfl, hb⟩
        clear q
        have b0 := below_then B0.out hb
        have ar := AR0.out.then_ hb
        clear hb AC AR0 AR
        have f0 : w8.frozen? ⟨w.heap.size + 1, 0, none⟩ = false := ar.frozen 0
        have f1 : w8.frozen? ⟨w.heap.size + 1, 1, none⟩ = false := ar.frozen 1
        have f2 : w8.frozen? ⟨w.heap.size + 1, 2, none⟩ = false := ar.frozen 2
        have z0 : w8.cell? ⟨w.heap.size + 1, 0, none⟩ = some (.string ⟨#[]⟩) := ar.cell 0
        have z1 : w8.cell? ⟨w.heap.size + 1, 1, none⟩ = some (.int .i64 0) := ar.cell 1
        have z2 : w8.cell? ⟨w.heap.size + 1, 2, none⟩ = some (.slice none 0 0) := ar.cell 2
        have AR := Lib.hid ar; clear ar
        go_wp2_with fail
        have AF := AR.out.store3 (.string ⟨#[]⟩) (.int .i64 0) (.slice none 0 0)
        have y0 : (((w8.setCell ⟨w.heap.size + 1, 0, none⟩ (.string ⟨#[]⟩)).setCell ⟨w.heap.size + 1, 1, none⟩ (.int .i64 0)).setCell ⟨w.heap.size + 1, 2, none⟩ (.slice none 0 0)).cell? ⟨w.heap.size + 1, 0, none⟩ = some (.string ⟨#[]⟩) := AF.cell 0
        have y1 : (((w8.setCell ⟨w.heap.size + 1, 0, none⟩ (.string ⟨#[]⟩)).setCell ⟨w.heap.size + 1, 1, none⟩ (.int .i64 0)).setCell ⟨w.heap.size + 1, 2, none⟩ (.slice none 0 0)).cell? ⟨w.heap.size + 1, 1, none⟩ = some (.int .i64 0) := AF.cell 1
        have y2 : (((w8.setCell ⟨w.heap.size + 1, 0, none⟩ (.string ⟨#[]⟩)).setCell ⟨w.heap.size + 1, 1, none⟩ (.int .i64 0)).setCell ⟨w.heap.size + 1, 2, none⟩ (.slice none 0 0)).cell? ⟨w.heap.size + 1, 2, none⟩ = some (.slice none 0 0) := AF.cell 2
        exact bodyPost_ret (v := .tuple #[.agg #[.string ⟨#[]⟩, .int .i64 0, .slice none 0 0], .int .i64 E]) (by simp [results, Tryd.results20, go_sem, y0, y1, y2]) rfl (.inl ⟨by rw [hf4.out]; first | exact Q.out | omega, by rw [hf4.out], below_set3 b0 (by omega) _ _ _⟩)
      have hf5 := Lib.hid (hf4.out.trans q)
      rw [q]
      clear q
      rintro e w8 ⟨rfl, hb⟩
      have b0 := below_then B0.out hb
      have ar := AR0.out.then_ hb
      have ac8 := AC.out.then_ hb
      have OWN8 := Lib.hid (own_then4 OWN.out hb)
      have g0 : w8.cell? ⟨G, 0, none⟩ = some (.string s) := ac8.cell 0
      have g1 : w8.cell? ⟨G, 1, none⟩ = some (.int .i64 f) := ac8.cell 1
      have g2 : w8.cell? ⟨G, 2, none⟩ = some (.slice va2 MM vc2) := ac8.cell 2
      have hJJ : (a + (J : Int) - a + 1).toNat = J + 1 := by omega
      clear hb AC AR0 AR ac8
      have f0 : w8.frozen? ⟨w.heap.size + 1, 0, none⟩ = false := ar.frozen 0
      have f1 : w8.frozen? ⟨w.heap.size + 1, 1, none⟩ = false := ar.frozen 1
      have f2 : w8.frozen? ⟨w.heap.size + 1, 2, none⟩ = false := ar.frozen 2
      have z0 : w8.cell? ⟨w.heap.size + 1, 0, none⟩ = some (.string ⟨#[]⟩) := ar.cell 0
      have z1 : w8.cell? ⟨w.heap.size + 1, 1, none⟩ = some (.int .i64 0) := ar.cell 1
      have z2 : w8.cell? ⟨w.heap.size + 1, 2, none⟩ = some (.slice none 0 0) := ar.cell 2
      have AR := Lib.hid ar; clear ar
      go_wp2_with fail
      have AF := AR.out.store3 (.string s) (.int .i64 f) (.slice va2 MM vc2)
      have y0 : (((w8.setCell ⟨w.heap.size + 1, 0, none⟩ (.string s)).setCell ⟨w.heap.size + 1, 1, none⟩ (.int .i64 f)).setCell ⟨w.heap.size + 1, 2, none⟩ (.slice va2 MM vc2)).cell? ⟨w.heap.size + 1, 0, none⟩ = some (.string s) := AF.cell 0
      have y1 : (((w8.setCell ⟨w.heap.size + 1, 0, none⟩ (.string s)).setCell ⟨w.heap.size + 1, 1, none⟩ (.int .i64 f)).setCell ⟨w.heap.size + 1, 2, none⟩ (.slice va2 MM vc2)).cell? ⟨w.heap.size + 1, 1, none⟩ = some (.int .i64 f) := AF.cell 1
      have y2 : (((w8.setCell ⟨w.heap.size + 1, 0, none⟩ (.string s)).setCell ⟨w.heap.size + 1, 1, none⟩ (.int .i64 f)).setCell ⟨w.heap.size + 1, 2, none⟩ (.slice va2 MM vc2)).cell? ⟨w.heap.size + 1, 2, none⟩ = some (.slice va2 MM vc2) := AF.cell 2
      have bf := below_set3 b0 (show w.heap.size ≤ w.heap.size + 1 by omega) (.string s) (.int .i64 f) (.slice va2 MM vc2)
      have ownf := own_set8 (own_set8 (own_set8 OWN8.out (p := ⟨w.heap.size + 1, 0, none⟩) (by simp only; omega) (.string s)) (p := ⟨w.heap.size + 1, 1, none⟩) (by simp only; omega) (.int .i64 f)) (p := ⟨w.heap.size + 1, 2, none⟩) (by simp only; omega) (.slice va2 MM vc2)
      obtain ⟨ab, cb, hve, _, _, hI⟩ := own_changes ownf HLX.out HOKX.out
      injection hve with hv1 _ hv3
      subst hv1 hv3
      exact bodyPost_ret (v := .tuple #[.agg #[.string s, .int .i64 f, .slice va2 MM vc2], .int .i64 0]) (by simp [results, Tryd.results20, go_sem, y0, y1, y2]) rfl (.inr ⟨hf5.out, va2, MM, vc2, rfl, by rw [hJJ, hLL]; exact hI, bf⟩)
end Go.Proofs.YtjpbkkoflaajcabDoor
