/- Contract of zone.Next. -/
import Derived.Test.YtjekdceicjnamabDoorZone3
namespace Go.Proofs.YtjekdceicjnamabDoor
set_option linter.unusedVariables false
set_option maxRecDepth 100000
open Go.RowKit

/-- Two boxes of the call's own. -/
def Duo (w : World) (o1 o2 : Obj) (W : World) : Prop := At W w.heap.size o1 ∧ At W (w.heap.size + 1) o2 ∧ Below w.heap.size w W
theorem Duo.new (w : World) (o1 o2 : Obj) : Duo w o1 o2 ((w.alloc o1).alloc o2) := ⟨(At.new w _).alloc _, At.new1 w _ _, by (repeat' (first | exact Below.refl _ _ | assumption | refine Below.drew ?_ | refine below_drewN ?_ _ | refine below_new ?_ _ | refine below_set ?_ ?_ _ | refine below_then ?_ (by assumption) | refine below_drawn ?_ (by assumption) | exact Nat.le_refl _ | omega | (simp; done) | (simp; omega)))⟩
theorem Duo.step {w W W' : World} {o1 o2 : Obj} (h : Duo w o1 o2 W) (hb : Below W.heap.size W W') : Duo w o1 o2 W' := ⟨h.1.then_ hb, h.2.1.then_ hb, below_then h.2.2 hb⟩
theorem Duo.drewN {w W : World} {o1 o2 : Obj} (h : Duo w o1 o2 W) (n : Nat) : Duo w o1 o2 (W.drewN n) := ⟨h.1.drewN n, h.2.1.drewN n, below_drewN h.2.2 n⟩
theorem Duo.alloc {w W : World} {o1 o2 : Obj} (h : Duo w o1 o2 W) (o : Obj) : Duo w o1 o2 (W.alloc o) := h.step (below_new (Below.refl _ _) o)
theorem Duo.store3 {w W : World} {o1 : Obj} {t : TypeId} {v0 v1 v2 : Value} (h : Duo w o1 (.cells #[v0, v1, v2] t) W) (u0 u1 u2 : Value) : Duo w o1 (.cells #[u0, u1, u2] t) (((W.setCell ⟨w.heap.size + 1, 0, none⟩ u0).setCell ⟨w.heap.size + 1, 1, none⟩ u1).setCell ⟨w.heap.size + 1, 2, none⟩ u2) :=
  ⟨At.apart3 h.1 (by omega) _ _ _, At.store3 h.2.1 _ _ _, below_set3 h.2.2 (by omega) _ _ _⟩
theorem Duo.first3 {w W : World} {o2 : Obj} {t : TypeId} {v0 v1 v2 : Value} (h : Duo w (.cells #[v0, v1, v2] t) o2 W) : W.cell? ⟨w.heap.size, 0, none⟩ = some v0 ∧ W.cell? ⟨w.heap.size, 1, none⟩ = some v1 ∧ W.cell? ⟨w.heap.size, 2, none⟩ = some v2 := ⟨h.1.cell 0, h.1.cell 1, h.1.cell 2⟩
theorem Duo.second3 {w W : World} {o1 : Obj} {t : TypeId} {v0 v1 v2 : Value} (h : Duo w o1 (.cells #[v0, v1, v2] t) W) : W.cell? ⟨w.heap.size + 1, 0, none⟩ = some v0 ∧ W.cell? ⟨w.heap.size + 1, 1, none⟩ = some v1 ∧ W.cell? ⟨w.heap.size + 1, 2, none⟩ = some v2 ∧ W.frozen? ⟨w.heap.size + 1, 0, none⟩ = false ∧ W.frozen? ⟨w.heap.size + 1, 1, none⟩ = false ∧ W.frozen? ⟨w.heap.size + 1, 2, none⟩ = false :=
  ⟨h.2.1.cell 0, h.2.1.cell 1, h.2.1.cell 2, h.2.1.frozen 0, h.2.1.frozen 1, h.2.1.frozen 2⟩

set_option maxHeartbeats 2000000 in
theorem zone_Next_err (w : World) (s : ByteArray) (f : Int) (a : Option Addr) (n c : Nat) (xs : List Chg) (t : Int) (hs : s.size ≤ 9223372036854775807) (f1 : -9223372036854775808 ≤ f) (f2 : f ≤ 9223372036854775807) (t1 : -9223372036854775808 ≤ t) (t2 : t ≤ 9223372036854775807) (h : Changes w w.heap.size a n xs) (q : zchk s f xs t ≠ 0) :
    Calls Tryd.prog 15 #[.agg #[.string s, .int .i64 f, .slice a n c], .int .i64 t] w fun e w' => e = .returned (.tuple #[.agg #[.int .i64 0, .int .i64 0, .string ⟨#[]⟩], .int .i64 (zchk s f xs t)]) ∧ Below w.heap.size w w' := by
  have H := Lib.hid h; clear h
  have q' : (zchk s f xs t != 0) = true := by simpa using q
  obtain ⟨E, hE⟩ : ∃ E, E = zchk s f xs t := ⟨_, rfl⟩
  rw [← hE] at q' ⊢
  have HE := Lib.hid hE; clear hE q
  go_enter Tryd.func15, Tryd.ntmps15
  go_wp2_with fail
  have du := Duo.new w (.cells #[.string s, .int .i64 f, .slice a n c] 24) (.cells #[.int .i64 0, .int .i64 0, .string ⟨#[]⟩] 39)
  generalize World.alloc (World.alloc w _) _ = W1 at du ⊢
  refine (zone_check _ _ _ _ _ _ xs t hs f1 f2 t1 t2 (H.out.then_ du.2.2)).mono ?_; rw [← HE.out]; rintro e w1 ⟨rfl, hb⟩
  replace du := du.step hb
  clear hb
  obtain ⟨e0, e1, e2, z0, z1, z2⟩ := du.second3
  go_wp2_with fail
  replace du := du.store3 (.int .i64 0) (.int .i64 0) (.string ⟨#[]⟩)
  clear e0 e1 e2 z0 z1 z2
  generalize World.setCell (World.setCell _ _ _) _ _ = W3 at du ⊢
  obtain ⟨e0, e1, e2, _, _, _⟩ := du.second3
  exact bodyPost_ret (v := .tuple #[.agg #[.int .i64 0, .int .i64 0, .string ⟨#[]⟩], .int .i64 E]) (by simp [results, Tryd.results15, go_sem, e0, e1, e2]) rfl ⟨rfl, du.2.2⟩
set_option maxHeartbeats 2000000 in
theorem zone_Next_ok (w : World) (s : ByteArray) (f : Int) (a : Option Addr) (n c : Nat) (xs : List Chg) (t : Int) (hs : s.size ≤ 9223372036854775807) (f1 : -9223372036854775808 ≤ f) (f2 : f ≤ 9223372036854775807) (t1 : -9223372036854775808 ≤ t) (t2 : t ≤ 9223372036854775807) (h : Changes w w.heap.size a n xs) (q : zchk s f xs t = 0) :
    Calls Tryd.prog 15 #[.agg #[.string s, .int .i64 f, .slice a n c], .int .i64 t] w fun e w' => e = .returned (nextOut t xs) ∧ Below w.heap.size w w' := by
  have L1 := Lib.hid h.len
  have m1 := h.max
  have H := Lib.hid h; clear h
  have HE := Lib.hid q; clear q
  go_enter Tryd.func15, Tryd.ntmps15
  go_wp2_with fail
  have du := Duo.new w (.cells #[.string s, .int .i64 f, .slice a n c] 24) (.cells #[.int .i64 0, .int .i64 0, .string ⟨#[]⟩] 39)
  generalize World.alloc (World.alloc w _) _ = W1 at du ⊢
  refine (zone_check _ _ _ _ _ _ xs t hs f1 f2 t1 t2 (H.out.then_ du.2.2)).mono ?_; rw [HE.out]; rintro e w1 ⟨rfl, hb⟩
  replace du := du.step hb
  clear hb
  obtain ⟨x0, x1, x2⟩ := du.first3
  go_wp2_with fail
  clear x0 x1 x2
  go_loopw [8, 19] (fun _ i wr => ∃ k : Nat, k ≤ n ∧ i = .int .i64 k ∧ nextTo t (xs.drop k) = nextTo t xs ∧ Duo w (.cells #[.string s, .int .i64 f, .slice a n c] 24) (.cells #[.int .i64 0, .int .i64 0, .string ⟨#[]⟩] 39) wr) (fun _ i _ => n - (intOf i).toNat)
  case atStart => exact ⟨0, by omega, rfl, rfl, du⟩
  case round =>
    clear du
    obtain ⟨k, hk, rfl, hall, du⟩ := hrel
    have HA := Lib.hid hall; clear hall
    by_cases hlt : k < n
    · obtain ⟨b, off, rfl, hbB, hcs⟩ := (H.out.below du.2.2 (Nat.le_refl _)).open_ (by omega)
      obtain ⟨a1, o1, l1, hc0, hc1, hc2, hx, u1, u2, o1', o2', hls⟩ := hcs k hlt
      have hst := Lib.hid ((congrArg (nextTo t) (drop_row hx)).symm.trans HA.out)
      clear hcs hx
      have hz := du.2.2.size
      have hbz : b < wr.heap.size := by omega
      have hl2 := du.2.1.lt
      obtain ⟨e0, e1, e2, z0, z1, z2⟩ := du.second3
      by_cases hc : t < a1
      · have HF := Lib.hid (show nextOut t xs = .tuple #[.agg #[.int .i64 a1, .int .i64 o1, .string l1], .int .i64 0] by unfold nextOut; rw [← hst.out, nextTo_cons, if_pos hc])
        go_wp2_with fail
        replace du := (du.store3 (.int .i64 a1) (.int .i64 o1) (.string l1)).alloc (.cells #[.int .i64 a1, .int .i64 o1, .string l1] 39)
        clear e0 e1 e2 z0 z1 z2
        generalize World.alloc _ _ = W3 at du ⊢
        obtain ⟨e0, e1, e2, _, _, _⟩ := du.second3
        exact bodyPost_ret (v := .tuple #[.agg #[.int .i64 a1, .int .i64 o1, .string l1], .int .i64 0]) (by simp [results, Tryd.results15, go_sem, e0, e1, e2]) rfl ⟨by rw [HF.out], du.2.2⟩
      · have HF := Lib.hid (show nextTo t (xs.drop (k + 1)) = nextTo t xs by rw [← hst.out, nextTo_cons, if_neg hc])
        go_wp2_with fail
        go_roundw
        case rel => exact ⟨k + 1, by omega, by go_num, HF.out, du.alloc _⟩
        case measure => simp [intOf]; omega
    · have HF := Lib.hid (show nextOut t xs = .tuple #[.agg #[.int .i64 0, .int .i64 0, .string ⟨#[]⟩], .int .i64 6] by unfold nextOut; rw [← HA.out, List.drop_eq_nil_of_le (by have := L1.out; omega), nextTo])
      obtain ⟨e0, e1, e2, z0, z1, z2⟩ := du.second3
      go_wp2_with fail
      replace du := du.store3 (.int .i64 0) (.int .i64 0) (.string ⟨#[]⟩)
      clear e0 e1 e2 z0 z1 z2
      generalize World.setCell (World.setCell _ _ _) _ _ = W3 at du ⊢
      obtain ⟨e0, e1, e2, _, _, _⟩ := du.second3
      exact bodyPost_ret (v := .tuple #[.agg #[.int .i64 0, .int .i64 0, .string ⟨#[]⟩], .int .i64 6]) (by simp [results, Tryd.results15, go_sem, e0, e1, e2]) rfl ⟨by rw [HF.out], du.2.2⟩
end Go.Proofs.YtjekdceicjnamabDoor
