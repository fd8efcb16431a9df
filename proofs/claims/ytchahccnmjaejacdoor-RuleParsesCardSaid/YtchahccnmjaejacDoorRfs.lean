/- The reference's SameExpr and SameRule, at two values that hold one tree. -/
import Derived.Test.YtchahccnmjaejacDoorPar13
import Derived.BigQuiet
namespace Go.Proofs.YtchahccnmjaejacDoor
set_option linter.unusedVariables false
set_option maxRecDepth 100000
open Go.RowKit Go.Shelf

set_option maxHeartbeats 8000000 in
theorem ref_SameExpr : ∀ (t : Tree) (w : World) (a1 a2 : Option Addr) (n c1 c2 : Nat), SubAt w w.heap.size t a1 n → SubAt w w.heap.size t a2 n →
    Calls Tryd.prog 11 #[.agg #[.int .i64 t.kind, .int .i64 t.num, .slice a1 n c1], .agg #[.int .i64 t.kind, .int .i64 t.num, .slice a2 n c2]] w fun e w' => e = .returned (.bool true) ∧ Below w.heap.size w w' := by
  intro t
  refine Tree.all (P := fun t => ∀ (w : World) (a1 a2 : Option Addr) (n c1 c2 : Nat), SubAt w w.heap.size t a1 n → SubAt w w.heap.size t a2 n →
    Calls Tryd.prog 11 #[.agg #[.int .i64 t.kind, .int .i64 t.num, .slice a1 n c1], .agg #[.int .i64 t.kind, .int .i64 t.num, .slice a2 n c2]] w fun e w' => e = .returned (.bool true) ∧ Below w.heap.size w w') ?_ t
  intro k m ks ih w a1 a2 n c1 c2 h1 h2
  have IH := Lib.hid ih; clear ih
  have SL := h1.len
  simp only [Tree.kids, Tree.kind, Tree.num] at SL ⊢
  obtain ⟨hlen, hlm, _, _⟩ := SL
  have LN := Lib.hid hlen
  obtain ⟨b2, hb2⟩ : ∃ b, b = w.heap.size := ⟨_, rfl⟩
  obtain ⟨b3, hb3⟩ : ∃ b, b = w.heap.size + 1 := ⟨_, rfl⟩
  have A2 := Lib.hid ((At.newAt w (.cells #[.int .i64 k, .int .i64 m, .slice a1 n c1] 24) b2 hb2).alloc (.cells #[.int .i64 k, .int .i64 m, .slice a2 n c2] 24))
  have A3 := Lib.hid (At.newAt (w.alloc (.cells #[.int .i64 k, .int .i64 m, .slice a1 n c1] 24)) (.cells #[.int .i64 k, .int .i64 m, .slice a2 n c2] 24) b3 (by rw [hb3, World.size_alloc]))
  have HB := Lib.hid (show Below w.heap.size w ((w.alloc (.cells #[.int .i64 k, .int .i64 m, .slice a1 n c1] 24)).alloc (.cells #[.int .i64 k, .int .i64 m, .slice a2 n c2] 24)) from below_new (below_new (Below.refl _ _) _) _)
  have H1 := Lib.hid h1; have H2 := Lib.hid h2
  clear h1 h2 hlen
  go_enter Tryd.func11, Tryd.ntmps11
  go_upto_region 1 with fail
  (try rw [World.size_alloc])
  rw [← hb3, ← hb2]
  clear hb2 hb3
  generalize World.alloc (World.alloc w _) _ = W0 at A2 A3 HB ⊢
  have x0 := A2.out.cell 0; have x1 := A2.out.cell 1; have x2 := A2.out.cell 2
  have y0 := A3.out.cell 0; have y1 := A3.out.cell 1; have y2 := A3.out.cell 2
  simp at x0 x1 x2 y0 y1 y2
  have hl2 := A2.out.lt; have hl3 := A3.out.lt
  go_wp2_with fail
  go_loopw [30] (fun v wr => ∃ i : Nat, v = .int .i64 i ∧ i ≤ n ∧ Below w.heap.size w wr ∧ Below W0.heap.size W0 wr) (fun v _ => n - (intOf v).toNat)
  case atStart => exact ⟨0, rfl, by omega, HB.out, Below.refl _ _⟩
  case round =>
    obtain ⟨i, rfl, hi, hb, hb0⟩ := hrel
    have HBR := Lib.hid hb; have HB0 := Lib.hid hb0
    have X2 := Lib.hid (A2.out.then_ hb0); have X3 := Lib.hid (A3.out.then_ hb0)
    clear hb hb0 x0 x1 x2 y0 y1 y2 hl2 hl3
    by_cases hin : i < n
    · obtain ⟨p, off, rfl, hp, hc⟩ := H1.out.kid (by omega)
      obtain ⟨p', off', rfl, hp', hc'⟩ := H2.out.kid (by omega)
      obtain ⟨k1, m1, ks1, q1, n1, d1, e0, e1, e2, ek, z1, z2, hs⟩ := hc i hin
      obtain ⟨k1', m1', ks1', q2, n2, d2, g0, g1, g2, ek', z3, z4, hs'⟩ := hc' i hin
      rw [ek] at ek'
      injection ek' with ek'
      injection ek' with r1 r2 r3
      subst r1 r2 r3
      obtain rfl : n1 = n2 := by rw [← hs.len.1, ← hs'.len.1]
      have hmem := List.mem_of_getElem? ek
      have CC := Lib.hid (fun (W : World) (hW : Below wr.heap.size wr W) => show Calls Tryd.prog 11 #[.agg #[.int .i64 k1, .int .i64 m1, .slice q1 n1 d1], .agg #[.int .i64 k1, .int .i64 m1, .slice q2 n1 d2]] W (fun e w' => e = .returned (.bool true) ∧ Below W.heap.size W w') from
        IH.out _ hmem W q1 q2 n1 d1 d2 (hs.then_ (below_then HBR.out hW)) (hs'.then_ (below_then HBR.out hW)))
      have hpw : p < wr.heap.size := Nat.lt_of_lt_of_le hp HBR.out.size
      have hpw' : p' < wr.heap.size := Nat.lt_of_lt_of_le hp' HBR.out.size
      have E0 := Lib.hid ((HBR.out.cell (p := ⟨p, off + i * 3, none⟩) hp).trans e0)
      have E1 := Lib.hid ((HBR.out.cell (p := ⟨p, off + i * 3 + 1, none⟩) hp).trans e1)
      have E2 := Lib.hid ((HBR.out.cell (p := ⟨p, off + i * 3 + 2, none⟩) hp).trans e2)
      have G0 := Lib.hid ((HBR.out.cell (p := ⟨p', off' + i * 3, none⟩) hp').trans g0)
      have G1 := Lib.hid ((HBR.out.cell (p := ⟨p', off' + i * 3 + 1, none⟩) hp').trans g1)
      have G2 := Lib.hid ((HBR.out.cell (p := ⟨p', off' + i * 3 + 2, none⟩) hp').trans g2)
      have hii : (i : Int) < (n : Int) := by omega
      clear hc hc' e0 e1 e2 g0 g1 g2 ek hs hs' hmem hp hp'
      go_wp2_with fail
      (refine region_class (Below wr.heap.size wr) (by kernel_rfl) (by kernel_rfl) ((Below.refl _ _).drew) ?_; repeat ((first | (refine class_take ?_ (by rfl) ?_ ?_; rotate_left; focus (intro wq hq; ((have r2 := X2.out.then_ hq; have r3 := X3.out.then_ hq; have v2 : wq.cell? ⟨b2, 2, none⟩ = some (.slice (some ⟨p, off, none⟩) n c1) := r2.cell 2; have v3 : wq.cell? ⟨b3, 2, none⟩ = some (.slice (some ⟨p', off', none⟩) n c2) := r3.cell 2; have l2 := r2.lt; have l3 := r3.lt; have s0 := (hq.cell (p := ⟨p, off + i * 3, none⟩) hpw).trans E0.out; have s1 := (hq.cell (p := ⟨p, off + i * 3 + 1, none⟩) hpw).trans E1.out; have s2 := (hq.cell (p := ⟨p, off + i * 3 + 2, none⟩) hpw).trans E2.out; have u0 := (hq.cell (p := ⟨p', off' + i * 3, none⟩) hpw').trans G0.out; have u1 := (hq.cell (p := ⟨p', off' + i * 3 + 1, none⟩) hpw').trans G1.out; have u2 := (hq.cell (p := ⟨p', off' + i * 3 + 2, none⟩) hpw').trans G2.out)); go_simp; first | done | with_reducible rfl | ((go_at_call 11; (with_reducible refine (CC.out _ hq).mono ?_); rintro e w' ⟨rfl, hb⟩; refine ⟨?_, below_then hq hb⟩; with_reducible rfl)))) | refine class_skip (by rfl) ?_); try simp only [Act.put, List.setIfInBounds_toArray, List.set_cons_zero, List.set_cons_succ]))
      refine wpQuiet_nil ?_
      intro W6 hW6
      go_wp2_with fail
      go_roundw
      case rel => exact ⟨i + 1, by go_num, by omega, below_then HBR.out hW6, below_then HB0.out hW6⟩
      case measure => simp [intOf]; omega
    · obtain rfl : i = n := by omega
      clear hin
      go_wp2_with fail
      go_ret
      exact ⟨rfl, HBR.out⟩
set_option maxHeartbeats 8000000 in
theorem ref_SameRule (t : PRule) (w : World) (N : ByteArray) (k n : Int) (a1 a2 am1 am2 : Option Addr) (m c1 c2 nm d1 d2 : Nat) (ms : List Mon) (hk : k = t.lp.kind) (hn : n = t.lp.num) (h1 : SubAt w w.heap.size t.lp a1 m) (h2 : SubAt w w.heap.size t.lp a2 m) (h3 : Months w w.heap.size am1 nm ms) (h4 : Months w w.heap.size am2 nm ms) :
    Calls Tryd.prog 5 #[.agg #[.string N, .int .i64 t.ep, .int .i64 t.cy, .int .i64 k, .int .i64 n, .slice a1 m c1, .slice am1 nm d1], .agg #[.string N, .int .i64 t.ep, .int .i64 t.cy, .int .i64 k, .int .i64 n, .slice a2 m c2, .slice am2 nm d2]] w fun e w' => e = .returned (.bool true) ∧ Below w.heap.size w w' := by
  obtain ⟨ep, hep⟩ : ∃ ep, ep = t.ep := ⟨_, rfl⟩
  obtain ⟨cy, hcy⟩ : ∃ cy, cy = t.cy := ⟨_, rfl⟩
  rw [← hep, ← hcy]
  obtain ⟨b2, hb2⟩ : ∃ b, b = w.heap.size := ⟨_, rfl⟩
  obtain ⟨b3, hb3⟩ : ∃ b, b = w.heap.size + 1 := ⟨_, rfl⟩
  have hmx := h3.max
  have A2 := Lib.hid ((At.newAt w (.cells #[.string N, .int .i64 ep, .int .i64 cy, .int .i64 k, .int .i64 n, .slice a1 m c1, .slice am1 nm d1] 27) b2 hb2).alloc (.cells #[.string N, .int .i64 ep, .int .i64 cy, .int .i64 k, .int .i64 n, .slice a2 m c2, .slice am2 nm d2] 27))
  have A3 := Lib.hid (At.newAt (w.alloc (.cells #[.string N, .int .i64 ep, .int .i64 cy, .int .i64 k, .int .i64 n, .slice a1 m c1, .slice am1 nm d1] 27)) (.cells #[.string N, .int .i64 ep, .int .i64 cy, .int .i64 k, .int .i64 n, .slice a2 m c2, .slice am2 nm d2] 27) b3 (by rw [hb3, World.size_alloc]))
  have HB := Lib.hid (show Below w.heap.size w ((w.alloc (.cells #[.string N, .int .i64 ep, .int .i64 cy, .int .i64 k, .int .i64 n, .slice a1 m c1, .slice am1 nm d1] 27)).alloc (.cells #[.string N, .int .i64 ep, .int .i64 cy, .int .i64 k, .int .i64 n, .slice a2 m c2, .slice am2 nm d2] 27)) from below_new (below_new (Below.refl _ _) _) _)
  have H1 := Lib.hid h1; have H2 := Lib.hid h2; have H3 := Lib.hid h3; have H4 := Lib.hid h4
  have CC := Lib.hid (fun (W : World) (hW : Below w.heap.size w W) => show Calls Tryd.prog 11 #[.agg #[.int .i64 k, .int .i64 n, .slice a1 m c1], .agg #[.int .i64 k, .int .i64 n, .slice a2 m c2]] W (fun e w' => e = .returned (.bool true) ∧ Below W.heap.size W w') from by
    rw [hk, hn]; exact ref_SameExpr t.lp W a1 a2 m c1 c2 (H1.out.then_ hW) (H2.out.then_ hW))
  clear h1 h2 h3 h4 hk hn hep hcy
  go_enter Tryd.func5, Tryd.ntmps5
  go_upto_region 1 with fail
  (try rw [World.size_alloc])
  rw [← hb3, ← hb2]
  clear hb2 hb3
  generalize World.alloc (World.alloc w _) _ = W0 at A2 A3 HB ⊢
  have x0 := A2.out.cell 0; have x1 := A2.out.cell 1; have x2 := A2.out.cell 2; have x3 := A2.out.cell 3; have x4 := A2.out.cell 4; have x5 := A2.out.cell 5; have x6 := A2.out.cell 6
  have y0 := A3.out.cell 0; have y1 := A3.out.cell 1; have y2 := A3.out.cell 2; have y3 := A3.out.cell 3; have y4 := A3.out.cell 4; have y5 := A3.out.cell 5; have y6 := A3.out.cell 6
  simp at x0 x1 x2 x3 x4 x5 x6 y0 y1 y2 y3 y4 y5 y6
  have hl2 := A2.out.lt; have hl3 := A3.out.lt
  go_wp2_with fail
  refine (CC.out _ HB.out).mono ?_
  rintro e w1 ⟨rfl, hb1⟩
  have HB1 := Lib.hid (below_then HB.out hb1)
  have B2 := Lib.hid (A2.out.then_ hb1); have B3 := Lib.hid (A3.out.then_ hb1)
  clear x0 x1 x2 x3 x4 x5 x6 y0 y1 y2 y3 y4 y5 y6 hl2 hl3 hb1 A2 A3 HB
  have x6 := B2.out.cell 6; have y6 := B3.out.cell 6
  simp at x6 y6
  have hl2 := B2.out.lt; have hl3 := B3.out.lt
  go_wp2_with fail
  go_loopw [45] (fun v wr => ∃ i : Nat, v = .int .i64 i ∧ i ≤ nm ∧ Below w.heap.size w wr ∧ Below w1.heap.size w1 wr) (fun v _ => nm - (intOf v).toNat)
  case atStart => exact ⟨0, rfl, by omega, HB1.out, Below.refl _ _⟩
  case round =>
    obtain ⟨i, rfl, hi, hb, hb0⟩ := hrel
    have HBR := Lib.hid hb; have HB0 := Lib.hid hb0
    have X2 := Lib.hid (B2.out.then_ hb0); have X3 := Lib.hid (B3.out.then_ hb0)
    clear hb hb0 x6 y6 hl2 hl3
    by_cases hin : i < nm
    · obtain ⟨p, off, rfl, hp, hc⟩ := H3.out.open_ (by omega)
      obtain ⟨p', off', rfl, hp', hc'⟩ := H4.out.open_ (by omega)
      obtain ⟨s, f, g, e0, e1, e2, ek, _⟩ := hc i hin
      obtain ⟨s', f', g', u0, u1, u2, ek', _⟩ := hc' i hin
      rw [ek] at ek'
      injection ek' with ek'
      injection ek' with r1 r2
      injection r2 with r2 r3
      subst r1 r2 r3
      have x6 := X2.out.cell 6; have y6 := X3.out.cell 6
      simp at x6 y6
      have hl2 := X2.out.lt; have hl3 := X3.out.lt
      have hpw : p < wr.heap.size := Nat.lt_of_lt_of_le hp HBR.out.size
      have hpw' : p' < wr.heap.size := Nat.lt_of_lt_of_le hp' HBR.out.size
      have E0 := (HBR.out.cell (p := ⟨p, off + i * 3, none⟩) hp).trans e0
      have E1 := (HBR.out.cell (p := ⟨p, off + i * 3 + 1, none⟩) hp).trans e1
      have E2 := (HBR.out.cell (p := ⟨p, off + i * 3 + 2, none⟩) hp).trans e2
      have G0 := (HBR.out.cell (p := ⟨p', off' + i * 3, none⟩) hp').trans u0
      have G1 := (HBR.out.cell (p := ⟨p', off' + i * 3 + 1, none⟩) hp').trans u1
      have G2 := (HBR.out.cell (p := ⟨p', off' + i * 3 + 2, none⟩) hp').trans u2
      have hii : (i : Int) < (nm : Int) := by omega
      clear hc hc' e0 e1 e2 u0 u1 u2 ek hp hp'
      go_wp2_with fail
      go_quiet (fail)
      go_wp2_with fail
      go_roundw
      case rel => exact ⟨i + 1, by go_num, by omega, by have := HBR.out; (repeat' (first | exact Below.refl _ _ | assumption | refine Below.drew ?_ | refine below_drewN ?_ _ | refine below_new ?_ _ | refine below_set ?_ ?_ _ | refine below_then ?_ (by assumption) | refine below_drawn ?_ (by assumption) | exact Nat.le_refl _ | omega | (simp; done) | (simp; omega))), by have := HB0.out; (repeat' (first | exact Below.refl _ _ | assumption | refine Below.drew ?_ | refine below_drewN ?_ _ | refine below_new ?_ _ | refine below_set ?_ ?_ _ | refine below_then ?_ (by assumption) | refine below_drawn ?_ (by assumption) | exact Nat.le_refl _ | omega | (simp; done) | (simp; omega)))⟩
      case measure => simp [intOf]; omega
    · obtain rfl : i = nm := by omega
      clear hin
      go_wp2_with fail
      go_ret
      exact ⟨rfl, HBR.out⟩
end Go.Proofs.YtchahccnmjaejacDoor
