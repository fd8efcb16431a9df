/- Contract of the reference's ZoneText at a zone in order. -/
import Derived.Test.YtjjmbnflhldoeabDoorPrt1
namespace Go.Proofs.YtjjmbnflhldoeabDoor
set_option linter.unusedVariables false
set_option maxRecDepth 100000
open Go.RowKit Go.Shelf Num

theorem zoneL_zero (s : ByteArray) (f : Int) (xs : List Chg) : (⟨(zoneL s f xs 0).toArray⟩ : ByteArray) = headS s f := by
  simp [zoneL]
theorem arr_size (l : List UInt8) : (⟨l.toArray⟩ : ByteArray).size = l.length := by show l.toArray.size = _; simp
def RtC (w : World) (z : Obj) (C : Nat) (c : Obj) (W : World) : Prop := One w z W ∧ At W C c
theorem RtC.step {w W W' : World} {z c : Obj} {C : Nat} (h : RtC w z C c W) (hb : Below W.heap.size W W') : RtC w z C c W' := ⟨h.1.step hb, h.2.then_ hb⟩
set_option maxHeartbeats 4000000 in
theorem ref_ZoneText (w : World) (s : ByteArray) (f : Int) (a : Option Addr) (n c : Nat) (xs : List Chg) (h : Changes w w.heap.size a n xs) (ht : Pow w) (hz : zoneErr s f xs = 0) :
    Calls Tryd.prog 16 #[.agg #[.string s, .int .i64 f, .slice a n c]] w fun e w' => e = .returned (.string (zoneS s f xs)) ∧ Below w.heap.size w w' := by
  have LN := Lib.hid h.len
  have m1 := h.max
  have H := Lib.hid h; clear h
  have HT := Lib.hid ht; clear ht
  obtain ⟨k1, k2, k3, k4, k5⟩ := zone_fit hz
  rw [LN.out] at k4
  have K5 := Lib.hid k5; clear k5
  have HZL := Lib.hid (fun k => zoneL_len hz k)
  clear hz
  obtain ⟨z1, z2, z3, z4⟩ := lit_sizes
  have z5 := offS_size f
  have a0 := add_ok ((⟨#[122, 111, 110, 101, 32]⟩ : ByteArray)) (s) _ rfl (by (try simp only [app_size]); omega)
  have a1 := add_ok (((⟨#[122, 111, 110, 101, 32]⟩ : ByteArray)) ++ (s)) (⟨#[32]⟩) _ rfl (by (try simp only [app_size]); omega)
  have a2 := add_ok ((((⟨#[122, 111, 110, 101, 32]⟩ : ByteArray)) ++ (s)) ++ (⟨#[32]⟩)) (offS f) _ rfl (by (try simp only [app_size]); omega)
  have a3 := add_ok (((((⟨#[122, 111, 110, 101, 32]⟩ : ByteArray)) ++ (s)) ++ (⟨#[32]⟩)) ++ (offS f)) (⟨#[10]⟩) _ rfl (by (try simp only [app_size]); omega)
  have CO := Lib.hid (fun (W : World) (h : One w (.cells #[.string s, .int .i64 f, .slice a n c] 45) W) => ref_OffsetText f W k2 k3 (HT.out.below h.2))
  have o0 := One.new w (.cells #[.string s, .int .i64 f, .slice a n c] 45)
  clear z1 z2 z3 z4 z5
  have O0 := Lib.hid o0; clear o0
  go_enter Tryd.func16, Tryd.ntmps16
  go_upto_region 1 with (fail)
  have o0 := O0.out
  (refine region_class (One w (.cells #[.string s, .int .i64 f, .slice a n c] 45)) (by kernel_rfl) (by kernel_rfl) (o0.drew) ?_; repeat ((first | (refine class_take ?_ (by rfl) ?_ ?_; rotate_left; focus (intro wq hq; ((have x0 : wq.cell? ⟨w.heap.size, 0, none⟩ = some (.string s) := hq.1.cell 0; have x1 : wq.cell? ⟨w.heap.size, 1, none⟩ = some (.int .i64 f) := hq.1.cell 1)); go_simp; first | done | with_reducible rfl | ((go_at_call 40; (with_reducible refine (CO.out _ hq).mono ?_); rintro e w' ⟨rfl, hb⟩; refine ⟨?_, hq.step hb⟩; with_reducible rfl)))) | refine class_skip (by rfl) ?_); try simp only [Act.put, List.setIfInBounds_toArray, List.set_cons_zero, List.set_cons_succ]))
  refine wpQuiet_nil ?_
  intro W2 hW2
  clear o0 O0
  have y2 : W2.cell? ⟨w.heap.size, 2, none⟩ = some (.slice a n c) := hW2.1.cell 2
  have O2 := Lib.hid hW2; clear hW2 a0 a1 a2 a3
  go_wp2_with fail
  clear y2
  go_loopw [3, 19] (fun v i wr => ∃ k : Nat, k ≤ n ∧ i = .int .i64 k ∧ v = .string ⟨(zoneL s f xs k).toArray⟩ ∧ One w (.cells #[.string s, .int .i64 f, .slice a n c] 45) wr) (fun _ i _ => n - (intOf i).toNat)
  case atStart => exact ⟨0, by omega, rfl, by rw [zoneL_zero]; rfl, O2.out⟩
  case round =>
    clear O2
    obtain ⟨k, hk, rfl, rfl, hp⟩ := hrel
    obtain ⟨hl1, hl2⟩ := HZL.out k
    by_cases hlt : k < n
    · obtain ⟨b0, off, rfl, hbB, hcs⟩ := (H.out.below hp.2 (Nat.le_refl _)).open_ (by omega)
      obtain ⟨t, o, l, hc0, hc1, hc2, hx, t1, t2, o1, o2, hls⟩ := hcs k hlt
      have HS := Lib.hid (zoneL_succ s f xs k t o l hx)
      have hfit := K5.out _ (List.mem_of_getElem? hx)
      have hcz := chgS_size hfit
      obtain ⟨q1, q2, q3, q4, q5⟩ := hfit
      simp only [] at q1 q2 q3 q4 q5
      clear hcs hx
      have hzw := hp.2.size
      have hbz : b0 < wr.heap.size := by omega
      have HP := Lib.hid hp; clear hp
      go_wp2_with fail
      have pc : RtC w (.cells #[.string s, .int .i64 f, .slice (some ⟨b0, off, none⟩) n c] 45) wr.heap.size (.cells #[.int .i64 t, .int .i64 o, .string l] 76) (wr.alloc (.cells #[.int .i64 t, .int .i64 o, .string l] 76)) := ⟨HP.out.alloc _, At.new _ _⟩
      have HPC := Lib.hid pc; clear pc
      generalize World.alloc wr _ = W4 at HPC ⊢
      obtain ⟨C, hC⟩ : ∃ C, C = wr.heap.size := ⟨_, rfl⟩
      rw [← hC] at HPC ⊢
      clear hC hbz hzw hc0 hc1 hc2
      refine (ref_Floor _ _ _ t1 t2 (by omega) (by omega)).mono ?_
      rintro e W5 ⟨rfl, rfl⟩
      have s1 := itoaS_size (n := t / 86400000) (by omega) (by omega)
      have s2 := itoaS_size (n := t % 86400000) (by omega) (by omega)
      have z5 := offS_size o
      obtain ⟨z1, z2, z3, z4⟩ := lit_sizes
      have bb0 := add_ok ((⟨#[97, 116, 32]⟩ : ByteArray)) (itoaS (t / 86400000)) _ rfl (by (try simp only [app_size]); omega)
      have bb1 := add_ok (((⟨#[97, 116, 32]⟩ : ByteArray)) ++ (itoaS (t / 86400000))) (⟨#[32]⟩) _ rfl (by (try simp only [app_size]); omega)
      have bb2 := add_ok ((((⟨#[97, 116, 32]⟩ : ByteArray)) ++ (itoaS (t / 86400000))) ++ (⟨#[32]⟩)) (itoaS (t % 86400000)) _ rfl (by (try simp only [app_size]); omega)
      have bb3 := add_ok (((((⟨#[97, 116, 32]⟩ : ByteArray)) ++ (itoaS (t / 86400000))) ++ (⟨#[32]⟩)) ++ (itoaS (t % 86400000))) (⟨#[32]⟩) _ rfl (by (try simp only [app_size]); omega)
      have bb4 := add_ok ((((((⟨#[97, 116, 32]⟩ : ByteArray)) ++ (itoaS (t / 86400000))) ++ (⟨#[32]⟩)) ++ (itoaS (t % 86400000))) ++ (⟨#[32]⟩)) (offS o) _ rfl (by (try simp only [app_size]); omega)
      have bb5 := add_ok (((((((⟨#[97, 116, 32]⟩ : ByteArray)) ++ (itoaS (t / 86400000))) ++ (⟨#[32]⟩)) ++ (itoaS (t % 86400000))) ++ (⟨#[32]⟩)) ++ (offS o)) (⟨#[32]⟩) _ rfl (by (try simp only [app_size]); omega)
      have bb6 := add_ok ((((((((⟨#[97, 116, 32]⟩ : ByteArray)) ++ (itoaS (t / 86400000))) ++ (⟨#[32]⟩)) ++ (itoaS (t % 86400000))) ++ (⟨#[32]⟩)) ++ (offS o)) ++ (⟨#[32]⟩)) (l) _ rfl (by (try simp only [app_size]); omega)
      have bb7 := add_ok (((((((((⟨#[97, 116, 32]⟩ : ByteArray)) ++ (itoaS (t / 86400000))) ++ (⟨#[32]⟩)) ++ (itoaS (t % 86400000))) ++ (⟨#[32]⟩)) ++ (offS o)) ++ (⟨#[32]⟩)) ++ (l)) (⟨#[10]⟩) _ rfl (by (try simp only [app_size]); omega)
      have cc := add_ok ⟨(zoneL s f xs k).toArray⟩ (chgS t o l) ⟨(zoneL s f xs (k + 1)).toArray⟩ (by rw [HS.out]; have := ByteArray.mk_append_mk (zoneL s f xs k) (chgS t o l).data.toList; simpa using this) (by rw [arr_size]; omega)
      unfold chgS at cc
      have im : t - t / 86400000 * 86400000 = t % 86400000 := by omega
      have CD := Lib.hid (fun (W : World) (h : RtC w (.cells #[.string s, .int .i64 f, .slice (some ⟨b0, off, none⟩) n c] 45) C (.cells #[.int .i64 t, .int .i64 o, .string l] 76) W) => lib_Itoa (t / 86400000) W (by omega) (by omega) (HT.out.below h.1.2))
      have CM : ∀ (W : World), RtC w (.cells #[.string s, .int .i64 f, .slice (some ⟨b0, off, none⟩) n c] 45) C (.cells #[.int .i64 t, .int .i64 o, .string l] 76) W → Calls Tryd.prog 27 #[.int .i64 (t - t / 86400000 * 86400000)] W fun e w' => e = .returned (.string (itoaS (t % 86400000))) ∧ Below W.heap.size W w' := fun W h => by
        rw [im]; exact lib_Itoa (t % 86400000) W (by omega) (by omega) (HT.out.below h.1.2)
      have CM := Lib.hid CM
      clear im
      have CO := Lib.hid (fun (W : World) (h : RtC w (.cells #[.string s, .int .i64 f, .slice (some ⟨b0, off, none⟩) n c] 45) C (.cells #[.int .i64 t, .int .i64 o, .string l] 76) W) => ref_OffsetText o W q3 q4 (HT.out.below h.1.2))
      have i1 : IntKind.i64.wrap (t / 86400000 * 86400000) = t / 86400000 * 86400000 := IntWalk.i64_in _ (by omega)
      have i2 : IntKind.i64.wrap (t - t / 86400000 * 86400000) = t - t / 86400000 * 86400000 := IntWalk.i64_in _ (by omega)
      clear z1 z2 z3 z4 z5 s1 s2
      go_upto_region 6 with (fail)
      have pc5 := HPC.out
      (refine region_class (RtC w (.cells #[.string s, .int .i64 f, .slice (some ⟨b0, off, none⟩) n c] 45) C (.cells #[.int .i64 t, .int .i64 o, .string l] 76)) (by kernel_rfl) (by kernel_rfl) (pc5.step (Below.refl _ _).drew) ?_; repeat ((first | (refine class_take ?_ (by rfl) ?_ ?_; rotate_left; focus (intro wq hq; ((have x0 : wq.cell? ⟨C, 0, none⟩ = some (.int .i64 t) := hq.2.cell 0; have x1 : wq.cell? ⟨C, 1, none⟩ = some (.int .i64 o) := hq.2.cell 1; have x2 : wq.cell? ⟨C, 2, none⟩ = some (.string l) := hq.2.cell 2)); go_simp; first | done | with_reducible rfl | ((first | (go_at_call 40; (with_reducible refine (CO.out _ hq).mono ?_); rintro e w' ⟨rfl, hb⟩; refine ⟨?_, hq.step hb⟩; with_reducible rfl) | (go_at_call 27; (first | (with_reducible refine (CD.out _ hq).mono ?_) | (with_reducible refine (CM.out _ hq).mono ?_)); rintro e w' ⟨rfl, hb⟩; refine ⟨?_, hq.step hb⟩; with_reducible rfl))))) | refine class_skip (by rfl) ?_); try simp only [Act.put, List.setIfInBounds_toArray, List.set_cons_zero, List.set_cons_succ]))
      refine wpQuiet_nil ?_
      intro W6 hW6
      clear pc5 HPC i1 i2
      have P6 := Lib.hid hW6.1; clear hW6
      clear bb0 bb1 bb2 bb3 bb4 bb5 bb6 bb7 cc
      go_wp2_with fail
      go_roundw
      case rel => exact ⟨k + 1, by omega, by go_num, rfl, P6.out⟩
      case measure => simp [intOf]; omega
    · obtain rfl : k = n := by omega
      have HP := Lib.hid hp; clear hp
      go_wp2_with fail
      go_ret
      exact ⟨by rw [zoneS, LN.out]; rfl, HP.out.2⟩

end Go.Proofs.YtjjmbnflhldoeabDoor
