/- Contracts of bureau.show and bureau.Text: the text of a notice. -/
import Derived.Test.YticflmepmmdnfaaDoorPrt0
import Derived.Test.YticflmepmmdnfaaDoorZone2
import Derived.Test.YticflmepmmdnfaaDoorTail
namespace Go.Proofs.YticflmepmmdnfaaDoor
set_option linter.unusedVariables false
set_option linter.unusedSimpArgs false
set_option maxRecDepth 100000
open Go.RowKit Go.Shelf Num

def chT (t o : Int) (l : ByteArray) : ByteArray := (((((⟨#[32]⟩ : ByteArray) ++ (itoaS t)) ++ (⟨#[32]⟩)) ++ (itoaS o)) ++ (⟨#[32]⟩)) ++ l
def headT (s : ByteArray) (fr : Int) : ByteArray := (s ++ (⟨#[32]⟩ : ByteArray)) ++ (itoaS fr)
def burL (s : ByteArray) (fr : Int) (xs : List Chg) (k : Nat) : List UInt8 := (headT s fr).data.toList ++ (xs.take k).flatMap fun x => if fr ≤ x.1 then (chT x.1 x.2.1 x.2.2).data.toList else []
def burS (s : ByteArray) (fr : Int) (xs : List Chg) : ByteArray := ⟨(burL s fr xs xs.length).toArray⟩
theorem sp_size : (⟨#[32]⟩ : ByteArray).size = 1 := rfl
theorem chT_size {t o : Int} {l : ByteArray} (t1 : -9223372036854775808 ≤ t) (t2 : t ≤ 9223372036854775807) (o1 : -9223372036854775808 ≤ o) (o2 : o ≤ 9223372036854775807) (h : l.size ≤ 1048576) : (chT t o l).size ≤ 1048640 := by
  have s1 := itoaS_size t1 t2
  have s2 := itoaS_size o1 o2
  have z1 := sp_size
  unfold chT; simp only [app_size]; omega
theorem headT_size {s : ByteArray} {fr : Int} (h : s.size ≤ 1048576) (g1 : -9223372036854775808 ≤ fr) (g2 : fr ≤ 9223372036854775807) : (headT s fr).size ≤ 1048640 := by
  have s1 := itoaS_size g1 g2
  have z1 := sp_size
  unfold headT; simp only [app_size]; omega
theorem burL_zero (s : ByteArray) (fr : Int) (xs : List Chg) : (⟨(burL s fr xs 0).toArray⟩ : ByteArray) = headT s fr := by
  simp [burL]
theorem burL_succ (s : ByteArray) (fr : Int) (xs : List Chg) (k : Nat) (t o : Int) (l : ByteArray) (h : xs[k]? = some (t, o, l)) : burL s fr xs (k + 1) = if fr ≤ t then burL s fr xs k ++ (chT t o l).data.toList else burL s fr xs k := by
  unfold burL
  rw [List.take_add_one, h, List.flatMap_append]
  by_cases hf : fr ≤ t
  · simp [hf]
  · simp [hf]
theorem arr_size (l : List UInt8) : (⟨l.toArray⟩ : ByteArray).size = l.length := by show l.toArray.size = _; simp
theorem burL_len {s : ByteArray} {fr : Int} {xs : List Chg} (hs : s.size ≤ 1048576) (g1 : -9223372036854775808 ≤ fr) (g2 : fr ≤ 9223372036854775807) (ho : ∀ x ∈ xs, okChg x) (hx : ∀ x ∈ xs, x.2.2.size ≤ 1048576) (k : Nat) : (burL s fr xs k).length ≤ 1048640 + 1048640 * k := by
  have hh := headT_size hs g1 g2
  have key : ∀ (ys : List Chg), (∀ x ∈ ys, okChg x) → (∀ x ∈ ys, x.2.2.size ≤ 1048576) → (ys.flatMap fun x => if fr ≤ x.1 then (chT x.1 x.2.1 x.2.2).data.toList else []).length ≤ 1048640 * ys.length := by
    intro ys
    induction ys with
    | nil => intro _ _; simp
    | cons y r ih =>
      intro h1 h2
      have := ih (fun x hx => h1 x (by simp [hx])) (fun x hx => h2 x (by simp [hx]))
      have h3 := h1 y (by simp)
      have h6 := chT_size (t := y.1) (o := y.2.1) (l := y.2.2) h3.1.1 h3.1.2 h3.2.1.1 h3.2.1.2 (h2 y (by simp))
      have e := str_len (chT y.1 y.2.1 y.2.2)
      have h7 : (if fr ≤ y.1 then (chT y.1 y.2.1 y.2.2).data.toList else []).length ≤ 1048640 := by
        by_cases hf : fr ≤ y.1
        · rw [if_pos hf, e]; exact h6
        · rw [if_neg hf]; simp
      rw [List.flatMap_cons, List.length_append, List.length_cons]
      have h8 := Nat.add_le_add h7 this
      refine Nat.le_trans h8 ?_
      omega
  have hk := key (xs.take k) (fun x hx => ho x (List.mem_of_mem_take hx)) (fun x h => hx x (List.mem_of_mem_take h))
  have e := str_len (headT s fr)
  have : (xs.take k).length ≤ k := by rw [List.length_take]; omega
  unfold burL
  rw [List.length_append, e]
  omega
def RtB (w : World) (z : Obj) (C : Nat) (c : Obj) (W : World) : Prop := One w z W ∧ At W C c
theorem RtB.step {w W W' : World} {z c : Obj} {C : Nat} (h : RtB w z C c W) (hb : Below W.heap.size W W') : RtB w z C c W' := ⟨h.1.step hb, h.2.then_ hb⟩
set_option maxHeartbeats 4000000 in
theorem bur_show (w : World) (s : ByteArray) (f fr : Int) (a : Option Addr) (n c : Nat) (xs : List Chg) (hs : s.size ≤ 1048576) (g1 : -9223372036854775808 ≤ fr) (g2 : fr ≤ 9223372036854775807) (hn : n ≤ 1048576) (hx : ∀ x ∈ xs, x.2.2.size ≤ 1048576) (h : Changes w w.heap.size a n xs) (ht : Pow w) :
    Calls Tryd.prog 27 #[.agg #[.string s, .int .i64 f, .slice a n c], .int .i64 fr] w fun e w' => e = .returned (.string (burS s fr xs)) ∧ Below w.heap.size w w' := by
  have LN := Lib.hid h.len
  have m1 := h.max
  have HZL := Lib.hid (burL_len hs g1 g2 h.2 hx)
  have H := Lib.hid h; clear h
  have HT := Lib.hid ht; clear ht
  have K5 := Lib.hid hx; clear hx
  have s0 := itoaS_size g1 g2
  have z1 := sp_size
  have a0 := add_ok s ⟨#[32]⟩ _ rfl (by (try simp only [app_size]); omega)
  have a1 := add_ok (s ++ ⟨#[32]⟩) (itoaS fr) _ rfl (by (try simp only [app_size]); omega)
  have CI := Lib.hid (fun (W : World) (h : One w (.cells #[.string s, .int .i64 f, .slice a n c] 24) W) => lib_Itoa fr W g1 g2 (HT.out.below h.2))
  have o0 := One.new w (.cells #[.string s, .int .i64 f, .slice a n c] 24)
  clear z1 s0
  have O0 := Lib.hid o0; clear o0
  go_enter Tryd.func27, Tryd.ntmps27
  go_upto_region 1 with (fail)
  have o0 := O0.out
  (refine region_class (One w (.cells #[.string s, .int .i64 f, .slice a n c] 24)) (by kernel_rfl) (by kernel_rfl) (o0.drew) ?_; repeat ((first | (refine class_take ?_ (by rfl) ?_ ?_; rotate_left; focus (intro wq hq; ((have x0 : wq.cell? ⟨w.heap.size, 0, none⟩ = some (.string s) := hq.1.cell 0)); go_simp; first | done | with_reducible rfl | ((go_at_call 15; (with_reducible refine (CI.out _ hq).mono ?_); rintro e w' ⟨rfl, hb⟩; refine ⟨?_, hq.step hb⟩; with_reducible rfl)))) | refine class_skip (by rfl) ?_); try simp only [Act.put, List.setIfInBounds_toArray, List.set_cons_zero, List.set_cons_succ]))
  refine wpQuiet_nil ?_
  intro W2 hW2
  clear o0 O0
  have y2 : W2.cell? ⟨w.heap.size, 2, none⟩ = some (.slice a n c) := hW2.1.cell 2
  have O2 := Lib.hid hW2; clear hW2 a0 a1
  go_wp2_with fail
  clear y2
  go_loopw [5, 17] (fun v i wr => ∃ k : Nat, k ≤ n ∧ i = .int .i64 k ∧ v = .string ⟨(burL s fr xs k).toArray⟩ ∧ One w (.cells #[.string s, .int .i64 f, .slice a n c] 24) wr) (fun _ i _ => n - (intOf i).toNat)
  case atStart => exact ⟨0, by omega, rfl, by rw [burL_zero]; rfl, O2.out⟩
  case round =>
    clear O2
    obtain ⟨k, hk, rfl, rfl, hp⟩ := hrel
    have hl1 := HZL.out k
    by_cases hlt : k < n
    · obtain ⟨b0, off, rfl, hbB, hcs⟩ := (H.out.below hp.2 (Nat.le_refl _)).open_ (by omega)
      obtain ⟨t, o, l, hc0, hc1, hc2, hx, t1, t2, o1, o2, hls⟩ := hcs k hlt
      have HS := Lib.hid (burL_succ s fr xs k t o l hx)
      have hll : l.size ≤ 1048576 := K5.out _ (List.mem_of_getElem? hx)
      have hcz := chT_size t1 t2 o1 o2 hll
      clear hcs hx
      have hzw := hp.2.size
      have hbz : b0 < wr.heap.size := by omega
      have HP := Lib.hid hp; clear hp
      by_cases hft : fr ≤ t
      · have hS : burL s fr xs (k + 1) = burL s fr xs k ++ (chT t o l).data.toList := by rw [HS.out, if_pos hft]
        go_wp2_with fail
        have pc : RtB w (.cells #[.string s, .int .i64 f, .slice (some ⟨b0, off, none⟩) n c] 24) wr.heap.size (.cells #[.int .i64 t, .int .i64 o, .string l] 31) (wr.alloc (.cells #[.int .i64 t, .int .i64 o, .string l] 31)) := ⟨HP.out.alloc _, At.new _ _⟩
        have HPC := Lib.hid pc; clear pc
        generalize World.alloc wr _ = W4 at HPC ⊢
        obtain ⟨C, hC⟩ : ∃ C, C = wr.heap.size := ⟨_, rfl⟩
        rw [← hC] at HPC ⊢
        clear hC hbz hzw hc0 hc1 hc2
        have s1 := itoaS_size t1 t2
        have s2 := itoaS_size o1 o2
        have z1 := sp_size
        have bb0 := add_ok (⟨#[32]⟩ : ByteArray) (itoaS t) _ rfl (by (try simp only [app_size]); omega)
        have bb1 := add_ok ((⟨#[32]⟩ : ByteArray) ++ (itoaS t)) (⟨#[32]⟩) _ rfl (by (try simp only [app_size]); omega)
        have bb2 := add_ok (((⟨#[32]⟩ : ByteArray) ++ (itoaS t)) ++ (⟨#[32]⟩)) (itoaS o) _ rfl (by (try simp only [app_size]); omega)
        have bb3 := add_ok ((((⟨#[32]⟩ : ByteArray) ++ (itoaS t)) ++ (⟨#[32]⟩)) ++ (itoaS o)) (⟨#[32]⟩) _ rfl (by (try simp only [app_size]); omega)
        have bb4 := add_ok (((((⟨#[32]⟩ : ByteArray) ++ (itoaS t)) ++ (⟨#[32]⟩)) ++ (itoaS o)) ++ (⟨#[32]⟩)) l _ rfl (by (try simp only [app_size]); omega)
        have cc := add_ok ⟨(burL s fr xs k).toArray⟩ (chT t o l) ⟨(burL s fr xs (k + 1)).toArray⟩ (by rw [hS]; have := ByteArray.mk_append_mk (burL s fr xs k) (chT t o l).data.toList; simpa using this) (by rw [arr_size]; omega)
        unfold chT at cc
        clear hS
        have CD := Lib.hid (fun (W : World) (h : RtB w (.cells #[.string s, .int .i64 f, .slice (some ⟨b0, off, none⟩) n c] 24) C (.cells #[.int .i64 t, .int .i64 o, .string l] 31) W) => lib_Itoa t W t1 t2 (HT.out.below h.1.2))
        have CM := Lib.hid (fun (W : World) (h : RtB w (.cells #[.string s, .int .i64 f, .slice (some ⟨b0, off, none⟩) n c] 24) C (.cells #[.int .i64 t, .int .i64 o, .string l] 31) W) => lib_Itoa o W o1 o2 (HT.out.below h.1.2))
        clear z1 s1 s2
        have y0 : W4.cell? ⟨C, 0, none⟩ = some (.int .i64 t) := HPC.out.2.cell 0
        go_upto_region 6 with (fail)
        clear y0
        have pc5 := HPC.out
        (refine region_class (RtB w (.cells #[.string s, .int .i64 f, .slice (some ⟨b0, off, none⟩) n c] 24) C (.cells #[.int .i64 t, .int .i64 o, .string l] 31)) (by kernel_rfl) (by kernel_rfl) (pc5.step (Below.refl _ _).drew) ?_; repeat ((first | (refine class_take ?_ (by rfl) ?_ ?_; rotate_left; focus (intro wq hq; ((have x0 : wq.cell? ⟨C, 0, none⟩ = some (.int .i64 t) := hq.2.cell 0; have x1 : wq.cell? ⟨C, 1, none⟩ = some (.int .i64 o) := hq.2.cell 1; have x2 : wq.cell? ⟨C, 2, none⟩ = some (.string l) := hq.2.cell 2)); go_simp; first | done | with_reducible rfl | ((go_at_call 15; (first | (with_reducible refine (CD.out _ hq).mono ?_) | (with_reducible refine (CM.out _ hq).mono ?_)); rintro e w' ⟨rfl, hb⟩; refine ⟨?_, hq.step hb⟩; with_reducible rfl)))) | refine class_skip (by rfl) ?_); try simp only [Act.put, List.setIfInBounds_toArray, List.set_cons_zero, List.set_cons_succ]))
        refine wpQuiet_nil ?_
        intro W6 hW6
        clear pc5 HPC
        have P6 := Lib.hid hW6.1; clear hW6
        clear bb0 bb1 bb2 bb3 bb4 cc
        go_wp2_with fail
        go_roundw
        case rel => exact ⟨k + 1, by omega, by go_num, rfl, P6.out⟩
        case measure => simp [intOf]; omega
      · have hS : burL s fr xs (k + 1) = burL s fr xs k := by rw [HS.out, if_neg hft]
        have HS2 := Lib.hid hS; clear hS
        go_wp2_with fail
        have pc : RtB w (.cells #[.string s, .int .i64 f, .slice (some ⟨b0, off, none⟩) n c] 24) wr.heap.size (.cells #[.int .i64 t, .int .i64 o, .string l] 31) (wr.alloc (.cells #[.int .i64 t, .int .i64 o, .string l] 31)) := ⟨HP.out.alloc _, At.new _ _⟩
        have HPC := Lib.hid pc; clear pc
        go_roundw
        case rel => exact ⟨k + 1, by omega, by go_num, by rw [HS2.out], HPC.out.1⟩
        case measure => simp [intOf]; omega
    · obtain rfl : k = n := by omega
      have HP := Lib.hid hp; clear hp
      go_wp2_with fail
      go_ret
      exact ⟨by rw [burS, LN.out]; rfl, HP.out.2⟩

end Go.Proofs.YticflmepmmdnfaaDoor
