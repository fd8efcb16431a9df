/- Contracts of zonetext.Print and of the reference's ZoneText: one text. -/
import Derived.Test.YtjjmbnflhldoeabDoorPrt0
import Derived.Test.YtjjmbnflhldoeabDoorZone2
import Derived.Test.YtjjmbnflhldoeabDoorBuild
import Derived.Test.YtjjmbnflhldoeabDoorTail
import Derived.Outline
namespace Go.Proofs.YtjjmbnflhldoeabDoor
set_option linter.unusedVariables false
set_option maxRecDepth 100000
open Go.RowKit Go.Shelf Num

def chgS (t o : Int) (l : ByteArray) : ByteArray := (((((((((⟨#[97, 116, 32]⟩ : ByteArray)) ++ (itoaS (t / 86400000))) ++ (⟨#[32]⟩)) ++ (itoaS (t % 86400000))) ++ (⟨#[32]⟩)) ++ (offS o)) ++ (⟨#[32]⟩)) ++ (l)) ++ (⟨#[10]⟩)
def headS (s : ByteArray) (f : Int) : ByteArray := (((((⟨#[122, 111, 110, 101, 32]⟩ : ByteArray)) ++ (s)) ++ (⟨#[32]⟩)) ++ (offS f)) ++ (⟨#[10]⟩)
def zoneL (s : ByteArray) (f : Int) (xs : List Chg) (k : Nat) : List UInt8 := (headS s f).data.toList ++ (xs.take k).flatMap fun x => (chgS x.1 x.2.1 x.2.2).data.toList
def zoneS (s : ByteArray) (f : Int) (xs : List Chg) : ByteArray := ⟨(zoneL s f xs xs.length).toArray⟩
theorem lit_sizes : (⟨#[97, 116, 32]⟩ : ByteArray).size = 3 ∧ (⟨#[32]⟩ : ByteArray).size = 1 ∧ (⟨#[10]⟩ : ByteArray).size = 1 ∧ (⟨#[122, 111, 110, 101, 32]⟩ : ByteArray).size = 5 := ⟨rfl, rfl, rfl, rfl⟩
/-- What a zone in order bounds. -/
def FitC (x : Chg) : Prop := -345686400000000 ≤ x.1 ∧ x.1 ≤ 345686400000000 ∧ -64800000 ≤ x.2.1 ∧ x.2.1 ≤ 64800000 ∧ x.2.2.size ≤ 6
theorem fit_of : ∀ (xs : List Chg) (p : Option Int), chgErr p xs = 0 → ∀ x ∈ xs, FitC x
  | [], _, _, x, hx => by cases hx
  | (t, o, l) :: r, p, h, x, hx => by
    rw [chgErr_cons] at h
    by_cases h1 : (instB t && offB o) = false
    · rw [if_pos h1] at h; cases h
    rw [if_neg h1] at h
    by_cases h2 : labelB l = false
    · rw [if_pos h2] at h; cases h
    rw [if_neg h2] at h
    have hr : chgErr (some t) r = 0 := by
      cases p with
      | none => simpa using h
      | some q =>
        by_cases hq : t ≤ q
        · simp [hq] at h
        · simpa [hq] using h
    · rcases List.mem_cons.1 hx with rfl | hx
      · have h1' : (instB t && offB o) = true := by simpa using h1
        rw [Bool.and_eq_true] at h1'
        obtain ⟨hi, ho⟩ := h1'
        have h2' : labelB l = true := by simpa using h2
        unfold labelB at h2'; rw [Bool.and_eq_true] at h2'
        have hl : 1 ≤ l.size ∧ l.size ≤ 6 := by simpa using h2'.1
        unfold instB inB at hi
        unfold offB inB at ho
        rw [Bool.and_eq_true] at ho
        have hi' : -4000000 ≤ t / 86400000 ∧ t / 86400000 ≤ 4000000 := by simpa using hi
        have ho' : -64800000 ≤ o ∧ o ≤ 64800000 := by simpa using ho.2
        refine ⟨?_, ?_, ho'.1, ho'.2, hl.2⟩ <;> show _ ≤ _ <;> simp only [] <;> omega
      · exact fit_of r _ hr x hx
theorem zone_fit {s : ByteArray} {f : Int} {xs : List Chg} (h : zoneErr s f xs = 0) : s.size ≤ 12 ∧ -64800000 ≤ f ∧ f ≤ 64800000 ∧ xs.length ≤ 200 ∧ ∀ x ∈ xs, FitC x := by
  unfold zoneErr at h
  by_cases h1 : isName s = false
  · rw [if_pos h1] at h; cases h
  rw [if_neg h1] at h
  by_cases h2 : offB f = false
  · rw [if_pos h2] at h; cases h
  rw [if_neg h2] at h
  by_cases h3 : 200 < xs.length
  · rw [if_pos h3] at h; cases h
  rw [if_neg h3] at h
  have h1' : isName s = true := by simpa using h1
  unfold isName at h1'; rw [Bool.and_eq_true, Bool.and_eq_true] at h1'
  have hn : 1 ≤ s.size ∧ s.size ≤ 12 := by simpa using h1'.1.1
  have h2' : offB f = true := by simpa using h2
  unfold offB inB at h2'; rw [Bool.and_eq_true] at h2'
  have hf : -64800000 ≤ f ∧ f ≤ 64800000 := by simpa using h2'.2
  exact ⟨hn.2, hf.1, hf.2, by omega, fit_of xs none h⟩
theorem chgS_size {t o : Int} {l : ByteArray} (h : FitC (t, o, l)) : (chgS t o l).size ≤ 64 := by
  obtain ⟨h1, h2, h3, h4, h5⟩ := h
  simp only [] at h1 h2 h3 h4 h5
  have s1 := itoaS_size (n := t / 86400000) (by omega) (by omega)
  have s2 := itoaS_size (n := t % 86400000) (by omega) (by omega)
  obtain ⟨z1, z2, z3, z4⟩ := lit_sizes
  have z5 := offS_size o
  unfold chgS; simp only [app_size]; omega
theorem headS_size {s : ByteArray} {f : Int} (h : s.size ≤ 12) : (headS s f).size ≤ 40 ∧ 7 ≤ (headS s f).size := by
  obtain ⟨z1, z2, z3, z4⟩ := lit_sizes
  have z5 := offS_size f
  unfold headS; simp only [app_size]; omega
theorem zoneL_succ (s : ByteArray) (f : Int) (xs : List Chg) (k : Nat) (t o : Int) (l : ByteArray) (h : xs[k]? = some (t, o, l)) : zoneL s f xs (k + 1) = zoneL s f xs k ++ (chgS t o l).data.toList := by
  unfold zoneL
  rw [List.take_add_one, h, List.flatMap_append, List.append_assoc]
  simp
theorem zoneL_len {s : ByteArray} {f : Int} {xs : List Chg} (h : zoneErr s f xs = 0) (k : Nat) : (zoneL s f xs k).length ≤ 40 + 64 * k ∧ 7 ≤ (zoneL s f xs k).length := by
  obtain ⟨h1, h2, h3, h4, h5⟩ := zone_fit h
  have hh := headS_size (f := f) h1
  have key : ∀ (ys : List Chg), (∀ x ∈ ys, FitC x) → (ys.flatMap fun x => (chgS x.1 x.2.1 x.2.2).data.toList).length ≤ 64 * ys.length := by
    intro ys
    induction ys with
    | nil => intro _; simp
    | cons y r ih =>
      intro hy
      have := ih fun x hx => hy x (by simp [hx])
      have h6 := chgS_size (t := y.1) (o := y.2.1) (l := y.2.2) (hy y (by simp))
      have e := str_len (chgS y.1 y.2.1 y.2.2)
      rw [List.flatMap_cons, List.length_append, e, List.length_cons]
      omega
  have hk := key (xs.take k) fun x hx => h5 x (List.mem_of_mem_take hx)
  have e := str_len (headS s f)
  have : (xs.take k).length ≤ k := by rw [List.length_take]; omega
  unfold zoneL
  rw [List.length_append, e]
  omega


/-- The box of the zone, the builder in block b. -/
def PrAt (w : World) (z : Obj) (b : Nat) (l : List UInt8) (W : World) : Prop := w.heap.size < b ∧ At W w.heap.size z ∧ Built b l W ∧ Below w.heap.size w W
theorem PrAt.step {w W W' : World} {z : Obj} {b : Nat} {l : List UInt8} (h : PrAt w z b l W) (hb : Below W.heap.size W W') : PrAt w z b l W' := ⟨h.1, h.2.1.then_ hb, h.2.2.1.below hb, below_then h.2.2.2 hb⟩
theorem PrAt.write {w W W' : World} {z : Obj} {b : Nat} {l l' : List UInt8} (h : PrAt w z b l W) (hw : Built b l' W' ∧ Below b W W') : PrAt w z b l' W' :=
  ⟨h.1, h.2.1.below hw.2 h.1, hw.1, h.2.2.2.trans (hw.2.mono (by have := h.1; omega))⟩
theorem PrAt.drew {w W : World} {z : Obj} {b : Nat} {l : List UInt8} (h : PrAt w z b l W) : PrAt w z b l W.drew := h.step ((Below.refl _ _).drew)
/-- .. and the box of a change. -/
def PrC (w : World) (z : Obj) (b : Nat) (l : List UInt8) (C : Nat) (c : Obj) (W : World) : Prop := PrAt w z b l W ∧ At W C c
theorem PrC.step {w W W' : World} {z c : Obj} {b C : Nat} {l : List UInt8} (h : PrC w z b l C c W) (hb : Below W.heap.size W W') : PrC w z b l C c W' := ⟨h.1.step hb, h.2.then_ hb⟩
def printOut (s : ByteArray) (f : Int) (xs : List Chg) : Value := if zoneErr s f xs = 0 then .tuple #[.string (zoneS s f xs), .int .i64 0] else .tuple #[.string ⟨#[]⟩, .int .i64 (zoneErr s f xs)]

set_option maxHeartbeats 4000000 in
theorem zt_Print (w : World) (s : ByteArray) (f : Int) (a : Option Addr) (n c : Nat) (xs : List Chg) (hs : s.size ≤ 9223372036854775807) (f1 : -9223372036854775808 ≤ f) (f2 : f ≤ 9223372036854775807) (h : Changes w w.heap.size a n xs) (ht : Pow w) :
    Calls Tryd.prog 13 #[.agg #[.string s, .int .i64 f, .slice a n c]] w fun e w' => e = .returned (printOut s f xs) ∧ Below w.heap.size w w' := by
  have LN := Lib.hid h.len
  have m1 := h.max
  have H := Lib.hid h; clear h
  have HT := Lib.hid ht; clear ht
  by_cases hz : zoneErr s f xs = 0
  · obtain ⟨k1, k2, k3, k4, k5⟩ := zone_fit hz
    rw [LN.out] at k4
    have K5 := Lib.hid k5; clear k5
    have HR := Lib.hid (show printOut s f xs = .tuple #[.string (zoneS s f xs), .int .i64 0] by unfold printOut; rw [if_pos hz])
    have HZL := Lib.hid (fun k => zoneL_len hz k)
    have HZ := Lib.hid hz; clear hz
    obtain ⟨z1, z2, z3, z4⟩ := lit_sizes
    have z5 := offS_size f
    have a0 := add_ok ((⟨#[122, 111, 110, 101, 32]⟩ : ByteArray)) (s) _ rfl (by (try simp only [app_size]); omega)
    have a1 := add_ok (((⟨#[122, 111, 110, 101, 32]⟩ : ByteArray)) ++ (s)) (⟨#[32]⟩) _ rfl (by (try simp only [app_size]); omega)
    have a2 := add_ok ((((⟨#[122, 111, 110, 101, 32]⟩ : ByteArray)) ++ (s)) ++ (⟨#[32]⟩)) (offS f) _ rfl (by (try simp only [app_size]); omega)
    have a3 := add_ok (((((⟨#[122, 111, 110, 101, 32]⟩ : ByteArray)) ++ (s)) ++ (⟨#[32]⟩)) ++ (offS f)) (⟨#[10]⟩) _ rfl (by (try simp only [app_size]); omega)
    have CO := Lib.hid (fun W => zt_offset f W k2 k3)
    clear z1 z2 z3 z4 z5
    go_enter Tryd.func13, Tryd.ntmps13
    go_wp2_with fail
    have o0 := One.new w (.cells #[.string s, .int .i64 f, .slice a n c] 45)
    generalize World.alloc w _ = W0 at o0 ⊢
    refine (zone_Check _ s f a n c xs hs f1 f2 (H.out.then_ o0.2)).mono ?_
    rw [HZ.out]
    rintro e w1 ⟨rfl, hb⟩
    have o1 := o0.step hb
    clear o0 hb
    have z0 := o1.1.lt
    have p1 : PrAt w (.cells #[.string s, .int .i64 f, .slice a n c] 45) w1.heap.size [] (w1.alloc (.cells #[.pointer none, .slice none 0 0] 61)) := ⟨z0, o1.1.alloc _, Built.new w1, below_new o1.2 _⟩
    have P1 := Lib.hid p1
    clear o1 p1
    go_upto_region 5 with (fail)
    obtain ⟨b, hbz⟩ : ∃ b, b = w1.heap.size := ⟨_, rfl⟩
    rw [← hbz] at P1 ⊢
    generalize World.alloc w1 _ = W1 at P1 ⊢
    clear hbz z0
    have p1 := P1.out
    (refine region_class_tail 9 (PrAt w (.cells #[.string s, .int .i64 f, .slice a n c] 45) b []) (by kernel_rfl) (by kernel_rfl) (p1.drew) ?_; simp only [List.take_succ_cons, List.take_zero, List.drop_succ_cons, List.drop_zero]; repeat ((first | (refine class_take ?_ (by rfl) ?_ ?_; rotate_left; focus (intro wq hq; ((have x0 : wq.cell? ⟨w.heap.size, 0, none⟩ = some (.string s) := hq.2.1.cell 0; have x1 : wq.cell? ⟨w.heap.size, 1, none⟩ = some (.int .i64 f) := hq.2.1.cell 1)); go_simp; first | done | with_reducible rfl | ((go_at_call 35; (with_reducible refine (CO.out _).mono ?_); rintro e w' ⟨rfl, hb⟩; refine ⟨?_, hq.step hb⟩; with_reducible rfl)))) | refine class_skip (by rfl) ?_); try simp only [Act.put, List.setIfInBounds_toArray, List.set_cons_zero, List.set_cons_succ]))
    refine wpQuiet_nil ?_
    intro W2 hW2
    clear p1 P1
    have P2 := Lib.hid hW2; clear hW2
    have hh := headS_size (f := f) k1
    go_wp2_with fail
    refine (lib_WriteString b [] _ _ P2.out.2.2.1 (show [].length + (headS s f).size ≤ _ by simp; omega)).mono ?_
    rintro e W3 ⟨rfl, hw⟩
    have p3 : PrAt w (.cells #[.string s, .int .i64 f, .slice a n c] 45) b (zoneL s f xs 0) W3 := by
      have := P2.out.write hw
      simpa [zoneL] using this
    clear hw P2
    have y2 : W3.cell? ⟨w.heap.size, 2, none⟩ = some (.slice a n c) := p3.2.1.cell 2
    have P3 := Lib.hid p3; clear p3 a0 a1 a2 a3
    go_wp2_with fail
    clear y2
    go_loopw [29] (fun i wr => ∃ k : Nat, k ≤ n ∧ i = .int .i64 k ∧ PrAt w (.cells #[.string s, .int .i64 f, .slice a n c] 45) b (zoneL s f xs k) wr) (fun i _ => n - (intOf i).toNat)
    case atStart => exact ⟨0, by omega, rfl, P3.out⟩
    case round =>
      clear P3
      obtain ⟨k, hk, rfl, hp⟩ := hrel
      obtain ⟨hl1, hl2⟩ := HZL.out k
      by_cases hlt : k < n
      · obtain ⟨b0, off, rfl, hbB, hcs⟩ := (H.out.below hp.2.2.2 (Nat.le_refl _)).open_ (by omega)
        obtain ⟨t, o, l, hc0, hc1, hc2, hx, t1, t2, o1, o2, hls⟩ := hcs k hlt
        have HS := Lib.hid (zoneL_succ s f xs k t o l hx)
        have hfit := K5.out _ (List.mem_of_getElem? hx)
        have hcz := chgS_size hfit
        obtain ⟨q1, q2, q3, q4, q5⟩ := hfit
        simp only [] at q1 q2 q3 q4 q5
        clear hcs hx
        have hzw := hp.2.2.2.size
        have hbz : b0 < wr.heap.size := by omega
        have HP := Lib.hid hp; clear hp
        go_wp2_with fail
        have pc : PrC w (.cells #[.string s, .int .i64 f, .slice (some ⟨b0, off, none⟩) n c] 45) b (zoneL s f xs k) wr.heap.size (.cells #[.int .i64 t, .int .i64 o, .string l] 76) (wr.alloc (.cells #[.int .i64 t, .int .i64 o, .string l] 76)) := ⟨HP.out.step (below_new (Below.refl _ _) _), At.new _ _⟩
        have HPC := Lib.hid pc; clear pc
        generalize World.alloc wr _ = W4 at HPC ⊢
        obtain ⟨C, hC⟩ : ∃ C, C = wr.heap.size := ⟨_, rfl⟩
        rw [← hC] at HPC ⊢
        clear hC hbz hzw
        refine (whole_Div_pos _ _ _ t1 t2 (by omega) (by omega)).mono ?_
        rintro e W5 ⟨rfl, hd⟩
        have pc5 := HPC.out.step (hd.below _)
        clear hd HPC hc0 hc1 hc2
        have s1 := itoaS_size (n := t / 86400000) (by omega) (by omega)
        have s2 := itoaS_size (n := t % 86400000) (by omega) (by omega)
        have z5 := offS_size o
        obtain ⟨z1, z2, z3, z4⟩ := lit_sizes
        have bb0 := add_ok ((⟨#[97, 116, 32]⟩ : ByteArray)) (itoaS (t / 86400000)) _ rfl (by (try simp only [app_size]); omega)
        have bb1 := add_ok (((⟨#[97, 116, 32]⟩ : ByteArray)) ++ (itoaS (t / 86400000))) (⟨#[32]⟩) _ rfl (by (try simp only [app_size]); omega)
        have bb2 := add_ok ((((⟨#[97, 116, 32]⟩ : ByteArray)) ++ (itoaS (t / 86400000))) ++ (⟨#[32]⟩)) (itoaS (t % 86400000)) _ rfl (by (try simp only [app_size]); omega)
        have bb3 := add_ok (((((⟨#[97, 116, 32]⟩ : ByteArray)) ++ (itoaS (t / 86400000))) ++ (⟨#[32]⟩)) ++ (itoaS (t % 86400000))) (⟨#[32]⟩) _ rfl (by (try simp only [app_size]); omega)
        have bb4 := add_ok ((((((⟨#[97, 116, 32]⟩ : ByteArray)) ++ (itoaS (t / 86400000))) ++ (⟨#[32]⟩)) ++ (itoaS (t % 86400000))) ++ (⟨#[32]⟩)) (offS o) _ rfl (by (try simp only [app_size]); omega)
        have bb5 := add_ok (((((((⟨#[97, 116, 32]⟩ : ByteArray)) ++ (itoaS (t / 86400000))) ++ (⟨#[32]⟩)) ++ (itoaS (t % 86400000))) ++ (⟨#[32]⟩)) ++ (offS o)) (⟨#[32]⟩) _ rfl (by (try simp only [app_size]); omega)
        have bb6 := add_ok ((((((((⟨#[97, 116, 32]⟩ : ByteArray)) ++ (itoaS (t / 86400000))) ++ (⟨#[32]⟩)) ++ (itoaS (t % 86400000))) ++ (⟨#[32]⟩)) ++ (offS o)) ++ (⟨#[32]⟩)) (l) _ rfl (by (try simp only [app_size]); omega)
        have bb7 := add_ok (((((((((⟨#[97, 116, 32]⟩ : ByteArray)) ++ (itoaS (t / 86400000))) ++ (⟨#[32]⟩)) ++ (itoaS (t % 86400000))) ++ (⟨#[32]⟩)) ++ (offS o)) ++ (⟨#[32]⟩)) ++ (l)) (⟨#[10]⟩) _ rfl (by (try simp only [app_size]); omega)
        have CD := Lib.hid (fun (W : World) (h : PrC w (.cells #[.string s, .int .i64 f, .slice (some ⟨b0, off, none⟩) n c] 45) b (zoneL s f xs k) C (.cells #[.int .i64 t, .int .i64 o, .string l] 76) W) => lib_Itoa (t / 86400000) W (by omega) (by omega) (HT.out.below h.1.2.2.2))
        have CM := Lib.hid (fun (W : World) (h : PrC w (.cells #[.string s, .int .i64 f, .slice (some ⟨b0, off, none⟩) n c] 45) b (zoneL s f xs k) C (.cells #[.int .i64 t, .int .i64 o, .string l] 76) W) => lib_Itoa (t % 86400000) W (by omega) (by omega) (HT.out.below h.1.2.2.2))
        have CO := Lib.hid (fun W => zt_offset o W q3 q4)
        have P5 := Lib.hid pc5; clear pc5 z1 z2 z3 z4 z5 s1 s2
        go_upto_region 10 with (fail)
        have pc5 := P5.out
        (refine region_class_tail 17 (PrC w (.cells #[.string s, .int .i64 f, .slice (some ⟨b0, off, none⟩) n c] 45) b (zoneL s f xs k) C (.cells #[.int .i64 t, .int .i64 o, .string l] 76)) (by kernel_rfl) (by kernel_rfl) (pc5.step (Below.refl _ _).drew) ?_; simp only [List.take_succ_cons, List.take_zero, List.drop_succ_cons, List.drop_zero]; repeat ((first | (refine class_take ?_ (by rfl) ?_ ?_; rotate_left; focus (intro wq hq; ((have x0 : wq.cell? ⟨C, 1, none⟩ = some (.int .i64 o) := hq.2.cell 1; have x1 : wq.cell? ⟨C, 2, none⟩ = some (.string l) := hq.2.cell 2)); go_simp; first | done | with_reducible rfl | ((first | (go_at_call 35; (with_reducible refine (CO.out _).mono ?_); rintro e w' ⟨rfl, hb⟩; refine ⟨?_, hq.step hb⟩; with_reducible rfl) | (go_at_call 27; (first | (with_reducible refine (CD.out _ hq).mono ?_) | (with_reducible refine (CM.out _ hq).mono ?_)); rintro e w' ⟨rfl, hb⟩; refine ⟨?_, hq.step hb⟩; with_reducible rfl))))) | refine class_skip (by rfl) ?_); try simp only [Act.put, List.setIfInBounds_toArray, List.set_cons_zero, List.set_cons_succ]))
        refine wpQuiet_nil ?_
        intro W6 hW6
        clear pc5 P5
        have P6 := Lib.hid hW6.1; clear hW6
        go_wp2_with fail
        refine (lib_WriteString b _ _ _ P6.out.2.2.1 (show _ + (chgS t o l).size ≤ _ by omega)).mono ?_
        rintro e W7 ⟨rfl, hw⟩
        have p7 : PrAt w (.cells #[.string s, .int .i64 f, .slice (some ⟨b0, off, none⟩) n c] 45) b (zoneL s f xs (k + 1)) W7 := by rw [HS.out]; exact P6.out.write hw
        have P7 := Lib.hid p7
        clear hw P6 p7
        clear bb0 bb1 bb2 bb3 bb4 bb5 bb6 bb7
        go_wp2_with fail
        go_roundw
        case rel => exact ⟨k + 1, by omega, by go_num, P7.out⟩
        case measure => simp [intOf]; omega
      · obtain rfl : k = n := by omega
        have hne : zoneL s f xs k ≠ [] := by intro h0; rw [h0] at hl2; simp at hl2
        have HP := Lib.hid hp; clear hp
        go_wp2_with fail
        refine (lib_String b _ _ HP.out.2.2.1 hne).mono ?_
        rintro e W4 ⟨rfl, hb⟩
        have HB := Lib.hid (HP.out.2.2.2.trans (hb.mono (by have := HP.out.1; omega))); clear hb
        go_wp2_with fail
        go_ret2
        exact ⟨by rw [HR.out, zoneS, LN.out]; rfl, HB.out⟩
  · have HR := Lib.hid (show printOut s f xs = .tuple #[.string ⟨#[]⟩, .int .i64 (zoneErr s f xs)] by unfold printOut; rw [if_neg hz])
    have hz' : (zoneErr s f xs != 0) = true := by simpa using hz
    obtain ⟨E, hE⟩ : ∃ E, E = zoneErr s f xs := ⟨_, rfl⟩
    rw [← hE] at HR hz'
    have HE := Lib.hid hE; clear hE hz
    go_enter Tryd.func13, Tryd.ntmps13
    go_wp2_with fail
    have o0 := One.new w (.cells #[.string s, .int .i64 f, .slice a n c] 45)
    generalize World.alloc w _ = W0 at o0 ⊢
    refine (zone_Check _ s f a n c xs hs f1 f2 (H.out.then_ o0.2)).mono ?_
    rw [← HE.out]
    rintro e w1 ⟨rfl, hb⟩
    have O1 := Lib.hid (o0.step hb)
    clear o0 hb
    go_wp2_with fail
    go_ret2
    exact ⟨by rw [HR.out]; rfl, O1.out.2⟩

end Go.Proofs.YtjjmbnflhldoeabDoor
