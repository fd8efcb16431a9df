/- strings.IndexRune of the seven Roman signs at any code point. -/
import Derived.Test.YticflmepmmdnfabDoorNml12
import Derived.Test.YticflmepmmdnfabDoorLayRd
import Derived.WalkMore
namespace Go.Proofs.YticflmepmmdnfabDoor
set_option linter.unusedVariables false
set_option linter.unusedSimpArgs false
set_option maxRecDepth 100000
open Go.RowKit Go.Shelf Nml

def romS7 : ByteArray := ⟨#[73, 86, 88, 76, 67, 68, 77]⟩
def romIdx (c : Nat) : Int := if c = 73 then 0 else if c = 86 then 1 else if c = 88 then 2 else if c = 76 then 3 else if c = 67 then 4 else if c = 68 then 5 else if c = 77 then 6 else -1
theorem romIdx_big {c : Nat} (h : 128 ≤ c) : romIdx c = -1 := by
  unfold romIdx
  rw [if_neg (by omega), if_neg (by omega), if_neg (by omega), if_neg (by omega), if_neg (by omega), if_neg (by omega), if_neg (by omega)]
theorem idx_ascii (c : Nat) (h : c < 128) : Lib.indexByte romS7.data.toList ((c : Int).toNat.toUInt8) = romIdx c := by
  have := allU_of 128 (fun c => decide (Lib.indexByte romS7.data.toList ((c : Int).toNat.toUInt8) = romIdx c)) (by decide +kernel) c h
  simpa using this
theorem idx_big (b : UInt8) : ∀ l : List UInt8, b ∉ l → Lib.indexByte l b = -1
  | [], _ => rfl
  | c :: r, h => by
    have h1 : ¬ c = b := fun e => h (by rw [e]; simp)
    have h2 := idx_big b r (fun e => h (List.mem_cons_of_mem _ e))
    unfold Lib.indexByte
    rw [h2, if_neg (by simpa using h1)]; rfl
theorem rom_get (i : Nat) (h : i < romS7.size) : romS7[i].toNat < 128 := by
  have h7 : romS7.size = 7 := rfl
  have : i = 0 ∨ i = 1 ∨ i = 2 ∨ i = 3 ∨ i = 4 ∨ i = 5 ∨ i = 6 := by omega
  rcases this with rfl | rfl | rfl | rfl | rfl | rfl | rfl
  · exact (by decide : (73 : UInt8).toNat < 128)
  · exact (by decide : (86 : UInt8).toNat < 128)
  · exact (by decide : (88 : UInt8).toNat < 128)
  · exact (by decide : (76 : UInt8).toNat < 128)
  · exact (by decide : (67 : UInt8).toNat < 128)
  · exact (by decide : (68 : UInt8).toNat < 128)
  · exact (by decide : (77 : UInt8).toNat < 128)
theorem index_ok (s : ByteArray) (i : Nat) (h : i < s.size) (W : World) : (Instr.index 9 (.string s) (.int .i64 (i : Int))).run Tryd.prog W = .ok (.int .u8 ((s[i]'h).toNat : Int)) W := by
  go_simp
set_option maxHeartbeats 4000000 in
theorem lib_IndexRune7 (c : Nat) (w : World) (hc : c ≤ 1114111) :
    Calls Tryd.prog 62 #[.string romS7, .int .i32 (c : Int)] w fun e w' => e = .returned (.int .i64 (romIdx c)) ∧ Below w.heap.size w w' := by
  by_cases h128 : c < 128
  · have := Any.strings_IndexRune_ascii { Tryd.laysn152 with } romS7 (c : Int) w (by omega) (by omega)
    rw [idx_ascii c h128] at this
    exact this.mono fun e w' ⟨h1, h2⟩ => ⟨h1, h2 ▸ Below.refl _ _⟩
  rw [romIdx_big (by omega)]
  have d0 : ¬ ((c : Int) < 128) := by omega
  have dge : (0 : Int) ≤ (c : Int) := by omega
  by_cases hE : c = 65533
  · subst hE
    have hsz : romS7.size = 7 := rfl
    have HG := Lib.hid rom_get
    obtain ⟨S, hS⟩ : ∃ S, S = romS7 := ⟨_, rfl⟩
    rw [← hS] at HG hsz ⊢
    clear hS h128 d0 dge
    go_enter Tryd.func62, Tryd.ntmps62
    go_wp2_with fail
    go_loopg [] 8 (fun gf wx => ∃ pos : Nat, wx.heap[w.heap.size]? = some (.stringIter S pos) ∧ Below w.heap.size w wx ∧ 7 ≤ pos + gf ∧ pos ≤ 7)
    case atStart => exact ⟨0, World.iter_heap w S 0, (Below.refl _ _).alloc (Nat.le_refl _) _, by omega, by omega⟩
    case round =>
      obtain ⟨pos, hit, hbw, hfu, hps⟩ := hrel
      by_cases hp2 : pos < S.size
      · obtain ⟨g', rfl⟩ : ∃ g', gk = g' + 1 := ⟨gk - 1, by omega⟩
        have hC := HG.out pos hp2
        have hnx : ∀ ty, (Instr.next (.pointer (some ⟨w.heap.size, 0, none⟩)) true ty).run Tryd.prog wr = _ := fun ty => Lib.run_next_ascii_at wr w.heap.size S pos ty hit hp2 hC
        have hit2 := Lib.iterAt_heap wr w.heap.size S pos (pos + 1) hit
        have hbw2 := Lib.below_iterAt hbw (k := w.heap.size) (Nat.le_refl _) S (pos + 1)
        generalize S[pos].toNat = C at hC hnx
        obtain ⟨W, hWd⟩ : ∃ W, wr.iterAt w.heap.size S (pos + 1) = W := ⟨_, rfl⟩
        rw [hWd] at hnx hit2 hbw2
        clear hWd hit hbw
        have HIT := Lib.hid hit2; have HBW := Lib.hid hbw2
        have d1 : ((C : Int) == 65533) = false := by simp; omega
        clear hit2 hbw2
        go_wp2_with fail
        go_roundg g'
        case measure => omega
        case rel => exact ⟨pos + 1, HIT.out, HBW.out, by omega, by omega⟩
      · have hnx : ∀ ty, (Instr.next (.pointer (some ⟨w.heap.size, 0, none⟩)) true ty).run Tryd.prog wr = _ := fun ty => Lib.run_next_end_at wr w.heap.size S pos ty hit hp2
        have HBW := Lib.hid hbw
        clear hit hbw
        go_wp2_with fail
        go_ret
        exact ⟨rfl, HBW.out⟩
  have dE : ((c : Int) == 65533) = false := by simp; omega
  have CV := fun W => Any.utf8_ValidRune { Tryd.laysn119 with } (c : Int) W
  cases hv : Lib.validRune (c : Int) with
  | false =>
    rw [hv] at CV
    have CV := Lib.hid CV
    clear hv
    go_enter Tryd.func62, Tryd.ntmps62
    go_wp2_with fail
    refine (CV.out _).mono ?_
    rintro e w1 ⟨rfl, rfl⟩
    go_wp2_with fail
    go_ret
    exact ⟨rfl, Below.refl _ _⟩
  | true =>
    rw [hv] at CV
    have CV := Lib.hid CV
    have hv2 : Utf8.valid (c : Int) = true := by unfold Lib.validRune at hv; unfold Utf8.valid; simp at hv ⊢; omega
    obtain ⟨q1, q2, q3⟩ := encode_facts (c : Int) hv2 (by omega)
    have hcv : ∀ W, (convert 21 9 (.int .i32 (c : Int))).run Tryd.prog W = .ok (.string (Utf8.encode (c : Int))) W := fun W => run_convert_int_string W 21 9 .i32 (c : Int) (by kernel_rfl) Tryd.underlying9
    generalize Utf8.encode (c : Int) = RS at q1 q2 q3 hcv
    have hb := q3 (by omega)
    have h7 : romS7.size = 7 := rfl
    have hx : ∀ i : Nat, i < 5 → ∀ b : UInt8, 128 ≤ b.toNat → Lib.indexByte (romS7.extract i 7).data.toList b = -1 := fun i hi b hb => by
      refine idx_big b _ fun hm => ?_
      have : ∀ x ∈ (romS7.extract i 7).data.toList, x.toNat < 128 := by
        have h5 : i = 0 ∨ i = 1 ∨ i = 2 ∨ i = 3 ∨ i = 4 := by omega
        rcases h5 with rfl | rfl | rfl | rfl | rfl <;> decide +kernel
      have := this b hm
      omega
    have hL : RS.size = 2 ∨ RS.size = 3 ∨ RS.size = 4 := by omega
    have CV := Lib.hid CV
    rcases hL with hL | hL | hL
    · have hb1 : 128 ≤ (RS[1]'(by omega)).toNat := by
        have := hb; simp only [hL] at this; exact this
      obtain ⟨b, hbb⟩ : ∃ b, b = (RS[1]'(by omega : 1 < RS.size)) := ⟨_, rfl⟩
      rw [← hbb] at hb1
      have i1 : ∀ W, (Instr.index 9 (.string RS) (.int .i64 1)).run Tryd.prog W = .ok (.int .u8 (b.toNat : Int)) W := fun W => by
        rw [hbb]; exact index_ok RS 1 (by omega) W
      have i2 : ∀ W, (Instr.index 9 (.string romS7) (.int .i64 1)).run Tryd.prog W = .ok (.int .u8 86) W := fun W => index_ok romS7 1 (by omega) W
      have hx1 := hx 2 (by omega) b hb1
      have CI := fun W => Any.strings_IndexByte { Tryd.laysn137 with } (romS7.extract 2 7) (b.toNat : Int) W
      rw [show ((b.toNat : Int).toNat.toUInt8) = b by simp, hx1] at CI
      have CI2 : ∀ W, Calls Tryd.prog 71 #[.string (romS7.extract 2 7), .int .u8 (b.toNat : Int)] W fun e w' => e = .returned (.int .i64 (-1)) ∧ Below W.heap.size W w' := fun W => (CI W).mono fun e w' ⟨h1, h2⟩ => ⟨h1, h2 ▸ Below.refl _ _⟩
      clear CI
      have CI := Lib.hid CI2
      clear CI2
      have sl : ∀ W, (Instr.slice 9 (.string romS7) (some (.int .i64 2)) none none).run Tryd.prog W = .ok (.string (romS7.extract 2 7)) W := fun W => by kernel_rfl
      have dne : (((86 : Int)) != (b.toNat : Int)) = true := by simp; omega
      have bl : (b.toNat : Int) < 256 := by have := b.toNat_lt; omega
      have hsz2 : (RS.size : Int) = 2 := by omega
      have iw : IntKind.i64.wrap 2 = 2 := rfl
      clear hb hbb hx hx1 q1 q2 q3 hv hv2 d0 hL hb1
      generalize romS7.extract 2 7 = TL at *
      generalize romS7 = S at *
      go_enter Tryd.func62, Tryd.ntmps62
      go_wp2_with fail
      refine (CV.out _).mono ?_
      rintro e w1 ⟨rfl, rfl⟩
      go_wp2_with fail
      refine wp_scope_straight ?_
      go_wp2_with fail
      refine wp_loop_rounds 1 ?_
      rw [rounds_succ]
      go_wp2_with fail
      refine wp_scope_straight ?_
      go_wp2_with fail
      go_quiet (fail)
      go_wp2_with fail
      have hb0 : Below w1.heap.size w1 (w1.drewN nq) := below_drewN (Below.refl _ _) nq
      (refine region_class (Below w1.heap.size w1) (by kernel_rfl) (by kernel_rfl) (hb0.drew) ?_; repeat ((first | (refine class_take ?_ (by rfl) ?_ ?_; rotate_left; focus (intro wq hq; ((skip)); go_simp; first | done | with_reducible rfl | ((go_at_call 71; (with_reducible refine (CI.out _).mono ?_); rintro e w' ⟨rfl, hb⟩; refine ⟨?_, below_then hq hb⟩; with_reducible rfl)))) | refine class_skip (by rfl) ?_); try simp only [Act.put, List.setIfInBounds_toArray, List.set_cons_zero, List.set_cons_succ]))
      refine wpQuiet_nil ?_
      intro W2 hW2
      go_wp2_with fail
      simp only [Exit.noGoto, Exit.inBlock, Exit.then]
      go_ret
      exact ⟨rfl, hW2⟩
    · have hb1 : 128 ≤ (RS[2]'(by omega)).toNat := by
        have := hb; simp only [hL] at this; exact this
      obtain ⟨b, hbb⟩ : ∃ b, b = (RS[2]'(by omega : 2 < RS.size)) := ⟨_, rfl⟩
      rw [← hbb] at hb1
      have i1 : ∀ W, (Instr.index 9 (.string RS) (.int .i64 2)).run Tryd.prog W = .ok (.int .u8 (b.toNat : Int)) W := fun W => by
        rw [hbb]; exact index_ok RS 2 (by omega) W
      have i2 : ∀ W, (Instr.index 9 (.string romS7) (.int .i64 2)).run Tryd.prog W = .ok (.int .u8 88) W := fun W => index_ok romS7 2 (by omega) W
      have hx1 := hx 3 (by omega) b hb1
      have CI := fun W => Any.strings_IndexByte { Tryd.laysn137 with } (romS7.extract 3 7) (b.toNat : Int) W
      rw [show ((b.toNat : Int).toNat.toUInt8) = b by simp, hx1] at CI
      have CI2 : ∀ W, Calls Tryd.prog 71 #[.string (romS7.extract 3 7), .int .u8 (b.toNat : Int)] W fun e w' => e = .returned (.int .i64 (-1)) ∧ Below W.heap.size W w' := fun W => (CI W).mono fun e w' ⟨h1, h2⟩ => ⟨h1, h2 ▸ Below.refl _ _⟩
      clear CI
      have CI := Lib.hid CI2
      clear CI2
      have sl : ∀ W, (Instr.slice 9 (.string romS7) (some (.int .i64 3)) none none).run Tryd.prog W = .ok (.string (romS7.extract 3 7)) W := fun W => by kernel_rfl
      have dne : (((88 : Int)) != (b.toNat : Int)) = true := by simp; omega
      have bl : (b.toNat : Int) < 256 := by have := b.toNat_lt; omega
      have hsz2 : (RS.size : Int) = 3 := by omega
      have iw : IntKind.i64.wrap 3 = 3 := rfl
      clear hb hbb hx hx1 q1 q2 q3 hv hv2 d0 hL hb1
      generalize romS7.extract 3 7 = TL at *
      generalize romS7 = S at *
      go_enter Tryd.func62, Tryd.ntmps62
      go_wp2_with fail
      refine (CV.out _).mono ?_
      rintro e w1 ⟨rfl, rfl⟩
      go_wp2_with fail
      refine wp_scope_straight ?_
      go_wp2_with fail
      refine wp_loop_rounds 1 ?_
      rw [rounds_succ]
      go_wp2_with fail
      refine wp_scope_straight ?_
      go_wp2_with fail
      go_quiet (fail)
      go_wp2_with fail
      have hb0 : Below w1.heap.size w1 (w1.drewN nq) := below_drewN (Below.refl _ _) nq
      (refine region_class (Below w1.heap.size w1) (by kernel_rfl) (by kernel_rfl) (hb0.drew) ?_; repeat ((first | (refine class_take ?_ (by rfl) ?_ ?_; rotate_left; focus (intro wq hq; ((skip)); go_simp; first | done | with_reducible rfl | ((go_at_call 71; (with_reducible refine (CI.out _).mono ?_); rintro e w' ⟨rfl, hb⟩; refine ⟨?_, below_then hq hb⟩; with_reducible rfl)))) | refine class_skip (by rfl) ?_); try simp only [Act.put, List.setIfInBounds_toArray, List.set_cons_zero, List.set_cons_succ]))
      refine wpQuiet_nil ?_
      intro W2 hW2
      go_wp2_with fail
      simp only [Exit.noGoto, Exit.inBlock, Exit.then]
      go_ret
      exact ⟨rfl, hW2⟩
    · have hb1 : 128 ≤ (RS[3]'(by omega)).toNat := by
        have := hb; simp only [hL] at this; exact this
      obtain ⟨b, hbb⟩ : ∃ b, b = (RS[3]'(by omega : 3 < RS.size)) := ⟨_, rfl⟩
      rw [← hbb] at hb1
      have i1 : ∀ W, (Instr.index 9 (.string RS) (.int .i64 3)).run Tryd.prog W = .ok (.int .u8 (b.toNat : Int)) W := fun W => by
        rw [hbb]; exact index_ok RS 3 (by omega) W
      have i2 : ∀ W, (Instr.index 9 (.string romS7) (.int .i64 3)).run Tryd.prog W = .ok (.int .u8 76) W := fun W => index_ok romS7 3 (by omega) W
      have hx1 := hx 4 (by omega) b hb1
      have CI := fun W => Any.strings_IndexByte { Tryd.laysn137 with } (romS7.extract 4 7) (b.toNat : Int) W
      rw [show ((b.toNat : Int).toNat.toUInt8) = b by simp, hx1] at CI
      have CI2 : ∀ W, Calls Tryd.prog 71 #[.string (romS7.extract 4 7), .int .u8 (b.toNat : Int)] W fun e w' => e = .returned (.int .i64 (-1)) ∧ Below W.heap.size W w' := fun W => (CI W).mono fun e w' ⟨h1, h2⟩ => ⟨h1, h2 ▸ Below.refl _ _⟩
      clear CI
      have CI := Lib.hid CI2
      clear CI2
      have sl : ∀ W, (Instr.slice 9 (.string romS7) (some (.int .i64 4)) none none).run Tryd.prog W = .ok (.string (romS7.extract 4 7)) W := fun W => by kernel_rfl
      have dne : (((76 : Int)) != (b.toNat : Int)) = true := by simp; omega
      have bl : (b.toNat : Int) < 256 := by have := b.toNat_lt; omega
      have hsz2 : (RS.size : Int) = 4 := by omega
      have iw : IntKind.i64.wrap 4 = 4 := rfl
      clear hb hbb hx hx1 q1 q2 q3 hv hv2 d0 hL hb1
      generalize romS7.extract 4 7 = TL at *
      generalize romS7 = S at *
      go_enter Tryd.func62, Tryd.ntmps62
      go_wp2_with fail
      refine (CV.out _).mono ?_
      rintro e w1 ⟨rfl, rfl⟩
      go_wp2_with fail
      refine wp_scope_straight ?_
      go_wp2_with fail
      refine wp_loop_rounds 1 ?_
      rw [rounds_succ]
      go_wp2_with fail
      refine wp_scope_straight ?_
      go_wp2_with fail
      go_quiet (fail)
      go_wp2_with fail
      have hb0 : Below w1.heap.size w1 (w1.drewN nq) := below_drewN (Below.refl _ _) nq
      (refine region_class (Below w1.heap.size w1) (by kernel_rfl) (by kernel_rfl) (hb0.drew) ?_; repeat ((first | (refine class_take ?_ (by rfl) ?_ ?_; rotate_left; focus (intro wq hq; ((skip)); go_simp; first | done | with_reducible rfl | ((go_at_call 71; (with_reducible refine (CI.out _).mono ?_); rintro e w' ⟨rfl, hb⟩; refine ⟨?_, below_then hq hb⟩; with_reducible rfl)))) | refine class_skip (by rfl) ?_); try simp only [Act.put, List.setIfInBounds_toArray, List.set_cons_zero, List.set_cons_succ]))
      refine wpQuiet_nil ?_
      intro W2 hW2
      go_wp2_with fail
      simp only [Exit.noGoto, Exit.inBlock, Exit.then]
      go_ret
      exact ⟨rfl, hW2⟩
end Go.Proofs.YticflmepmmdnfabDoor
