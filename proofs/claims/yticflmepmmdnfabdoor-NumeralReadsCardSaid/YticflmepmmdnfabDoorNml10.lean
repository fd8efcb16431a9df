/- Contract of the reference's NumeralText in script 12. -/
import Derived.Test.YticflmepmmdnfabDoorNml9
import Derived.Test.YticflmepmmdnfabDoorLayNm
namespace Go.Proofs.YticflmepmmdnfabDoor
set_option linter.unusedVariables false
set_option linter.unusedSimpArgs false
set_option maxRecDepth 100000
open Go.RowKit Go.Shelf Nml

def dObj : Obj := .cells #[.string ⟨#[227, 128, 135]⟩, .string ⟨#[228, 184, 128]⟩, .string ⟨#[228, 186, 140]⟩, .string ⟨#[228, 184, 137]⟩, .string ⟨#[229, 155, 155]⟩, .string ⟨#[228, 186, 148]⟩, .string ⟨#[229, 133, 173]⟩, .string ⟨#[228, 184, 131]⟩, .string ⟨#[229, 133, 171]⟩, .string ⟨#[228, 185, 157]⟩] 9
def gObj : Obj := .cells #[.int .i64 1000, .string ⟨#[229, 141, 131]⟩, .int .i64 100, .string ⟨#[231, 153, 190]⟩, .int .i64 10, .string ⟨#[229, 141, 129]⟩, .int .i64 1, .string ⟨#[]⟩] 50
theorem dObj_cell {W : World} {D : Nat} (h : At W D dObj) (m : Nat) (hm : m < 10) : W.cell? ⟨D, m, none⟩ = some (.string ⟨(chD m).toArray⟩) := by
  have h2 : m = 0 ∨ m = 1 ∨ m = 2 ∨ m = 3 ∨ m = 4 ∨ m = 5 ∨ m = 6 ∨ m = 7 ∨ m = 8 ∨ m = 9 := by omega
  clear hm
  rcases h2 with rfl | rfl | rfl | rfl | rfl | rfl | rfl | rfl | rfl | rfl
  · exact h.cell 0
  · exact h.cell 1
  · exact h.cell 2
  · exact h.cell 3
  · exact h.cell 4
  · exact h.cell 5
  · exact h.cell 6
  · exact h.cell 7
  · exact h.cell 8
  · exact h.cell 9
/-- The state behind k places. -/
def rSt (n k : Nat) : List UInt8 := (chP.take k).foldl (rchStep n) []
theorem rSt_succ (n k : Nat) (p : Nat × List UInt8) (h : chP[k]? = some p) : rSt n (k + 1) = rchStep n (rSt n k) p := by
  unfold rSt
  rw [List.take_add_one, h, List.foldl_append]; rfl
theorem rchStep_len (n : Nat) (o : List UInt8) (p : Nat × List UInt8) (hp : p.2.length ≤ 3) : (rchStep n o p).length ≤ o.length + 10 := by
  have h1 := chD_len 0
  have h2 := chD_len (n / p.1 % 10)
  unfold rchStep
  split
  · split <;> (try simp only [List.length_append]) <;> omega
  · simp only [List.length_append]; omega
theorem rSt_len (n : Nat) : ∀ k, (rSt n k).length ≤ 10 * k
  | 0 => by simp [rSt]
  | k + 1 => by
    have ih := rSt_len n k
    cases hp : chP[k]? with
    | some p =>
      rw [rSt_succ n k p hp]
      have := rchStep_len n (rSt n k) p (chP_get k p hp)
      omega
    | none =>
      have : rSt n (k + 1) = rSt n k := by unfold rSt; rw [List.take_add_one, hp]; simp
      rw [this]; omega
/-- The two tables of the function, and what was there. -/
def Chi (w W : World) : Prop := At W w.heap.size dObj ∧ At W (w.heap.size + 1) gObj ∧ Below w.heap.size w W
theorem Chi.step {w W W' : World} (h : Chi w W) (hb : Below W.heap.size W W') : Chi w W' := ⟨h.1.then_ hb, h.2.1.then_ hb, below_then h.2.2 hb⟩
theorem Chi.alloc {w W : World} (h : Chi w W) (o : Obj) : Chi w (W.alloc o) := h.step (below_new (Below.refl _ _) o)
theorem Chi.drewN {w W : World} (h : Chi w W) (n : Nat) : Chi w (W.drewN n) := ⟨h.1.drewN n, h.2.1.drewN n, below_drewN h.2.2 n⟩
theorem Chi.start (w : World) : Chi w ((w.alloc dObj).alloc gObj) := by
  have h1 := One.new w dObj
  have h2 := h1.step (below_new (Below.refl _ _) gObj)
  refine ⟨h2.1, ?_, h2.2⟩
  have := At.new (w.alloc dObj) gObj
  rwa [World.size_alloc] at this
set_option maxHeartbeats 16000000 in
theorem ref_NumeralTextC (n : Int) (w : World) (h0 : 0 ≤ n) (h1 : n ≤ 9999) :
    Calls Tryd.prog 13 #[.int .i64 12, .int .i64 n] w fun e w' => e = .returned (.string ⟨(rchS n.toNat).toArray⟩) ∧ Below w.heap.size w w' := by
  by_cases hz : n = 0
  · subst hz
    have HB := Lib.hid (fun o1 : Obj => show Below w.heap.size w (w.alloc o1) from below_new (Below.refl _ _) _)
    go_enter Tryd.func13, Tryd.ntmps13
    go_wp2_with fail
    go_ret
    exact ⟨rfl, HB.out _⟩
  · have d0 : (n == 0) = false := by simpa using hz
    have HR := Lib.hid (show rchS n.toNat = rSt n.toNat 4 by unfold rchS; rw [if_neg (by omega)]; rfl)
    have HSF := Lib.hid (fun (s : ByteArray) (W : World) (hs : s.size ≤ 9223372036854775807) => Any.strings_HasSuffix { Tryd.laysn100 with } s ⟨#[227, 128, 135]⟩ W hs)
    have HC := Lib.hid (Chi.start w)
    clear hz
    go_enter Tryd.func13, Tryd.ntmps13
    go_wp2_with fail
    have hc0 : Chi w ((w.alloc dObj).alloc gObj) := HC.out
    unfold dObj gObj at hc0
    generalize World.alloc (World.alloc w _) _ = W0 at hc0 ⊢
    have HC0 := Lib.hid hc0; clear hc0
    go_loopw [9, 50] (fun s i wr => ∃ k : Nat, k ≤ 4 ∧ i = .int .i64 k ∧ s = .string ⟨(rSt n.toNat k).toArray⟩ ∧ Chi w wr) (fun _ i _ => 4 - (intOf i).toNat)
    case atStart => exact ⟨0, by omega, rfl, rfl, HC0.out⟩
    case round =>
      clear HC0
      obtain ⟨k, hk, rfl, rfl, hch⟩ := hrel
      have hlen := rSt_len n.toNat k
      have hk4 : k = 0 ∨ k = 1 ∨ k = 2 ∨ k = 3 ∨ k = 4 := by omega
      clear hk
      have hD := hch.1
      have hG := hch.2.1
      have hgz := hG.lt
      rcases hk4 with rfl | rfl | rfl | rfl | rfl
      · have hs := rSt_succ n.toNat 0 (1000, [229, 141, 131]) rfl
        generalize rSt n.toNat 0 = S at hs hlen ⊢
        obtain ⟨SB, hSB⟩ : ∃ SB : ByteArray, SB = ⟨S.toArray⟩ := ⟨_, rfl⟩
        have hSL : SB.toList = S := by rw [hSB]; exact pt_list S
        have hSD : SB.data.toList = S := by rw [hSB]
        by_cases hd : n / 1000 % 10 = 0
        · have hdn : n.toNat / 1000 % 10 = 0 := by omega
          unfold rchStep at hs
          rw [if_pos hdn] at hs
          have dd : (n / 1000 % 10 != 0) = false := by simpa using hd
          have g0 : wr.cell? ⟨w.heap.size + 1, 0, none⟩ = some (.int .i64 1000) := hG.cell 0
          have g1 : wr.cell? ⟨w.heap.size + 1, 1, none⟩ = some (.string ⟨#[229, 141, 131]⟩) := hG.cell 1
          have HCH := Lib.hid hch
          clear hch hD hG
          rw [← hSB]
          by_cases he : S.isEmpty = true
          · have e1 : (!SB.toList.isEmpty) = false := by rw [hSL, he]; rfl
            rw [he] at hs
            have HS := Lib.hid (show rSt n.toNat (0 + 1) = S by rw [hs]; simp)
            have HSB := Lib.hid hSB
            clear hs hd hSB hSL hSD he
            go_wp2_with fail
            have hc2 := HCH.out.alloc (.cells #[.int .i64 1000, .string ⟨#[229, 141, 131]⟩] 50)
            go_roundw
            case rel => exact ⟨1, by omega, by go_num, by rw [HS.out, HSB.out], hc2⟩
            case measure => simp [intOf]
          have e1 : (!SB.toList.isEmpty) = true := by rw [hSL]; simpa using he
          by_cases hm : n % 1000 = 0
          · have dm : (n % 1000 != 0) = false := by simpa using hm
            have HS := Lib.hid (show rSt n.toNat (0 + 1) = S by rw [hs, show n.toNat % 1000 = 0 by omega]; simp)
            have HSB := Lib.hid hSB
            clear hs hd hSB hSL hSD he hm
            go_wp2_with fail
            have hc2 := HCH.out.alloc (.cells #[.int .i64 1000, .string ⟨#[229, 141, 131]⟩] 50)
            go_roundw
            case rel => exact ⟨1, by omega, by go_num, by rw [HS.out, HSB.out], hc2⟩
            case measure => simp [intOf]
          have dm : (n % 1000 != 0) = true := by simpa using hm
          have hm2 : (n.toNat % 1000 != 0) = true := by
            have : ¬ n.toNat % 1000 = 0 := by omega
            simpa using this
          rw [hm2] at hs
          have q0 : ∀ W : World, At W w.heap.size dObj → W.cell? ⟨w.heap.size, 0, none⟩ = some (.string ⟨#[227, 128, 135]⟩) := fun W h => h.cell 0
          have x0 := q0 wr HCH.out.1
          have hlz := HCH.out.1.lt
          have CS := HSF.out SB
          rw [hSD] at CS
          have hszB : SB.size ≤ 40 := by
            have e : SB.size = SB.data.toList.length := by simp
            rw [e, hSD]; omega
          by_cases hf : (chD 0).isSuffixOf S = true
          · have hf2 : Lib.hasSuffix S (⟨#[227, 128, 135]⟩ : ByteArray).data.toList = true := hf
            rw [hf2] at CS
            have CS := Lib.hid CS
            rw [hf] at hs
            have HS := Lib.hid (show rSt n.toNat (0 + 1) = S by rw [hs]; simp)
            have HSB := Lib.hid hSB
            clear hs hd hSB hSL hSD he hm hf hf2 q0
            go_wp2_with fail
            refine (CS.out _ (by omega)).mono ?_
            rintro e w2 ⟨rfl, rfl⟩
            go_wp2_with fail
            have hc2 := HCH.out.alloc (.cells #[.int .i64 1000, .string ⟨#[229, 141, 131]⟩] 50)
            go_roundw
            case rel => exact ⟨1, by omega, by go_num, by rw [HS.out, HSB.out], hc2⟩
            case measure => simp [intOf]
          · have hf2 : Lib.hasSuffix S (⟨#[227, 128, 135]⟩ : ByteArray).data.toList = false := Bool.eq_false_iff.2 hf
            rw [hf2] at CS
            have CS := Lib.hid CS
            have hf3 : (chD 0).isSuffixOf S = false := Bool.eq_false_iff.2 hf
            have he3 : S.isEmpty = false := by simpa using he
            rw [hf3, he3] at hs
            have hs4 : rSt n.toNat (0 + 1) = S ++ [227, 128, 135] := by rw [hs]; rfl
            have ha := addL S [227, 128, 135] _ rfl (by rw [List.length_append]; simp only [List.length_cons, List.length_nil]; omega)
            rw [← hs4, ← hSB] at ha
            obtain ⟨T, hT⟩ : ∃ T, T = rSt n.toNat (0 + 1) := ⟨_, rfl⟩
            rw [← hT] at ha
            have HS := Lib.hid hT
            clear hs hs4 hd hSB hSL hSD he hm hf hf2 hf3 he3 q0 hT
            go_wp2_with fail
            refine (CS.out _ (by omega)).mono ?_
            rintro e w2 ⟨rfl, rfl⟩
            go_wp2_with fail
            have hc2 := HCH.out.alloc (.cells #[.int .i64 1000, .string ⟨#[229, 141, 131]⟩] 50)
            go_roundw
            case rel => exact ⟨1, by omega, by go_num, by rw [← HS.out], hc2⟩
            case measure => simp [intOf]
        · obtain ⟨m, hm, hm0, hm1⟩ : ∃ m : Nat, n / 1000 % 10 = (m : Int) ∧ 0 < m ∧ m < 10 := ⟨(n / 1000 % 10).toNat, by omega, by omega, by omega⟩
          have hdn : n.toNat / 1000 % 10 = m := by omega
          unfold rchStep at hs
          rw [if_neg (show ¬ n.toNat / 1000 % 10 = 0 by omega), hdn] at hs
          have hmm : ((m : Int) != 0) = true := by simp; omega
          have lD := chD_len m
          have hcell := fun W h => dObj_cell (W := W) (D := w.heap.size) h m hm1
          generalize chD m = DD at lD hs hcell
          have x0 := hcell wr hD
          have hlz := hD.lt
          have hcA := Lib.hid (hcell _ (hch.alloc (.cells #[.int .i64 1000, .string ⟨#[229, 141, 131]⟩] 50)).1)
          have g0 : wr.cell? ⟨w.heap.size + 1, 0, none⟩ = some (.int .i64 1000) := hG.cell 0
          have g1 : wr.cell? ⟨w.heap.size + 1, 1, none⟩ = some (.string ⟨#[229, 141, 131]⟩) := hG.cell 1
          have HCH := Lib.hid hch
          clear hch hD hG
          simp only [] at hs
          have a1 := addL DD [229, 141, 131] _ rfl (by rw [List.length_append]; simp only [List.length_cons, List.length_nil]; omega)
          have a2 := addL S (DD ++ [229, 141, 131]) _ rfl (by rw [List.length_append, List.length_append]; simp only [List.length_cons, List.length_nil]; omega)
          rw [← hs] at a2
          generalize DD ++ [229, 141, 131] = T1 at a1 a2
          obtain ⟨T, hT⟩ : ∃ T, T = rSt n.toNat (0 + 1) := ⟨_, rfl⟩
          rw [← hT] at a2
          have HS := Lib.hid hT
          clear hs hd hSB hSL hSD hT hcell hdn
          have m10 : (m : Int) < 10 := by omega
          go_upto_region 20 with (fail)
          have hc2 := Lib.hid (HCH.out.alloc (.cells #[.int .i64 1000, .string ⟨#[229, 141, 131]⟩] 50))
          have y0 := hcA.out
          have y1 : (wr.alloc (.cells #[.int .i64 1000, .string ⟨#[229, 141, 131]⟩] 50)).cell? ⟨wr.heap.size, 1, none⟩ = some (.string ⟨#[229, 141, 131]⟩) := (At.new wr (.cells #[.int .i64 1000, .string ⟨#[229, 141, 131]⟩] 50)).cell 1
          go_quiet (fail)
          go_wp2_with fail
          have hc3 := hc2.out.drewN nq
          go_roundw
          case rel => exact ⟨1, by omega, by go_num, by rw [← HS.out], hc3⟩
          case measure => simp [intOf]
      · have hs := rSt_succ n.toNat 1 (100, [231, 153, 190]) rfl
        generalize rSt n.toNat 1 = S at hs hlen ⊢
        obtain ⟨SB, hSB⟩ : ∃ SB : ByteArray, SB = ⟨S.toArray⟩ := ⟨_, rfl⟩
        have hSL : SB.toList = S := by rw [hSB]; exact pt_list S
        have hSD : SB.data.toList = S := by rw [hSB]
        by_cases hd : n / 100 % 10 = 0
        · have hdn : n.toNat / 100 % 10 = 0 := by omega
          unfold rchStep at hs
          rw [if_pos hdn] at hs
          have dd : (n / 100 % 10 != 0) = false := by simpa using hd
          have g0 : wr.cell? ⟨w.heap.size + 1, 2, none⟩ = some (.int .i64 100) := hG.cell 2
          have g1 : wr.cell? ⟨w.heap.size + 1, 3, none⟩ = some (.string ⟨#[231, 153, 190]⟩) := hG.cell 3
          have HCH := Lib.hid hch
          clear hch hD hG
          rw [← hSB]
          by_cases he : S.isEmpty = true
          · have e1 : (!SB.toList.isEmpty) = false := by rw [hSL, he]; rfl
            rw [he] at hs
            have HS := Lib.hid (show rSt n.toNat (1 + 1) = S by rw [hs]; simp)
            have HSB := Lib.hid hSB
            clear hs hd hSB hSL hSD he
            go_wp2_with fail
            have hc2 := HCH.out.alloc (.cells #[.int .i64 100, .string ⟨#[231, 153, 190]⟩] 50)
            go_roundw
            case rel => exact ⟨2, by omega, by go_num, by rw [HS.out, HSB.out], hc2⟩
            case measure => simp [intOf]
          have e1 : (!SB.toList.isEmpty) = true := by rw [hSL]; simpa using he
          by_cases hm : n % 100 = 0
          · have dm : (n % 100 != 0) = false := by simpa using hm
            have HS := Lib.hid (show rSt n.toNat (1 + 1) = S by rw [hs, show n.toNat % 100 = 0 by omega]; simp)
            have HSB := Lib.hid hSB
            clear hs hd hSB hSL hSD he hm
            go_wp2_with fail
            have hc2 := HCH.out.alloc (.cells #[.int .i64 100, .string ⟨#[231, 153, 190]⟩] 50)
            go_roundw
            case rel => exact ⟨2, by omega, by go_num, by rw [HS.out, HSB.out], hc2⟩
            case measure => simp [intOf]
          have dm : (n % 100 != 0) = true := by simpa using hm
          have hm2 : (n.toNat % 100 != 0) = true := by
            have : ¬ n.toNat % 100 = 0 := by omega
            simpa using this
          rw [hm2] at hs
          have q0 : ∀ W : World, At W w.heap.size dObj → W.cell? ⟨w.heap.size, 0, none⟩ = some (.string ⟨#[227, 128, 135]⟩) := fun W h => h.cell 0
          have x0 := q0 wr HCH.out.1
          have hlz := HCH.out.1.lt
          have CS := HSF.out SB
          rw [hSD] at CS
          have hszB : SB.size ≤ 40 := by
            have e : SB.size = SB.data.toList.length := by simp
            rw [e, hSD]; omega
          by_cases hf : (chD 0).isSuffixOf S = true
          · have hf2 : Lib.hasSuffix S (⟨#[227, 128, 135]⟩ : ByteArray).data.toList = true := hf
            rw [hf2] at CS
            have CS := Lib.hid CS
            rw [hf] at hs
            have HS := Lib.hid (show rSt n.toNat (1 + 1) = S by rw [hs]; simp)
            have HSB := Lib.hid hSB
            clear hs hd hSB hSL hSD he hm hf hf2 q0
            go_wp2_with fail
            refine (CS.out _ (by omega)).mono ?_
            rintro e w2 ⟨rfl, rfl⟩
            go_wp2_with fail
            have hc2 := HCH.out.alloc (.cells #[.int .i64 100, .string ⟨#[231, 153, 190]⟩] 50)
            go_roundw
            case rel => exact ⟨2, by omega, by go_num, by rw [HS.out, HSB.out], hc2⟩
            case measure => simp [intOf]
          · have hf2 : Lib.hasSuffix S (⟨#[227, 128, 135]⟩ : ByteArray).data.toList = false := Bool.eq_false_iff.2 hf
            rw [hf2] at CS
            have CS := Lib.hid CS
            have hf3 : (chD 0).isSuffixOf S = false := Bool.eq_false_iff.2 hf
            have he3 : S.isEmpty = false := by simpa using he
            rw [hf3, he3] at hs
            have hs4 : rSt n.toNat (1 + 1) = S ++ [227, 128, 135] := by rw [hs]; rfl
            have ha := addL S [227, 128, 135] _ rfl (by rw [List.length_append]; simp only [List.length_cons, List.length_nil]; omega)
            rw [← hs4, ← hSB] at ha
            obtain ⟨T, hT⟩ : ∃ T, T = rSt n.toNat (1 + 1) := ⟨_, rfl⟩
            rw [← hT] at ha
            have HS := Lib.hid hT
            clear hs hs4 hd hSB hSL hSD he hm hf hf2 hf3 he3 q0 hT
            go_wp2_with fail
            refine (CS.out _ (by omega)).mono ?_
            rintro e w2 ⟨rfl, rfl⟩
            go_wp2_with fail
            have hc2 := HCH.out.alloc (.cells #[.int .i64 100, .string ⟨#[231, 153, 190]⟩] 50)
            go_roundw
            case rel => exact ⟨2, by omega, by go_num, by rw [← HS.out], hc2⟩
            case measure => simp [intOf]
        · obtain ⟨m, hm, hm0, hm1⟩ : ∃ m : Nat, n / 100 % 10 = (m : Int) ∧ 0 < m ∧ m < 10 := ⟨(n / 100 % 10).toNat, by omega, by omega, by omega⟩
          have hdn : n.toNat / 100 % 10 = m := by omega
          unfold rchStep at hs
          rw [if_neg (show ¬ n.toNat / 100 % 10 = 0 by omega), hdn] at hs
          have hmm : ((m : Int) != 0) = true := by simp; omega
          have lD := chD_len m
          have hcell := fun W h => dObj_cell (W := W) (D := w.heap.size) h m hm1
          generalize chD m = DD at lD hs hcell
          have x0 := hcell wr hD
          have hlz := hD.lt
          have hcA := Lib.hid (hcell _ (hch.alloc (.cells #[.int .i64 100, .string ⟨#[231, 153, 190]⟩] 50)).1)
          have g0 : wr.cell? ⟨w.heap.size + 1, 2, none⟩ = some (.int .i64 100) := hG.cell 2
          have g1 : wr.cell? ⟨w.heap.size + 1, 3, none⟩ = some (.string ⟨#[231, 153, 190]⟩) := hG.cell 3
          have HCH := Lib.hid hch
          clear hch hD hG
          simp only [] at hs
          have a1 := addL DD [231, 153, 190] _ rfl (by rw [List.length_append]; simp only [List.length_cons, List.length_nil]; omega)
          have a2 := addL S (DD ++ [231, 153, 190]) _ rfl (by rw [List.length_append, List.length_append]; simp only [List.length_cons, List.length_nil]; omega)
          rw [← hs] at a2
          generalize DD ++ [231, 153, 190] = T1 at a1 a2
          obtain ⟨T, hT⟩ : ∃ T, T = rSt n.toNat (1 + 1) := ⟨_, rfl⟩
          rw [← hT] at a2
          have HS := Lib.hid hT
          clear hs hd hSB hSL hSD hT hcell hdn
          have m10 : (m : Int) < 10 := by omega
          go_upto_region 20 with (fail)
          have hc2 := Lib.hid (HCH.out.alloc (.cells #[.int .i64 100, .string ⟨#[231, 153, 190]⟩] 50))
          have y0 := hcA.out
          have y1 : (wr.alloc (.cells #[.int .i64 100, .string ⟨#[231, 153, 190]⟩] 50)).cell? ⟨wr.heap.size, 1, none⟩ = some (.string ⟨#[231, 153, 190]⟩) := (At.new wr (.cells #[.int .i64 100, .string ⟨#[231, 153, 190]⟩] 50)).cell 1
          go_quiet (fail)
          go_wp2_with fail
          have hc3 := hc2.out.drewN nq
          go_roundw
          case rel => exact ⟨2, by omega, by go_num, by rw [← HS.out], hc3⟩
          case measure => simp [intOf]
      · have hs := rSt_succ n.toNat 2 (10, [229, 141, 129]) rfl
        generalize rSt n.toNat 2 = S at hs hlen ⊢
        obtain ⟨SB, hSB⟩ : ∃ SB : ByteArray, SB = ⟨S.toArray⟩ := ⟨_, rfl⟩
        have hSL : SB.toList = S := by rw [hSB]; exact pt_list S
        have hSD : SB.data.toList = S := by rw [hSB]
        by_cases hd : n / 10 % 10 = 0
        · have hdn : n.toNat / 10 % 10 = 0 := by omega
          unfold rchStep at hs
          rw [if_pos hdn] at hs
          have dd : (n / 10 % 10 != 0) = false := by simpa using hd
          have g0 : wr.cell? ⟨w.heap.size + 1, 4, none⟩ = some (.int .i64 10) := hG.cell 4
          have g1 : wr.cell? ⟨w.heap.size + 1, 5, none⟩ = some (.string ⟨#[229, 141, 129]⟩) := hG.cell 5
          have HCH := Lib.hid hch
          clear hch hD hG
          rw [← hSB]
          by_cases he : S.isEmpty = true
          · have e1 : (!SB.toList.isEmpty) = false := by rw [hSL, he]; rfl
            rw [he] at hs
            have HS := Lib.hid (show rSt n.toNat (2 + 1) = S by rw [hs]; simp)
            have HSB := Lib.hid hSB
            clear hs hd hSB hSL hSD he
            go_wp2_with fail
            have hc2 := HCH.out.alloc (.cells #[.int .i64 10, .string ⟨#[229, 141, 129]⟩] 50)
            go_roundw
            case rel => exact ⟨3, by omega, by go_num, by rw [HS.out, HSB.out], hc2⟩
            case measure => simp [intOf]
          have e1 : (!SB.toList.isEmpty) = true := by rw [hSL]; simpa using he
          by_cases hm : n % 10 = 0
          · have dm : (n % 10 != 0) = false := by simpa using hm
            have HS := Lib.hid (show rSt n.toNat (2 + 1) = S by rw [hs, show n.toNat % 10 = 0 by omega]; simp)
            have HSB := Lib.hid hSB
            clear hs hd hSB hSL hSD he hm
            go_wp2_with fail
            have hc2 := HCH.out.alloc (.cells #[.int .i64 10, .string ⟨#[229, 141, 129]⟩] 50)
            go_roundw
            case rel => exact ⟨3, by omega, by go_num, by rw [HS.out, HSB.out], hc2⟩
            case measure => simp [intOf]
          have dm : (n % 10 != 0) = true := by simpa using hm
          have hm2 : (n.toNat % 10 != 0) = true := by
            have : ¬ n.toNat % 10 = 0 := by omega
            simpa using this
          rw [hm2] at hs
          have q0 : ∀ W : World, At W w.heap.size dObj → W.cell? ⟨w.heap.size, 0, none⟩ = some (.string ⟨#[227, 128, 135]⟩) := fun W h => h.cell 0
          have x0 := q0 wr HCH.out.1
          have hlz := HCH.out.1.lt
          have CS := HSF.out SB
          rw [hSD] at CS
          have hszB : SB.size ≤ 40 := by
            have e : SB.size = SB.data.toList.length := by simp
            rw [e, hSD]; omega
          by_cases hf : (chD 0).isSuffixOf S = true
          · have hf2 : Lib.hasSuffix S (⟨#[227, 128, 135]⟩ : ByteArray).data.toList = true := hf
            rw [hf2] at CS
            have CS := Lib.hid CS
            rw [hf] at hs
            have HS := Lib.hid (show rSt n.toNat (2 + 1) = S by rw [hs]; simp)
            have HSB := Lib.hid hSB
            clear hs hd hSB hSL hSD he hm hf hf2 q0
            go_wp2_with fail
            refine (CS.out _ (by omega)).mono ?_
            rintro e w2 ⟨rfl, rfl⟩
            go_wp2_with fail
            have hc2 := HCH.out.alloc (.cells #[.int .i64 10, .string ⟨#[229, 141, 129]⟩] 50)
            go_roundw
            case rel => exact ⟨3, by omega, by go_num, by rw [HS.out, HSB.out], hc2⟩
            case measure => simp [intOf]
          · have hf2 : Lib.hasSuffix S (⟨#[227, 128, 135]⟩ : ByteArray).data.toList = false := Bool.eq_false_iff.2 hf
            rw [hf2] at CS
            have CS := Lib.hid CS
            have hf3 : (chD 0).isSuffixOf S = false := Bool.eq_false_iff.2 hf
            have he3 : S.isEmpty = false := by simpa using he
            rw [hf3, he3] at hs
            have hs4 : rSt n.toNat (2 + 1) = S ++ [227, 128, 135] := by rw [hs]; rfl
            have ha := addL S [227, 128, 135] _ rfl (by rw [List.length_append]; simp only [List.length_cons, List.length_nil]; omega)
            rw [← hs4, ← hSB] at ha
            obtain ⟨T, hT⟩ : ∃ T, T = rSt n.toNat (2 + 1) := ⟨_, rfl⟩
            rw [← hT] at ha
            have HS := Lib.hid hT
            clear hs hs4 hd hSB hSL hSD he hm hf hf2 hf3 he3 q0 hT
            go_wp2_with fail
            refine (CS.out _ (by omega)).mono ?_
            rintro e w2 ⟨rfl, rfl⟩
            go_wp2_with fail
            have hc2 := HCH.out.alloc (.cells #[.int .i64 10, .string ⟨#[229, 141, 129]⟩] 50)
            go_roundw
            case rel => exact ⟨3, by omega, by go_num, by rw [← HS.out], hc2⟩
            case measure => simp [intOf]
        · obtain ⟨m, hm, hm0, hm1⟩ : ∃ m : Nat, n / 10 % 10 = (m : Int) ∧ 0 < m ∧ m < 10 := ⟨(n / 10 % 10).toNat, by omega, by omega, by omega⟩
          have hdn : n.toNat / 10 % 10 = m := by omega
          unfold rchStep at hs
          rw [if_neg (show ¬ n.toNat / 10 % 10 = 0 by omega), hdn] at hs
          have hmm : ((m : Int) != 0) = true := by simp; omega
          have lD := chD_len m
          have hcell := fun W h => dObj_cell (W := W) (D := w.heap.size) h m hm1
          generalize chD m = DD at lD hs hcell
          have x0 := hcell wr hD
          have hlz := hD.lt
          have hcA := Lib.hid (hcell _ (hch.alloc (.cells #[.int .i64 10, .string ⟨#[229, 141, 129]⟩] 50)).1)
          have g0 : wr.cell? ⟨w.heap.size + 1, 4, none⟩ = some (.int .i64 10) := hG.cell 4
          have g1 : wr.cell? ⟨w.heap.size + 1, 5, none⟩ = some (.string ⟨#[229, 141, 129]⟩) := hG.cell 5
          have HCH := Lib.hid hch
          clear hch hD hG
          simp only [] at hs
          have a1 := addL DD [229, 141, 129] _ rfl (by rw [List.length_append]; simp only [List.length_cons, List.length_nil]; omega)
          have a2 := addL S (DD ++ [229, 141, 129]) _ rfl (by rw [List.length_append, List.length_append]; simp only [List.length_cons, List.length_nil]; omega)
          rw [← hs] at a2
          generalize DD ++ [229, 141, 129] = T1 at a1 a2
          obtain ⟨T, hT⟩ : ∃ T, T = rSt n.toNat (2 + 1) := ⟨_, rfl⟩
          rw [← hT] at a2
          have HS := Lib.hid hT
          clear hs hd hSB hSL hSD hT hcell hdn
          have m10 : (m : Int) < 10 := by omega
          go_upto_region 20 with (fail)
          have hc2 := Lib.hid (HCH.out.alloc (.cells #[.int .i64 10, .string ⟨#[229, 141, 129]⟩] 50))
          have y0 := hcA.out
          have y1 : (wr.alloc (.cells #[.int .i64 10, .string ⟨#[229, 141, 129]⟩] 50)).cell? ⟨wr.heap.size, 1, none⟩ = some (.string ⟨#[229, 141, 129]⟩) := (At.new wr (.cells #[.int .i64 10, .string ⟨#[229, 141, 129]⟩] 50)).cell 1
          go_quiet (fail)
          go_wp2_with fail
          have hc3 := hc2.out.drewN nq
          go_roundw
          case rel => exact ⟨3, by omega, by go_num, by rw [← HS.out], hc3⟩
          case measure => simp [intOf]
      · have hs := rSt_succ n.toNat 3 (1, []) rfl
        generalize rSt n.toNat 3 = S at hs hlen ⊢
        obtain ⟨SB, hSB⟩ : ∃ SB : ByteArray, SB = ⟨S.toArray⟩ := ⟨_, rfl⟩
        have hSL : SB.toList = S := by rw [hSB]; exact pt_list S
        have hSD : SB.data.toList = S := by rw [hSB]
        by_cases hd : n % 10 = 0
        · have hdn : n.toNat / 1 % 10 = 0 := by omega
          unfold rchStep at hs
          rw [if_pos hdn] at hs
          have dd : (n % 10 != 0) = false := by simpa using hd
          have g0 : wr.cell? ⟨w.heap.size + 1, 6, none⟩ = some (.int .i64 1) := hG.cell 6
          have g1 : wr.cell? ⟨w.heap.size + 1, 7, none⟩ = some (.string ⟨#[]⟩) := hG.cell 7
          have HCH := Lib.hid hch
          clear hch hD hG
          rw [← hSB]
          by_cases he : S.isEmpty = true
          · have e1 : (!SB.toList.isEmpty) = false := by rw [hSL, he]; rfl
            rw [he] at hs
            have HS := Lib.hid (show rSt n.toNat (3 + 1) = S by rw [hs]; simp)
            have HSB := Lib.hid hSB
            clear hs hd hSB hSL hSD he
            go_wp2_with fail
            have hc2 := HCH.out.alloc (.cells #[.int .i64 1, .string ⟨#[]⟩] 50)
            go_roundw
            case rel => exact ⟨4, by omega, by go_num, by rw [HS.out, HSB.out], hc2⟩
            case measure => simp [intOf]
          have e1 : (!SB.toList.isEmpty) = true := by rw [hSL]; simpa using he
          have HS := Lib.hid (show rSt n.toNat (3 + 1) = S by rw [hs, show n.toNat % 1 = 0 by omega]; simp)
          have HSB := Lib.hid hSB
          clear hs hd hSB hSL hSD he
          go_wp2_with fail
          have hc2 := HCH.out.alloc (.cells #[.int .i64 1, .string ⟨#[]⟩] 50)
          go_roundw
          case rel => exact ⟨4, by omega, by go_num, by rw [HS.out, HSB.out], hc2⟩
          case measure => simp [intOf]
        · obtain ⟨m, hm, hm0, hm1⟩ : ∃ m : Nat, n % 10 = (m : Int) ∧ 0 < m ∧ m < 10 := ⟨(n % 10).toNat, by omega, by omega, by omega⟩
          have hdn : n.toNat / 1 % 10 = m := by omega
          unfold rchStep at hs
          rw [if_neg (show ¬ n.toNat / 1 % 10 = 0 by omega), hdn] at hs
          have hmm : ((m : Int) != 0) = true := by simp; omega
          have lD := chD_len m
          have hcell := fun W h => dObj_cell (W := W) (D := w.heap.size) h m hm1
          generalize chD m = DD at lD hs hcell
          have x0 := hcell wr hD
          have hlz := hD.lt
          have hcA := Lib.hid (hcell _ (hch.alloc (.cells #[.int .i64 1, .string ⟨#[]⟩] 50)).1)
          have g0 : wr.cell? ⟨w.heap.size + 1, 6, none⟩ = some (.int .i64 1) := hG.cell 6
          have g1 : wr.cell? ⟨w.heap.size + 1, 7, none⟩ = some (.string ⟨#[]⟩) := hG.cell 7
          have HCH := Lib.hid hch
          clear hch hD hG
          simp only [] at hs
          have a1 := addL DD [] _ rfl (by rw [List.length_append]; simp only [List.length_cons, List.length_nil]; omega)
          have a2 := addL S (DD ++ []) _ rfl (by rw [List.length_append, List.length_append]; simp only [List.length_cons, List.length_nil]; omega)
          rw [← hs] at a2
          generalize DD ++ [] = T1 at a1 a2
          obtain ⟨T, hT⟩ : ∃ T, T = rSt n.toNat (3 + 1) := ⟨_, rfl⟩
          rw [← hT] at a2
          have HS := Lib.hid hT
          clear hs hd hSB hSL hSD hT hcell hdn
          have m10 : (m : Int) < 10 := by omega
          go_upto_region 20 with (fail)
          have hc2 := Lib.hid (HCH.out.alloc (.cells #[.int .i64 1, .string ⟨#[]⟩] 50))
          have y0 := hcA.out
          have y1 : (wr.alloc (.cells #[.int .i64 1, .string ⟨#[]⟩] 50)).cell? ⟨wr.heap.size, 1, none⟩ = some (.string ⟨#[]⟩) := (At.new wr (.cells #[.int .i64 1, .string ⟨#[]⟩] 50)).cell 1
          go_quiet (fail)
          go_wp2_with fail
          have hc3 := hc2.out.drewN nq
          go_roundw
          case rel => exact ⟨4, by omega, by go_num, by rw [← HS.out], hc3⟩
          case measure => simp [intOf]
      · have HCH := Lib.hid hch
        clear hch hD hG
        go_wp2_with fail
        go_ret
        exact ⟨by rw [HR.out]; rfl, HCH.out.2.2⟩
end Go.Proofs.YticflmepmmdnfabDoor
