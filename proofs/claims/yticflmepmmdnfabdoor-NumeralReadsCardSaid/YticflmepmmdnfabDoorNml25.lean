/- Contract of numeral.Read. -/
import Derived.Test.YticflmepmmdnfabDoorNml24
namespace Go.Proofs.YticflmepmmdnfabDoor
set_option linter.unusedVariables false
set_option linter.unusedSimpArgs false
set_option maxRecDepth 100000
open Go.RowKit Go.Shelf Nml

def rdP (s : Int) (l : List UInt8) : Int × Int := if inB 0 12 s = false then (0, 1) else if (lenP s l).2 = true ∧ inS s (lenP s l).1 = true ∧ numT s (lenP s l).1 = l then ((lenP s l).1, 0) else (0, 4)
theorem rd_found {s m : Int} {l : List UInt8} (hs : inB 0 12 s = true) (hm : inS s m = true) (h : numT s m = l) : rdP s l = (m, 0) := by
  have := len_numT s m hs hm
  rw [h] at this
  unfold rdP
  rw [if_neg (by rw [hs]; simp), this, if_pos ⟨rfl, hm, h⟩]
theorem rd_none {s : Int} {l : List UInt8} (hs : inB 0 12 s = true) (h : ∀ m, inS s m = true → ¬ numT s m = l) : rdP s l = (0, 4) := by
  unfold rdP
  rw [if_neg (by rw [hs]; simp), if_neg (fun hh => h _ hh.2.1 hh.2.2)]
set_option maxHeartbeats 4000000 in
theorem num_Read (s : Int) (S : ByteArray) (w : World) (hS : S.size ≤ 60) (hz : Zer w) (hu : Utf w) (hp : Pow w) :
    Calls Tryd.prog 14 #[.int .i64 s, .string S] w fun e w' => e = .returned (.tuple #[.int .i64 (rdP s S.data.toList).1, .int .i64 (rdP s S.data.toList).2]) ∧ Below w.heap.size w w' := by
  have CI := num_isScript s
  unfold rdP
  by_cases hs : inB 0 12 s = false
  · rw [if_pos hs]
    rw [hs] at CI
    have CI := Lib.hid CI
    go_enter Tryd.func14, Tryd.ntmps14
    go_wp2_with fail
    refine (CI.out _).mono ?_
    rintro e w1 ⟨rfl, rfl⟩
    go_wp2_with fail
    go_ret2
    exact ⟨rfl, Below.refl _ _⟩
  rw [if_neg hs]
  have hs' : inB 0 12 s = true := by simpa using hs
  rw [hs'] at CI
  have CI := Lib.hid CI
  have CL := num_Lenient s S w hs' hS hz
  unfold LenPost at CL
  generalize lenP s S.data.toList = V at CL ⊢
  obtain ⟨v, is⟩ := V
  simp only [] at CL ⊢
  have CL := Lib.hid CL
  cases is with
  | false =>
    rw [if_neg (fun h => by cases h.1)]
    clear hs hs' hz hu hp
    go_enter Tryd.func14, Tryd.ntmps14
    go_wp2_with fail
    refine (CI.out _).mono ?_
    rintro e w1 ⟨rfl, rfl⟩
    go_wp2_with fail
    refine CL.out.mono ?_
    rintro e w2 ⟨rfl, b⟩
    have B2 := Lib.hid b; clear b
    go_wp2_with fail
    go_ret2
    exact ⟨rfl, B2.out⟩
  | true =>
    have CW := num_writes s v
    by_cases hn : inS s v = false
    · rw [hn] at CW
      rw [if_neg (fun h => by rw [hn] at h; cases h.2.1)]
      have CW := Lib.hid CW
      clear hs hs' hz hu hp hn
      go_enter Tryd.func14, Tryd.ntmps14
      go_wp2_with fail
      refine (CI.out _).mono ?_
      rintro e w1 ⟨rfl, rfl⟩
      go_wp2_with fail
      refine CL.out.mono ?_
      rintro e w2 ⟨rfl, b⟩
      have B2 := Lib.hid b; clear b
      go_wp2_with fail
      refine (CW.out _).mono ?_
      rintro e w3 ⟨rfl, rfl⟩
      go_wp2_with fail
      go_ret2
      exact ⟨rfl, B2.out⟩
    have hn' : inS s v = true := by simpa using hn
    rw [hn'] at CW
    have CW := Lib.hid CW
    have HZ := Lib.hid hz; have HU := Lib.hid hu; have HP := Lib.hid hp
    have CT := fun W (hb : Below w.heap.size w W) => num_write s v W hs' hn' (HZ.out.below hb) (Utf8Tabs_below HU.out hb) (HP.out.below hb)
    obtain ⟨T, hT⟩ : ∃ T : ByteArray, T = ⟨(numT s v).toArray⟩ := ⟨_, rfl⟩
    have hTL : T.data.toList = numT s v := by rw [hT]
    rw [← hT] at CT
    have CT := Lib.hid CT
    rw [← hTL]
    by_cases heq : T.data.toList = S.data.toList
    · have he : T = S := by rw [← str_eta T, heq, str_eta]
      subst he
      rw [if_pos ⟨rfl, hn', rfl⟩]
      clear hs hs' hz hu hp hn hn' hT hTL heq
      go_enter Tryd.func14, Tryd.ntmps14
      go_wp2_with fail
      refine (CI.out _).mono ?_
      rintro e w1 ⟨rfl, rfl⟩
      go_wp2_with fail
      refine CL.out.mono ?_
      rintro e w2 ⟨rfl, b⟩
      have B2 := Lib.hid b; clear b
      go_wp2_with fail
      refine (CW.out _).mono ?_
      rintro e w3 ⟨rfl, rfl⟩
      go_wp2_with fail
      refine (CT.out _ B2.out).mono ?_
      rintro e w4 ⟨rfl, b⟩
      have B4 := Lib.hid (below_then B2.out b); clear b
      go_wp2_with fail
      go_ret2
      exact ⟨rfl, B4.out⟩
    · rw [if_neg (fun h => heq h.2.2)]
      obtain ⟨f1, f2, f3, f4⟩ := diff_facts heq
      clear hs hs' hz hu hp hn hn' hT hTL heq
      go_enter Tryd.func14, Tryd.ntmps14
      go_wp2_with fail
      refine (CI.out _).mono ?_
      rintro e w1 ⟨rfl, rfl⟩
      go_wp2_with fail
      refine CL.out.mono ?_
      rintro e w2 ⟨rfl, b⟩
      have B2 := Lib.hid b; clear b
      go_wp2_with fail
      refine (CW.out _).mono ?_
      rintro e w3 ⟨rfl, rfl⟩
      go_wp2_with fail
      refine (CT.out _ B2.out).mono ?_
      rintro e w4 ⟨rfl, b⟩
      have B4 := Lib.hid (below_then B2.out b); clear b
      go_wp2_with fail
      go_ret2
      exact ⟨rfl, B4.out⟩
end Go.Proofs.YticflmepmmdnfabDoor
