/- The library's Itoa, Atoi and Cut (at one byte), in the words of this seat's contracts. -/
import Derived.Test.YthpiiocncdpimabDoorTxt0
import Derived.Test.YthpiiocncdpimabDoorCut0
import Derived.Test.YthpiiocncdpimabDoorLayText
import Derived.Lib.ItoaLen
import Derived.Lib.AppendIntMem
import Derived.Lib.LaidTab
namespace Go.Proofs.YthpiiocncdpimabDoor
set_option linter.unusedVariables false
set_option linter.unusedSimpArgs false
set_option maxRecDepth 100000
open Go.RowKit Go.Shelf Num

theorem var_below {P : Program} {n : String} {cs : Array Value} {w w' : World} (h : w.var? P n = some cs) (hb : Below w.heap.size w w') : w'.var? P n = some cs := by
  unfold World.var? at h ⊢
  rcases hg : P.globalNamed n with _ | g
  · rw [hg] at h; cases h
  · rw [hg] at h
    simp only [Option.bind_some] at h ⊢
    have hlt : g < w.heap.size := by
      rcases Nat.lt_or_ge g w.heap.size with h' | h'
      · exact h'
      · rw [Array.getElem?_eq_none h'] at h; cases h
    rw [hb.block g hlt]
    exact h
/-- The library's table of powers of ten is there. -/
def Pow (w : World) : Prop := Lib.TabIs Tryd.prog w "internal/strconv.uint64pow10" .u64 Lib.pow10Tab
theorem Pow.below {w w' : World} (h : Pow w) (hb : Below w.heap.size w w') : Pow w' := var_below h hb
def itoaS (n : Int) : ByteArray := ⟨(Lib.itoa n).toArray⟩
theorem itoaS_list (n : Int) : (itoaS n).data.toList = Lib.itoa n := rfl
theorem itoaS_size {n : Int} (h0 : -9223372036854775808 ≤ n) (h1 : n ≤ 9223372036854775807) : (itoaS n).size ≤ 21 := by
  have := Lib.itoa_length_le n h0 h1
  show (Lib.itoa n).toArray.size ≤ 21
  simpa using this
theorem lib_Itoa (n : Int) (w : World) (h0 : -9223372036854775808 ≤ n) (h1 : n ≤ 9223372036854775807) (ht : Pow w) :
    Calls Tryd.prog 47 #[.int .i64 n] w fun e w' => e = .returned (.string (itoaS n)) ∧ Below w.heap.size w w' :=
  (Any.strconv_Itoa Tryd.laysLaysMn171 n h0 h1 w ht).mono fun e w' ⟨he, k, os, hw⟩ => ⟨he, hw ▸ Lib.below_grow _ w (Nat.le_refl _) k os⟩

/-- The library's two errors of numerals are there. -/
def Errs (w : World) : Prop := (∃ tp p, w.var? Tryd.prog "strconv.ErrSyntax" = some #[.iface tp p]) ∧ (∃ tp p, w.var? Tryd.prog "strconv.ErrRange" = some #[.iface tp p])
theorem Errs.below {w w' : World} (h : Errs w) (hb : Below w.heap.size w w') : Errs w' := by
  obtain ⟨⟨a, b, h1⟩, c, d, h2⟩ := h
  exact ⟨⟨a, b, var_below h1 hb⟩, c, d, var_below h2 hb⟩
def atoiV (l : List UInt8) : Int := match Lib.atoiAll l with | .ok v => v | .range => Lib.atoiSat l | _ => 0
def atoiOk (l : List UInt8) : Bool := match Lib.atoiAll l with | .ok _ => true | _ => false
/-- An error that is nil just if the numeral was read. -/
def errIs (b : Bool) (v : Value) : Prop := if b then v = .nilIface else ∃ t a, v = .iface t (.pointer (some a))
def AtoiPost (l : List UInt8) (w : World) (e : Ending) (w' : World) : Prop := ∃ er, errIs (atoiOk l) er ∧ e = .returned (.tuple #[.int .i64 (atoiV l), er]) ∧ Below w.heap.size w w'
theorem lib_Atoi (s : ByteArray) (w : World) (hs : s.size ≤ 140737488355328) (he : Errs w) :
    Calls Tryd.prog 45 #[.string s] w (AtoiPost s.data.toList w) := by
  obtain ⟨⟨t1, p1, h1⟩, t2, p2, h2⟩ := he
  unfold AtoiPost atoiV atoiOk
  cases h : Lib.atoiAll s.data.toList with
  | ok v =>
    refine (Any.strconv_Atoi_ok Tryd.laysLaysCn172 s (by omega) v h w).mono ?_
    rintro e w' ⟨rfl, hw⟩
    refine ⟨.nilIface, rfl, rfl, ?_⟩
    rcases hw with rfl | ⟨t, rfl⟩
    · exact Below.refl _ _
    · exact Lib.bytesWorld_below _ _ _
  | range =>
    refine (Any.strconv_Atoi_range_var Tryd.laysLaysCn172 s (by omega) h t2 p2 w h2).mono ?_
    rintro e w' ⟨N, rfl, _, _, hb⟩
    exact ⟨_, ⟨_, _, rfl⟩, rfl, hb⟩
  | _ =>
    refine (Any.strconv_Atoi_syntax_var Tryd.laysLaysCn172 s (by omega) h t1 p1 w h1).mono ?_
    rintro e w' ⟨N, rfl, _, _, hb⟩
    exact ⟨_, ⟨_, _, rfl⟩, rfl, hb⟩
theorem atoiV_itoa {n : Int} (h0 : -9223372036854775808 ≤ n) (h1 : n ≤ 9223372036854775807) : atoiV (Lib.itoa n) = n ∧ atoiOk (Lib.itoa n) = true := by
  unfold atoiV atoiOk; rw [atoi_itoa n h0 h1]; exact ⟨rfl, rfl⟩
theorem atoiV_bounds (l : List UInt8) : -9223372036854775808 ≤ atoiV l ∧ atoiV l ≤ 9223372036854775807 := by
  unfold atoiV
  cases h : Lib.atoiAll l with
  | ok v => exact Lib.atoiAll_bounds h
  | range => exact Lib.atoiSat_bounds l
  | _ => show (-9223372036854775808 : Int) ≤ 0 ∧ (0 : Int) ≤ 9223372036854775807; omega

theorem list_str (s : ByteArray) (l : List UInt8) (h : s.data.toList = l) : s = ⟨l.toArray⟩ := by rw [← h]
set_option maxHeartbeats 4000000 in
theorem lite_Cut (s : ByteArray) (c : UInt8) (w : World) (hs : s.size ≤ 9223372036854775806) :
    Calls Tryd.prog 28 #[.string s, .string ⟨#[c]⟩] w fun e w' => e = .returned (.tuple #[.string ⟨(cutL s.data.toList c).toArray⟩, .string ⟨(cutR s.data.toList c).toArray⟩, .bool (cutB s.data.toList c)]) ∧ Drawn w w' := by
  have hz : (⟨#[c]⟩ : ByteArray).size = 1 := rfl
  by_cases hb : cutB s.data.toList c = true
  · obtain ⟨n, hn⟩ : ∃ n, n = (cutL s.data.toList c).length := ⟨_, rfl⟩
    have hi : Lib.indexByte s.data.toList c = (n : Int) := by rw [cut_index, if_pos hb, hn]
    have hlt : n < s.size := by rw [hn, ← str_len]; exact (cut_some hb).2
    have hL : s.extract 0 n = ⟨(cutL s.data.toList c).toArray⟩ := list_str _ _ (by rw [Lib.extract_data, List.drop_zero, Nat.sub_zero, hn, cut_take])
    have hR : s.extract (n + 1) s.size = ⟨(cutR s.data.toList c).toArray⟩ := list_str _ _ (by rw [Lib.extract_to_end, hn, cut_drop])
    have HI := Lib.hid hi; have HL := Lib.hid hL; have HR := Lib.hid hR; have HB := Lib.hid hb
    clear hi hL hR hb hn
    go_enter Tryd.func28, Tryd.ntmps28
    go_wp2_with fail
    refine (Any.stringslite_Index_one Tryd.laysn219 s c _).mono ?_
    rw [HI.out]
    rintro e w' ⟨rfl, rfl⟩
    have i1 : IntKind.i64.wrap ((n : Int) + 1) = (n : Int) + 1 := IntWalk.i64_in _ (by omega)
    have i2 : ((n : Int) + 1).toNat = n + 1 := by omega
    have i3 : (0 : Int) ≤ (n : Int) + 1 := by omega
    have i4 : (n : Int) ≤ s.size := by omega
    have i5 : (n : Int) + 1 ≤ s.size := by omega
    go_wp2_with fail
    go_quiet (fail)
    go_wp2_with fail
    clear i1 i2 i3 i4 i5
    go_ret3
    exact ⟨by simp [HL.out, HR.out, HB.out], by (repeat' (first | exact Drawn.refl _ | assumption | refine Drawn.drew ?_ | refine Drawn.drewN ?_ _ | exact ⟨_, rfl⟩))⟩
  · have hb' : cutB s.data.toList c = false := by simpa using hb
    have hi : Lib.indexByte s.data.toList c = -1 := by rw [cut_index, if_neg hb]
    obtain ⟨q1, q2⟩ := cutL_none hb'
    have hL : s = ⟨(cutL s.data.toList c).toArray⟩ := list_str _ _ q1.symm
    have HI := Lib.hid hi; have HL := Lib.hid hL; have HR := Lib.hid q2; have HB := Lib.hid hb'
    clear hi hL hb hb' q1 q2
    go_enter Tryd.func28, Tryd.ntmps28
    go_wp2_with fail
    refine (Any.stringslite_Index_one Tryd.laysn219 s c _).mono ?_
    rw [HI.out]
    rintro e w' ⟨rfl, rfl⟩
    go_wp2_with fail
    go_ret3
    exact ⟨by rw [HR.out, HB.out, ← HL.out]; rfl, by (repeat' (first | exact Drawn.refl _ | assumption | refine Drawn.drew ?_ | refine Drawn.drewN ?_ _ | exact ⟨_, rfl⟩))⟩
theorem lib_Cut (s : ByteArray) (c : UInt8) (w : World) (hs : s.size ≤ 9223372036854775806) :
    Calls Tryd.prog 12 #[.string s, .string ⟨#[c]⟩] w fun e w' => e = .returned (.tuple #[.string ⟨(cutL s.data.toList c).toArray⟩, .string ⟨(cutR s.data.toList c).toArray⟩, .bool (cutB s.data.toList c)]) ∧ Drawn w w' := by
  go_enter Tryd.func12, Tryd.ntmps12
  go_wp2_with fail
  refine (lite_Cut s c _ hs).mono ?_
  rintro e w' ⟨rfl, hd⟩
  go_wp2_with fail
  go_ret3
  exact ⟨rfl, hd⟩
end Go.Proofs.YthpiiocncdpimabDoor
