/- Two digits and the text of an offset: plain, and the contracts of zonetext.two, zonetext.offset and of the reference's pad2, OffsetText. -/
import Derived.Test.YthpiiocncdpimabDoorTxt1
import Derived.Test.YthpiiocncdpimabDoorOne
import Derived.Laws.Concat
import Derived.Laws.IdiomStrings
import Derived.Deep.Cut
namespace Go.Proofs.YthpiiocncdpimabDoor
set_option linter.unusedVariables false
set_option maxRecDepth 100000
open Go.RowKit Go.Shelf Num

def two (n : Nat) : List UInt8 := [UInt8.ofNat (48 + n / 10), UInt8.ofNat (48 + n % 10)]
def twoS (n : Nat) : ByteArray := ⟨(two n).toArray⟩
theorem twoS_size (n : Nat) : (twoS n).size = 2 := rfl
theorem app_list (a b : ByteArray) : (a ++ b).data.toList = a.data.toList ++ b.data.toList := by simp [ByteArray.data_append]
theorem app_size (a b : ByteArray) : (a ++ b).size = a.size + b.size := by simp [ByteArray.size_append]
/-- Concatenation in a walk. -/
theorem add_ok (a b c : ByteArray) (hc : a ++ b = c) (h : a.size + b.size ≤ 9223372036854775807) : ∀ W, (Op.stringOp .add a b).run Tryd.prog W = .ok (.string c) W := fun W => by rw [← hc]; exact run_string_add_sum W _ _ h
theorem two_itoa (n : Nat) (h : n < 100) : two n = if n < 10 then 48 :: Lib.itoa n else Lib.itoa n := by
  rw [itoa_nat]
  by_cases h1 : n < 10
  · rw [if_pos h1, dd_one n h1]
    unfold two; rw [show n / 10 = 0 by omega, show n % 10 = n by omega]; rfl
  · rw [if_neg h1, dd_snoc n h1, dd_one (n / 10) (by omega)]; rfl
set_option maxHeartbeats 1000000 in
theorem zt_two (n : Nat) (w : World) (h : n < 2000) :
    Calls Tryd.prog 69 #[.int .i64 (n : Int)] w fun e w' => e = .returned (.string (twoS n)) ∧ Below w.heap.size w w' := by
  have hc : (convert 94 9 (.slice (some ⟨w.heap.size, 0, none⟩) 2 2)).run Tryd.prog (w.alloc (.cells #[.int .u8 (48 + (n : Int) / 10), .int .u8 (48 + (n : Int) % 10)] 5)) = .ok (.string (twoS n)) (w.alloc (.cells #[.int .u8 (48 + (n : Int) / 10), .int .u8 (48 + (n : Int) % 10)] 5)) := by
    refine run_convert_bytes_back _ 94 9 5 ⟨w.heap.size, 0, none⟩ 2 (two n) Tryd.underlying94 Tryd.underlying5 Tryd.underlying9 ?_
    intro j hj
    have ha := At.new w (.cells #[.int .u8 (48 + (n : Int) / 10), .int .u8 (48 + (n : Int) % 10)] 5)
    match j, hj with
    | 0, _ => rw [show (⟨w.heap.size, 0, none⟩ : Addr).add 0 = ⟨w.heap.size, 0, none⟩ from rfl, ha.cell 0]; show some (Value.int .u8 _) = some (Value.int .u8 ((UInt8.ofNat (48 + n / 10)).toNat : Int)); rw [ofNat_toNat _ (by omega)]; congr 2
    | 1, _ => rw [show (⟨w.heap.size, 0, none⟩ : Addr).add 1 = ⟨w.heap.size, 1, none⟩ from rfl, ha.cell 1]; show some (Value.int .u8 _) = some (Value.int .u8 ((UInt8.ofNat (48 + n % 10)).toNat : Int)); rw [ofNat_toNat _ (by omega)]; congr 2
  have hb : Below w.heap.size w (w.alloc (.cells #[.int .u8 (48 + (n : Int) / 10), .int .u8 (48 + (n : Int) % 10)] 5)) := below_new (Below.refl _ _) _
  have HB := Lib.hid hb; clear hb
  go_enter Tryd.func69, Tryd.ntmps69
  go_wp2_with fail
  go_ret
  exact ⟨rfl, HB.out⟩
/-- The text of an offset of n seconds behind its sign. -/
def offS (n : Int) : ByteArray :=
  ((((if n < 0 then ⟨#[45]⟩ else ⟨#[43]⟩ : ByteArray) ++ twoS (n.natAbs / 1000 / 3600)) ++ ⟨#[58]⟩) ++ twoS (n.natAbs / 1000 / 60 % 60) ++ ⟨#[58]⟩) ++ twoS (n.natAbs / 1000 % 60)
theorem offS_size (n : Int) : (offS n).size = 9 := by
  unfold offS
  rw [app_size, app_size, app_size, app_size, app_size, twoS_size, twoS_size, twoS_size]
  have : (if n < 0 then (⟨#[45]⟩ : ByteArray) else ⟨#[43]⟩).size = 1 := by split <;> rfl
  rw [this]; rfl
set_option maxHeartbeats 4000000 in
theorem zt_offset (n : Int) (w : World) (h1 : -400000000 ≤ n) (h2 : n ≤ 400000000) :
    Calls Tryd.prog 46 #[.int .i64 n] w fun e w' => e = .returned (.string (offS n)) ∧ Below w.heap.size w w' := by
  obtain ⟨q, hq⟩ : ∃ q, q = n.natAbs / 1000 := ⟨_, rfl⟩
  have hq1 : q ≤ 400000 := by omega
  obtain ⟨sg, hsg⟩ : ∃ sg : ByteArray, sg = if n < 0 then ⟨#[45]⟩ else ⟨#[43]⟩ := ⟨_, rfl⟩
  have hz : sg.size = 1 := by rw [hsg]; split <;> rfl
  have HO := Lib.hid (show offS n = ((((sg ++ twoS (q / 3600)) ++ ⟨#[58]⟩) ++ twoS (q / 60 % 60)) ++ ⟨#[58]⟩) ++ twoS (q % 60) by unfold offS; rw [hq, hsg])
  have z58 : (⟨#[58]⟩ : ByteArray).size = 1 := rfl
  have a1 := add_ok sg (twoS (q / 3600)) _ rfl (by rw [twoS_size]; omega)
  have a2 := add_ok (sg ++ twoS (q / 3600)) ⟨#[58]⟩ _ rfl (by rw [app_size, twoS_size]; omega)
  have a3 := add_ok ((sg ++ twoS (q / 3600)) ++ ⟨#[58]⟩) (twoS (q / 60 % 60)) _ rfl (by rw [app_size, app_size, twoS_size, twoS_size]; omega)
  have a4 := add_ok (((sg ++ twoS (q / 3600)) ++ ⟨#[58]⟩) ++ twoS (q / 60 % 60)) ⟨#[58]⟩ _ rfl (by rw [app_size, app_size, app_size, twoS_size, twoS_size]; omega)
  have a5 := add_ok ((((sg ++ twoS (q / 3600)) ++ ⟨#[58]⟩) ++ twoS (q / 60 % 60)) ++ ⟨#[58]⟩) (twoS (q % 60)) _ rfl (by rw [app_size, app_size, app_size, app_size, twoS_size, twoS_size, twoS_size]; omega)
  clear z58 hz
  have i1 : ((q / 3600 : Nat) : Int) = (q : Int) / 3600 := by omega
  have i2 : ((q / 60 % 60 : Nat) : Int) = (q : Int) / 60 % 60 := by omega
  have i3 : ((q % 60 : Nat) : Int) = (q : Int) % 60 := by omega
  have C1 := fun W => zt_two (q / 3600) W (by omega)
  have C2 := fun W => zt_two (q / 60 % 60) W (by omega)
  have C3 := fun W => zt_two (q % 60) W (by omega)
  rw [i1] at C1; rw [i2] at C2; rw [i3] at C3
  clear i1 i2 i3
  replace C1 := Lib.hid C1; replace C2 := Lib.hid C2; replace C3 := Lib.hid C3
  have k1 : (q : Int) ≤ 400000 := by omega
  have k0 : (0 : Int) ≤ (q : Int) := by omega
  by_cases hn : n < 0
  · rw [if_pos hn] at hsg
    subst hsg
    have e1 : wrap64 (-n.tdiv 1000) = (q : Int) := by
      have : -n.tdiv 1000 = (q : Int) := by rw [hq, ← Int.neg_tdiv, Int.tdiv_eq_ediv_of_nonneg (by omega)]; omega
      rw [this]; exact IntWalk.wrap64_in _ (by omega)
    have E1 := Lib.hid e1; clear e1 hq
    go_enter Tryd.func46, Tryd.ntmps46
    go_upto_region 5 with (fail)
    simp only [E1.out]
    clear hn h1 h2 hq1
    go_wp2_with fail
    refine (C1.out _).mono ?_
    rintro e w1 ⟨rfl, b1⟩
    have B1 := Lib.hid b1; clear b1
    go_wp2_with fail
    refine (C2.out _).mono ?_
    rintro e w2 ⟨rfl, b2⟩
    have B2 := Lib.hid (below_then B1.out b2); clear b2 B1
    go_wp2_with fail
    refine (C3.out _).mono ?_
    rintro e w3 ⟨rfl, b3⟩
    have B3 := Lib.hid (below_then B2.out b3); clear b3 B2
    go_wp2_with fail
    go_ret
    exact ⟨by rw [HO.out]; rfl, B3.out⟩
  · rw [if_neg hn] at hsg
    subst hsg
    have e1 : n / 1000 = (q : Int) := by omega
    have hn' : 0 ≤ n := by omega
    have E1 := Lib.hid e1; clear e1 hq
    go_enter Tryd.func46, Tryd.ntmps46
    go_upto_region 5 with (fail)
    simp only [E1.out]
    clear hn h1 h2 hq1
    go_wp2_with fail
    refine (C1.out _).mono ?_
    rintro e w1 ⟨rfl, b1⟩
    have B1 := Lib.hid b1; clear b1
    go_wp2_with fail
    refine (C2.out _).mono ?_
    rintro e w2 ⟨rfl, b2⟩
    have B2 := Lib.hid (below_then B1.out b2); clear b2 B1
    go_wp2_with fail
    refine (C3.out _).mono ?_
    rintro e w3 ⟨rfl, b3⟩
    have B3 := Lib.hid (below_then B2.out b3); clear b3 B2
    go_wp2_with fail
    go_ret
    exact ⟨by rw [HO.out]; rfl, B3.out⟩
end Go.Proofs.YthpiiocncdpimabDoor
