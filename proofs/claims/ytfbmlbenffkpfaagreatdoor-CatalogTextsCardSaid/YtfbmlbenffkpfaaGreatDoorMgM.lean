/- Several texts in one: LayBuild, Build. -/
import Derived.Test.YtfbmlbenffkpfaaGreatDoorProg
import Derived.WalkKit
import Derived.Ground.NamesProg
import Derived.Shelf.Strings.BuilderK
import Derived.Test.YtfbmlbenffkpfaaGreatDoorMem2
/-
  DERIVED: THE SHELF's CONTRACTS AT THIS DUMP, IN PLAIN WORDS (tools/lay-plain.mjs out of 'YtfbmlbenffkpfaaGreatDoorLayTmp.lean', which tools/lay-shelf.mjs wrote): THE SAME DECLARATIONS UNDER THE SAME NAMES: 'import', 'namespace', 'open', 'def', 'theorem' AND NOTHING ELSE: no command of the shelf's: FOR A HAND-IN. Each laying: the table of numbers ('.._ren') and one theorem, a field a fact of the dump's own or the kernel's comparison; each contract: ONE APPLICATION.
-/
namespace Go.Proofs
open Go.Shelf
def Tryz.laysn169_ren : Go.Shelf.Ren := ⟨fun | 169 => 75 | n => n, fun | 70 => 114 | 9 => 9 | 0 => 0 | 72 => 117 | 37 => 115 | 127 => 157 | 3 => 3 | 5 => 5 | n => n, fun | n => n⟩
theorem Tryz.laysn169 : Go.Proofs.Lays.n169 Tryz.prog Tryz.laysn169_ren := {
  mixed := by kernel_rfl
  f169 := Tryz.func75.trans (congrArg some (by kernel_rfl))
  t0 := Tryz.underlying0
  a0 := Tryz.isAgg0
  z0 := Tryz.sizeOf0
  v0 := Tryz.zeroValue0
  t3 := Tryz.underlying3
  a3 := Tryz.isAgg3
  z3 := Tryz.sizeOf3
  v3 := Tryz.zeroValue3
  t9 := Tryz.underlying9
  a9 := Tryz.isAgg9
  z9 := Tryz.sizeOf9
  v9 := Tryz.zeroValue9
  t37 := Tryz.underlying115
  a37 := Tryz.isAgg115
  z37 := Tryz.sizeOf115
  v37 := Tryz.zeroValue115
  t70 := Tryz.underlying114
  a70 := Tryz.isAgg114
  z70 := Tryz.sizeOf114
  v70 := Tryz.zeroValue114
  t72 := Tryz.underlying117
  a72 := Tryz.isAgg117
  z72 := Tryz.sizeOf117
  v72 := Tryz.zeroValue117
  t127 := Tryz.underlying157
  a127 := Tryz.isAgg157
  z127 := Tryz.sizeOf157
  v127 := Tryz.zeroValue157 }
end Go.Proofs

/- strings.Builder (WriteString, String) in the words of this seat's contracts. -/
namespace Go.Proofs.YtfbmlbenffkpfaaGreatDoor
set_option linter.unusedVariables false
set_option maxRecDepth 100000
open Go.RowKit Go.Shelf

def laysn166_ren : Go.Shelf.Ren := ⟨fun | 166 => 72 | 240 => 113 | 276 => 153 | n => n, fun | 0 => 0 | 3 => 3 | 4 => 4 | 5 => 5 | 9 => 9 | 20 => 20 | 37 => 115 | 70 => 114 | 72 => 117 | 75 => 119 | 80 => 123 | 164 => 184 | n => n, fun | n => n⟩
theorem laysn166 : Go.Proofs.Lays.n166 Tryz.prog laysn166_ren := {
  mixed := by kernel_rfl
  f166 := Tryz.func72.trans (congrArg some (by kernel_rfl))
  f240 := Tryz.func113.trans (congrArg some (by kernel_rfl))
  f276 := Tryz.func153.trans (congrArg some (by kernel_rfl))
  t0 := Tryz.underlying0
  a0 := Tryz.isAgg0
  z0 := Tryz.sizeOf0
  v0 := Tryz.zeroValue0
  t3 := Tryz.underlying3
  a3 := Tryz.isAgg3
  z3 := Tryz.sizeOf3
  v3 := Tryz.zeroValue3
  t4 := Tryz.underlying4
  a4 := Tryz.isAgg4
  z4 := Tryz.sizeOf4
  v4 := Tryz.zeroValue4
  t9 := Tryz.underlying9
  a9 := Tryz.isAgg9
  z9 := Tryz.sizeOf9
  v9 := Tryz.zeroValue9
  t20 := Tryz.underlying20
  a20 := Tryz.isAgg20
  z20 := Tryz.sizeOf20
  v20 := Tryz.zeroValue20
  t37 := Tryz.underlying115
  a37 := Tryz.isAgg115
  z37 := Tryz.sizeOf115
  v37 := Tryz.zeroValue115
  t70 := Tryz.underlying114
  a70 := Tryz.isAgg114
  z70 := Tryz.sizeOf114
  v70 := Tryz.zeroValue114
  t72 := Tryz.underlying117
  a72 := Tryz.isAgg117
  z72 := Tryz.sizeOf117
  v72 := Tryz.zeroValue117
  t75 := Tryz.underlying119
  a75 := Tryz.isAgg119
  z75 := Tryz.sizeOf119
  v75 := Tryz.zeroValue119
  t164 := Tryz.underlying184
  a164 := Tryz.isAgg184
  z164 := Tryz.sizeOf184
  v164 := Tryz.zeroValue184
}
theorem extra166 : Builder.Extra Tryz.prog laysn166_ren where
  sizeBuilder := by kernel_rfl
  liesBuilder := by kernel_rfl
  t5 := Tryz.underlying5
  a5 := Tryz.isAgg5
  z5 := Tryz.sizeOf5
  v5 := Tryz.zeroValue5
  infoByte := by kernel_rfl
  cellsByte := by kernel_rfl
  sizeByte := by kernel_rfl
  neB5 := by decide
theorem extra169 : Builder.Extra Tryz.prog Tryz.laysn169_ren where
  sizeBuilder := by kernel_rfl
  liesBuilder := by kernel_rfl
  t5 := Tryz.underlying5
  a5 := Tryz.isAgg5
  z5 := Tryz.sizeOf5
  v5 := Tryz.zeroValue5
  infoByte := by kernel_rfl
  cellsByte := by kernel_rfl
  sizeByte := by kernel_rfl
  neB5 := by decide

/-- Block b is a builder of the call's own that holds these bytes. -/
def Built (b : Nat) (l : List UInt8) (w : World) : Prop := Lib.IsBuilderF 117 5 b b (Lib.byteCells l) w
theorem Built.new (w : World) : Built w.heap.size [] (w.alloc (.cells #[.pointer none, .slice none 0 0] 117)) := Lib.IsBuilderF.of (Lib.fresh_isBuilder _ _ w)
theorem Built.below {b : Nat} {l : List UInt8} {W W' : World} (h : Built b l W) (hb : Below W.heap.size W W') : Built b l W' := by
  have key : ∀ p, Lib.BuilderAtF 117 5 b b p (Lib.byteCells l) W → Lib.BuilderAtF 117 5 b b p (Lib.byteCells l) W' := by
    intro p h
    have hlt := h.lt
    obtain ⟨hB, v, hv, hown, hne⟩ := h
    exact ⟨hB, v, (hb.block b hlt).trans hv, hown.kept (row := none) ⟨hb.os, hb.tape, hb.output, hb.size, fun k hk _ => hb.block k hk⟩ (Classical.em _), hne⟩
  exact h.elim (fun x => .inl (key _ x)) (fun x => .inr (key _ x))
theorem Built.lt {b : Nat} {l : List UInt8} {W : World} (h : Built b l W) : b < W.heap.size := h.elim (fun x => x.lt) (fun x => x.lt)
theorem Built.drew {b : Nat} {l : List UInt8} {W : World} (h : Built b l W) : Built b l W.drew := h
theorem lib_WriteString (b : Nat) (l : List UInt8) (s : ByteArray) (w : World) (h : Built b l w) (hlen : l.length + s.size ≤ 140737488355328) :
    Calls Tryz.prog 72 #[.pointer (some ⟨b, 0, none⟩), .string s] w fun e w' => e = .returned (.tuple #[.int .i64 s.size, .nilIface]) ∧ Built b (l ++ s.data.toList) w' ∧ Below b w w' := by
  have hlt := h.lt
  refine (Any.Builder_WriteString_k laysn166 extra166 b b (Lib.byteCells l) s w h (by rw [Lib.byteCells_length]; exact hlen) (by omega)).mono ?_
  rintro e w' ⟨rfl, hat, hb, _⟩
  refine ⟨rfl, ?_, hb⟩
  unfold Built
  rw [Lib.byteCells_append]
  exact .inr hat
theorem lib_WriteStringK (b : Nat) (l : List UInt8) (s : ByteArray) (w : World) (h : Built b l w) (hlen : l.length + s.size ≤ 140737488355328) :
    Calls Tryz.prog 72 #[.pointer (some ⟨b, 0, none⟩), .string s] w fun e w' => e = .returned (.tuple #[.int .i64 s.size, .nilIface]) ∧ (Built b (l ++ s.data.toList) w' ∧ Below b w w') ∧ Lib.OthersKept 5 (some b) w w' := by
  have hlt := h.lt
  refine (Any.Builder_WriteString_k laysn166 extra166 b b (Lib.byteCells l) s w h (by rw [Lib.byteCells_length]; exact hlen) (by omega)).mono ?_
  rintro e w' ⟨rfl, hat, hb, hk⟩
  refine ⟨rfl, ⟨?_, hb⟩, hk⟩
  unfold Built
  rw [Lib.byteCells_append]
  exact .inr hat
theorem At.others {w w' : World} {C b : Nat} {cs : Array Value} {t : TypeId} (h : At w C (.cells cs t)) (k : Lib.OthersKept 5 (some b) w w') (hne : C ≠ b) (ht : t ≠ 5) : At w' C (.cells cs t) :=
  k C _ h (fun e => hne (Option.some.inj e)) fun c fz e => by injection e with _ e2 _; exact ht e2
theorem lib_String (b : Nat) (l : List UInt8) (w : World) (h : Built b l w) (h0 : l ≠ []) :
    Calls Tryz.prog 75 #[.pointer (some ⟨b, 0, none⟩)] w fun e w' => e = .returned (.string ⟨l.toArray⟩) ∧ Below b w w' :=
  (Any.Builder_String_k Tryz.laysn169 extra169 b b l w h h0).mono fun e w' ⟨he, _, hb, _⟩ => ⟨he, hb⟩
end Go.Proofs.YtfbmlbenffkpfaaGreatDoor
