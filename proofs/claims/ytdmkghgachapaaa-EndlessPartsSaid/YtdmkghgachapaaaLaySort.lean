/-
  DERIVED: THE SHELF's CONTRACTS AT THIS DUMP, IN PLAIN WORDS (tools/lay-plain.mjs out of 'YtdmkghgachapaaaLayTmp.lean', which tools/lay-shelf.mjs wrote): THE SAME DECLARATIONS UNDER THE SAME NAMES: 'import', 'namespace', 'open', 'def', 'theorem' AND NOTHING ELSE: no command of the shelf's: FOR A HAND-IN. Each laying: the table of numbers ('.._ren') and one theorem, a field a fact of the dump's own or the kernel's comparison; each contract: ONE APPLICATION.
-/
import Derived.Test.YtdmkghgachapaaaProg
import Derived.WalkKit
import Derived.Ground.NamesProg
import Derived.Shelf.Sort.Plain
import Derived.Shelf.Slices.In.SortNone
namespace Go.Proofs
open Go.Shelf
def Try.laysn189_ren : Go.Shelf.Ren := ⟨fun | 189 => 12 | 125 => 17 | 257 => 16 | 128 => 27 | 129 => 28 | 294 => 18 | 295 => 19 | 296 => 20 | 297 => 21 | 298 => 22 | 299 => 23 | 216 => 24 | 300 => 25 | 301 => 26 | 328 => 29 | 329 => 30 | 330 => 31 | 331 => 32 | 332 => 33 | 215 => 34 | 343 => 35 | n => n, fun | 28 => 22 | 3 => 3 | 46 => 37 | 0 => 0 | 51 => 47 | 53 => 49 | 4 => 4 | 183 => 40 | 182 => 39 | 131 => 44 | 5 => 5 | 9 => 9 | 218 => 50 | 222 => 27 | 228 => 55 | 229 => 56 | n => n, fun | n => n⟩
theorem Try.laysn189 : Go.Proofs.Lays.n189 Try.prog Try.laysn189_ren := {
  mixed := by kernel_rfl
  f125 := Try.func17.trans (congrArg some (by kernel_rfl))
  f128 := Try.func27.trans (congrArg some (by kernel_rfl))
  f129 := Try.func28.trans (congrArg some (by kernel_rfl))
  f189 := Try.func12.trans (congrArg some (by kernel_rfl))
  f215 := Try.func34.trans (congrArg some (by kernel_rfl))
  f216 := Try.func24.trans (congrArg some (by kernel_rfl))
  f257 := Try.func16.trans (congrArg some (by kernel_rfl))
  f294 := Try.func18.trans (congrArg some (by kernel_rfl))
  f295 := Try.func19.trans (congrArg some (by kernel_rfl))
  f296 := Try.func20.trans (congrArg some (by kernel_rfl))
  f297 := Try.func21.trans (congrArg some (by kernel_rfl))
  f298 := Try.func22.trans (congrArg some (by kernel_rfl))
  f299 := Try.func23.trans (congrArg some (by kernel_rfl))
  f300 := Try.func25.trans (congrArg some (by kernel_rfl))
  f301 := Try.func26.trans (congrArg some (by kernel_rfl))
  f328 := Try.func29.trans (congrArg some (by kernel_rfl))
  f329 := Try.func30.trans (congrArg some (by kernel_rfl))
  f330 := Try.func31.trans (congrArg some (by kernel_rfl))
  f331 := Try.func32.trans (congrArg some (by kernel_rfl))
  f332 := Try.func33.trans (congrArg some (by kernel_rfl))
  f343 := Try.func35.trans (congrArg some (by kernel_rfl))
  t0 := Try.underlying0
  a0 := Try.isAgg0
  z0 := Try.sizeOf0
  v0 := Try.zeroValue0
  t3 := Try.underlying3
  a3 := Try.isAgg3
  z3 := Try.sizeOf3
  v3 := Try.zeroValue3
  t4 := Try.underlying4
  a4 := Try.isAgg4
  z4 := Try.sizeOf4
  v4 := Try.zeroValue4
  t5 := Try.underlying5
  a5 := Try.isAgg5
  z5 := Try.sizeOf5
  v5 := Try.zeroValue5
  t9 := Try.underlying9
  a9 := Try.isAgg9
  z9 := Try.sizeOf9
  v9 := Try.zeroValue9
  t28 := Try.underlying22
  a28 := Try.isAgg22
  z28 := Try.sizeOf22
  v28 := Try.zeroValue22
  t46 := Try.underlying37
  a46 := Try.isAgg37
  z46 := Try.sizeOf37
  v46 := Try.zeroValue37
  t51 := Try.underlying47
  a51 := Try.isAgg47
  z51 := Try.sizeOf47
  v51 := Try.zeroValue47
  t53 := Try.underlying49
  a53 := Try.isAgg49
  z53 := Try.sizeOf49
  v53 := Try.zeroValue49
  t131 := Try.underlying44
  a131 := Try.isAgg44
  z131 := Try.sizeOf44
  v131 := Try.zeroValue44
  t182 := Try.underlying39
  a182 := Try.isAgg39
  z182 := Try.sizeOf39
  v182 := Try.zeroValue39
  t183 := Try.underlying40
  a183 := Try.isAgg40
  z183 := Try.sizeOf40
  v183 := Try.zeroValue40
  t218 := Try.underlying50
  a218 := Try.isAgg50
  z218 := Try.sizeOf50
  v218 := Try.zeroValue50
  t222 := Try.underlying27
  a222 := Try.isAgg27
  z222 := Try.sizeOf27
  v222 := Try.zeroValue27
  t228 := Try.underlying55
  a228 := Try.isAgg55
  z228 := Try.sizeOf55
  v228 := Try.zeroValue55
  t229 := Try.underlying56
  a229 := Try.isAgg56
  z229 := Try.sizeOf56
  v229 := Try.zeroValue56 }
end Go.Proofs
