/- Several texts in one: Cat0, Strs, Seq, Seq2, Seq3. -/
import Derived.Test.YtdmkghgachapaabGreatDoorBase
import Derived.Lib.Split
import Derived.Lib.Replace
import Derived.Lib.Join
import Derived.Test.YtdmkghgachapaabGreatDoorMgA
import Derived.Deep.AppendLies
import Derived.RangeFuncNested
import Derived.RangeFuncBound
import Derived.RangeFuncCalls
import Derived.RangeFuncLeaves
import Derived.Shelf.Abstract
import Derived.Shelf.RegionOpen
import Derived.WalkKit
import Derived.OwnWalkIn
import Derived.TacticsInMore
import Derived.LoopNIn
import Derived.LoopIn
import Derived.Lib.IndexBytes
import Derived.Lib.IndexMore
import Derived.Laws.AppendOwn
import Derived.RangeFuncBox
set_option linter.unusedSimpArgs false
namespace Go.Proofs.YtdmkghgachapaabGreatDoor
set_option linter.unusedVariables false
set_option maxRecDepth 100000
def rowsL : List (List UInt8) := [
  [103, 114, 101, 103, 111, 114, 105, 97, 110, 32, 49, 32, 52, 48, 48, 32, 65, 32, 121, 32, 37, 32, 52, 32, 61, 32, 48, 32, 97, 110, 100, 32, 40, 110, 111, 116, 32, 121, 32, 37, 32, 49, 48, 48, 32, 61, 32, 48, 32, 111, 114, 32, 121, 32, 37, 32, 52, 48, 48, 32, 61, 32, 48, 41],
  [106, 117, 108, 105, 97, 110, 32, 45, 49, 32, 52, 32, 65, 32, 121, 32, 37, 32, 52, 32, 61, 32, 48],
  [114, 101, 118, 105, 115, 101, 100, 32, 49, 32, 57, 48, 48, 32, 65, 32, 121, 32, 37, 32, 52, 32, 61, 32, 48, 32, 97, 110, 100, 32, 110, 111, 116, 32, 121, 32, 37, 32, 49, 48, 48, 32, 61, 32, 48, 32, 111, 114, 32, 121, 32, 37, 32, 57, 48, 48, 32, 61, 32, 50, 48, 48, 32, 111, 114, 32, 121, 32, 37, 32, 57, 48, 48, 32, 61, 32, 54, 48, 48],
  [113, 117, 97, 116, 101, 114, 110, 32, 49, 32, 49, 50, 56, 32, 65, 32, 121, 32, 37, 32, 52, 32, 61, 32, 48, 32, 97, 110, 100, 32, 110, 111, 116, 32, 121, 32, 37, 32, 49, 50, 56, 32, 61, 32, 48],
  [99, 111, 112, 116, 105, 99, 32, 49, 48, 51, 54, 48, 53, 32, 52, 32, 66, 32, 121, 32, 37, 32, 52, 32, 61, 32, 51],
  [101, 116, 104, 105, 111, 112, 105, 99, 32, 50, 55, 57, 54, 32, 52, 32, 66, 32, 121, 32, 37, 32, 52, 32, 61, 32, 51],
  [101, 103, 121, 112, 116, 105, 97, 110, 32, 45, 50, 55, 50, 55, 56, 55, 32, 49, 32, 73, 32, 48],
  [97, 114, 109, 101, 110, 105, 97, 110, 32, 50, 48, 49, 52, 52, 51, 32, 49, 32, 73, 32, 48],
  [122, 111, 114, 111, 97, 115, 116, 101, 114, 32, 50, 51, 48, 54, 51, 56, 32, 49, 32, 73, 32, 48],
  [116, 97, 98, 117, 108, 97, 114, 97, 32, 50, 50, 55, 48, 49, 53, 32, 51, 48, 32, 67, 32, 40, 49, 49, 32, 42, 32, 121, 32, 43, 32, 49, 52, 41, 32, 37, 32, 51, 48, 32, 60, 32, 49, 49],
  [116, 97, 98, 117, 108, 97, 114, 98, 32, 50, 50, 55, 48, 49, 52, 32, 51, 48, 32, 67, 32, 40, 49, 49, 32, 42, 32, 121, 32, 43, 32, 49, 52, 41, 32, 37, 32, 51, 48, 32, 60, 32, 49, 49],
  [116, 97, 98, 117, 108, 97, 114, 99, 32, 50, 50, 55, 48, 49, 53, 32, 51, 48, 32, 67, 32, 40, 49, 49, 32, 42, 32, 121, 32, 43, 32, 49, 53, 41, 32, 37, 32, 51, 48, 32, 60, 32, 49, 49],
  [116, 97, 98, 117, 108, 97, 114, 100, 32, 50, 50, 55, 48, 49, 52, 32, 51, 48, 32, 67, 32, 40, 49, 49, 32, 42, 32, 121, 32, 43, 32, 49, 53, 41, 32, 37, 32, 51, 48, 32, 60, 32, 49, 49],
  [116, 97, 98, 117, 108, 97, 114, 101, 32, 50, 50, 55, 48, 49, 53, 32, 51, 48, 32, 67, 32, 40, 49, 49, 32, 42, 32, 121, 32, 43, 32, 57, 41, 32, 37, 32, 51, 48, 32, 60, 32, 49, 49],
  [116, 97, 98, 117, 108, 97, 114, 102, 32, 50, 50, 55, 48, 49, 53, 32, 56, 32, 67, 32, 121, 32, 37, 32, 56, 32, 61, 32, 50, 32, 111, 114, 32, 121, 32, 37, 32, 56, 32, 61, 32, 53, 32, 111, 114, 32, 121, 32, 37, 32, 56, 32, 61, 32, 55],
  [112, 101, 114, 115, 105, 97, 110, 32, 50, 50, 54, 56, 57, 54, 32, 51, 51, 32, 68, 32, 40, 56, 32, 42, 32, 121, 32, 43, 32, 50, 49, 41, 32, 37, 32, 51, 51, 32, 60, 32, 56],
  [112, 101, 114, 115, 105, 97, 110, 108, 111, 110, 103, 32, 50, 50, 54, 56, 57, 54, 32, 50, 56, 50, 48, 32, 68, 32, 40, 40, 121, 32, 45, 32, 52, 55, 52, 41, 32, 37, 32, 50, 56, 50, 48, 32, 43, 32, 53, 49, 50, 41, 32, 42, 32, 54, 56, 50, 32, 37, 32, 50, 56, 49, 54, 32, 60, 32, 54, 56, 50],
  [105, 110, 100, 105, 97, 110, 32, 50, 56, 53, 55, 48, 32, 52, 48, 48, 32, 69, 32, 40, 121, 32, 43, 32, 55, 56, 41, 32, 37, 32, 52, 32, 61, 32, 48, 32, 97, 110, 100, 32, 40, 110, 111, 116, 32, 40, 121, 32, 43, 32, 55, 56, 41, 32, 37, 32, 49, 48, 48, 32, 61, 32, 48, 32, 111, 114, 32, 40, 121, 32, 43, 32, 55, 56, 41, 32, 37, 32, 52, 48, 48, 32, 61, 32, 48, 41],
  [98, 97, 100, 105, 32, 54, 55, 51, 50, 50, 50, 32, 52, 48, 48, 32, 70, 32, 40, 121, 32, 43, 32, 49, 56, 52, 52, 41, 32, 37, 32, 52, 32, 61, 32, 48, 32, 97, 110, 100, 32, 40, 110, 111, 116, 32, 40, 121, 32, 43, 32, 49, 56, 52, 52, 41, 32, 37, 32, 49, 48, 48, 32, 61, 32, 48, 32, 111, 114, 32, 40, 121, 32, 43, 32, 49, 56, 52, 52, 41, 32, 37, 32, 52, 48, 48, 32, 61, 32, 48, 41],
  [114, 101, 112, 117, 98, 108, 105, 99, 32, 54, 53, 52, 52, 49, 53, 32, 52, 48, 48, 32, 66, 32, 121, 32, 37, 32, 52, 32, 61, 32, 48, 32, 97, 110, 100, 32, 40, 110, 111, 116, 32, 121, 32, 37, 32, 49, 48, 48, 32, 61, 32, 48, 32, 111, 114, 32, 121, 32, 37, 32, 52, 48, 48, 32, 61, 32, 48, 41],
  [114, 101, 112, 117, 98, 108, 105, 99, 111, 108, 100, 32, 54, 53, 52, 52, 49, 53, 32, 52, 32, 66, 32, 121, 32, 37, 32, 52, 32, 61, 32, 51],
  [104, 97, 97, 98, 32, 45, 49, 49, 51, 55, 52, 57, 48, 32, 49, 32, 74, 32, 48],
  [116, 117, 110, 32, 45, 49, 49, 51, 55, 49, 52, 50, 32, 49, 32, 75, 32, 48],
  [116, 122, 111, 108, 107, 105, 110, 32, 45, 49, 49, 51, 55, 51, 48, 49, 32, 49, 32, 76, 32, 48],
  [119, 101, 101, 107, 121, 101, 97, 114, 32, 49, 32, 50, 57, 51, 32, 71, 32, 40, 53, 50, 32, 42, 32, 121, 32, 43, 32, 49, 54, 54, 41, 32, 37, 32, 50, 57, 51, 32, 60, 32, 53, 50],
  [102, 105, 120, 101, 100, 121, 101, 97, 114, 32, 49, 32, 52, 48, 48, 32, 72, 32, 121, 32, 37, 32, 52, 32, 61, 32, 48, 32, 97, 110, 100, 32, 40, 110, 111, 116, 32, 121, 32, 37, 32, 49, 48, 48, 32, 61, 32, 48, 32, 111, 114, 32, 121, 32, 37, 32, 52, 48, 48, 32, 61, 32, 48, 41],
  [112, 111, 115, 105, 116, 105, 118, 101, 32, 54, 53, 51, 48, 53, 53, 32, 52, 48, 48, 32, 72, 32, 40, 121, 32, 43, 32, 49, 55, 56, 56, 41, 32, 37, 32, 52, 32, 61, 32, 48, 32, 97, 110, 100, 32, 40, 110, 111, 116, 32, 40, 121, 32, 43, 32, 49, 55, 56, 56, 41, 32, 37, 32, 49, 48, 48, 32, 61, 32, 48, 32, 111, 114, 32, 40, 121, 32, 43, 32, 49, 55, 56, 56, 41, 32, 37, 32, 52, 48, 48, 32, 61, 32, 48, 41],
  [115, 101, 97, 115, 111, 110, 115, 32, 49, 32, 52, 48, 48, 32, 78, 32, 121, 32, 37, 32, 52, 32, 61, 32, 48, 32, 97, 110, 100, 32, 40, 110, 111, 116, 32, 121, 32, 37, 32, 49, 48, 48, 32, 61, 32, 48, 32, 111, 114, 32, 121, 32, 37, 32, 52, 48, 48, 32, 61, 32, 48, 41],
  [109, 97, 114, 99, 104, 111, 108, 100, 32, 53, 56, 32, 52, 32, 79, 32, 121, 32, 37, 32, 52, 32, 61, 32, 51],
  [109, 97, 114, 99, 104, 110, 101, 119, 32, 54, 48, 32, 52, 48, 48, 32, 79, 32, 40, 121, 32, 43, 32, 49, 41, 32, 37, 32, 52, 32, 61, 32, 48, 32, 97, 110, 100, 32, 40, 110, 111, 116, 32, 40, 121, 32, 43, 32, 49, 41, 32, 37, 32, 49, 48, 48, 32, 61, 32, 48, 32, 111, 114, 32, 40, 121, 32, 43, 32, 49, 41, 32, 37, 32, 52, 48, 48, 32, 61, 32, 48, 41],
  [98, 121, 122, 97, 110, 116, 105, 110, 101, 32, 45, 50, 48, 49, 49, 57, 50, 48, 32, 52, 32, 82, 32, 121, 32, 37, 32, 52, 32, 61, 32, 48],
  [115, 121, 114, 105, 97, 110, 32, 45, 49, 49, 51, 54, 56, 54, 32, 52, 32, 83, 32, 121, 32, 37, 32, 52, 32, 61, 32, 51],
  [111, 108, 121, 109, 112, 105, 99, 32, 45, 50, 56, 51, 48, 48, 48, 32, 56, 32, 80, 32, 121, 32, 37, 32, 56, 32, 61, 32, 51, 32, 111, 114, 32, 121, 32, 37, 32, 56, 32, 61, 32, 53, 32, 111, 114, 32, 121, 32, 37, 32, 56, 32, 61, 32, 48],
  [109, 101, 116, 111, 110, 105, 99, 32, 45, 49, 51, 55, 51, 52, 50, 57, 32, 49, 57, 32, 80, 32, 40, 55, 32, 42, 32, 121, 32, 43, 32, 49, 41, 32, 37, 32, 49, 57, 32, 60, 32, 55],
  [109, 101, 116, 111, 110, 105, 99, 98, 32, 45, 50, 55, 50, 48, 48, 48, 32, 49, 57, 32, 80, 32, 40, 55, 32, 42, 32, 121, 32, 43, 32, 53, 41, 32, 37, 32, 49, 57, 32, 60, 32, 55],
  [108, 101, 97, 112, 104, 101, 97, 100, 32, 49, 32, 52, 32, 81, 32, 121, 32, 37, 32, 52, 32, 61, 32, 48],
  [100, 101, 99, 105, 109, 97, 108, 32, 49, 32, 52, 48, 48, 32, 84, 32, 121, 32, 37, 32, 52, 32, 61, 32, 48, 32, 97, 110, 100, 32, 40, 110, 111, 116, 32, 121, 32, 37, 32, 49, 48, 48, 32, 61, 32, 48, 32, 111, 114, 32, 121, 32, 37, 32, 52, 48, 48, 32, 61, 32, 48, 41],
  [119, 105, 110, 116, 101, 114, 32, 45, 50, 55, 50, 48, 48, 48, 32, 52, 32, 77, 32, 121, 32, 37, 32, 52, 32, 61, 32, 48],
  [97, 108, 119, 97, 121, 115, 32, 49, 32, 49, 32, 65, 32, 49],
  [110, 101, 118, 101, 114, 32, 49, 32, 49, 32, 65, 32, 48]]
def tableL : List UInt8 := [10].intercalate rowsL
def evL (len i : Nat) : List UInt8 := [109, UInt8.ofNat (97 + i), 32, UInt8.ofNat (48 + len / 10), UInt8.ofNat (48 + len % 10)]
def evenL (n len : Nat) : List UInt8 := Lib.join ((List.range n).map (evL len)) [44, 32]
def monthsL (d : List UInt8) : List UInt8 :=
  if d = [65] then [106, 97, 110, 32, 51, 49, 44, 32, 102, 101, 98, 32, 50, 56, 47, 50, 57, 44, 32, 109, 97, 114, 32, 51, 49, 44, 32, 97, 112, 114, 32, 51, 48, 44, 32, 109, 97, 121, 32, 51, 49, 44, 32, 106, 117, 110, 32, 51, 48, 44, 32, 106, 117, 108, 32, 51, 49, 44, 32, 97, 117, 103, 32, 51, 49, 44, 32, 115, 101, 112, 32, 51, 48, 44, 32, 111, 99, 116, 32, 51, 49, 44, 32, 110, 111, 118, 32, 51, 48, 44, 32, 100, 101, 99, 32, 51, 49] else
  if d = [66] then evenL 12 30 ++ [44, 32, 101, 110, 100, 32, 53, 47, 54] else
  if d = [67] then [109, 97, 32, 51, 48, 44, 32, 109, 98, 32, 50, 57, 44, 32, 109, 99, 32, 51, 48, 44, 32, 109, 100, 32, 50, 57, 44, 32, 109, 101, 32, 51, 48, 44, 32, 109, 102, 32, 50, 57, 44, 32, 109, 103, 32, 51, 48, 44, 32, 109, 104, 32, 50, 57, 44, 32, 109, 105, 32, 51, 48, 44, 32, 109, 106, 32, 50, 57, 44, 32, 109, 107, 32, 51, 48, 44, 32, 109, 108, 32, 50, 57, 47, 51, 48] else
  if d = [68] then [109, 97, 32, 51, 49, 44, 32, 109, 98, 32, 51, 49, 44, 32, 109, 99, 32, 51, 49, 44, 32, 109, 100, 32, 51, 49, 44, 32, 109, 101, 32, 51, 49, 44, 32, 109, 102, 32, 51, 49, 44, 32, 109, 103, 32, 51, 48, 44, 32, 109, 104, 32, 51, 48, 44, 32, 109, 105, 32, 51, 48, 44, 32, 109, 106, 32, 51, 48, 44, 32, 109, 107, 32, 51, 48, 44, 32, 109, 108, 32, 50, 57, 47, 51, 48] else
  if d = [69] then [109, 97, 32, 51, 48, 47, 51, 49, 44, 32, 109, 98, 32, 51, 49, 44, 32, 109, 99, 32, 51, 49, 44, 32, 109, 100, 32, 51, 49, 44, 32, 109, 101, 32, 51, 49, 44, 32, 109, 102, 32, 51, 49, 44, 32, 109, 103, 32, 51, 48, 44, 32, 109, 104, 32, 51, 48, 44, 32, 109, 105, 32, 51, 48, 44, 32, 109, 106, 32, 51, 48, 44, 32, 109, 107, 32, 51, 48, 44, 32, 109, 108, 32, 51, 48] else
  if d = [70] then evenL 18 19 ++ [44, 32, 103, 97, 112, 32, 52, 47, 53, 44, 32, 109, 115, 32, 49, 57] else
  if d = [71] then [109, 97, 32, 51, 48, 44, 32, 109, 98, 32, 51, 48, 44, 32, 109, 99, 32, 51, 49, 44, 32, 109, 100, 32, 51, 48, 44, 32, 109, 101, 32, 51, 48, 44, 32, 109, 102, 32, 51, 49, 44, 32, 109, 103, 32, 51, 48, 44, 32, 109, 104, 32, 51, 48, 44, 32, 109, 105, 32, 51, 49, 44, 32, 109, 106, 32, 51, 48, 44, 32, 109, 107, 32, 51, 48, 44, 32, 109, 108, 32, 51, 49, 44, 32, 119, 101, 101, 107, 32, 48, 47, 55] else
  if d = [72] then evenL 13 28 ++ [44, 32, 114, 101, 115, 116, 32, 49, 47, 50] else
  if d = [73] then evenL 12 30 ++ [44, 32, 101, 110, 100, 32, 53] else
  if d = [74] then evenL 18 20 ++ [44, 32, 101, 110, 100, 32, 53] else
  if d = [75] then evenL 18 20 else
  if d = [76] then evenL 13 20 else
  if d = [77] then [109, 97, 32, 51, 49, 44, 32, 109, 98, 32, 51, 48, 44, 32, 109, 99, 32, 51, 48, 44, 32, 109, 100, 32, 51, 49, 44, 32, 109, 101, 32, 51, 48, 44, 32, 109, 102, 32, 51, 48, 44, 32, 109, 103, 32, 51, 49, 44, 32, 109, 104, 32, 51, 48, 44, 32, 109, 105, 32, 51, 48, 44, 32, 109, 106, 32, 51, 49, 44, 32, 119, 105, 110, 116, 101, 114, 32, 54, 49, 47, 54, 50] else
  if d = [78] then [115, 112, 114, 105, 110, 103, 32, 57, 49, 44, 32, 115, 117, 109, 109, 101, 114, 32, 57, 49, 44, 32, 97, 117, 116, 117, 109, 110, 32, 57, 49, 44, 32, 119, 105, 110, 116, 101, 114, 32, 57, 49, 44, 32, 114, 101, 115, 116, 32, 49, 47, 50] else
  if d = [79] then [109, 97, 114, 32, 51, 49, 44, 32, 97, 112, 114, 32, 51, 48, 44, 32, 109, 97, 121, 32, 51, 49, 44, 32, 106, 117, 110, 32, 51, 48, 44, 32, 106, 117, 108, 32, 51, 49, 44, 32, 97, 117, 103, 32, 51, 49, 44, 32, 115, 101, 112, 32, 51, 48, 44, 32, 111, 99, 116, 32, 51, 49, 44, 32, 110, 111, 118, 32, 51, 48, 44, 32, 100, 101, 99, 32, 51, 49, 44, 32, 106, 97, 110, 32, 51, 49, 44, 32, 102, 101, 98, 32, 50, 56, 47, 50, 57] else
  if d = [80] then [109, 97, 32, 51, 48, 44, 32, 109, 98, 32, 50, 57, 44, 32, 109, 99, 32, 51, 48, 44, 32, 109, 100, 32, 50, 57, 44, 32, 109, 101, 32, 51, 48, 44, 32, 109, 102, 32, 50, 57, 44, 32, 109, 103, 32, 51, 48, 44, 32, 109, 104, 32, 50, 57, 44, 32, 109, 105, 32, 51, 48, 44, 32, 109, 106, 32, 50, 57, 44, 32, 109, 107, 32, 51, 48, 44, 32, 109, 108, 32, 50, 57, 44, 32, 101, 120, 116, 114, 97, 32, 48, 47, 51, 48] else
  if d = [81] then [109, 97, 32, 50, 57, 47, 51, 48, 44, 32, 109, 98, 32, 51, 49, 44, 32, 109, 99, 32, 51, 49, 44, 32, 109, 100, 32, 51, 49, 44, 32, 109, 101, 32, 51, 49, 44, 32, 109, 102, 32, 51, 49, 44, 32, 109, 103, 32, 51, 49, 44, 32, 109, 104, 32, 51, 48, 44, 32, 109, 105, 32, 51, 48, 44, 32, 109, 106, 32, 51, 48, 44, 32, 109, 107, 32, 51, 48, 44, 32, 109, 108, 32, 51, 48] else
  if d = [82] then [115, 101, 112, 32, 51, 48, 44, 32, 111, 99, 116, 32, 51, 49, 44, 32, 110, 111, 118, 32, 51, 48, 44, 32, 100, 101, 99, 32, 51, 49, 44, 32, 106, 97, 110, 32, 51, 49, 44, 32, 102, 101, 98, 32, 50, 56, 47, 50, 57, 44, 32, 109, 97, 114, 32, 51, 49, 44, 32, 97, 112, 114, 32, 51, 48, 44, 32, 109, 97, 121, 32, 51, 49, 44, 32, 106, 117, 110, 32, 51, 48, 44, 32, 106, 117, 108, 32, 51, 49, 44, 32, 97, 117, 103, 32, 51, 49] else
  if d = [83] then [111, 99, 116, 32, 51, 49, 44, 32, 110, 111, 118, 32, 51, 48, 44, 32, 100, 101, 99, 32, 51, 49, 44, 32, 106, 97, 110, 32, 51, 49, 44, 32, 102, 101, 98, 32, 50, 56, 47, 50, 57, 44, 32, 109, 97, 114, 32, 51, 49, 44, 32, 97, 112, 114, 32, 51, 48, 44, 32, 109, 97, 121, 32, 51, 49, 44, 32, 106, 117, 110, 32, 51, 48, 44, 32, 106, 117, 108, 32, 51, 49, 44, 32, 97, 117, 103, 32, 51, 49, 44, 32, 115, 101, 112, 32, 51, 48] else
  evenL 10 36 ++ [44, 32, 114, 101, 115, 116, 32, 53, 47, 54]
def pieceL (m : List UInt8) : List UInt8 := [109, 111, 110, 116, 104, 32] ++ (Lib.replace m [47] [32] 1 ++ [10])
def headT (a b c e : List UInt8) : List UInt8 := [99, 97, 108, 101, 110, 100, 97, 114, 32] ++ (a ++ ([10, 101, 112, 111, 99, 104, 32] ++ (b ++ ([10, 99, 121, 99, 108, 101, 32] ++ (c ++ ([10, 108, 101, 97, 112, 32] ++ (e ++ [10])))))))
def fieldL (row : List UInt8) (i : Nat) : List UInt8 := (Lib.splitN row [32] 5)[i]?.getD []
def textL (row : List UInt8) : List UInt8 := headT (fieldL row 0) (fieldL row 1) (fieldL row 2) (fieldL row 4) ++ ((Lib.split (monthsL (fieldL row 3)) [44, 32]).flatMap pieceL)
end Go.Proofs.YtdmkghgachapaabGreatDoor

set_option linter.unusedSimpArgs false
namespace Go.Proofs.YtdmkghgachapaabGreatDoor
set_option linter.unusedVariables false
set_option maxRecDepth 100000
open Go.RowKit
theorem infoStr : (Tryz.prog.info? 9).map (fun i => (i.zero, i.size, i.bytes)) = some (some (.string ⟨#[]⟩), 1, 16) := by kernel_rfl
theorem own_thenS {w w' : World} {base : Nat} {e : TypeId} {size : Nat} {v : Value} {n : Nat} {xs : List Value} (h : w.ownsRow base e size v n xs) (hb : Below w.heap.size w w') : w'.ownsRow base e size v n xs := by
  refine ⟨h.1, ?_⟩
  rcases h.2 with h0 | ⟨g, cap, cur, hv, hg, hat, rest⟩
  · exact .inl h0
  · exact .inr ⟨g, cap, cur, hv, hg, (show At w g _ from hat).then_ hb, rest⟩
theorem own_farS {w : World} {base : Nat} {e : TypeId} {size : Nat} {v : Value} {n : Nat} {xs : List Value} (h : w.ownsRow base e size v n xs) {b : Nat} (hb : v.ownBlock = some b) : base ≤ b := by
  rcases h.2 with ⟨rfl, _⟩ | ⟨g, cap, cur, rfl, hg, _⟩
  · cases hb
  · cases hb; exact hg
def strV (l : List UInt8) : Value := .string ⟨l.toArray⟩
theorem own_strs {w : World} {base : Nat} {v : Value} {n : Nat} {ls : List (List UInt8)} (h : w.ownsRow base 9 1 v n (ls.map strV)) (hn : ls.length = n) (h0 : 0 < n) :
    ∃ g c, v = .slice (some ⟨g, 0, none⟩) n c ∧ n ≤ c ∧ g < w.heap.size ∧ ∀ (j : Nat) (l : List UInt8), ls[j]? = some l → w.cell? ⟨g, 0 + j, none⟩ = some (.string ⟨l.toArray⟩) := by
  rcases h.2 with ⟨rfl, hz⟩ | ⟨g, cap, cur, rfl, _, hcur, hnc, hcm, hcs, htake⟩
  · exact absurd hz (by omega)
  · have hat : At w g (.cells cur 9) := hcur
    have ht : cur.toList.take n = ls.map strV := by simpa using htake
    refine ⟨g, cap, rfl, hnc, hat.lt, fun j l hj => ?_⟩
    have hjn : j < n := by have := (List.getElem?_eq_some_iff.1 hj).1; omega
    have h1 : (cur.toList.take n)[j]? = some (.string ⟨l.toArray⟩) := by rw [ht, List.getElem?_map, hj]; rfl
    rw [List.getElem?_take, if_pos hjn, Array.getElem?_toList] at h1
    rw [hat.cell (0 + j), Nat.zero_add, h1]
end Go.Proofs.YtdmkghgachapaabGreatDoor

set_option linter.unusedSimpArgs false
namespace Go.Proofs.YtdmkghgachapaabGreatDoor
set_option linter.unusedVariables false
set_option maxRecDepth 100000
open Go.RowKit Go.Shelf
def Minds {β : Type} (b : Nat) (J : β → World → Prop) : Prop := ∀ s A B, J s A → A.grownBy B (some b) → J s B
def HoldsK (K : Nat → Prop) (A B : World) : Prop := ∀ k, K k → B.heap[k]? = A.heap[k]?
theorem HoldsK.refl (K : Nat → Prop) (A : World) : HoldsK K A A := fun _ _ => rfl
theorem HoldsK.trans {K : Nat → Prop} {A B C : World} (h : HoldsK K A B) (k : HoldsK K B C) : HoldsK K A C := fun i h1 => (k i h1).trans (h i h1)
theorem HoldsK.of_below {K : Nat → Prop} {n : Nat} {A B : World} (h : Below n A B) (hn : ∀ k, K k → k < n) : HoldsK K A B := fun i h1 => h.block i (hn i h1)
theorem HoldsK.putObj {K : Nat → Prop} {l : Nat} (A : World) (o : Obj) (h : ∀ k, K k → k < l) : HoldsK K A (A.putObj l o) := fun i h1 => World.putObj_heap_other (by have := h i h1; omega)
def SeqBox {α : Type} (n : Nat) (P : Program) (g : Nat) (lb : Array Value) (encs : α → Array Value) (b : Nat) (K : Nat → Prop) (xs : List α) (w : World) : Prop :=
  ∀ (l : Nat) (J Jx : List α → World → Prop) (W : World), w.heap.size ≤ W.heap.size → HoldsK K w W → Minds b J →
    (∀ pre x W1, J pre W1 → (∃ r, xs = pre ++ x :: r) → YieldAt Fence.wide (n - 1) P l (encs x) W1 fun e W' =>
      (e = .returned (.bool true) ∧ J (pre ++ [x]) W' ∧ HoldsK K W1 W') ∨ (e = .returned (.bool false) ∧ Jx (pre ++ [x]) W')) →
    J [] W →
    CallsIn Fence.wide n P g (#[.func (.yield l) #[] #[]] ++ lb) W fun e W' => (∃ v, e = .returned v) ∧ (J xs W' ∨ (∃ pre, (∃ r, xs = pre ++ r) ∧ Jx pre W'))
def roundQ {α : Type} (B : Nat) (K : Nat → Prop) (I : List α → World → Prop) (Ix : Code → List α → World → Prop) (ys : List α) (W : World) : Exit → Act → World → Prop
  | .normal, _, W' => KeepsFrom B W W' ∧ HoldsK K W W' ∧ I ys W'
  | .ret, _, W' => KeepsFrom B W W' ∧ Ix .ret ys W'
  | .exit id, _, W' => KeepsFrom B W W' ∧ Ix (.exit id) ys W'
  | .goto t, _, W' => KeepsFrom B W W' ∧ Ix (.goto t) ys W'
  | .panic _, _, _ => False
  | .outgrown, _, _ => False
variable {P : Program} {n : Nat}
theorem range_box {α : Type} {g : Operand} {ps : Array Tmp} {assign body : Code} {Q : Exit → Act → World → Prop} {a : Act} {w : World} {gf : Nat} {lb : Array Value}
    (hg : a.eval g = .func (.func gf) #[] lb) (eg : ∀ args w, (callFunc gf args).run P w = .ok (.enter gf args) w)
    {encs : α → Array Value} {b : Nat} {K : Nat → Prop} {xs : List α} (hbw : b < w.heap.size) (hK : ∀ k, K k → k < w.heap.size) (hseq : SeqBox (n - 1) P gf lb encs b K xs w) (hps : ∀ x, (encs x).size = ps.size)
    (I : List α → World → Prop) (Ix : Code → List α → World → Prop) (hI : OwnFrom w.heap.size I) (hIx : ∀ c, OwnFrom w.heap.size (Ix c)) (hIb : Minds b I) (h0 : I [] w) (a₁ : α → Act)
    (hassign : ∀ (l : Nat) (x : α) (W : World) (G : Act → World → Prop), G (a₁ x) W →
      assign.wpIn (Fence.wide.inRound l) (n - 1 - 1) P (Exit.then G (fun _ _ _ => False)) { tmps := (ps.zip (encs x)).foldl (fun t (p, v) => t.setIfInBounds p v) a.tmps, defers := [] } W)
    (hbody : ∀ (l : Nat) (pre : List α) (x : α) (W : World), I pre W → (∃ r, xs = pre ++ x :: r) → body.wpIn (Fence.wide.inRound l) (n - 1 - 1) P (roundQ w.heap.size K I Ix (pre ++ [x]) W) (a₁ x) W)
    (hdone : ∀ (D : Nat) (W : World), w.heap.size ≤ D → I xs W → W.heap[D]? = some (.deferred (some [])) → Q .normal { a with defers := { target := .collected D, args := #[] } :: a.defers } W)
    (hstop : ∀ (D : Nat) (c : Code) (pre : List α) (W : World), w.heap.size ≤ D → (∃ r, xs = pre ++ r) → Ix c pre W → W.heap[D]? = some (.deferred (some [])) → c.wpIn Fence.wide n P Q { a with defers := { target := .collected D, args := #[] } :: a.defers } W) :
    (Code.rangeFunc g ps assign body).wpIn Fence.wide n P Q a w := by
  obtain ⟨D, hD⟩ : ∃ D, D = w.heap.size := ⟨_, rfl⟩
  refine wpIn_rangeFunc fun fn hfn => ?_
  have hround : Fence.wide.round = none := rfl
  rw [hround]
  obtain ⟨rec, hrec⟩ : ∃ rec : LoopState → Option Code → Loop, rec = fun st pe => { state := st, pending := pe, fn, tmps := a.tmps, params := ps, assign, body, defers := D } := ⟨_, rfl⟩
  obtain ⟨W1, hW1⟩ : ∃ W1, (w.alloc (.deferred (some []))).alloc (.loop (rec .ready none)) = W1 := ⟨_, rfl⟩
  have rdy : W1.heap[D + 1]? = some (.loop (rec .ready none)) := by
    have := World.alloc_heap_new (w.alloc (.deferred (some []))) (.loop (rec .ready none))
    rw [World.size_alloc, ← hD] at this
    rw [← hW1]; exact this
  have opn : W1.heap[D]? = some (.deferred (some [])) := by
    rw [← hW1, hD]; exact (Below.heap_alloc _ _ _ (by simp)).trans (World.alloc_heap_new w _)
  have bel : Below w.heap.size w W1 := by rw [← hW1]; exact ((Below.refl _ w).alloc (Nat.le_refl _) _).alloc (by simp) _
  -- a step of the iterator's leaves both blocks of the loop as they lay
  have far : ∀ {A B : World} {k : Nat} {o : Obj}, D ≤ k → A.heap[k]? = some o → A.grownBy B (some b) → B.heap[k]? = some o := fun {A B k o} hk ho hgr =>
    (hgr.block k (Array.getElem?_eq_some_iff.1 ho).1 (by simp; omega)).trans ho
  refine ⟨D + 1, [{ target := .collected D, args := #[] }], W1, { target := .fn (.func gf) lb, args := #[.func (.yield (D + 1)) #[] #[]] }, W1, gf, #[.func (.yield (D + 1)) #[] #[]] ++ lb, W1, ?_, ?_, fun _ _ => trivial, ?_, fun h => by simp [Fence.wide] at h, ?_⟩
  · rw [← hW1, hrec, hD]; exact run_enterLoop_outer _ _ _ _ _
  · simp only [resolve, hg]; simp [go_sem]
  · simp [invoke, go_sem, eg]
  refine (hseq (D + 1) (fun pre W => I pre W ∧ W.heap[D + 1]? = some (.loop (rec .ready none)) ∧ W.heap[D]? = some (.deferred (some [])))
    (fun pre W => ∃ c, Ix c pre W ∧ W.heap[D + 1]? = some (.loop (rec .done (some c))) ∧ W.heap[D]? = some (.deferred (some []))) W1 bel.size (HoldsK.of_below bel hK)
    (fun s A B hs hgr => ⟨hIb s A B hs.1 hgr, far (by omega) hs.2.1 hgr, far (by omega) hs.2.2 hgr⟩) ?_ ⟨?_, rdy, opn⟩).mono ?_
  · rintro pre x W ⟨hi, hl, hk⟩ hlt
    have hsz : D + 1 < W.heap.size := (Array.getElem?_eq_some_iff.1 hl).1
    have hy := run_yield (P := P) (args := encs x) hl (by rw [hrec]; exact hps x)
    rw [hrec] at hy
    refine ⟨fn, _, assign, body, hy, roundIn_of_wpIn hfn (hassign _ x W _ ⟨_, run_beginRound hl (by rw [hrec]), ?_⟩)⟩
    obtain ⟨V, hV⟩ : ∃ V, V = W.putObj (D + 1) (.loop { rec .ready none with state := .busy }) := ⟨_, rfl⟩
    rw [← hV]
    have hl2 : V.heap[D + 1]? = some (.loop { rec .ready none with state := .busy }) := by rw [hV]; exact World.putObj_heap_same hsz
    have hk2 : V.heap[D]? = some (.deferred (some [])) := by rw [hV]; exact (World.putObj_heap_other (by omega)).trans hk
    have hiV : I pre V := by rw [hV]; exact hI.putObj _ hi (by omega) hl rfl
    have hhV : HoldsK K W V := by rw [hV]; exact HoldsK.putObj _ _ (fun k hk => by have := hK k hk; omega)
    clear hV
    refine wpIn_mono (hbody _ pre x V hiV hlt) ?_
    have fin : ∀ (jump : Option Code) (W3 : World), KeepsFrom w.heap.size V W3 →
        (Instr.endRound (D + 1) jump).run P W3 = .ok (.bool jump.isNone) (W3.putObj (D + 1) (.loop (rec (if jump.isNone then .ready else .done) jump))) ∧
        W3.heap[D + 1]? = some (.loop { rec .ready none with state := .busy }) ∧
        (W3.putObj (D + 1) (.loop (rec (if jump.isNone then .ready else .done) jump))).heap[D + 1]? = some (.loop (rec (if jump.isNone then .ready else .done) jump)) ∧
        (W3.putObj (D + 1) (.loop (rec (if jump.isNone then .ready else .done) jump))).heap[D]? = some (.deferred (some [])) := fun jump W3 hk3 => by
      have hl3 := hk3.same _ _ (by omega) hl2 rfl
      have he := run_endRound (P := P) jump hl3
      rw [hrec] at he ⊢
      exact ⟨he, by rw [hrec] at hl3; exact hl3, World.putObj_heap_same (Array.getElem?_eq_some_iff.1 hl3).1, (World.putObj_heap_other (by omega)).trans (hk3.same _ _ (by omega) hk2 rfl)⟩
    have left : ∀ (c : Code) (W3 : World), KeepsFrom w.heap.size V W3 → Ix c (pre ++ [x]) W3 → ∃ v w', (Instr.endRound (D + 1) (some c)).run P W3 = .ok v w' ∧
        ((Ending.returned v = .returned (.bool true) ∧ (I (pre ++ [x]) w' ∧ w'.heap[D + 1]? = some (.loop (rec .ready none)) ∧ w'.heap[D]? = some (.deferred (some []))) ∧ HoldsK K W w') ∨
         (Ending.returned v = .returned (.bool false) ∧ ∃ c, Ix c (pre ++ [x]) w' ∧ w'.heap[D + 1]? = some (.loop (rec .done (some c))) ∧ w'.heap[D]? = some (.deferred (some [])))) := fun c W3 hk3 hi3 => by
      obtain ⟨hr, hl3, hl4, hk4⟩ := fin (some c) W3 hk3
      exact ⟨_, _, hr, .inr ⟨rfl, c, (hIx _).putObj _ hi3 (by omega) hl3 rfl, hl4, hk4⟩⟩
    rintro e a3 W3 hp
    cases e with
    | normal =>
      obtain ⟨hk3, hh3, hi3⟩ := hp
      obtain ⟨hr, hl3, hl4, hk4⟩ := fin none W3 hk3
      exact ⟨_, _, hr, .inl ⟨rfl, ⟨hI.putObj _ hi3 (by omega) hl3 rfl, hl4, hk4⟩, (hhV.trans hh3).trans (HoldsK.putObj _ _ (fun k hk => by have := hK k hk; omega))⟩⟩
    | ret => exact left _ _ hp.1 hp.2
    | exit id => exact left _ _ hp.1 hp.2
    | goto t => exact left _ _ hp.1 hp.2
    | panic ch => exact hp.elim
    | outgrown => exact hp.elim
  · rw [← hW1]; exact hI.alloc _ (hI.alloc _ h0)
  · rintro e W2 ⟨⟨v, rfl⟩, (⟨hi, hl, hk⟩ | ⟨pre, hpre, c, hi, hl, hk⟩)⟩
    · have he := run_endLoop (P := P) hl (by rw [hrec]; simp)
      rw [hrec] at he
      exact ⟨none, _, he, hdone D _ (by omega) (hI.putObj _ hi (by omega) hl rfl) ((World.putObj_heap_other (by omega)).trans hk)⟩
    · have he := run_endLoop (P := P) hl (by rw [hrec]; simp)
      rw [hrec] at he
      exact ⟨some c, _, he, hstop D c pre _ (by omega) hpre ((hIx c).putObj _ hi (by omega) hl rfl) ((World.putObj_heap_other (by omega)).trans hk)⟩
end Go.Proofs.YtdmkghgachapaabGreatDoor

set_option linter.unusedSimpArgs false
namespace Go.Proofs.YtdmkghgachapaabGreatDoor
set_option linter.unusedVariables false
set_option maxRecDepth 100000
open Go.RowKit Go.Shelf
attribute [local go_sem] Oper.semAt_some
def pcs (sep t : ByteArray) : List ByteArray := Lib.splitB sep 0 (Lib.count t.data.toList sep.data.toList) t
theorem pcs_miss {sep t : ByteArray} (h : Lib.index t.data.toList sep.data.toList = -1) : pcs sep t = [t] := Lib.splitB_miss _ _ _ _ h
theorem pcs_hit {sep t : ByteArray} {i : Nat} (hs : 1 ≤ sep.size) (h : Lib.index t.data.toList sep.data.toList = i) : pcs sep t = t.extract 0 i :: pcs sep (t.extract (i + sep.size) t.size) := by
  have hne : sep.data.toList ≠ [] := by
    intro e
    have : sep.size = 0 := by show sep.data.size = 0; rw [← Array.length_toList, e]; rfl
    omega
  unfold pcs
  rw [Lib.count_hit hne h, Nat.add_comm 1, Lib.splitB_hit _ _ _ _ i h, Nat.add_zero, Lib.extract_to_end]
  rw [show sep.data.toList.length = sep.size from by show sep.data.toList.length = sep.data.size; simp]
theorem pcs_data (sep t : ByteArray) : (pcs sep t).map (fun x => x.data.toList) = Lib.split t.data.toList sep.data.toList := Lib.splitB_data _ _ _ _
theorem index_le {t sep : ByteArray} {i : Nat} (h : Lib.index t.data.toList sep.data.toList = i) : i + sep.size ≤ t.size := by
  have := Lib.index_room t.data.toList sep.data.toList (by omega)
  rw [h] at this
  have e1 : sep.data.toList.length = sep.size := by show sep.data.toList.length = sep.data.size; simp
  have e2 : t.data.toList.length = t.size := by show t.data.toList.length = t.data.size; simp
  omega
def IdxOk (sep : ByteArray) (N : Nat) (Kx : Nat → Prop) (w : World) : Prop := ∀ (t : ByteArray) (W : World), t.size ≤ N → HoldsK Kx w W →
  Calls Tryz.prog 67 #[.string t, .string sep] W fun e w' => e = .returned (.int .i64 (Lib.index t.data.toList sep.data.toList)) ∧ W = w'
def KS (B : Nat) (Kx : Nat → Prop) : Nat → Prop := fun k => (B ≤ k ∧ k < B + 3) ∨ Kx k
theorem KS.left {B : Nat} {Kx : Nat → Prop} {A C : World} (h : HoldsK (KS B Kx) A C) {k : Nat} (h1 : B ≤ k) (h2 : k < B + 3) : C.heap[k]? = A.heap[k]? := h k (.inl ⟨h1, h2⟩)
theorem KS.right {B : Nat} {Kx : Nat → Prop} {A C : World} (h : HoldsK (KS B Kx) A C) : HoldsK Kx A C := fun k hk => h k (.inr hk)
theorem boxed_of {W W' : World} {b : Nat} {t : TypeId} {v : Value} (h : Boxed W b t v) (e : W'.heap[b]? = W.heap[b]?) : Boxed W' b t v := e.trans h
def strIn (W : World) (b : Nat) : Nat := match W.cell? ⟨b, 0, none⟩ with | some (.string t) => t.size | _ => 0
theorem strIn_of {W : World} {b : Nat} {y : TypeId} {t : ByteArray} (h : Boxed W b y (.string t)) : strIn W b = t.size := by unfold strIn; rw [h.cell]
theorem holds_set {Kx : Nat → Prop} {w W : World} {B : Nat} (h : HoldsK Kx w W) (hB : ¬ Kx B) (v : Value) : HoldsK Kx w (W.setCell ⟨B, 0, none⟩ v) := fun k hk =>
  (Below.heap_setCell _ _ _ k (fun e => hB (by rw [show B = k from e.symm]; exact hk))).trans (h k hk)
theorem boxed_far {W : World} {b B : Nat} {t : TypeId} {v : Value} (h : Boxed W b t v) (hne : b ≠ B) (u : Value) : Boxed (W.setCell ⟨B, 0, none⟩ u) b t v := h.other hne u
set_option maxHeartbeats 4000000 in
theorem split_seq (n : Nat) (S sep : ByteArray) (hsep : 1 ≤ sep.size) (hS : S.size ≤ 4611686018427387904) (hz : sep.size ≤ 4611686018427387904) (B : Nat) (Kx : Nat → Prop) (hKB : ¬ Kx B) (w : World)
    (b0 : Boxed w B 9 (.string S)) (b1 : Boxed w (B + 1) 9 (.string sep)) (b2 : Boxed w (B + 2) 3 (.int .i64 0)) (hidx : IdxOk sep S.size Kx w) :
    SeqBox n Tryz.prog 65 #[.pointer (some ⟨B + 1, 0, none⟩), .pointer (some ⟨B, 0, none⟩), .pointer (some ⟨B + 2, 0, none⟩)] (fun x : ByteArray => #[Value.string x]) B (KS B Kx) (pcs sep S) w := by
  intro l J Jx W hsz hK hJ hY h0
  have HI := Lib.hid hidx; clear hidx
  have HY := Lib.hid hY; clear hY
  have HJ := Lib.hid hJ; clear hJ
  have a0 : Boxed W B 9 (.string S) := boxed_of b0 (KS.left hK (by omega) (by omega))
  have a1 : Boxed W (B + 1) 9 (.string sep) := boxed_of b1 (KS.left hK (by omega) (by omega))
  have a2 : Boxed W (B + 2) 3 (.int .i64 0) := boxed_of b2 (KS.left hK (by omega) (by omega))
  have aK : HoldsK Kx w W := KS.right hK
  clear b0 b1 b2 hK
  have hq : ((sep.size : Int) == 0) = false := beq_eq_false_iff_ne.2 (by omega)
  have c1 := a1.cell
  refine callsIn_of_wp Tryz.func65 rfl trivial ?_ rfl
  simp only [Tryz.ntmps65, List.size_toArray, List.length_cons, List.length_nil, Nat.reduceAdd, Nat.reduceSub, Array.replicate_succ, Array.replicate_zero, List.push_toArray, List.append_toArray, List.nil_append, List.cons_append]
  gi_wp2
  gi_loopw [7, 8] (fun i f wr => ∃ (pre : List ByteArray) (t : ByteArray), Boxed wr B 9 (.string t) ∧ t.size ≤ S.size ∧ Boxed wr (B + 1) 9 (.string sep) ∧ Boxed wr (B + 2) 3 (.int .i64 0) ∧ HoldsK Kx w wr ∧ pcs sep S = pre ++ pcs sep t ∧ J pre wr) (fun i f wr => strIn wr B)
  case atStart => exact ⟨[], S, a0, Nat.le_refl _, a1, a2, aK, rfl, h0⟩
  case round =>
    obtain ⟨pre, t, x0, ht, x1, x2, xK, hx, hJw⟩ := hrel
    have hge := Lib.index_ge t.data.toList sep.data.toList
    have y0 := x0.cell; have y1 := x1.cell; have y2 := x2.cell
    have HT := Lib.hid ht
    by_cases hi : Lib.index t.data.toList sep.data.toList = -1
    · have hp := pcs_miss hi
      obtain ⟨fn, tmps, assign, body, hy, hR⟩ := HY.out pre t wr hJw ⟨[], by rw [hx, hp]⟩
      have HR := Lib.hid hR; clear hR
      have HXP := Lib.hid (show pcs sep S = pre ++ [t] by rw [hx, hp])
      have hI := Lib.hid hi
      clear hx hp hge hi ht
      gi_wp2_with (refine ⟨trivial, fun h => absurd h (by simp [Fence.wide]), ?_⟩; gi_at_call 67; refine (callsIn_wide.2 (HI.out t _ HT.out xK)).mono ?_; rw [hI.out]; rintro e w' ⟨rfl, rfl⟩)
      refine ⟨fun h => by simp [Fence.wide] at h, HR.out.mono ?_⟩
      rintro e W3 (⟨rfl, hJ3, hk3⟩ | ⟨rfl, hJx3⟩)
      · gi_wp2
        go_end0
        exact ⟨⟨_, rfl⟩, .inl (by rw [HXP.out]; exact hJ3)⟩
      · gi_wp2
        go_end0
        exact ⟨⟨_, rfl⟩, .inr ⟨pre ++ [t], ⟨[], by rw [HXP.out]; simp⟩, hJx3⟩⟩
    · obtain ⟨i, hi⟩ : ∃ i : Nat, Lib.index t.data.toList sep.data.toList = i := ⟨(Lib.index t.data.toList sep.data.toList).toNat, by omega⟩
      have hp := pcs_hit hsep hi
      have hle := index_le hi
      obtain ⟨fn, tmps, assign, body, hy, hR⟩ := HY.out pre (t.extract 0 i) wr hJw ⟨_, by rw [hx, hp]⟩
      have HR := Lib.hid hR; clear hR
      have HXP := Lib.hid (show pcs sep S = (pre ++ [t.extract 0 i]) ++ pcs sep (t.extract (i + sep.size) t.size) by rw [hx, hp]; simp)
      have hI := Lib.hid hi
      clear hx hp hge hi
      have i1 : IntKind.i64.wrap ((i : Int) + sep.size) = (i : Int) + sep.size := IntWalk.i64_in _ (by omega)
      have i2 : ((i : Int) + sep.size).toNat = i + sep.size := by omega
      have i3 : (0 : Int) ≤ (i : Int) + sep.size := by omega
      have i4 : (i : Int) + sep.size ≤ t.size := by omega
      have i5 : (i : Int) ≤ t.size := by omega
      have i6 : ((i : Int) < 0) = False := by simp
      gi_wp2_with (refine ⟨trivial, fun h => absurd h (by simp [Fence.wide]), ?_⟩; gi_at_call 67; refine (callsIn_wide.2 (HI.out t _ HT.out xK)).mono ?_; rw [hI.out]; rintro e w' ⟨rfl, rfl⟩)
      refine ⟨fun h => by simp [Fence.wide] at h, HR.out.mono ?_⟩
      rintro e W3 (⟨rfl, hJ3, hk3⟩ | ⟨rfl, hJx3⟩)
      · have z0 : Boxed W3 B 9 (.string t) := boxed_of x0 (KS.left hk3 (by omega) (by omega))
        have z1 : Boxed W3 (B + 1) 9 (.string sep) := boxed_of x1 (KS.left hk3 (by omega) (by omega))
        have z2 : Boxed W3 (B + 2) 3 (.int .i64 0) := boxed_of x2 (KS.left hk3 (by omega) (by omega))
        have zK : HoldsK Kx w W3 := xK.trans (KS.right hk3)
        have v0 := z0.cell; have v1 := z1.cell; have f0 := z0.frozen
        gi_wp2
        go_roundw
        case rel => exact ⟨pre ++ [t.extract 0 i], t.extract (i + sep.size) t.size, z0.set _, by rw [ByteArray.size_extract]; omega, boxed_far z1 (by omega) _, boxed_far z2 (by omega) _, holds_set zK hKB _, HXP.out, HJ.out _ _ _ hJ3 (grownBy_setCell' _ _ _)⟩
        case measure => rw [strIn_of (z0.set _), strIn_of x0, ByteArray.size_extract]; omega
      · gi_wp2
        refine bodyPost_ret (results_none rfl _ _ _) rfl ?_
        exact ⟨⟨_, rfl⟩, .inr ⟨pre ++ [t.extract 0 i], ⟨_, HXP.out⟩, hJx3⟩⟩
end Go.Proofs.YtdmkghgachapaabGreatDoor

set_option linter.unusedSimpArgs false
namespace Go.Proofs.YtdmkghgachapaabGreatDoor
set_option linter.unusedVariables false
set_option maxRecDepth 100000
open Go.RowKit Go.Shelf
def seqW (S sep : ByteArray) (w : World) : World := ((w.alloc (.cells #[.string S] 9)).alloc (.cells #[.string sep] 9)).alloc (.cells #[.int .i64 0] 3)
theorem seqW_size (S sep : ByteArray) (w : World) : (seqW S sep w).heap.size = w.heap.size + 3 := by simp [seqW]
theorem seqW_below {a w : World} (S sep : ByteArray) (h : Below a.heap.size a w) : Below a.heap.size a (seqW S sep w) := below_new (below_new (below_new h _) _) _
theorem seqW_boxes (S sep : ByteArray) (w : World) : Boxed (seqW S sep w) w.heap.size 9 (.string S) ∧ Boxed (seqW S sep w) (w.heap.size + 1) 9 (.string sep) ∧ Boxed (seqW S sep w) (w.heap.size + 2) 3 (.int .i64 0) := by
  have h1 := Boxed.new (w.alloc (.cells #[.string S] 9)) 9 (.string sep)
  have h2 := Boxed.new ((w.alloc (.cells #[.string S] 9)).alloc (.cells #[.string sep] 9)) 3 (.int .i64 0)
  simp only [World.size_alloc] at h1 h2
  exact ⟨((Boxed.new w _ _).alloc _).alloc _, h1.alloc _, h2⟩
def seqV (B : Nat) : Value := .func (.func 65) #[] #[.pointer (some ⟨B + 1, 0, none⟩), .pointer (some ⟨B, 0, none⟩), .pointer (some ⟨B + 2, 0, none⟩)]
set_option maxHeartbeats 1000000 in
theorem str_splitSeq (S sep : ByteArray) (w : World) : Calls Tryz.prog 49 #[.string S, .string sep, .int .i64 0] w fun e w' => e = .returned (seqV w.heap.size) ∧ w' = seqW S sep w := by
  go_enter Tryz.func49, Tryz.ntmps49
  go_wp2
  go_ret
  exact ⟨rfl, rfl⟩
set_option maxHeartbeats 1000000 in
theorem str_SplitSeq (S sep : ByteArray) (w : World) : Calls Tryz.prog 31 #[.string S, .string sep] w fun e w' => e = .returned (seqV w.heap.size) ∧ w' = seqW S sep w := by
  go_enter Tryz.func31, Tryz.ntmps31
  go_wp2_with (go_at_call 49; refine (str_splitSeq S sep _).mono ?_; rintro e w' ⟨rfl, rfl⟩)
  go_ret
  exact ⟨rfl, rfl⟩
theorem own_low {w : World} {base base' : Nat} {e : TypeId} {size : Nat} {v : Value} {n : Nat} {xs : List Value} (h : w.ownsRow base e size v n xs) (hb : base' ≤ base) : w.ownsRow base' e size v n xs := by
  refine ⟨h.1, ?_⟩
  rcases h.2 with h0 | ⟨g, cap, cur, hv, hg, rest⟩
  · exact .inl h0
  · exact .inr ⟨g, cap, cur, hv, by omega, rest⟩
theorem own_base {w : World} {base : Nat} {e : TypeId} {size : Nat} {v : Value} {n : Nat} {xs : List Value} (h : w.ownsRow base e size v n xs) {b : Nat} (hb : v.ownBlock = some b) : base ≤ b := by
  rcases h.2 with ⟨rfl, _⟩ | ⟨g, cap, cur, rfl, hg, _⟩
  · cases hb
  · cases hb; exact hg
theorem grow_box {W w1 : World} {L o : Nat} {t e : TypeId} {size : Nat} {v v' : Value} {k m : Nat} {xs ys : List Value} {tmp : Obj}
    (hv : Boxed W o t v) (hte : t ≠ e) (hrow : W.ownsRow L e size v k xs) (ho : o < L) (hL : L ≤ W.heap.size) (hown' : w1.ownsRow L e size v' m ys) (hgrow : (W.alloc tmp).grownBy w1 v.ownBlock) :
    Boxed w1 o t v ∧ Boxed (w1.setCell ⟨o, 0, none⟩ v') o t v' ∧ (w1.setCell ⟨o, 0, none⟩ v').ownsRow L e size v' m ys ∧ KeepsOthers W (w1.setCell ⟨o, 0, none⟩ v') ∧ Below o W (w1.setCell ⟨o, 0, none⟩ v') ∧ ∀ k, k < L → k ≠ o → (w1.setCell ⟨o, 0, none⟩ v').heap[k]? = W.heap[k]? := by
  obtain ⟨h1, h2, h3, h4, h5⟩ := Boxed.appended (n₀ := o) hv hte (own_low hrow (by omega)) (by omega) (Nat.le_refl _) (own_low hown' (by omega)) hgrow
  refine ⟨h1, h2, hown'.kept (grownBy_setCell' w1 o v') (.inr (h1.not_row hte hown').symm), h4, h5, fun k hk hne => ?_⟩
  refine (Below.heap_setCell _ _ _ k (by intro e; exact hne e)).trans ((hgrow.block k (by simp; omega) ?_).trans (Below.heap_alloc _ _ _ (by omega)))
  intro hb
  have := own_base hrow hb.symm
  omega
theorem holds_of {K : Nat → Prop} {W W' : World} {L o : Nat} (h : ∀ k, k < L → k ≠ o → W'.heap[k]? = W.heap[k]?) (hK : ∀ k, K k → k < L ∧ k ≠ o) : HoldsK K W W' := fun k hk => h k (hK k hk).1 (hK k hk).2
def RowI {β : Type} (n₀ L o : Nat) (t e : TypeId) (size : Nat) (w : World) (f : β → List Value) (s : β) (W : World) : Prop :=
  ((∃ v, Boxed W o t v ∧ W.ownsRow L e size v (f s).length (f s)) ∧ Below n₀ w W) ∧ L ≤ W.heap.size
theorem rowI_own {β : Type} {n₀ L o B : Nat} {t e : TypeId} {size : Nat} {w : World} (f : β → List Value) (hB : n₀ ≤ B) (hw : n₀ ≤ w.heap.size) : OwnFrom B (RowI n₀ L o t e size w f) := by
  rintro s W W' row ⟨⟨⟨v, hv, hr⟩, hb⟩, hL⟩ hg hrow
  obtain ⟨v', q1, q2, _⟩ := holdsRow_own L o t e size (fun s : β => (f s).length) f (fun _ u => u = v) s W W' row ⟨v, hv, hr, rfl⟩ hg (fun r h => (hrow r h).2)
  exact ⟨⟨⟨v', q1, q2⟩, hb.grown hg (by have := hb.size; omega) (fun k h => by have := (hrow k h).1; omega)⟩, Nat.le_trans hL hg.size⟩
theorem rowI_minds {β : Type} {n₀ L o b : Nat} {t e : TypeId} {size : Nat} {w : World} (f : β → List Value) (hbL : b < L) (hbo : b ≠ o) (hn : n₀ ≤ b) (hw : n₀ ≤ w.heap.size) : Minds b (RowI n₀ L o t e size w f) := by
  rintro s A C ⟨⟨⟨v, hv, hr⟩, hB⟩, hL⟩ hg
  refine ⟨⟨⟨v, hv.kept hg (by simp; omega), hr.kept hg ?_⟩, hB.grown hg (by have := hB.size; omega) fun k e => by cases e; exact hn⟩, Nat.le_trans hL hg.size⟩
  rcases hr.2 with ⟨rfl, _⟩ | ⟨g, cap, cur, rfl, h1, _⟩
  · exact .inl rfl
  · exact .inr (by simp [Value.ownBlock]; omega)
end Go.Proofs.YtdmkghgachapaabGreatDoor
