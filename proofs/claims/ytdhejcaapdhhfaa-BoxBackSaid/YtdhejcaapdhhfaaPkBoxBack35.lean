/-
  Part 35 of the texts that the proof of BoxBack rests on, one after the other. Conditions: named in each theorem.
-/
import Derived.Test.YtdhejcaapdhhfaaPkBoxBack13
import Derived.Test.YtdhejcaapdhhfaaPkBoxBack12
import Derived.Test.YtdhejcaapdhhfaaPkBoxBack6
import Derived.Test.YtdhejcaapdhhfaaPkBoxBack3
import Derived.Test.YtdhejcaapdhhfaaPkBoxBack2
import Derived.Test.YtdhejcaapdhhfaaPkBoxBack4
import Derived.Test.YtdhejcaapdhhfaaPkBoxBack5
import Derived.Test.YtdhejcaapdhhfaaPkBoxBack7
import Derived.Test.YtdhejcaapdhhfaaPkBoxBack1
import Derived.Test.YtdhejcaapdhhfaaPkBoxBack8
import Derived.Test.YtdhejcaapdhhfaaPkBoxBack18
import Derived.Test.YtdhejcaapdhhfaaPkBoxBack17
import Derived.Test.YtdhejcaapdhhfaaPkBoxBack15
import Derived.BigFrame
import Derived.BigQuiet
import Derived.ChangeKeysEq
import Derived.ChangeOld
import Derived.Deep.Cut
import Derived.Deep.DrawnRows
import Derived.Deep.LoopGhost
import Derived.Deep.MidRow
import Derived.Deep.QuietTactic
import Derived.Deep.RegionHeld3
import Derived.Deep.RegionLaw
import Derived.Deep.WholeRow
import Derived.Laws.BitsAllLaws
import Derived.Laws.CopyOwn
import Derived.Laws.IdiomCopy
import Derived.Laws.StructEq
import Derived.Lib.Hide
import Derived.Maps.AppendAt
import Derived.Maps.Range
import Derived.OpenShut
import Derived.Orders
import Derived.OrdersIn
import Derived.OwnWalkIn
import Derived.ProofKit
import Derived.RangeFuncCalls
import Derived.ShutString
import Derived.Test.YtdhejcaapdhhfaaArr
import Derived.Test.YtdhejcaapdhhfaaFlow
import Derived.Test.YtdhejcaapdhhfaaKit
import Derived.Test.YtdhejcaapdhhfaaOpen
import Derived.Test.YtdhejcaapdhhfaaRows
import Derived.WalkKit
import Derived.WalkLawsBesides
import Derived.WalkSmall
import Derived.WalkSpells
set_option linter.unusedVariables false
set_option linter.unusedSimpArgs false
namespace Go.Bas
def raL (X Y Z U V R D:Int):Int:=(Z * R) * (Z * R) - D * ((X * U) * (Y * V))
def raM (X Y Z U V R D:Int):Int:=(Z * R) * (Z * R)+D * ((X * U) * (Y * V))
def raC (X Y U V:Int):Int:=(X+Y) * (U+V) - X * U - Y * V
def raX (X Y Z U V R D:Int):Int:=(Z * R) * (raL X Y Z U V R D * raC X Y U V)
def raY (X Y Z U V R D:Int):Int:=(Z * R) * (raM X Y Z U V R D * (Y * V+X * U))
def raZ (X Y Z U V R D:Int):Int:=raL X Y Z U V R D * raM X Y Z U V R D
end Go.Bas
namespace Go.Proofs.Ytdhejcaapdhhfaa
open Go.RowKit Go.Bas Go.ChangeShapes
attribute [local go_sem ↓] Go.wp_at_zero Go.wp_at_succ
end Go.Proofs.Ytdhejcaapdhhfaa
