/-
  Part 18 of the texts that the proof of DeduceOpens rests on, one after the other. Conditions: named in each theorem.
-/
import Derived.Test.YtlmdgmgbijfaoaaPkDeduceOpens2
import Derived.Test.YtlmdgmgbijfaoaaPkDeduceOpens11
import Derived.Test.YtlmdgmgbijfaoaaPkDeduceOpens1
import Derived.Test.YtlmdgmgbijfaoaaPkDeduceOpens5
import Derived.Test.YtlmdgmgbijfaoaaPkDeduceOpens3
import Derived.Test.YtlmdgmgbijfaoaaPkDeduceOpens4
import Derived.Test.YtlmdgmgbijfaoaaPkDeduceOpens6
import Derived.Test.YtlmdgmgbijfaoaaPkDeduceOpens7
import Derived.Test.YtlmdgmgbijfaoaaPkDeduceOpens10
import Derived.Test.YtlmdgmgbijfaoaaPkDeduceOpens9
import Derived.Test.YtlmdgmgbijfaoaaPkDeduceOpens8
import Derived.BigQuiet
import Derived.ChangeKeysEq
import Derived.ChangeMaps5
import Derived.ChangeOld
import Derived.Deep.Cut
import Derived.Deep.DrawnRows
import Derived.Deep.MidRow
import Derived.Deep.QuietTactic
import Derived.Deep.RegionHeld3
import Derived.Deep.Slices
import Derived.Deep.Strs
import Derived.Deep.Upon
import Derived.Deep.WholeRow
import Derived.Great.BuildSlice
import Derived.Great.Walk
import Derived.Laws.CopyOwn
import Derived.Laws.IdiomCopy
import Derived.Laws.StructEq
import Derived.Lib.Hide
import Derived.Maps.AppendAt
import Derived.Maps.OwnSet
import Derived.Maps.Range
import Derived.Maps.Views
import Derived.OpenShut
import Derived.Orders
import Derived.ProofKit
import Derived.ShutString
import Derived.StillTactics
import Derived.Test.YtlmdgmgbijfaoaaArr
import Derived.Test.YtlmdgmgbijfaoaaFlow
import Derived.Test.YtlmdgmgbijfaoaaKit
import Derived.Test.YtlmdgmgbijfaoaaOpen
import Derived.Test.YtlmdgmgbijfaoaaOpenT
import Derived.Test.YtlmdgmgbijfaoaaRows
import Derived.Test.YtlmdgmgbijfaoaaTxt
import Derived.WalkKit
import Derived.WalkLawsBesides
import Derived.WalkSmall
import Derived.WalkSpells
set_option linter.unusedVariables false
set_option linter.unusedSimpArgs false
namespace Go.Proofs.Ytlmdgmgbijfaoaa
open Go.RowKit Go.Bas Go.ChangeShapes Go.Maps
attribute [local go_sem ↓] Go.wp_at_zero Go.wp_at_succ
abbrev kvI:Int→Value:=Value.int .i64
section
variable {B : Nat} {w w' : World} {p mb : Nat} {vn vo : Value} {ov : Nat → Value} {nd : List Int} {os : List (List Nat)} {ed : Nat}
end
end Go.Proofs.Ytlmdgmgbijfaoaa
