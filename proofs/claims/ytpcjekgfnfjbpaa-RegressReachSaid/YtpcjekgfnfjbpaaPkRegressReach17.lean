/-
  Part 17 of the texts that the proof of RegressReach rests on, one after the other. Conditions: named in each theorem.
-/
import Derived.Test.YtpcjekgfnfjbpaaPkRegressReach16
import Derived.Test.YtpcjekgfnfjbpaaPkRegressReach14
import Derived.Test.YtpcjekgfnfjbpaaPkRegressReach1
import Derived.Test.YtpcjekgfnfjbpaaPkRegressReach2
import Derived.Test.YtpcjekgfnfjbpaaPkRegressReach12
import Derived.Test.YtpcjekgfnfjbpaaPkRegressReach5
import Derived.Test.YtpcjekgfnfjbpaaPkRegressReach4
import Derived.Test.YtpcjekgfnfjbpaaPkRegressReach3
import Derived.Test.YtpcjekgfnfjbpaaPkRegressReach6
import Derived.Test.YtpcjekgfnfjbpaaPkRegressReach7
import Derived.Test.YtpcjekgfnfjbpaaPkRegressReach11
import Derived.Test.YtpcjekgfnfjbpaaPkRegressReach10
import Derived.Test.YtpcjekgfnfjbpaaPkRegressReach9
import Derived.Test.YtpcjekgfnfjbpaaPkRegressReach8
import Derived.Test.YtpcjekgfnfjbpaaPkRegressReach13
import Derived.Test.YtpcjekgfnfjbpaaPkRegressReach15
import Derived.BigFrame
import Derived.BigQuiet
import Derived.ChangeKeysEq
import Derived.ChangeMaps5
import Derived.ChangeOld
import Derived.Deep.Cut
import Derived.Deep.DrawnRows
import Derived.Deep.MidRow
import Derived.Deep.QuietTactic
import Derived.Deep.RegionHeld3
import Derived.Deep.RegionLaw
import Derived.Deep.Slices
import Derived.Deep.Strs
import Derived.Deep.Upon
import Derived.Deep.WholeRow
import Derived.DeepKeys4
import Derived.Great.BuildSlice
import Derived.Great.Walk
import Derived.Laws.BytesArg
import Derived.Laws.CopyOwn
import Derived.Laws.IdiomCopy
import Derived.Laws.Strings
import Derived.Laws.StructEq
import Derived.Lib.BufferRead
import Derived.Lib.Hide
import Derived.LoopIn
import Derived.LoopNIn
import Derived.MapViews
import Derived.Maps.AppendAt
import Derived.Maps.OwnSet
import Derived.Maps.Range
import Derived.Maps.Views
import Derived.OpenShut
import Derived.Orders
import Derived.OwnWalkIn
import Derived.ProofKit
import Derived.RangeFuncBound
import Derived.RangeFuncBox
import Derived.RangeFuncCalls
import Derived.RangeFuncFrom
import Derived.RangeFuncLeaves
import Derived.RangeFuncNested
import Derived.Shelf.Abstract
import Derived.Shelf.RegionOpen
import Derived.ShutString
import Derived.StillTactics
import Derived.TacticsInMore
import Derived.Test.YtpcjekgfnfjbpaaArr
import Derived.Test.YtpcjekgfnfjbpaaFlow
import Derived.Test.YtpcjekgfnfjbpaaKit
import Derived.Test.YtpcjekgfnfjbpaaOpen
import Derived.Test.YtpcjekgfnfjbpaaOpenT
import Derived.Test.YtpcjekgfnfjbpaaRows
import Derived.Test.YtpcjekgfnfjbpaaTxt
import Derived.WalkKit
import Derived.WalkLawsBesides
import Derived.WalkSmall
import Derived.WalkSpells
set_option linter.unusedVariables false
set_option linter.unusedSimpArgs false
namespace Go.Bas
open Go.RowKit
def KeepF (G:Nat→Prop) (W W':World):Prop:=W.heap.size≤W'.heap.size∧∀b,G b→W'.heap[b]? =W.heap[b]?
theorem KeepF.trans {G:Nat→Prop} {A B C:World} (h:KeepF G A B) (k:KeepF G B C):KeepF G A C:=⟨Nat.le_trans h.1 k.1,fun b h1=> (k.2 b h1).trans (h.2 b h1)⟩
theorem KeepF.ofBelow {G:Nat→Prop} {A B:World} (h:Below A.heap.size A B) (hs:∀b,G b→b<A.heap.size):KeepF G A B:=⟨h.size,fun b h2=> h.block b (hs b h2)⟩
theorem keepF_b {G:Nat→Prop} {w:World} (hn:∀b,G b→b<w.heap.size) (W:World) (l:Nat) (o o':Obj) (hl:w.heap.size≤l) (h:W.heap[l]? =some o) (_:o.isCells=false) (_:o.isWalk=false):KeepF G W (W.putObj l o'):=
 ⟨(grownBy_putObj' W l o').size,fun b h2=> (grownBy_putObj' W l o').block b (by have:=(Array.getElem?_eq_some_iff.1 h).1;have:=hn b h2;omega) (fun e=> by have:=Option.some.inj e;have:=hn b h2;omega)⟩
section
variable {F : Fence} {n : Nat} {P : Program} {ops : Array Oper} {Q : Exit → Act → World → Prop} {K : Act → World → Prop} {a : Act} {w : World} {rest : List Oper} {o : Oper}
end
def tmAt (l:List Tm) (k:Nat):Tm:=l.getD k (0,0,0)
theorem tmAt_eq {l:List Tm} {k:Nat} {t:Tm} (h:l[k]? =some t):tmAt l k=t:=by unfold tmAt;rw [List.getD_eq_getElem?_getD,h];rfl
end Go.Bas
namespace Go.Proofs.Ytpcjekgfnfjbpaa
open Go.RowKit Go.Bas Go.ChangeShapes Go.Maps
attribute [local go_sem ↓] Go.wp_at_zero Go.wp_at_succ
section
variable {B : Nat} {w w' : World} {p mb mt : Nat} {vl vb : Value} {tv : Nat → Value} {S : TS}
end
end Go.Proofs.Ytpcjekgfnfjbpaa
