/-
  Part 32 of the texts that the proof of RegressDown rests on, one after the other. Conditions: named in each theorem.
-/
import Derived.Test.YtpcjekgfnfjbpaaPkRegressDown2
import Derived.Test.YtpcjekgfnfjbpaaPkRegressDown4
import Derived.Test.YtpcjekgfnfjbpaaPkRegressDown8
import Derived.Test.YtpcjekgfnfjbpaaPkRegressDown25
import Derived.Test.YtpcjekgfnfjbpaaPkRegressDown14
import Derived.Test.YtpcjekgfnfjbpaaPkRegressDown22
import Derived.Test.YtpcjekgfnfjbpaaPkRegressDown17
import Derived.Test.YtpcjekgfnfjbpaaPkRegressDown26
import Derived.BigFrame
import Derived.BigQuiet
import Derived.ChangeKeysEq
import Derived.ChangeOld
import Derived.Deep.Cut
import Derived.Deep.DrawnRows
import Derived.Deep.MidRow
import Derived.Deep.QuietTactic
import Derived.Deep.RegionHeld3
import Derived.Deep.RegionLaw
import Derived.Deep.WholeRow
import Derived.Great.BuildSlice
import Derived.Laws.BitsAllLaws
import Derived.Laws.CopyOwn
import Derived.Laws.IdiomCopy
import Derived.Laws.StructEq
import Derived.Lib.Hide
import Derived.LoopIn
import Derived.LoopNIn
import Derived.Maps.AppendAt
import Derived.Maps.Range
import Derived.OpenShut
import Derived.Orders
import Derived.OrdersIn
import Derived.OwnWalkIn
import Derived.ProofKit
import Derived.RangeFuncBound
import Derived.RangeFuncBox
import Derived.RangeFuncCalls
import Derived.RangeFuncFrom
import Derived.RangeFuncLeaves
import Derived.RangeFuncNested
import Derived.Shelf.Abstract
import Derived.Shelf.RegionOpen
import Derived.ShutString
import Derived.StillTailTactics
import Derived.TacticsInMore
import Derived.Test.YtpcjekgfnfjbpaaArr
import Derived.Test.YtpcjekgfnfjbpaaFlow
import Derived.Test.YtpcjekgfnfjbpaaKit
import Derived.Test.YtpcjekgfnfjbpaaOpen
import Derived.Test.YtpcjekgfnfjbpaaRows
import Derived.Test.YtpcjekgfnfjbpaaTxt
import Derived.WalkKit
import Derived.WalkLawsBesides
import Derived.WalkSmall
import Derived.WalkSpells
set_option linter.unusedVariables false
set_option linter.unusedSimpArgs false
namespace Go.Bas
open Go.RowKit
def sameQ (n:Nat) (f:Nat→Int) (m:Nat) (g:Nat→Int):Bool:=decide (n=m) && sameB n f g
end Go.Bas
namespace Go.Proofs.Ytpcjekgfnfjbpaa
open Go.RowKit Go.Bas
attribute [local go_sem ↓] Go.wp_at_zero Go.wp_at_succ
theorem same_q (va vb:Value) (n m:Nat) (f g:Nat→Int) (w:World) (ha:Rd .u8 w va n f) (hb:Rd .u8 w vb m g):
  Calls Try.prog 12 #[va,vb] w fun e w'=> e=.returned (.bool (sameQ n f m g))∧Below w.heap.size w w':=by
 unfold sameQ
 by_cases h:n=m
 ·subst h
  rw [decide_eq_true rfl,Bool.true_and]
  by_cases hq:∀i,i<n→f i=g i
  ·rw [sameB_yes hq];exact same_yes va vb n f g w ha hb hq
  ·rw [sameB_no hq]
   obtain ⟨j,hj⟩:=Classical.not_forall.1 hq
   obtain ⟨h1,h2⟩:=Classical.not_imp.1 hj
   exact same_no va vb n f g w ha hb j h1 h2
 ·rw [decide_eq_false h,Bool.false_and];exact same_len va vb n m f g w ha hb h
end Go.Proofs.Ytpcjekgfnfjbpaa
