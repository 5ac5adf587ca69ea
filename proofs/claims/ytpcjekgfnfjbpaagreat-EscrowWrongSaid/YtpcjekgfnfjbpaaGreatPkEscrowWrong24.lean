/-
  Part 24 of the texts that the proof of EscrowWrong rests on, one after the other. Conditions: named in each theorem.
-/
import Derived.Test.YtpcjekgfnfjbpaaGreatPkEscrowWrong8
import Derived.Test.YtpcjekgfnfjbpaaGreatPkEscrowWrong18
import Derived.Test.YtpcjekgfnfjbpaaGreatPkEscrowWrong5
import Derived.Test.YtpcjekgfnfjbpaaGreatPkEscrowWrong23
import Derived.Deep.Cut
import Derived.Laws.BitsAllLaws
import Derived.LoopIn
import Derived.LoopNIn
import Derived.RangeFuncBound
import Derived.RangeFuncBox
import Derived.RangeFuncFrom
import Derived.RangeFuncLeaves
import Derived.RangeFuncNested
import Derived.Shelf.Abstract
import Derived.Shelf.RegionOpen
import Derived.StillTailTactics
import Derived.TacticsInMore
set_option linter.unusedVariables false
set_option linter.unusedSimpArgs false
namespace Go.aG
open Go.RowKit
def fQ (n:Nat) (f:Nat→Int) (m:Nat) (g:Nat→Int):Bool:=decide (n=m) && rC n f g
end Go.aG
namespace Go.Proofs.YtpcjekgfnfjbpaaGreat
open Go.RowKit Go.aG
attribute [local go_sem ↓] Go.wp_at_zero Go.wp_at_succ
theorem mG (va vb:Value) (n m:Nat) (f g:Nat→Int) (w:World) (ha:Rd .u8 w va n f) (hb:Rd .u8 w vb m g):
  Calls Tryz.prog 19 #[va,vb] w fun e w'=> e=.returned (.bool (fQ n f m g))∧Below w.heap.size w w':=by
 unfold fQ
 by_cases h:n=m
 ·subst h
  rw [decide_eq_true rfl,Bool.true_and]
  by_cases hq:∀i,i<n→f i=g i
  ·rw [sM hq];exact uz va vb n f g w ha hb hq
  ·rw [og hq]
   obtain ⟨j,hj⟩:=Classical.not_forall.1 hq
   obtain ⟨h1,h2⟩:=Classical.not_imp.1 hj
   exact xB va vb n f g w ha hb j h1 h2
 ·rw [decide_eq_false h,Bool.false_and];exact uD va vb n m f g w ha hb h
end Go.Proofs.YtpcjekgfnfjbpaaGreat
