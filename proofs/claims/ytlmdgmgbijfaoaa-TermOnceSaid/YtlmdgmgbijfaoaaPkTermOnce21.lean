/-
  Part 21 of the texts that the proof of TermOnce rests on, one after the other. Conditions: named in each theorem.
-/
import Derived.Test.YtlmdgmgbijfaoaaPkTermOnce20
import Derived.Test.YtlmdgmgbijfaoaaPkTermOnce16
import Derived.Test.YtlmdgmgbijfaoaaPkTermOnce15
import Derived.Test.YtlmdgmgbijfaoaaPkTermOnce13
import Derived.Test.YtlmdgmgbijfaoaaPkTermOnce1
import Derived.Test.YtlmdgmgbijfaoaaPkTermOnce2
import Derived.Test.YtlmdgmgbijfaoaaPkTermOnce11
import Derived.Test.YtlmdgmgbijfaoaaPkTermOnce5
import Derived.Test.YtlmdgmgbijfaoaaPkTermOnce3
import Derived.Test.YtlmdgmgbijfaoaaPkTermOnce4
import Derived.Test.YtlmdgmgbijfaoaaPkTermOnce6
import Derived.Test.YtlmdgmgbijfaoaaPkTermOnce7
import Derived.Test.YtlmdgmgbijfaoaaPkTermOnce10
import Derived.Test.YtlmdgmgbijfaoaaPkTermOnce9
import Derived.Test.YtlmdgmgbijfaoaaPkTermOnce8
import Derived.Test.YtlmdgmgbijfaoaaPkTermOnce12
import Derived.Test.YtlmdgmgbijfaoaaPkTermOnce14
import Derived.Test.YtlmdgmgbijfaoaaPkTermOnce18
import Derived.Test.YtlmdgmgbijfaoaaPkTermOnce17
import Derived.Test.YtlmdgmgbijfaoaaPkTermOnce19
import Derived.BigFrame
import Derived.BigQuiet
import Derived.ChangeKeysEq
import Derived.ChangeMaps5
import Derived.ChangeOld
import Derived.Deep.Cut
import Derived.Deep.DrawnRows
import Derived.Deep.MidRow
import Derived.Deep.QuietTactic
import Derived.Deep.RegionHeld3
import Derived.Deep.RegionLaw
import Derived.Deep.Slices
import Derived.Deep.Strs
import Derived.Deep.Upon
import Derived.Deep.WholeRow
import Derived.DeepKeys4
import Derived.Great.BuildSlice
import Derived.Great.Walk
import Derived.Laws.BitsAllLaws
import Derived.Laws.BytesArg
import Derived.Laws.CopyOwn
import Derived.Laws.IdiomCopy
import Derived.Laws.Strings
import Derived.Laws.StructEq
import Derived.Lib.BufferRead
import Derived.Lib.Hide
import Derived.LoopIn
import Derived.LoopNIn
import Derived.MapViews
import Derived.Maps.AppendAt
import Derived.Maps.OwnSet
import Derived.Maps.Range
import Derived.Maps.Views
import Derived.OpenShut
import Derived.Orders
import Derived.OrdersIn
import Derived.OwnWalkIn
import Derived.ProofKit
import Derived.RangeFuncBound
import Derived.RangeFuncBox
import Derived.RangeFuncCalls
import Derived.RangeFuncFrom
import Derived.RangeFuncLeaves
import Derived.RangeFuncNested
import Derived.Shelf.Abstract
import Derived.Shelf.RegionOpen
import Derived.ShutString
import Derived.StillTactics
import Derived.StillTailTactics
import Derived.TacticsInMore
import Derived.Test.YtlmdgmgbijfaoaaArr
import Derived.Test.YtlmdgmgbijfaoaaFlow
import Derived.Test.YtlmdgmgbijfaoaaKit
import Derived.Test.YtlmdgmgbijfaoaaOpen
import Derived.Test.YtlmdgmgbijfaoaaOpenT
import Derived.Test.YtlmdgmgbijfaoaaRows
import Derived.Test.YtlmdgmgbijfaoaaTxt
import Derived.WalkKit
import Derived.WalkLawsBesides
import Derived.WalkSmall
import Derived.WalkSpells
set_option linter.unusedVariables false
set_option linter.unusedSimpArgs false
namespace Go.Bas
open Go.RowKit
section
variable {P : Program} {ops : Array Oper} {Q : Exit → Act → World → Prop}
theorem run_pick_f {o:Oper} {a:Act} {w:World} {c x y:Operand} {v:Value} (ho:o.op=.pick c x y) (hc:a.eval c=.bool false) (hv:a.eval y=v):(execOp a.eval o).run P w=.ok (.value v) w:=by rw [run_pick ho hc,hv];rfl
theorem run_pick_t {o:Oper} {a:Act} {w:World} {c x y:Operand} {v:Value} (ho:o.op=.pick c x y) (hc:a.eval c=.bool true) (hv:a.eval x=v):(execOp a.eval o).run P w=.ok (.value v) w:=by rw [run_pick ho hc,hv];rfl
theorem KeepsOthers.of_belowT {W W':World} (h:Below W.heap.size W W'):KeepsOthers W W':=.of_grownBy (row:=none) ⟨h.os,h.tape,h.output,h.size,fun k hk _=> h.block k hk⟩ (fun j o e=> by cases e)
theorem tl_val {o:Oper} {rest:List Oper} {a:Act} {w:World} {v:Value} (hg:o.guard=none) (hr:(execOp a.eval o).run P w=.ok (.value v) w) (h:tl P ops Q rest (a.put o.dst v) w):tl P ops Q (o::rest) a w:=by
 refine tl_step hg ?_
 unfold Oper.wp
 rw [hr]
 exact h
end
end Go.Bas
namespace Go.Proofs.Ytlmdgmgbijfaoaa
open Go.RowKit Go.Bas Go.ChangeShapes Go.Maps
attribute [local go_sem ↓] Go.wp_at_zero Go.wp_at_succ
attribute [local go_sem] Oper.semAt_some
theorem laterT {B:Nat} {w w1 w2:World} (hB:B=w.heap.size) (h:Below B w w1) (h2:Below w1.heap.size w1 w2):Below B w w2:=h.trans (h2.mono (hB▸h.size))
theorem boxed_below {W W':World} {b:Nat} {t:TypeId} {v:Value} (h:Boxed W b t v) (hb:Below W.heap.size W W'):Boxed W' b t v:=(hb.block b h.lt).trans h
theorem boxed_chg {F:Nat→Prop} {W W':World} {b:Nat} {t:TypeId} {v:Value} (h:Boxed W b t v) (hc:Chg F W W') (hn:¬ F b):Boxed W' b t v:=(hc.block b h.lt hn).trans h
theorem tdos_below {w w':World} {v:Value} {L:List TDo} (h:TDos w v L) (hb:Below w.heap.size w w'):TDos w' v L:=by
 obtain ⟨q,h1,h2⟩:=h
 exact ⟨q,h1.below hb,fun j d hd=> (h2 j d hd).below hb⟩
theorem chg_own {β:Type} {F:Nat→Prop} {w7:World} {B:Nat} (hB:w7.heap.size≤B):OwnFrom B (fun (_:β) W=> Chg F w7 W):=fun _ W W' _ hs hg hr=>
 hs.trans (Chg.of_grown (F:=fun b=> B≤b) hg fun r e=> (hr r e).1) fun b hb h=> by have:B≤b:=h;omega
theorem sizeA_at {S:TS} {j:Nat} (h:j<S.l.length):sizeA S (j:Int)=szT S.l j:=by
 unfold sizeA
 rw [if_pos (hasT_iff.2 ⟨j,rfl,_,List.getElem?_eq_getElem h,.inl rfl⟩),Int.toNat_natCast]
end Go.Proofs.Ytlmdgmgbijfaoaa
