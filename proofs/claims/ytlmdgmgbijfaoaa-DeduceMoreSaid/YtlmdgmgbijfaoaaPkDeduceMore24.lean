/-
  Part 24 of the texts that the proof of DeduceMore rests on, one after the other. Conditions: named in each theorem.
-/
import Derived.Test.YtlmdgmgbijfaoaaPkDeduceMore23
import Derived.Test.YtlmdgmgbijfaoaaPkDeduceMore22
import Derived.Test.YtlmdgmgbijfaoaaPkDeduceMore18
import Derived.Test.YtlmdgmgbijfaoaaPkDeduceMore13
import Derived.Test.YtlmdgmgbijfaoaaPkDeduceMore1
import Derived.Test.YtlmdgmgbijfaoaaPkDeduceMore2
import Derived.Test.YtlmdgmgbijfaoaaPkDeduceMore11
import Derived.Test.YtlmdgmgbijfaoaaPkDeduceMore5
import Derived.Test.YtlmdgmgbijfaoaaPkDeduceMore3
import Derived.Test.YtlmdgmgbijfaoaaPkDeduceMore4
import Derived.Test.YtlmdgmgbijfaoaaPkDeduceMore6
import Derived.Test.YtlmdgmgbijfaoaaPkDeduceMore7
import Derived.Test.YtlmdgmgbijfaoaaPkDeduceMore10
import Derived.Test.YtlmdgmgbijfaoaaPkDeduceMore9
import Derived.Test.YtlmdgmgbijfaoaaPkDeduceMore8
import Derived.Test.YtlmdgmgbijfaoaaPkDeduceMore12
import Derived.Test.YtlmdgmgbijfaoaaPkDeduceMore14
import Derived.Test.YtlmdgmgbijfaoaaPkDeduceMore15
import Derived.Test.YtlmdgmgbijfaoaaPkDeduceMore16
import Derived.BigFrame
import Derived.BigQuiet
import Derived.ChangeKeysEq
import Derived.ChangeMaps5
import Derived.ChangeOld
import Derived.Deep.Cut
import Derived.Deep.DrawnRows
import Derived.Deep.MidRow
import Derived.Deep.QuietTactic
import Derived.Deep.RegionHeld3
import Derived.Deep.RegionLaw
import Derived.Deep.Slices
import Derived.Deep.Strs
import Derived.Deep.Upon
import Derived.Deep.WholeRow
import Derived.DeepKeys4
import Derived.Great.BuildSlice
import Derived.Great.Walk
import Derived.Laws.BitsAllLaws
import Derived.Laws.BytesArg
import Derived.Laws.CopyOwn
import Derived.Laws.IdiomCopy
import Derived.Laws.Strings
import Derived.Laws.StructEq
import Derived.Lib.BufferRead
import Derived.Lib.Hide
import Derived.LoopIn
import Derived.LoopNIn
import Derived.MapViews
import Derived.Maps.AppendAt
import Derived.Maps.OwnSet
import Derived.Maps.Range
import Derived.Maps.Views
import Derived.OpenShut
import Derived.Orders
import Derived.OrdersIn
import Derived.OwnWalkIn
import Derived.ProofKit
import Derived.RangeFuncBound
import Derived.RangeFuncBox
import Derived.RangeFuncCalls
import Derived.RangeFuncFrom
import Derived.RangeFuncLeaves
import Derived.RangeFuncNested
import Derived.Shelf.Abstract
import Derived.Shelf.RegionOpen
import Derived.ShutString
import Derived.StillTactics
import Derived.StillTailTactics
import Derived.TacticsInMore
import Derived.Test.YtlmdgmgbijfaoaaArr
import Derived.Test.YtlmdgmgbijfaoaaFlow
import Derived.Test.YtlmdgmgbijfaoaaKit
import Derived.Test.YtlmdgmgbijfaoaaOpen
import Derived.Test.YtlmdgmgbijfaoaaOpenT
import Derived.Test.YtlmdgmgbijfaoaaRows
import Derived.Test.YtlmdgmgbijfaoaaTxt
import Derived.WalkKit
import Derived.WalkLawsBesides
import Derived.WalkSmall
import Derived.WalkSpells
set_option linter.unusedVariables false
set_option linter.unusedSimpArgs false
namespace Go.Bas
open Go.RowKit
def stp (L:List TDo) (k:Nat):TS:=(L.take k).foldl TS.step ⟨[], []⟩
theorem stp_succ {L:List TDo} {k:Nat} {d:TDo} (h:L[k]? =some d):stp L (k+1)=(stp L k).step d:=by
 unfold stp
 rw [List.take_add_one,h,List.foldl_append]
 rfl
theorem stp_len (L:List TDo) (k:Nat):(stp L k).l.length≤k∧(stp L k).tx.length≤k:=by
 induction k with
 | zero=> exact ⟨Nat.le_refl _,Nat.le_refl _⟩
 | succ k ih=>
  by_cases h:k<L.length
  ·rw [stp_succ (List.getElem?_eq_getElem h)]
   have:=step_len (stp L k) L[k]
   omega
  ·have:stp L (k+1)=stp L k:=by unfold stp;rw [List.take_of_length_le (by omega),List.take_of_length_le (by omega)]
   rw [this];omega
section
variable {P : Program} {ops : Array Oper} {Q : Exit → Act → World → Prop}
theorem KeepsOthers.of_belowT {W W':World} (h:Below W.heap.size W W'):KeepsOthers W W':=.of_grownBy (row:=none) ⟨h.os,h.tape,h.output,h.size,fun k hk _=> h.block k hk⟩ (fun j o e=> by cases e)
end
end Go.Bas
namespace Go.Proofs.Ytlmdgmgbijfaoaa
open Go.RowKit Go.Bas Go.ChangeShapes Go.Maps
attribute [local go_sem ↓] Go.wp_at_zero Go.wp_at_succ
attribute [local go_sem] Oper.semAt_some
theorem rEmpty {B:Nat} {w:World} (hB:B≤w.heap.size):RsA B (w.alloc (.cells #[.slice none 0 0,.slice none 0 0] 95)) w.heap.size (RF w.heap.size (.slice none 0 0) (.slice none 0 0)) ⟨[], []⟩:=
 ⟨.slice none 0 0,.slice none 0 0,fun _=> .slice none 0 0,⟨⟨_,heap_alloc_new w _,rfl⟩,cell_of_row _ _ 0 _ _ (0,0) (heap_alloc_new w _),cell_of_row _ _ 1 _ _ (0,0) (heap_alloc_new w _),OwM.nil _ _ _ _,OwM.nil _ _ _ _,fun j b hj=> (by simp at hj),fun j b hj=> (by simp at hj),hB,fun b hb=> (by cases hb),fun b hb=> (by cases hb),fun t ht=> (by cases ht),fun b hb=> (by cases hb)⟩,fun b=> Iff.rfl⟩
theorem laterT {B:Nat} {w w1 w2:World} (hB:B=w.heap.size) (h:Below B w w1) (h2:Below w1.heap.size w1 w2):Below B w w2:=h.trans (h2.mono (hB▸h.size))
theorem boxed_below {W W':World} {b:Nat} {t:TypeId} {v:Value} (h:Boxed W b t v) (hb:Below W.heap.size W W'):Boxed W' b t v:=(hb.block b h.lt).trans h
theorem boxed_chg {F:Nat→Prop} {W W':World} {b:Nat} {t:TypeId} {v:Value} (h:Boxed W b t v) (hc:Chg F W W') (hn:¬ F b):Boxed W' b t v:=(hc.block b h.lt hn).trans h
theorem tdos_below {w w':World} {v:Value} {L:List TDo} (h:TDos w v L) (hb:Below w.heap.size w w'):TDos w' v L:=by
 obtain ⟨q,h1,h2⟩:=h
 exact ⟨q,h1.below hb,fun j d hd=> (h2 j d hd).below hb⟩
theorem chg_own {β:Type} {F:Nat→Prop} {w7:World} {B:Nat} (hB:w7.heap.size≤B):OwnFrom B (fun (_:β) W=> Chg F w7 W):=fun _ W W' _ hs hg hr=>
 hs.trans (Chg.of_grown (F:=fun b=> B≤b) hg fun r e=> (hr r e).1) fun b hb h=> by have:B≤b:=h;omega
theorem TwoT.le {B:Nat} {w:World} {p q:Nat} {S:TS} {G:Nat→Prop} (h:TwoT B w p q S G):B≤w.heap.size:=by
 obtain ⟨F1,F2,h1,_⟩:=h
 have h1':=h1
 obtain ⟨mb,mt,vl,vb,tv,h2,_,h3⟩:=h1'
 have hp:=(h3 p).2 (.inl rfl)
 have:=h1.hi hp
 have:=h1.lt hp
 omega
end Go.Proofs.Ytlmdgmgbijfaoaa
namespace Go.Proofs.Ytlmdgmgbijfaoaa
open Go.RowKit Go.Bas Go.ChangeShapes Go.Maps
attribute [local go_sem ↓] Go.wp_at_zero Go.wp_at_succ
attribute [local go_sem] Oper.semAt_some
theorem DoT.of_row {w:World} {b:Nat} {T:TypeId} {z:Nat→Value} {d:TDo} (h:RowN w b 6 T z) (hd:RowD w z d):DoT w b d.1 d.2.1 d.2.2.1 (z 5):=
 ⟨(h.2 0 (by decide)).trans (congrArg some hd.z0),(h.2 1 (by decide)).trans (congrArg some hd.z1),fun i hi=> (h.2 (2+i) (by omega)).trans (congrArg some (by
  rcases (by omega:i=0∨i=1∨i=2) with rfl | rfl | rfl
  ·exact hd.z2
  ·exact hd.z3
  ·exact hd.z4)),h.2 5 (by decide),h.1.lt⟩
end Go.Proofs.Ytlmdgmgbijfaoaa
