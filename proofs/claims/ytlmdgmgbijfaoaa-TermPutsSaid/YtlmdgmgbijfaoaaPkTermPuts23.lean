/-
  Part 23 of the texts that the proof of TermPuts rests on, one after the other. Conditions: named in each theorem.
-/
import Derived.Test.YtlmdgmgbijfaoaaPkTermPuts20
import Derived.Test.YtlmdgmgbijfaoaaPkTermPuts16
import Derived.Test.YtlmdgmgbijfaoaaPkTermPuts15
import Derived.Test.YtlmdgmgbijfaoaaPkTermPuts13
import Derived.Test.YtlmdgmgbijfaoaaPkTermPuts1
import Derived.Test.YtlmdgmgbijfaoaaPkTermPuts2
import Derived.Test.YtlmdgmgbijfaoaaPkTermPuts11
import Derived.Test.YtlmdgmgbijfaoaaPkTermPuts5
import Derived.Test.YtlmdgmgbijfaoaaPkTermPuts3
import Derived.Test.YtlmdgmgbijfaoaaPkTermPuts4
import Derived.Test.YtlmdgmgbijfaoaaPkTermPuts6
import Derived.Test.YtlmdgmgbijfaoaaPkTermPuts7
import Derived.Test.YtlmdgmgbijfaoaaPkTermPuts10
import Derived.Test.YtlmdgmgbijfaoaaPkTermPuts9
import Derived.Test.YtlmdgmgbijfaoaaPkTermPuts8
import Derived.Test.YtlmdgmgbijfaoaaPkTermPuts12
import Derived.Test.YtlmdgmgbijfaoaaPkTermPuts14
import Derived.Test.YtlmdgmgbijfaoaaPkTermPuts18
import Derived.Test.YtlmdgmgbijfaoaaPkTermPuts17
import Derived.Test.YtlmdgmgbijfaoaaPkTermPuts19
import Derived.Test.YtlmdgmgbijfaoaaPkTermPuts21
import Derived.Test.YtlmdgmgbijfaoaaPkTermPuts22
import Derived.BigFrame
import Derived.BigQuiet
import Derived.ChangeKeysEq
import Derived.ChangeMaps5
import Derived.ChangeOld
import Derived.Deep.Cut
import Derived.Deep.DrawnRows
import Derived.Deep.MidRow
import Derived.Deep.QuietTactic
import Derived.Deep.RegionHeld3
import Derived.Deep.RegionLaw
import Derived.Deep.Slices
import Derived.Deep.Strs
import Derived.Deep.Upon
import Derived.Deep.WholeRow
import Derived.DeepKeys4
import Derived.Great.BuildSlice
import Derived.Great.Walk
import Derived.Laws.BitsAllLaws
import Derived.Laws.BytesArg
import Derived.Laws.CopyOwn
import Derived.Laws.IdiomCopy
import Derived.Laws.Strings
import Derived.Laws.StructEq
import Derived.Lib.BufferRead
import Derived.Lib.Hide
import Derived.LoopIn
import Derived.LoopNIn
import Derived.MapViews
import Derived.Maps.AppendAt
import Derived.Maps.OwnSet
import Derived.Maps.Range
import Derived.Maps.Views
import Derived.OpenShut
import Derived.Orders
import Derived.OrdersIn
import Derived.OwnWalkIn
import Derived.ProofKit
import Derived.RangeFuncBound
import Derived.RangeFuncBox
import Derived.RangeFuncCalls
import Derived.RangeFuncFrom
import Derived.RangeFuncLeaves
import Derived.RangeFuncNested
import Derived.Shelf.Abstract
import Derived.Shelf.RegionOpen
import Derived.ShutString
import Derived.StillTactics
import Derived.StillTailTactics
import Derived.TacticsInMore
import Derived.Test.YtlmdgmgbijfaoaaArr
import Derived.Test.YtlmdgmgbijfaoaaFlow
import Derived.Test.YtlmdgmgbijfaoaaKit
import Derived.Test.YtlmdgmgbijfaoaaOpen
import Derived.Test.YtlmdgmgbijfaoaaOpenT
import Derived.Test.YtlmdgmgbijfaoaaRows
import Derived.Test.YtlmdgmgbijfaoaaTxt
import Derived.WalkKit
import Derived.WalkLawsBesides
import Derived.WalkSmall
import Derived.WalkSpells
set_option linter.unusedVariables false
set_option linter.unusedSimpArgs false
set_option maxRecDepth 100000
set_option maxHeartbeats 6400000
namespace Go.Bas
open Go.RowKit
def stp (L:List TDo) (k:Nat):TS:=(L.take k).foldl TS.step ⟨[], []⟩
theorem stp_succ {L:List TDo} {k:Nat} {d:TDo} (h:L[k]? =some d):stp L (k+1)=(stp L k).step d:=by
 unfold stp
 rw [List.take_add_one,h,List.foldl_append]
 rfl
theorem stp_len (L:List TDo) (k:Nat):(stp L k).l.length≤k∧(stp L k).tx.length≤k:=by
 induction k with
 | zero=> exact ⟨Nat.le_refl _,Nat.le_refl _⟩
 | succ k ih=>
  by_cases h:k<L.length
  ·rw [stp_succ (List.getElem?_eq_getElem h)]
   have:=step_len (stp L k) L[k]
   omega
  ·have:stp L (k+1)=stp L k:=by unfold stp;rw [List.take_of_length_le (by omega),List.take_of_length_le (by omega)]
   rw [this];omega
section
variable {P : Program} {ops : Array Oper} {Q : Exit → Act → World → Prop}
theorem run_pick_f {o:Oper} {a:Act} {w:World} {c x y:Operand} {v:Value} (ho:o.op=.pick c x y) (hc:a.eval c=.bool false) (hv:a.eval y=v):(execOp a.eval o).run P w=.ok (.value v) w:=by rw [run_pick ho hc,hv];rfl
theorem run_pick_t {o:Oper} {a:Act} {w:World} {c x y:Operand} {v:Value} (ho:o.op=.pick c x y) (hc:a.eval c=.bool true) (hv:a.eval x=v):(execOp a.eval o).run P w=.ok (.value v) w:=by rw [run_pick ho hc,hv];rfl
theorem KeepsOthers.of_belowT {W W':World} (h:Below W.heap.size W W'):KeepsOthers W W':=.of_grownBy (row:=none) ⟨h.os,h.tape,h.output,h.size,fun k hk _=> h.block k hk⟩ (fun j o e=> by cases e)
theorem run_neq_boolT {a:Act} {w:World} {o:Oper} {T U:TypeId} {x y:Operand} {p q:Bool} (ho:o.op=.binOp .neq T x y U) (hx:a.eval x=.bool p) (hy:a.eval y=.bool q) (hu:P.underlying T=some .bool):
  (execOp a.eval o).run P w=.ok (.value (.bool (p !=q))) w:=by
 unfold execOp
 simp only [ho,hx,hy]
 simp [go_sem,hu]
 cases p<;> cases q<;> rfl
theorem tl_val {o:Oper} {rest:List Oper} {a:Act} {w:World} {v:Value} (hg:o.guard=none) (hr:(execOp a.eval o).run P w=.ok (.value v) w) (h:tl P ops Q rest (a.put o.dst v) w):tl P ops Q (o::rest) a w:=by
 refine tl_step hg ?_
 unfold Oper.wp
 rw [hr]
 exact h
end
end Go.Bas
namespace Go.Proofs.Ytlmdgmgbijfaoaa
open Go.RowKit Go.Bas Go.ChangeShapes Go.Maps
attribute [local go_sem ↓] Go.wp_at_zero Go.wp_at_succ
attribute [local go_sem] Oper.semAt_some
theorem rEmpty {B:Nat} {w:World} (hB:B≤w.heap.size):RsA B (w.alloc (.cells #[.slice none 0 0,.slice none 0 0] 95)) w.heap.size (RF w.heap.size (.slice none 0 0) (.slice none 0 0)) ⟨[], []⟩:=
 ⟨.slice none 0 0,.slice none 0 0,fun _=> .slice none 0 0,⟨⟨_,heap_alloc_new w _,rfl⟩,cell_of_row _ _ 0 _ _ (0,0) (heap_alloc_new w _),cell_of_row _ _ 1 _ _ (0,0) (heap_alloc_new w _),OwM.nil _ _ _ _,OwM.nil _ _ _ _,fun j b hj=> (by simp at hj),fun j b hj=> (by simp at hj),hB,fun b hb=> (by cases hb),fun b hb=> (by cases hb),fun t ht=> (by cases ht),fun b hb=> (by cases hb)⟩,fun b=> Iff.rfl⟩
theorem laterT {B:Nat} {w w1 w2:World} (hB:B=w.heap.size) (h:Below B w w1) (h2:Below w1.heap.size w1 w2):Below B w w2:=h.trans (h2.mono (hB▸h.size))
theorem boxed_below {W W':World} {b:Nat} {t:TypeId} {v:Value} (h:Boxed W b t v) (hb:Below W.heap.size W W'):Boxed W' b t v:=(hb.block b h.lt).trans h
theorem boxed_chg {F:Nat→Prop} {W W':World} {b:Nat} {t:TypeId} {v:Value} (h:Boxed W b t v) (hc:Chg F W W') (hn:¬ F b):Boxed W' b t v:=(hc.block b h.lt hn).trans h
theorem tdos_below {w w':World} {v:Value} {L:List TDo} (h:TDos w v L) (hb:Below w.heap.size w w'):TDos w' v L:=by
 obtain ⟨q,h1,h2⟩:=h
 exact ⟨q,h1.below hb,fun j d hd=> (h2 j d hd).below hb⟩
theorem chg_own {β:Type} {F:Nat→Prop} {w7:World} {B:Nat} (hB:w7.heap.size≤B):OwnFrom B (fun (_:β) W=> Chg F w7 W):=fun _ W W' _ hs hg hr=>
 hs.trans (Chg.of_grown (F:=fun b=> B≤b) hg fun r e=> (hr r e).1) fun b hb h=> by have:B≤b:=h;omega
def AllI (T:TypeId) (w7:World) (bn B:Nat) (pre:List Nat) (W:World):Prop:=Chg (fun b=> b=bn) w7 W∧Boxed W B T (.bool false)∧Arr .i64 W bn 1 (fun _=> (pre.length:Int))
theorem allI_own {T:TypeId} {w7:World} {bn B:Nat}:OwnFrom w7.heap.size (fun (pre:List Nat) W=> AllI T w7 bn B pre W):=(chg_own (Nat.le_refl _)).and ((boxed_own _ _ fun _=> _).from _ |>.and ((arr_own bn _ _ _).from _))
theorem TwoT.le {B:Nat} {w:World} {p q:Nat} {S:TS} {G:Nat→Prop} (h:TwoT B w p q S G):B≤w.heap.size:=by
 obtain ⟨F1,F2,h1,_⟩:=h
 have h1':=h1
 obtain ⟨mb,mt,vl,vb,tv,h2,_,h3⟩:=h1'
 have hp:=(h3 p).2 (.inl rfl)
 have:=h1.hi hp
 have:=h1.lt hp
 omega
theorem sizeA_at {S:TS} {j:Nat} (h:j<S.l.length):sizeA S (j:Int)=szT S.l j:=by
 unfold sizeA
 rw [if_pos (hasT_iff.2 ⟨j,rfl,_,List.getElem?_eq_getElem h,.inl rfl⟩),Int.toNat_natCast]
theorem termPuts_law (w:World) (v:Value) (L:List TDo) (hd:TDos w v L) (hok:∀(j:Nat) (d:TDo),L[j]? =some d→okD d):
  Calls Try.prog 11 #[v] w fun e w'=> e=.returned (.bool true)∧Below w.heap.size w w':=by
 obtain ⟨m,hm⟩:∃m,m=L.length:=⟨_,rfl⟩
 have HM:=Lib.hid hm
 have HTD:=Lib.hid hd
 obtain ⟨q,hq,hrow⟩:=hd
 rw [←hm] at hq
 obtain ⟨av,cv,rfl,hcv,hcv2,hcell⟩:=hq
 have HRW:=Lib.hid hrow
 have HC:=Lib.hid hcell
 have HOK:=Lib.hid hok
 clear hcell hrow hok hm
 obtain ⟨B,hB⟩:∃x,x=w.heap.size:=⟨_,rfl⟩
 have HB:=Lib.hid hB
 rw [←hB]
 clear hB
 refine (callsIn_wide (n:=9)).1 ?_
 refine callsIn_of_wp_marks Try.func11 rfl trivial ?_ rfl
 simp only [Try.ntmps11,List.size_toArray,List.length_cons,List.length_nil,Nat.reduceAdd,Nat.reduceSub,Array.replicate_succ,Array.replicate_zero,List.push_toArray,List.append_toArray,List.nil_append,List.cons_append]
 refine wpIn_wide.2 ?_
 go_upto_region 1 with (fail)
 refine wp_world (fun w1=> Boxed w1 w.heap.size 4 (.bool false)∧Below B w w1) ⟨Boxed.new w _ _,(Below.refl _ _).alloc (Nat.le_of_eq HB.out) _⟩ ?_
 rintro w1 ⟨x1,b1⟩
 rw [←HB.out] at x1 ⊢
 have X1:=Lib.hid x1
 have B1:=Lib.hid b1
 clear x1 b1
 go_wp2_with fail
 refine (awake14 w1).mono ?_
 rintro e w2 ⟨rfl,b2⟩
 have B2:=Lib.hid (laterT HB.out B1.out b2)
 have X2:=Lib.hid (boxed_below X1.out b2)
 clear b2
 go_wp2_with fail
 refine (few14 _ L w2 (tdos_below HTD.out (HB.out▸B2.out))).mono ?_
 rintro e w3 ⟨r,rfl,hr,b3⟩
 have B3:=Lib.hid (laterT HB.out B2.out b3)
 have X3:=Lib.hid (boxed_below X2.out b3)
 have HFW:=Lib.hid hr
 clear b3 hr
 cases r with
 | false=>
  have c2:=X3.out.cell
  have f2:=X3.out.frozen
  have e2:=(X3.out.set (.bool true)).cell
  have HB9:Hid (Below B w (w3.setCell ⟨B,0,none⟩ (.bool true))):=Lib.hid (B3.out.setCell (Nat.le_refl _) _)
  go_wp2
  exact ⟨.bool true,by simp [results,Try.results11,go_sem,e2],rfl,HB9.out⟩
 | true=>
  have HFEW:=Lib.hid (HFW.out rfl)
  go_wp2_with fail
  refine (tNew_any w3).mono ?_
  rintro e w4 ⟨p,F,rfl,h4,b4⟩
  have B4:=Lib.hid (laterT HB.out B3.out b4)
  have X4:=Lib.hid (boxed_below X3.out b4)
  have H4:=Lib.hid h4
  clear h4 b4
  obtain ⟨N,hN⟩:∃N,N=w3.heap.size:=⟨_,rfl⟩
  rw [←hN] at H4
  have HN:Hid (B<N):=Lib.hid (hN▸X3.out.lt)
  have HN4:Hid (N≤w4.heap.size):=Lib.hid (Nat.le_trans (H4.out.hi (b:=p) (by obtain ⟨_,_,_,_,_,_,_,h⟩:=H4.out;exact (h p).2 (.inl rfl))) (Nat.le_of_lt (H4.out.lt (b:=p) (by obtain ⟨_,_,_,_,_,_,_,h⟩:=H4.out;exact (h p).2 (.inl rfl)))))
  clear hN
  go_upto_region 6 with (fail)
  refine wp_world (fun w5=> TwoT N w5 p w4.heap.size (stp L 0) (fun b=> F b∨RF w4.heap.size (.slice none 0 0) (.slice none 0 0) b)∧Boxed w5 (w4.heap.size+1) 92 (.pointer (some ⟨w4.heap.size,0,none⟩))∧Boxed w5 B 4 (.bool false)∧Below B w w5) ⟨⟨F,RF w4.heap.size (.slice none 0 0) (.slice none 0 0),(H4.out.below' (((Below.refl _ _).alloc (Nat.le_refl _) _).alloc (by simp) _)),(rEmpty HN4.out).below ((Below.refl _ _).alloc (Nat.le_refl _) _),fun b hb hr=> ?_,fun b=> Iff.rfl⟩,?_,(X4.out.alloc _).alloc _,(B4.out.alloc (Nat.le_trans (Nat.le_of_lt HN.out) HN4.out) _).alloc (by have:=HN.out;have:=HN4.out;simp;omega) _⟩ ?_
  ·have:=H4.out.lt hb
   rcases hr with rfl | hr | hr
   ·omega
   ·cases hr
   ·cases hr
  ·have:=Boxed.new (w4.alloc (.cells #[.slice none 0 0,.slice none 0 0] 95)) 92 (.pointer (some ⟨w4.heap.size,0,none⟩))
   rwa [World.size_alloc] at this
  rintro w5 ⟨t5,y5,x5,b5⟩
  obtain ⟨y,hy⟩:∃y,y=w4.heap.size:=⟨_,rfl⟩
  rw [←hy] at t5 y5 ⊢
  have T5:=Lib.hid t5
  have Y5:=Lib.hid y5
  have X5:=Lib.hid x5
  have B5:=Lib.hid b5
  have HNG:Hid (¬ (F (y+1)∨RF y (.slice none 0 0) (.slice none 0 0) (y+1))):=Lib.hid (fun h=> by
   rcases h with h | h | h | h
   ·have:=H4.out.lt h;omega
   ·omega
   ·cases h
   ·cases h)
  clear t5 y5 x5 b5 hy
  go_wp2
  go_loopw [29] (fun i wr=> ∃k:Nat,k≤m∧i=.int .i64 k∧Below B w wr∧Boxed wr B 4 (.bool false)∧Boxed wr (y+1) 92 (.pointer (some ⟨y,0,none⟩))∧∃G,TwoT N wr p y (stp L k) G∧¬ G (y+1)) (fun i _=> m - (intOf i).toNat)
  case atStart=> exact ⟨0,Nat.zero_le _,rfl,B5.out,X5.out,Y5.out,_,T5.out,HNG.out⟩
  case round=>
   obtain ⟨k,hk,rfl,hBe,hX,hY,G,hT,hNG⟩:=hrel
   have HBe:=Lib.hid hBe
   have HX:=Lib.hid hX
   have HY:=Lib.hid hY
   have HT:=Lib.hid hT
   have HNGk:=Lib.hid hNG
   clear hBe hX hY hT hNG
   by_cases hlt:k<m
   ·obtain ⟨bb,o,rfl,hbl,hcc⟩:=HC.out (by omega)
    have HCL:Hid (∀i,i<6→wr.cell? ⟨bb,o+k * 6+i,none⟩=some (q k i)):=fun i hi=> (HBe.out.cell (p:=⟨bb,o+k * 6+i,none⟩) (HB.out▸hbl)).trans (hcc k hlt i hi)
    obtain ⟨d,hd⟩:∃d,L[k]? =some d:=⟨_,List.getElem?_eq_getElem (by rw [←HM.out];exact hlt)⟩
    have HRD:=Lib.hid ((HRW.out k d hd).below (HB.out▸HBe.out))
    have HOC:Hid (∀i,i<6→(q k i).oneCell'=true):=Lib.hid HRD.out.one
    have HDK:=Lib.hid hd
    clear hcc hd hbl
    go_upto_region 9 with (first | (refine load_row rfl rfl rfl Try.underlying99 rfl Try.sizeD14 HCL.out ?_) | (refine store_rowV rfl 99 _ _ rfl wr.heap.size 6 (q k) _ 99 (heap_alloc_new _ _) rfl Try.sizeD14 rfl rfl HOC.out ?_))
    refine wp_world (fun w6=> RowN w6 wr.heap.size 6 99 (q k)∧Below wr.heap.size wr w6) ⟨RowN.setRow (heap_alloc_new _ _),below_setRow' ((Below.refl _ _).alloc (Nat.le_refl _) _) (Nat.le_refl _) _⟩ ?_
    rintro w6 ⟨hr6,hb6⟩
    have R6:=Lib.hid hr6
    have B6:=Lib.hid (laterT HB.out HBe.out hb6)
    have X6:=Lib.hid (boxed_below HX.out hb6)
    have Y6:=Lib.hid (boxed_below HY.out hb6)
    have T6:=Lib.hid (HT.out.below hb6)
    have D6:=Lib.hid (HRD.out.below hb6)
    have HNX:Hid (¬ G wr.heap.size):=Lib.hid fun h=> by have:=HT.out.lt h;omega
    clear hr6 hb6
    obtain ⟨len,hlen⟩:∃n,n=(stp L (k+1)).l.length:=⟨_,rfl⟩
    have HLEN:=Lib.hid hlen
    clear hlen
    go_upto_region 9 with (fail)
    refine region_call2 (n:=171) 3 (by kernel_rfl) (by kernel_rfl) (by kernel_rfl) (by kernel_rfl) (by kernel_rfl) rfl
     (fun ii vv=> (match ii with | 0 | 6=> vv=.pointer (some ⟨p,0,none⟩) | 1 | 8 | 9 | 10=> vv=.pointer (some ⟨y,0,none⟩) | 2=> vv=.agg (rowV 6 (q k)) | 3=> vv=.bool true | 7 | 12=> vv=.int .i64 (len:Int) | 11=> ∃a c,vv=.slice a len c | _=> vv=.bool false))
     (fun w'=> TwoT N w' p y (stp L k) G∧Boxed w' (y+1) 92 (.pointer (some ⟨y,0,none⟩))∧Boxed w' B 4 (.bool false)∧RowN w' wr.heap.size 6 99 (q k)∧RowD w' (q k) d∧Below B w w')
     (fun w'=> (∃G',TwoT N w' p y (stp L (k+1)) G'∧¬ G' (y+1))∧Boxed w' (y+1) 92 (.pointer (some ⟨y,0,none⟩))∧Boxed w' B 4 (.bool false)∧Below B w w')
     ⟨T6.out,Y6.out,X6.out,R6.out,D6.out,B6.out⟩ ?p1 ?ps ?qs ?flow ?fin
    case p1=> exact ⟨T6.out.below (Below.refl _ _).drew,Y6.out,X6.out,R6.out.below (Below.refl _ _).drew,D6.out.below (Below.refl _ _).drew,B6.out.drew⟩
    case ps=>
     rintro w7 w8 ⟨h1,h2,h3,h4,h5,h6⟩ hb
     exact ⟨h1.below hb,boxed_below h2 hb,boxed_below h3 hb,h4.below hb,h5.below hb,laterT HB.out h6 hb⟩
    case qs=>
     rintro w7 w8 ⟨⟨G',h1,h0⟩,h2,h3,h6⟩ hb
     exact ⟨⟨G',h1.below hb,h0⟩,boxed_below h2 hb,boxed_below h3 hb,laterT HB.out h6 hb⟩
    case flow=>
     refine Each.all ?_
     refine ⟨?_,?_,?_,?_,?_,?_,?_,?_,?_,?_,?_,?_,?_,?_,?_,trivial⟩
     ·intro a w7 hpre hpost hF hd
      rw [if_pos (wanted_none rfl)]
      exact flow_move _ (.inl rfl) (by simp) (hF.same 3 rfl)
     ·intro a w7 hpre hpost hF hd
      rw [if_pos (wanted_none rfl)]
      exact flow_val (fun h=> by cases h) (run_load_pt rfl (hF.same 4 rfl) Try.underlying92 (hpre (.inr (by kernel_rfl))).2.1.cell) rfl
     ·intro a w7 hpre hpost hF hd
      rw [if_pos (wanted_none rfl)]
      exact flow_val (fun h=> by cases h) (run_load_row rfl (hF.same 6 rfl) Try.underlying99 rfl Try.sizeD14 (fun i hi=> by rw [Nat.zero_add];exact (hpre (.inr (by kernel_rfl))).2.2.2.1.2 i hi)) rfl
     ·intro a w7 hpre hpost hF hd
      rw [if_pos (wanted_none rfl)]
      obtain ⟨h1,h2,h3,h4,h5,h6⟩:=hpre (.inl rfl)
      unfold Oper.wp
      have e0:a.eval (.tmp 33)=.pointer (some ⟨p,0,none⟩):=hd 0 _ rfl rfl
      have e1:a.eval (.tmp 34)=.pointer (some ⟨y,0,none⟩):=hd 1 _ rfl rfl
      have e2:a.eval (.tmp 35)=.agg (rowV 6 (q k)):=hd 2 _ rfl rfl
      rw [run_call_func rfl Try.call55,args3 e0 e1 e2]
      refine (one14_any h1 h1.le d (HOK.out k d HDK.out) (HFEW.out.2 k d HDK.out) (q k) h5 (fun h0 c hc=> ?_) (by have:=stp_len L k;have:=HFEW.out.1;have:=HM.out;omega) (by have:=stp_len L k;have:=HFEW.out.1;have:=HM.out;omega)).mono ?_
      ·obtain ⟨a',c',e',_,_,_,h4'⟩:=(HRW.out k d HDK.out).z5
       obtain ⟨b',o',rfl,hlt',_⟩:=h4' h0
       rw [e'] at hc
       cases hc
       have hB1:=HB.out
       have hN1:=HN.out
       exact Nat.lt_trans (hB1▸hlt') hN1
      ·rintro e w8 ⟨rfl,G',g1,g2,g3⟩
       refine ⟨_,rfl,fun h=> absurd h (by simp),rfl,?_⟩
       have hle:=h1.le
       have hN:=HN.out
       have hB:=HB.out
       refine ⟨⟨G',(stp_succ HDK.out).symm▸g1,fun hh=> (g3 _ hh).elim HNGk.out fun h=> by have:=h2.lt;omega⟩,boxed_chg h2 g2 HNGk.out,boxed_chg h3 g2 fun hh=> by have:=h1.hi hh;omega,h6.trans (g2.below (by omega) fun b hb=> by have:=h1.hi hb;omega)⟩
     ·intro a w7 hpre hpost hF hd
      rw [if_pos (wanted_none rfl)]
      exact flow_val (fun h=> by cases h) (run_not rfl (hd 3 _ rfl rfl)) rfl
     ·intro a w7 hpre hpost hF hd
      rw [if_pos (wanted_none rfl)]
      exact flow_move _ (.inl rfl) (by simp) (hd 4 _ rfl rfl)
     ·intro a w7 hpre hpost hF hd
      rw [if_pos (wanted_yes (j:=5) rfl rfl (hd 5 _ rfl rfl) rfl)]
      exact flow_move _ (.inl rfl) (by simp) (hF.same 3 rfl)
     ·intro a w7 hpre hpost hF hd
      rw [if_pos (wanted_yes (j:=5) rfl rfl (hd 5 _ rfl rfl) rfl)]
      obtain ⟨⟨G',⟨F1,F2,s1,s2,_⟩,_⟩,_⟩:=hpost (by kernel_rfl)
      refine flow_call _ _ _ rfl Try.call56 _ (args1 (hd 6 _ rfl rfl)) (by simp) ((sLen_any s1).mono ?_)
      rintro e w8 ⟨rfl,rfl⟩
      exact ⟨_,rfl,congrArg (fun n:Nat=> Value.int .i64 (n:Int)) HLEN.out.symm,Below.refl _ _⟩
     ·intro a w7 hpre hpost hF hd
      rw [if_pos (wanted_yes (j:=5) rfl rfl (hd 5 _ rfl rfl) rfl)]
      exact flow_val (fun h=> by cases h) (run_load_pt rfl (hF.same 4 rfl) Try.underlying92 (hpost (by kernel_rfl)).2.1.cell) rfl
     ·intro a w7 hpre hpost hF hd
      rw [if_pos (wanted_yes (j:=5) rfl rfl (hd 5 _ rfl rfl) rfl)]
      exact flow_val (fun h=> by cases h) (run_nilCheck rfl (hd 8 _ rfl rfl)) rfl
     ·intro a w7 hpre hpost hF hd
      rw [if_pos (wanted_yes (j:=5) rfl rfl (hd 5 _ rfl rfl) rfl)]
      refine flow_val (fun h=> by cases h) (run_field_at (m:=0) (k:=0) rfl (hd 9 _ rfl rfl) (by kernel_rfl)) ?_
      exact rfl
     ·intro a w7 hpre hpost hF hd
      rw [if_pos (wanted_yes (j:=5) rfl rfl (hd 5 _ rfl rfl) rfl)]
      obtain ⟨⟨G',⟨F1,F2,s1,⟨vl,vb,tv,s2,_⟩,_⟩,_⟩,_⟩:=hpost (by kernel_rfl)
      obtain ⟨al,cl,el,_⟩:=s2.ls.slice
      exact flow_val (fun h=> by cases h) (run_load_slice rfl (hd 10 _ rfl rfl) Try.underlying93 s2.c0) ⟨al,cl,by rw [el,HLEN.out]⟩
     ·intro a w7 hpre hpost hF hd
      rw [if_pos (wanted_yes (j:=5) rfl rfl (hd 5 _ rfl rfl) rfl)]
      obtain ⟨al,cl,el⟩:=hd 11 _ rfl rfl
      exact flow_val (fun h=> by cases h) (run_len_sl rfl el Try.underlying93) rfl
     ·intro a w7 hpre hpost hF hd
      rw [if_pos (wanted_yes (j:=5) rfl rfl (hd 5 _ rfl rfl) rfl)]
      exact flow_val (fun h=> by cases h) (run_neq_int rfl (hd 7 _ rfl rfl) (hd 12 _ rfl rfl)) (by simp)
     ·intro a w7 hpre hpost hF hd
      rw [if_pos (wanted_none rfl)]
      exact flow_val (fun h=> by cases h) (run_pick rfl (hd 5 _ rfl rfl)) (hd 13 _ rfl rfl)
    case fin=>
     rintro a w7 ⟨⟨G',h1,h0⟩,h2,h3,h6⟩ hF hS
     obtain ⟨al,cl,el⟩:=hS 11 _ rfl
     have ha:=puts_each rfl rfl hF [_,_,_,_,_,_,_,_,_,_,_,_,_,_,_] rfl ⟨hS 0 _ rfl,hS 1 _ rfl,hS 2 _ rfl,hS 3 _ rfl,hS 4 _ rfl,hS 5 _ rfl,hS 6 _ rfl,hS 7 _ rfl,hS 8 _ rfl,hS 9 _ rfl,hS 10 _ rfl,el,hS 12 _ rfl,hS 13 _ rfl,hS 14 _ rfl,trivial⟩
     simp only [puts,Act.put,List.setIfInBounds_toArray,List.set_cons_succ,List.set_cons_zero] at ha
     subst ha
     have J1:=Lib.hid h1
     have J0:=Lib.hid h0
     have J2:=Lib.hid h2
     have J3:=Lib.hid h3
     have J6:=Lib.hid h6
     clear hS hF el h1 h0 h2 h3 h6
     go_wp2
     go_roundw
     case rel=> exact ⟨k+1,by omega,by go_num,J6.out,J3.out,J2.out,G',J1.out,J0.out⟩
     case measure=> simp [intOf];omega
   ·obtain rfl:k=m:=by omega
    clear hlt
    obtain ⟨S,hS⟩:∃S,S=stp L k:=⟨_,rfl⟩
    rw [←hS] at HT
    have HSL:Hid (S.l.length≤30∧S.tx.length≤30):=Lib.hid (by have h1:=stp_len L k;rw [←hS] at h1;have:=HFEW.out.1;have:=HM.out;omega)
    clear hS
    have HNR:Hid (N≤wr.heap.size):=Lib.hid HT.out.le
    go_upto_region 13 with (fail)
    refine wp_world (fun w6=> Arr .i64 w6 wr.heap.size 1 (fun _=> 0)∧Below wr.heap.size wr w6∧w6.heap.size=wr.heap.size+1) ⟨Arr.newAt rfl rfl,(Below.refl _ _).alloc (Nat.le_refl _) _,by simp⟩ ?_
    rintro w6 ⟨hn6,hb6,hs6⟩
    obtain ⟨bn,hbn⟩:∃b,b=wr.heap.size:=⟨_,rfl⟩
    rw [←hbn] at hn6 hs6 ⊢
    have HBN:=Lib.hid hbn
    have N6:=Lib.hid hn6
    have B6:=Lib.hid (laterT HB.out HBe.out hb6)
    have X6:=Lib.hid (boxed_below HX.out hb6)
    have Y6:=Lib.hid (boxed_below HY.out hb6)
    have T6:=Lib.hid (HT.out.below hb6)
    have HS6:=Lib.hid hs6
    clear hb6 hn6 hs6 hbn
    go_wp2_with fail
    refine (tAll_any w6 _ rfl).mono ?_
    rintro e w7 ⟨rfl,hx7,b7,hs7⟩
    obtain ⟨q2,hq2⟩:∃q,q=w6.heap.size:=⟨_,rfl⟩
    rw [←hq2] at hx7 hs7 ⊢
    have HQ2:=Lib.hid hq2
    have XQ:=Lib.hid hx7
    have HS7:=Lib.hid hs7
    have N7:=Lib.hid (N6.out.kept b7)
    have B7:=Lib.hid (laterT HB.out B6.out b7)
    have X7:=Lib.hid (boxed_below X6.out b7)
    have Y7:=Lib.hid (boxed_below Y6.out b7)
    have T7:=Lib.hid (T6.out.below b7)
    clear hx7 hs7 b7 hq2
    obtain ⟨F1,F2,hs1,hr1,hdj,hG⟩:=T7.out
    obtain ⟨mb,mt,vl,vb,tv,hts,hok,hF⟩:=hs1
    obtain ⟨vl2,vb2,tv2,hrs,hF2⟩:=hr1
    have TS7:=Lib.hid hts
    have RS7:=Lib.hid hrs
    have HOKS:=Lib.hid hok
    have HGL:Hid (∀b,TG p mb mt vl vb S.tx.length tv q2 b→b<w7.heap.size∧b≠bn∧b≠B):=Lib.hid fun b hb=> by
     have h1:=HBN.out
     have h2:=HS6.out
     have h3:=HS7.out
     have h4:=HQ2.out
     have h5:=HN.out
     have h6:=HX.out.lt
     rcases hb with hb | hb
     ·have h7:G b:=(hG b).2 (.inl ((hF b).2 hb))
      have h8:=HT.out.lt h7
      have h9:=HT.out.hi h7
      omega
     ·omega
    have HRL:Hid (∀b,RF y vl2 vb2 b→b<w7.heap.size∧b≠bn∧b≠B):=Lib.hid fun b hb=> by
     have h1:=HBN.out
     have h2:=HS6.out
     have h3:=HS7.out
     have h4:=HQ2.out
     have h5:=HN.out
     have h7:G b:=(hG b).2 (.inr ((hF2 b).2 hb))
     have h8:=HT.out.lt h7
     have h9:=HT.out.hi h7
     omega
    have HYL:Hid (y+1<w7.heap.size∧y+1≠bn):=Lib.hid (by
     have h1:=HBN.out
     have h2:=HS6.out
     have h3:=HS7.out
     have h4:=HQ2.out
     have h6:=HY.out.lt
     omega)
    have HXL:Hid (B<w7.heap.size∧B≠bn):=Lib.hid (by
     have h1:=HBN.out
     have h2:=HS6.out
     have h3:=HS7.out
     have h4:=HQ2.out
     have h6:=HX.out.lt
     omega)
    have HBNL:Hid (bn<w7.heap.size∧B<bn):=Lib.hid (by
     have h1:=HBN.out
     have h2:=HS6.out
     have h3:=HS7.out
     have h4:=HQ2.out
     have h6:=HX.out.lt
     omega)
    have hstop:=tAll_stops 8 (by decide) TS7.out q2 XQ.out (by have:=HSL.out.1;omega)
    clear hts hrs hok hF hF2 hdj hG
    go_wp2
    refine (wpIn_wide (n:=9)).1 ?_
    refine wpIn_rangeFunc_ownH (F:=Fence.wide) (n:=9) rfl (by decide) (gf:=107) rfl trivial (enters_of Try.func107 (by kernel_rfl) rfl) hstop (fun h k=> h.trans k) (keepF_b fun b hb=> (HGL.out b hb).1) (Below.refl _ _) (fun _=> rfl)
     (fun pre W=> AllI 4 w7 bn B pre W) (fun cd pre _=> pre.getLastD 0≠pre.length - 1∧cd=Code.ret) ?hI ?hIx ?h0 (fun x a' W=> ∃Bx,w7.heap.size≤Bx∧Arr .i64 W Bx 3 (tf (tmAt S.l x))∧a'={ tmps:=#[.slice av k cv,undef,.pointer (some ⟨B,0,none⟩),.pointer (some ⟨p,0,none⟩),.pointer (some ⟨y+1,0,none⟩),undef,u6,.pointer (some ⟨bn,0,none⟩),.int .i64 (x:Int),.pointer (some ⟨Bx,0,none⟩),undef,undef,undef,undef,undef,undef,undef,undef,undef,.bool true,.bool false,.slice av k cv,.bool true,.bool false,.pointer (some ⟨p,0,none⟩),.agg #[.slice none 0 0,.slice none 0 0],.pointer (some ⟨y,0,none⟩),.slice av k cv,.int .i64 (k:Int),.int .i64 (k:Int),.bool false,u31,u32,u33,u34,u35,u36,u37,u38,u39,u40,u41,u42,u43,u44,u45,u46,u47,u48,.pointer (some ⟨p,0,none⟩),.func (.func 107) #[] #[.pointer (some ⟨q2,0,none⟩)],.int .i64 (x:Int),tmV (tmAt S.l x),undef,undef,undef,undef,undef,undef,undef,undef,undef,undef,undef,undef,undef,undef,undef,undef,undef,undef,undef,undef,undef,undef,undef,undef,undef,undef,undef,undef,undef,undef,undef,undef,undef,undef,undef,undef,undef,undef,undef,undef,undef,undef,undef,undef,undef,undef,undef,undef,undef,undef,undef,undef,undef,undef,undef,undef,undef,undef,undef,undef,undef,undef,undef,undef,undef,undef,undef,undef,undef,undef,undef,undef,undef,undef,undef,undef,undef,undef,undef,undef,undef,undef,undef,undef,undef,undef,undef,undef,undef,undef,undef,undef,undef,undef,undef,undef,undef,undef,undef,undef,undef,undef,undef,undef,undef,undef,undef,undef,undef,undef,undef,undef,undef,undef,undef,undef,undef,undef],defers:= [] }) ?hAx ?assign ?body ?done ?stop
    case hI=> exact allI_own
    case hIx=> exact fun c=> ownFrom_pure _ _
    case h0=> exact ⟨Chg.refl _ _,X7.out,N7.out⟩
    case hAx=>
     rintro x a' s W W' row ⟨Bx,h1,h2,h3⟩ hg hr
     exact ⟨Bx,h1,(arr_own Bx .i64 3 fun _:Unit=> tf (tmAt S.l x)).from _ s W W' row h2 hg hr,h3⟩
    case assign=>
     intro l pre x W K hi hK
     gi_wp2
     exact hK _ _ ((KeepsOthers.alloc _ _).from _) (KeepF.ofBelow ((Below.refl _ W).alloc (Nat.le_refl _) _) fun b hb=> Nat.lt_of_lt_of_le (HGL.out b hb).1 hi.1.size) (allI_own.alloc _ hi) ⟨W.heap.size,hi.1.size,Arr.newAt rfl rfl,rfl⟩
    case body=>
     rintro l pre x a' W hl ⟨r,hr⟩ ⟨i1,i2,i3⟩ ⟨Bx,hBx,hX,rfl⟩ hlt
     have I1:=Lib.hid i1
     have I2:=Lib.hid i2
     have I3:=Lib.hid i3
     have HX9:=Lib.hid hX
     have HBX:=Lib.hid hBx
     have HLT:=Lib.hid hlt
     have cn:=i3.cell 0 (by decide)
     have fn:=i3.free 0
     have cB:=i2.cell
     have fB:=i2.frozen
     clear hl hr hlt i1 i2 i3 hX hBx hstop
     have HBNW:Hid (bn<W.heap.size):=Lib.hid (by have:=I1.out.size;have:=HBNL.out;omega)
     by_cases hxn:x=pre.length
     ·subst hxn
      obtain ⟨t,ht⟩:∃t,S.l[pre.length]? =some t:=⟨_,List.getElem?_eq_getElem HLT.out⟩
      have hT1:=tmAt_eq ht
      rw [hT1] at HX9 ⊢
      have hRW:=RS7.out.keep I1.out (fun b hb h=> (HRL.out b hb).2.1 h) (fun b hb=> by have h1:b=bn:=hb;have:=HBN.out;have:=HNR.out;omega)
      have c0:=hRW.c0
      have cY:=((boxed_chg Y7.out I1.out (fun h=> HYL.out.2 h)):Boxed W (y+1) _ _).cell
      obtain ⟨g,cap,ev,hrg,_,_,hc⟩:=hRW.ls.form (by have:=HLT.out;omega)
      rw [ev] at c0
      have HC:Hid (∀i,i<3→W.cell? ⟨g,pre.length * 3+i,none⟩=some (.int .i64 (tf t i))):=Lib.hid fun i hi=> (hc _ HLT.out i hi).trans (congrArg some (tmv_at ht))
      have HG:=Lib.hid hrg.lt
      have HYW:=Lib.hid (show y+1<W.heap.size from Nat.lt_of_lt_of_le HYL.out.1 I1.out.size)
      have hk9:(pre.length:Int)<(S.l.length:Int):=by have:=HLT.out;omega
      have HOT:=Lib.hid (hRW.okt t (List.mem_of_getElem? ht))
      have HE1:Hid (((pre.length:Int) !=(pre.length:Int))=false):=Lib.hid (by simp)
      have HE2:Hid (decide ((S.l.length:Int)≤(pre.length:Int))=false):=Lib.hid (decide_eq_false (by omega))
      clear hc hrg ev ht hT1
      gi_wp2_with (fail)
      refine region_tail_in (n:=171) (by kernel_rfl) 22 (by decide) (by kernel_rfl) (by kernel_rfl) (by kernel_rfl) (by kernel_rfl) rfl
       (fun ii vv _=> (match ii with | 0 | 1 | 4 | 18=> vv=.int .i64 ((pre.length:Int)) | 2 | 3 | 10 | 11 | 12 | 21=> vv=.bool false | 5 | 6 | 7 | 14 | 15 | 16=> vv=.pointer (some ⟨y,0,none⟩) | 8 | 17=> vv=.slice (some ⟨g,0,none⟩) S.l.length cap | 9=> vv=.int .i64 ((S.l.length:Int)) | 13 | 20=> vv=.agg (arr .i64 3 (tf t)) | 19=> vv=.pointer (some ⟨g,pre.length * 3,none⟩) | _=> True))
       (fun _ _ _ _ h _=> h) ?_ ?_
      ·refine Each.all ?_
       refine ⟨?_,?_,?_,?_,?_,?_,?_,?_,?_,?_,?_,?_,?_,?_,?_,?_,?_,?_,?_,?_,?_,?_,(fun h=> absurd h (by decide)),trivial⟩
       ·intro _ a w2 hB hF hd
        rw [if_pos (wanted_none rfl)]
        exact flow_move _ (.inl rfl) (by simp) (hF.same 8 rfl)
       ·intro _ a w2 hB hF hd
        rw [if_pos (wanted_none rfl)]
        exact flow_val (fun h=> by cases h) (run_load_cell rfl (hF.same 7 rfl) Try.underlying3 ((hB.cell (p:=⟨bn,0,none⟩) HBNW.out).trans cn)) rfl
       ·intro _ a w2 hB hF hd
        rw [if_pos (wanted_none rfl)]
        exact flow_val (fun h=> by cases h) (Go.Bas.run_neq_int rfl (hd 0 _ rfl (waits_spec rfl)) (hd 1 _ rfl (waits_spec rfl))) (congrArg Value.bool (HE1.out))
       ·intro _ a w2 hB hF hd
        rw [if_pos (wanted_none rfl)]
        exact flow_move _ (.inl rfl) (by simp) (hd 2 _ rfl (waits_spec rfl))
       ·intro _ a w2 hB hF hd
        refine flow_wanted (wanted_yes rfl rfl (hd 3 _ rfl (waits_spec rfl)) rfl) ?_
        exact flow_val (fun h=> by cases h) (run_load_cell rfl (hF.same 7 rfl) Try.underlying3 ((hB.cell (p:=⟨bn,0,none⟩) HBNW.out).trans cn)) rfl
       ·intro _ a w2 hB hF hd
        refine flow_wanted (wanted_yes rfl rfl (hd 3 _ rfl (waits_spec rfl)) rfl) ?_
        exact flow_val (fun h=> by cases h) (run_load_pt rfl (hF.same 4 rfl) Try.underlying92 ((hB.cell (p:=⟨y+1,0,none⟩) HYW.out).trans cY)) rfl
       ·intro _ a w2 hB hF hd
        refine flow_wanted (wanted_yes rfl rfl (hd 3 _ rfl (waits_spec rfl)) rfl) ?_
        exact flow_val (fun h=> by cases h) (run_nilCheck rfl (hd 5 _ rfl (waits_spec rfl))) rfl
       ·intro _ a w2 hB hF hd
        refine flow_wanted (wanted_yes rfl rfl (hd 3 _ rfl (waits_spec rfl)) rfl) ?_
        refine flow_val (fun h=> by cases h) (run_field_at (m:=0) (k:=0) rfl (hd 6 _ rfl (waits_spec rfl)) (by kernel_rfl)) ?_
        exact rfl
       ·intro _ a w2 hB hF hd
        refine flow_wanted (wanted_yes rfl rfl (hd 3 _ rfl (waits_spec rfl)) rfl) ?_
        exact flow_val (fun h=> by cases h) (run_load_slice rfl (hd 7 _ rfl (waits_spec rfl)) Try.underlying93 ((hB.cell (p:=⟨y,0,none⟩) hRW.row.lt).trans c0)) rfl
       ·intro _ a w2 hB hF hd
        refine flow_wanted (wanted_yes rfl rfl (hd 3 _ rfl (waits_spec rfl)) rfl) ?_
        exact flow_val (fun h=> by cases h) (run_len_sl rfl (hd 8 _ rfl (waits_spec rfl)) Try.underlying93) rfl
       ·intro _ a w2 hB hF hd
        refine flow_wanted (wanted_yes rfl rfl (hd 3 _ rfl (waits_spec rfl)) rfl) ?_
        exact flow_val (fun h=> by cases h) (Go.Bas.run_geq rfl (hd 4 _ rfl (waits_spec rfl)) (hd 9 _ rfl (waits_spec rfl))) (congrArg Value.bool (HE2.out))
       ·intro _ a w2 hB hF hd
        rw [if_pos (wanted_none rfl)]
        exact flow_val (fun h=> by cases h) (run_pick rfl (hd 3 _ rfl (waits_spec rfl))) ((hd 10 _ rfl (waits_spec rfl)))
       ·intro _ a w2 hB hF hd
        rw [if_pos (wanted_none rfl)]
        exact flow_move _ (.inl rfl) (by simp) (hd 11 _ rfl (waits_spec rfl))
       ·intro _ a w2 hB hF hd
        refine flow_wanted (wanted_yes rfl rfl (hd 12 _ rfl (waits_spec rfl)) rfl) ?_
        exact flow_val (fun h=> by cases h) (run_load_mid' rfl (hF.same 9 rfl) Try.underlying97 rfl Try.sizeTm (fun i hi=> (hB.cell (p:=⟨Bx,0+i,none⟩) HX9.out.lt).trans (by rw [Nat.zero_add];exact HX9.out.cell i hi))) rfl
       ·intro _ a w2 hB hF hd
        refine flow_wanted (wanted_yes rfl rfl (hd 12 _ rfl (waits_spec rfl)) rfl) ?_
        exact flow_val (fun h=> by cases h) (run_load_pt rfl (hF.same 4 rfl) Try.underlying92 ((hB.cell (p:=⟨y+1,0,none⟩) HYW.out).trans cY)) rfl
       ·intro _ a w2 hB hF hd
        refine flow_wanted (wanted_yes rfl rfl (hd 12 _ rfl (waits_spec rfl)) rfl) ?_
        exact flow_val (fun h=> by cases h) (run_nilCheck rfl (hd 14 _ rfl (waits_spec rfl))) rfl
       ·intro _ a w2 hB hF hd
        refine flow_wanted (wanted_yes rfl rfl (hd 12 _ rfl (waits_spec rfl)) rfl) ?_
        refine flow_val (fun h=> by cases h) (run_field_at (m:=0) (k:=0) rfl (hd 15 _ rfl (waits_spec rfl)) (by kernel_rfl)) ?_
        exact rfl
       ·intro _ a w2 hB hF hd
        refine flow_wanted (wanted_yes rfl rfl (hd 12 _ rfl (waits_spec rfl)) rfl) ?_
        exact flow_val (fun h=> by cases h) (run_load_slice rfl (hd 16 _ rfl (waits_spec rfl)) Try.underlying93 ((hB.cell (p:=⟨y,0,none⟩) hRW.row.lt).trans c0)) rfl
       ·intro _ a w2 hB hF hd
        refine flow_wanted (wanted_yes rfl rfl (hd 12 _ rfl (waits_spec rfl)) rfl) ?_
        exact flow_move _ (.inl rfl) (by simp) (hF.same 8 rfl)
       ·intro _ a w2 hB hF hd
        refine flow_wanted (wanted_yes rfl rfl (hd 12 _ rfl (waits_spec rfl)) rfl) ?_
        exact flow_val (fun h=> by cases h) (run_index_rows rfl (hd 17 _ rfl (waits_spec rfl)) (hd 18 _ rfl (waits_spec rfl)) Try.underlying93 Try.sizeTm HLT.out) rfl
       ·intro _ a w2 hB hF hd
        refine flow_wanted (wanted_yes rfl rfl (hd 12 _ rfl (waits_spec rfl)) rfl) ?_
        exact flow_val (fun h=> by cases h) (run_load_mid' rfl (hd 19 _ rfl (waits_spec rfl)) Try.underlying97 rfl Try.sizeTm (fun i hi=> (hB.cell (p:=⟨g,pre.length * 3+i,none⟩) HG.out).trans (HC.out i hi))) rfl
       ·intro _ a w2 hB hF hd
        refine flow_wanted (wanted_yes rfl rfl (hd 12 _ rfl (waits_spec rfl)) rfl) ?_
        exact flow_val (fun h=> by cases h) (run_neq_tm (t:=t) (u:=t) rfl (hd 13 _ rfl (waits_spec rfl)) (hd 20 _ rfl (waits_spec rfl)) HOT.out HOT.out) (congrArg Value.bool (show (!decide (t=t))=false by simp))
      ·intro a w8 hB hF hS
       have ha:=puts_each rfl rfl hF [_,_,_,_,_,_,_,_,_,_,_,_,_,_,_,_,_,_,_,_,_,_] rfl ⟨hS 0 _ rfl (by decide),hS 1 _ rfl (by decide),hS 2 _ rfl (by decide),hS 3 _ rfl (by decide),hS 4 _ rfl (by decide),hS 5 _ rfl (by decide),hS 6 _ rfl (by decide),hS 7 _ rfl (by decide),hS 8 _ rfl (by decide),hS 9 _ rfl (by decide),hS 10 _ rfl (by decide),hS 11 _ rfl (by decide),hS 12 _ rfl (by decide),hS 13 _ rfl (by decide),hS 14 _ rfl (by decide),hS 15 _ rfl (by decide),hS 16 _ rfl (by decide),hS 17 _ rfl (by decide),hS 18 _ rfl (by decide),hS 19 _ rfl (by decide),hS 20 _ rfl (by decide),hS 21 _ rfl (by decide),trivial⟩
       simp only [puts,List.take_succ_cons,List.take_zero,Act.put,List.setIfInBounds_toArray,List.set_cons_succ,List.set_cons_zero] at ha
       subst ha
       change tl _ _ _ (_:: []) _ _
       clear hS hF
       refine tl_val (v:=.bool false) rfl (run_pick_f rfl rfl rfl) (tl_nil ?_)
       clear hRW
       have cn9:w8.cell? ⟨bn,0,none⟩=some (.int .i64 (pre.length:Int)):=(hB.cell (p:=⟨bn,0,none⟩) HBNW.out).trans cn
       have I3':=Lib.hid (I3.out.kept hB)
       have fn9:=I3'.out.free 0
       have hk8:(pre.length:Int)<1000000:=by have:=HSL.out.1;have:=HLT.out;omega
       have HB8:=Lib.hid hB
       obtain ⟨n,hn⟩:∃n,n=pre.length:=⟨_,rfl⟩
       have HNL:=Lib.hid hn
       rw [←hn] at cn9 hk8 ⊢
       clear hB cn fn cB fB cY c0 hk9 hn
       simp only [Act.put,List.setIfInBounds_toArray,List.set_cons_succ,List.set_cons_zero]
       gi_wp2_with (fail)
       have h1:Chg (fun b=> b=bn) W (w8.setCell ⟨bn,0,none⟩ (.int .i64 ((n:Int)+1))):=(Chg.of_below HB8.out _).trans (Chg.set (fun b=> b=bn) _ ⟨bn,0,none⟩ _ rfl) (fun b _ h=> h)
       refine ⟨((KeepsOthers.of_belowT HB8.out).trans (KeepsOthers.setCell _ _ _)).from _,⟨h1.size,fun b hb=> h1.block b ?_ (HGL.out b hb).2.1⟩,I1.out.trans h1 fun b _ h=> h,?_,?_⟩
       ·have:=(HGL.out b hb).1
        have:=I1.out.size
        omega
       ·exact boxed_chg I2.out h1 HXL.out.2
       ·refine (I3'.out.set 0 _).congr fun i hi=> ?_
        unfold upd
        rw [if_pos (by omega),List.length_append,List.length_singleton,HNL.out]
        omega
     ·have hne:((x:Int) !=(pre.length:Int))=true:=by simpa using (show (x:Int)≠(pre.length:Int) by omega)
      have HNE:=Lib.hid hxn
      have HNEB:=Lib.hid hne
      clear hxn hne
      gi_wp2_with (fail)
      refine region_tail_in (n:=171) (by kernel_rfl) 22 (by decide) (by kernel_rfl) (by kernel_rfl) (by kernel_rfl) (by kernel_rfl) rfl
       (fun ii vv _=> (match ii with | 0=> vv=.int .i64 ((x:Int)) | 1=> vv=.int .i64 ((pre.length:Int)) | 2 | 3 | 11 | 12=> vv=.bool true | 4 | 5 | 6 | 7 | 8 | 9 | 10 | 13 | 14 | 15 | 16 | 17 | 18 | 19 | 20 | 21=> vv=undef | _=> True))
       (fun _ _ _ _ h _=> h) ?_ ?_
      ·refine Each.all ?_
       refine ⟨?_,?_,?_,?_,?_,?_,?_,?_,?_,?_,?_,?_,?_,?_,?_,?_,?_,?_,?_,?_,?_,?_,(fun h=> absurd h (by decide)),trivial⟩
       ·intro _ a w2 hB hF hd
        rw [if_pos (wanted_none rfl)]
        exact flow_move _ (.inl rfl) (by simp) (hF.same 8 rfl)
       ·intro _ a w2 hB hF hd
        rw [if_pos (wanted_none rfl)]
        exact flow_val (fun h=> by cases h) (run_load_cell rfl (hF.same 7 rfl) Try.underlying3 ((hB.cell (p:=⟨bn,0,none⟩) HBNW.out).trans cn)) rfl
       ·intro _ a w2 hB hF hd
        rw [if_pos (wanted_none rfl)]
        exact flow_val (fun h=> by cases h) (Go.Bas.run_neq_int rfl (hd 0 _ rfl (waits_spec rfl)) (hd 1 _ rfl (waits_spec rfl))) (congrArg Value.bool (HNEB.out))
       ·intro _ a w2 hB hF hd
        rw [if_pos (wanted_none rfl)]
        exact flow_move _ (.inl rfl) (by simp) (hd 2 _ rfl (waits_spec rfl))
       ·intro _ a w2 hB hF hd
        rw [if_neg (by rw [wanted_some rfl rfl (hd 3 _ rfl (waits_spec rfl))];decide)]
        exact rfl
       ·intro _ a w2 hB hF hd
        rw [if_neg (by rw [wanted_some rfl rfl (hd 3 _ rfl (waits_spec rfl))];decide)]
        exact rfl
       ·intro _ a w2 hB hF hd
        rw [if_neg (by rw [wanted_some rfl rfl (hd 3 _ rfl (waits_spec rfl))];decide)]
        exact rfl
       ·intro _ a w2 hB hF hd
        rw [if_neg (by rw [wanted_some rfl rfl (hd 3 _ rfl (waits_spec rfl))];decide)]
        exact rfl
       ·intro _ a w2 hB hF hd
        rw [if_neg (by rw [wanted_some rfl rfl (hd 3 _ rfl (waits_spec rfl))];decide)]
        exact rfl
       ·intro _ a w2 hB hF hd
        rw [if_neg (by rw [wanted_some rfl rfl (hd 3 _ rfl (waits_spec rfl))];decide)]
        exact rfl
       ·intro _ a w2 hB hF hd
        rw [if_neg (by rw [wanted_some rfl rfl (hd 3 _ rfl (waits_spec rfl))];decide)]
        exact rfl
       ·intro _ a w2 hB hF hd
        rw [if_pos (wanted_none rfl)]
        exact flow_val (fun h=> by cases h) (run_pick rfl (hd 3 _ rfl (waits_spec rfl))) (rfl)
       ·intro _ a w2 hB hF hd
        rw [if_pos (wanted_none rfl)]
        exact flow_move _ (.inl rfl) (by simp) (hd 11 _ rfl (waits_spec rfl))
       ·intro _ a w2 hB hF hd
        rw [if_neg (by rw [wanted_some rfl rfl (hd 12 _ rfl (waits_spec rfl))];decide)]
        exact rfl
       ·intro _ a w2 hB hF hd
        rw [if_neg (by rw [wanted_some rfl rfl (hd 12 _ rfl (waits_spec rfl))];decide)]
        exact rfl
       ·intro _ a w2 hB hF hd
        rw [if_neg (by rw [wanted_some rfl rfl (hd 12 _ rfl (waits_spec rfl))];decide)]
        exact rfl
       ·intro _ a w2 hB hF hd
        rw [if_neg (by rw [wanted_some rfl rfl (hd 12 _ rfl (waits_spec rfl))];decide)]
        exact rfl
       ·intro _ a w2 hB hF hd
        rw [if_neg (by rw [wanted_some rfl rfl (hd 12 _ rfl (waits_spec rfl))];decide)]
        exact rfl
       ·intro _ a w2 hB hF hd
        rw [if_neg (by rw [wanted_some rfl rfl (hd 12 _ rfl (waits_spec rfl))];decide)]
        exact rfl
       ·intro _ a w2 hB hF hd
        rw [if_neg (by rw [wanted_some rfl rfl (hd 12 _ rfl (waits_spec rfl))];decide)]
        exact rfl
       ·intro _ a w2 hB hF hd
        rw [if_neg (by rw [wanted_some rfl rfl (hd 12 _ rfl (waits_spec rfl))];decide)]
        exact rfl
       ·intro _ a w2 hB hF hd
        rw [if_neg (by rw [wanted_some rfl rfl (hd 12 _ rfl (waits_spec rfl))];decide)]
        exact rfl
      ·intro a w8 hB hF hS
       have ha:=puts_each rfl rfl hF [_,_,_,_,_,_,_,_,_,_,_,_,_,_,_,_,_,_,_,_,_,_] rfl ⟨hS 0 _ rfl (by decide),hS 1 _ rfl (by decide),hS 2 _ rfl (by decide),hS 3 _ rfl (by decide),hS 4 _ rfl (by decide),hS 5 _ rfl (by decide),hS 6 _ rfl (by decide),hS 7 _ rfl (by decide),hS 8 _ rfl (by decide),hS 9 _ rfl (by decide),hS 10 _ rfl (by decide),hS 11 _ rfl (by decide),hS 12 _ rfl (by decide),hS 13 _ rfl (by decide),hS 14 _ rfl (by decide),hS 15 _ rfl (by decide),hS 16 _ rfl (by decide),hS 17 _ rfl (by decide),hS 18 _ rfl (by decide),hS 19 _ rfl (by decide),hS 20 _ rfl (by decide),hS 21 _ rfl (by decide),trivial⟩
       simp only [puts,List.take_succ_cons,List.take_zero,Act.put,List.setIfInBounds_toArray,List.set_cons_succ,List.set_cons_zero] at ha
       subst ha
       change tl _ _ _ (_:: []) _ _
       clear hS hF
       refine tl_val (v:=.bool true) rfl (run_pick_t rfl rfl rfl) (tl_nil ?_)
       have cB9:w8.cell? ⟨B,0,none⟩=some (.bool false):=(hB.cell (p:=⟨B,0,none⟩) I2.out.lt).trans cB
       have fB9:=(boxed_below I2.out hB).frozen
       have HB8:=Lib.hid hB
       clear hB cn fn cB fB
       gi_wp2
       exact ⟨((KeepsOthers.of_belowT HB8.out).trans (KeepsOthers.setCell _ _ _)).from _,by rw [List.getLastD_concat,List.length_append,List.length_singleton,Nat.add_sub_cancel];exact HNE.out,rfl⟩
    case stop=>
     rintro D cd pre W hD ⟨k',hk,rfl⟩ ⟨hI,rfl⟩ hKD
     exfalso
     cases k' with
     | zero=> exact hI rfl
     | succ k'=> exact hI (by rw [List.range_succ,List.getLastD_concat,List.length_append,List.length_range,List.length_singleton,Nat.add_sub_cancel])
    case done=>
     rintro D ys W hD rfl ⟨i1,i2,i3⟩ hKD
     rw [List.length_range] at i3
     have I1:=Lib.hid i1
     have X8:=Lib.hid i2
     have N8:=Lib.hid i3
     have HKD:=Lib.hid hKD
     have HD:=Lib.hid hD
     have B8:Hid (Below B w W):=Lib.hid (B7.out.trans (i1.below (by have:=HXL.out.1;omega) fun b hb=> by have h1:b=bn:=hb;have:=HBNL.out.2;omega))
     have TS8:=Lib.hid (TS7.out.keep i1 fun b hb h=> (HGL.out b (.inl hb)).2.1 h)
     have RS8:=Lib.hid (RS7.out.keep i1 (fun b hb h=> (HRL.out b hb).2.1 h) (fun b hb=> by have h1:b=bn:=hb;have:=HBN.out;have:=HNR.out;omega))
     have Y8:Hid (Boxed W (y+1) 92 (.pointer (some ⟨y,0,none⟩))):=Lib.hid (boxed_chg Y7.out i1 (fun h=> HYL.out.2 h))
     have SS8:Hid (StA N W p (TF p mb mt vl vb S.tx.length tv) S):=Lib.hid ⟨mb,mt,vl,vb,tv,TS8.out,HOKS.out,fun b=> Iff.rfl⟩
     clear i1 i2 i3 hKD hD hstop
     have cy:=Y8.out.cell
     have c0:=RS8.out.c0
     obtain ⟨al,cl,el,_⟩:=RS8.out.ls.slice
     rw [el] at c0
     have EL:=Lib.hid el
     clear el
     go_wp2
     go_loopw [83] (fun i wq=> ∃j:Nat,j≤S.l.length∧i=.int .i64 j∧Below W.heap.size W wq) (fun i _=> S.l.length - (intOf i).toNat)
     case atStart=> exact ⟨0,Nat.zero_le _,rfl,Below.refl _ _⟩
     case round=>
      obtain ⟨j,hj,rfl,hbq⟩:=hrel
      have BQ:=Lib.hid hbq
      clear hbq cy c0
      by_cases hlt:j<S.l.length
      ·obtain ⟨t,ht⟩:∃t,S.l[j]? =some t:=⟨_,List.getElem?_eq_getElem hlt⟩
       have RSq:=RS8.out.below BQ.out
       obtain ⟨g,cap,ev,hrg,_,_,hc⟩:=RSq.ls.form (by omega)
       obtain ⟨rfl,rfl⟩:al=some ⟨g,0,none⟩∧cl=cap:=by
        have:=EL.out.symm.trans ev
        cases this
        exact ⟨rfl,rfl⟩
       have HC:Hid (∀i,i<3→wr.cell? ⟨g,j * 3+i,none⟩=some (.int .i64 (tf t i))):=Lib.hid fun i hi=> (hc _ hlt i hi).trans (congrArg some (tmv_at ht))
       have HLJ:=Lib.hid hlt
       have HTJ:=Lib.hid ht
       have HOT:=Lib.hid (RSq.okt t (List.mem_of_getElem? ht))
       have hj8:(j:Int)<1000000:=by have:=HSL.out.1;omega
       clear hc ht RSq ev hrg
       go_upto_region 22 with (first | (refine load_row rfl rfl rfl Try.underlying97 rfl Try.sizeTm HC.out ?_) | (refine store_rowV rfl 97 _ _ rfl wr.heap.size 3 (fun i=> .int .i64 (tf t i)) _ 97 (heap_alloc_new _ _) rfl Try.sizeTm rfl rfl (fun _ _=> rfl) ?_))
       have hN0:Arr .i64 (wr.alloc (.cells #[.int .i64 0,.int .i64 0,.int .i64 0] 97)) wr.heap.size 3 (fun _=> 0):=Arr.newAt rfl rfl
       refine wp_world (fun w1=> Arr .i64 w1 wr.heap.size 3 (tf t)∧Below wr.heap.size wr w1) ⟨hN0.setRow 3 (tf t),below_setRow' ((Below.refl _ _).alloc (Nat.le_refl _) _) (Nat.le_refl _) _⟩ ?_
       rintro wa ⟨ha1,hb1⟩
       obtain ⟨b11,hb11⟩:∃b,b=wr.heap.size:=⟨_,rfl⟩
       rw [←hb11] at ha1 hb1 ⊢
       have A1:=Lib.hid ha1
       have Ba:=Lib.hid (BQ.out.trans ((hb11▸hb1).mono BQ.out.size))
       clear ha1 hb1 hb11 hN0
       go_wp2_with fail
       refine (tGet_any (SS8.out.below' Ba.out) j).mono ?_
       rw [getA_yes HTJ.out]
       rintro e wb ⟨rfl,bb⟩
       have A1b:=Lib.hid (A1.out.kept bb)
       have Bb:=Lib.hid (Ba.out.trans (bb.mono Ba.out.size))
       clear bb
       go_upto_region 23 with (first | (refine store_rowV rfl 97 _ _ rfl wb.heap.size 3 (fun i=> .int .i64 (tf t i)) _ 97 (heap_alloc_new _ _) rfl Try.sizeTm rfl rfl (fun _ _=> rfl) ?_))
       obtain ⟨b12,hb12⟩:∃b,b=wb.heap.size:=⟨_,rfl⟩
       have hM0:Arr .i64 (wb.alloc (.cells #[.int .i64 0,.int .i64 0,.int .i64 0] 97)) wb.heap.size 3 (fun _=> 0):=Arr.newAt rfl rfl
       refine wp_world (fun w1=> Arr .i64 w1 wb.heap.size 3 (tf t)∧Below wb.heap.size wb w1) ⟨hM0.setRow 3 (tf t),below_setRow' ((Below.refl _ _).alloc (Nat.le_refl _) _) (Nat.le_refl _) _⟩ ?_
       rintro wc ⟨ha2,hb2⟩
       rw [←hb12] at ha2 hb2 ⊢
       have A2:=Lib.hid ha2
       have A1c:=Lib.hid (A1b.out.kept (hb12▸hb2))
       have Bc:=Lib.hid (Bb.out.trans ((hb12▸hb2).mono Bb.out.size))
       clear ha2 hb2 hb12 hM0
       go_wp2_with fail
       refine (sBytes_any (SS8.out.below' Bc.out) j (by have:=HSL.out.1;omega) (by have:=HSL.out.2;omega)).mono ?_
       rintro e wd ⟨v9,rfl,hv9,bd⟩
       have A1d:=Lib.hid (A1c.out.kept bd)
       have A2d:=Lib.hid (A2.out.kept bd)
       have Bd:=Lib.hid (Bc.out.trans (bd.mono Bc.out.size))
       clear bd
       by_cases hk9:t.1=9
       ·obtain ⟨a9,ha9,hax⟩:∃a:Nat,t.2.1=a∧a<S.tx.length:=by
         rcases HOKS.out.ok j t HTJ.out with ⟨h1,_⟩ | ⟨h1,_⟩ | ⟨h1,_⟩ | ⟨h1,_⟩ | ⟨h1,_⟩ | ⟨_,⟨a,h1,h2⟩,_⟩ | ⟨h1,_⟩
         ·omega
         ·omega
         ·omega
         ·omega
         ·omega
         ·exact ⟨a,h1,h2⟩
         ·omega
        obtain ⟨bl,hbl⟩:∃b,S.tx[a9]? =some b:=⟨_,List.getElem?_eq_getElem hax⟩
        have hby:bytA S (j:Int)=(bl,true):=by
         unfold bytA
         rw [if_pos (hasT_iff.2 ⟨j,rfl,t,HTJ.out,.inr hk9⟩),Int.toNat_natCast,tmAt_eq HTJ.out,ha9,Int.toNat_natCast,List.getD_eq_getElem?_getD,hbl]
         rfl
        rw [hby] at hv9 ⊢
        have RSd:=RS8.out.below Bd.out
        have VR:=Lib.hid hv9
        have WR:=Lib.hid (RSd.bt a9 bl hbl)
        obtain ⟨av9,cv9,rfl,_⟩:=hv9
        have ck:wd.cell? ⟨b11,0,none⟩=some (.int .i64 9):=(A1d.out.cell 0 (by decide)).trans (by rw [show tf t 0=t.1 from rfl,hk9])
        have HK9:Hid ((t.1==9)=true):=Lib.hid (by simpa using hk9)
        obtain ⟨g2,cap2,ev2,hrg2,_,_,hc2⟩:=RSd.bs.form (by omega)
        have HC2:Hid (wd.cell? ⟨g2,0+a9,none⟩=some (tv2 a9)):=Lib.hid (by have:=hc2 a9 hax 0 (by decide);rw [Nat.mul_one,Nat.add_zero] at this;rw [Nat.zero_add];exact this)
        have HG2:=Lib.hid hrg2.lt
        have C1d:Hid (wd.cell? ⟨y,1,none⟩=some (.slice (some ⟨g2,0,none⟩) S.tx.length cap2)):=Lib.hid (by rw [←ev2];exact RSd.c1)
        have HA9:=Lib.hid ha9
        have HAX:=Lib.hid hax
        have Yd:Hid (Boxed wd (y+1) 92 (.pointer (some ⟨y,0,none⟩))):=Lib.hid (boxed_below Y8.out Bd.out)
        have HYL2:=Lib.hid RSd.row.lt
        clear hby hk9 ha9 hax ev2 hrg2 hc2 RSd hbl
        go_upto_region 26 with (fail)
        refine region_flow (n:=171) (by kernel_rfl) (by kernel_rfl) (by kernel_rfl) rfl
         (fun ii vv _=> (match ii with | 0 | 1=> vv=.pointer (some ⟨y,0,none⟩) | 2=> vv=.pointer (some ⟨y,1,none⟩) | 3=> vv=.slice (some ⟨g2,0,none⟩) S.tx.length cap2 | 4=> vv=.pointer (some ⟨b11,1,none⟩) | 5=> vv=.int .i64 ((a9:Int)) | 6=> vv=.pointer (some ⟨g2,0+a9,none⟩) | 7 | 8=> vv=tv2 a9 | _=> True))
         (fun w w'=> Below w.heap.size w w') (fun _ _ h=> h) (fun _ _ _ _ h _=> h) ?_ ?_
        ·refine Each.all ?_
         refine ⟨?_,?_,?_,?_,?_,?_,?_,?_,?_,trivial⟩
         ·intro a w2 hB hF hd
          rw [if_pos (wanted_none rfl)]
          exact flow_val (fun h=> by cases h) (run_load_pt rfl (hF.same 4 rfl) Try.underlying92 ((hB.cell (p:=⟨y+1,0,none⟩) Yd.out.lt).trans Yd.out.cell)) rfl
         ·intro a w2 hB hF hd
          rw [if_pos (wanted_none rfl)]
          exact flow_val (fun h=> by cases h) (run_nilCheck rfl (hd 0 _ rfl (waits_spec rfl))) rfl
         ·intro a w2 hB hF hd
          rw [if_pos (wanted_none rfl)]
          refine flow_val (fun h=> by cases h) (run_field_at (m:=0) (k:=1) rfl (hd 1 _ rfl (waits_spec rfl)) (by kernel_rfl)) ?_
          exact rfl
         ·intro a w2 hB hF hd
          rw [if_pos (wanted_none rfl)]
          exact flow_val (fun h=> by cases h) (run_load_slice rfl (hd 2 _ rfl (waits_spec rfl)) Try.underlying35 ((hB.cell (p:=⟨y,1,none⟩) HYL2.out).trans C1d.out)) rfl
         ·intro a w2 hB hF hd
          rw [if_pos (wanted_none rfl)]
          refine flow_val (fun h=> by cases h) (run_field_at (m:=0) (k:=1) rfl (hF.same 11 rfl) (by kernel_rfl)) ?_
          exact rfl
         ·intro a w2 hB hF hd
          rw [if_pos (wanted_none rfl)]
          exact flow_val (fun h=> by cases h) (run_load_cell rfl (hd 4 _ rfl (waits_spec rfl)) Try.underlying3 ((hB.cell (p:=⟨b11,1,none⟩) A1d.out.lt).trans ((A1d.out.cell 1 (by decide)).trans (congrArg (fun x=> some (Value.int .i64 x)) HA9.out)))) rfl
         ·intro a w2 hB hF hd
          rw [if_pos (wanted_none rfl)]
          exact flow_val (fun h=> by cases h) (run_index_slice rfl (hd 3 _ rfl (waits_spec rfl)) (hd 5 _ rfl (waits_spec rfl)) Try.underlying35 (by kernel_rfl) (by omega) (by have:=HAX.out;omega)) rfl
         ·intro a w2 hB hF hd
          rw [if_pos (wanted_none rfl)]
          exact flow_val (fun h=> by cases h) (run_load_slice rfl (hd 6 _ rfl (waits_spec rfl)) Try.underlying23 ((hB.cell (p:=⟨g2,0+a9,none⟩) HG2.out).trans HC2.out)) rfl
         ·intro a w2 hB hF hd
          rw [if_pos (wanted_none rfl)]
          exact flow_move _ (.inr rfl) (by simp) (hd 7 _ rfl (waits_spec rfl))
        ·intro a we hB hF hS
         have ha:=puts_each rfl rfl hF [_,_,_,_,_,_,_,_,_] rfl ⟨hS 0 _ rfl,hS 1 _ rfl,hS 2 _ rfl,hS 3 _ rfl,hS 4 _ rfl,hS 5 _ rfl,hS 6 _ rfl,hS 7 _ rfl,hS 8 _ rfl,trivial⟩
         simp only [puts,Act.put,List.setIfInBounds_toArray,List.set_cons_succ,List.set_cons_zero] at ha
         subst ha
         clear hS hF
         have Be:=Lib.hid (Bd.out.trans (hB.mono Bd.out.size))
         have A1e:=Lib.hid (A1d.out.kept hB)
         have A2e:=Lib.hid (A2d.out.kept hB)
         replace VR:=Lib.hid (VR.out.below hB)
         replace WR:=Lib.hid (WR.out.below hB)
         have SSe:=Lib.hid (SS8.out.below' Be.out)
         have RSe:=Lib.hid (RS8.out.below Be.out)
         have Ye:Hid (Boxed we (y+1) 92 (.pointer (some ⟨y,0,none⟩))):=Lib.hid (boxed_below Y8.out Be.out)
         obtain ⟨W16,hW16⟩:∃z,z=tv2 a9:=⟨_,rfl⟩
         rw [←hW16] at WR ⊢
         clear hB hW16
         by_cases hlt12:j<12
         ·have HLT12:Hid (decide ((j:Int)<12)=true):=Lib.hid (decide_eq_true (by omega))
          obtain ⟨SZ,hSZ⟩:∃z,z=szT S.l j:=⟨_,rfl⟩
          have HSZ1:Hid (∀{w2:World},Below we.heap.size we w2→Calls Try.prog 60 #[.pointer (some ⟨p,0,none⟩),.int .i64 (j:Int)] w2 fun e w'=> e=.returned (.int .i64 SZ)∧Below w2.heap.size w2 w'):=Lib.hid fun hB=> by
           have h:=sSize_any (SSe.out.below' hB) (j:Int) (by have:=HSL.out.1;omega)
           rw [sizeA_at HLJ.out,←hSZ] at h
           exact h
          have HSZ2:Hid (∀{w2:World},Below we.heap.size we w2→Calls Try.prog 61 #[.pointer (some ⟨y,0,none⟩),.int .i64 (j:Int)] w2 fun e w'=> e=.returned (.int .i64 SZ)∧Below w2.heap.size w2 w'):=Lib.hid fun hB=> by
           rw [hSZ]
           exact rSize_any HOKS.out (by have:=HSL.out.1;omega) j hlt12 HLJ.out (RSe.out.below hB)
          have HSE:Hid ((SZ !=SZ)=false):=Lib.hid (by simp)
          clear hSZ hlt12
          go_upto_region 27 with (fail)
          refine region_flow (n:=171) (by kernel_rfl) (by kernel_rfl) (by kernel_rfl) rfl
           (fun ii vv ww=> (match ii with | 0 | 8 | 11 | 17 | 22 | 23=> vv=.bool true | 1 | 2 | 5 | 6 | 7 | 12 | 13 | 14 | 18 | 19 | 20 | 30 | 31 | 32=> vv=.bool false | 3 | 4=> vv=.agg (arr .i64 3 (tf t)) | 9=> vv=.pointer (some ⟨b11,0,none⟩) | 10=> vv=.int .i64 (t.1) | 21 | 25 | 28=> vv=.int .i64 ((j:Int)) | 24=> vv=.pointer (some ⟨p,0,none⟩) | 26 | 29=> vv=.int .i64 (SZ) | 27=> vv=.pointer (some ⟨y,0,none⟩) | _=> True)∧(ii=15→Rd .u8 ww vv bl.length (bf bl))∧(ii=16→Rd .u8 ww vv bl.length (bf bl)))
           (fun w w'=> Below w.heap.size w w') (fun _ _ h=> h) (fun i v w w' h hE=> ⟨h.1,fun e=> Rd.below (h.2.1 e) hE,fun e=> Rd.below (h.2.2 e) hE⟩) ?_ ?_
          ·refine Each.all ?_
           refine ⟨?_,?_,?_,?_,?_,?_,?_,?_,?_,?_,?_,?_,?_,?_,?_,?_,?_,?_,?_,?_,?_,?_,?_,?_,?_,?_,?_,?_,?_,?_,?_,?_,?_,trivial⟩
           ·intro a w2 hB hF hd
            rw [if_pos (wanted_none rfl)]
            exact flow_move _ (.inl rfl) (by simp) ⟨(hF.same 13 rfl),fun h=> absurd h (by decide),fun h=> absurd h (by decide)⟩
           ·intro a w2 hB hF hd
            rw [if_pos (wanted_none rfl)]
            exact flow_val (fun h=> by cases h) (run_not rfl ((hd 0 _ rfl (waits_spec rfl)).1)) ⟨rfl,fun h=> absurd h (by decide),fun h=> absurd h (by decide)⟩
           ·intro a w2 hB hF hd
            rw [if_pos (wanted_none rfl)]
            exact flow_move _ (.inl rfl) (by simp) ⟨((hd 1 _ rfl (waits_spec rfl)).1),fun h=> absurd h (by decide),fun h=> absurd h (by decide)⟩
           ·intro a w2 hB hF hd
            refine flow_wanted (wanted_yes rfl rfl ((hd 2 _ rfl (waits_spec rfl)).1) rfl) ?_
            exact flow_val (fun h=> by cases h) (run_load_mid' rfl (hF.same 12 rfl) Try.underlying97 rfl Try.sizeTm (fun i hi=> (hB.cell (p:=⟨b12,0+i,none⟩) A2e.out.lt).trans (by rw [Nat.zero_add];exact A2e.out.cell i hi))) ⟨rfl,fun h=> absurd h (by decide),fun h=> absurd h (by decide)⟩
           ·intro a w2 hB hF hd
            refine flow_wanted (wanted_yes rfl rfl ((hd 2 _ rfl (waits_spec rfl)).1) rfl) ?_
            exact flow_val (fun h=> by cases h) (run_load_mid' rfl (hF.same 11 rfl) Try.underlying97 rfl Try.sizeTm (fun i hi=> (hB.cell (p:=⟨b11,0+i,none⟩) A1e.out.lt).trans (by rw [Nat.zero_add];exact A1e.out.cell i hi))) ⟨rfl,fun h=> absurd h (by decide),fun h=> absurd h (by decide)⟩
           ·intro a w2 hB hF hd
            refine flow_wanted (wanted_yes rfl rfl ((hd 2 _ rfl (waits_spec rfl)).1) rfl) ?_
            exact flow_val (fun h=> by cases h) (run_neq_tm (t:=t) (u:=t) rfl ((hd 3 _ rfl (waits_spec rfl)).1) ((hd 4 _ rfl (waits_spec rfl)).1) HOT.out HOT.out) ⟨(congrArg Value.bool (show (!decide (t=t))=false by simp)),fun h=> absurd h (by decide),fun h=> absurd h (by decide)⟩
           ·intro a w2 hB hF hd
            rw [if_pos (wanted_none rfl)]
            exact flow_val (fun h=> by cases h) (run_pick rfl ((hd 2 _ rfl (waits_spec rfl)).1)) ⟨(((hd 5 _ rfl (waits_spec rfl)).1)),fun h=> absurd h (by decide),fun h=> absurd h (by decide)⟩
           ·intro a w2 hB hF hd
            rw [if_pos (wanted_none rfl)]
            exact flow_move _ (.inl rfl) (by simp) ⟨((hd 6 _ rfl (waits_spec rfl)).1),fun h=> absurd h (by decide),fun h=> absurd h (by decide)⟩
           ·intro a w2 hB hF hd
            refine flow_wanted (wanted_yes rfl rfl ((hd 7 _ rfl (waits_spec rfl)).1) rfl) ?_
            exact flow_move _ (.inl rfl) (by simp) ⟨(hF.same 15 rfl),fun h=> absurd h (by decide),fun h=> absurd h (by decide)⟩
           ·intro a w2 hB hF hd
            refine flow_wanted (wanted_yes rfl rfl ((hd 7 _ rfl (waits_spec rfl)).1) rfl) ?_
            refine flow_val (fun h=> by cases h) (run_field_at (m:=0) (k:=0) rfl (hF.same 11 rfl) (by kernel_rfl)) ?_
            exact ⟨rfl,fun h=> absurd h (by decide),fun h=> absurd h (by decide)⟩
           ·intro a w2 hB hF hd
            refine flow_wanted (wanted_yes rfl rfl ((hd 7 _ rfl (waits_spec rfl)).1) rfl) ?_
            exact flow_val (fun h=> by cases h) (run_load_cell rfl ((hd 9 _ rfl (waits_spec rfl)).1) Try.underlying3 ((hB.cell (p:=⟨b11,0,none⟩) A1e.out.lt).trans (A1e.out.cell 0 (by decide)))) ⟨rfl,fun h=> absurd h (by decide),fun h=> absurd h (by decide)⟩
           ·intro a w2 hB hF hd
            refine flow_wanted (wanted_yes rfl rfl ((hd 7 _ rfl (waits_spec rfl)).1) rfl) ?_
            refine flow_val (fun h=> by cases h) (Go.Bas.run_eql_int rfl ((hd 10 _ rfl (waits_spec rfl)).1) rfl) ?_
            exact ⟨(congrArg Value.bool HK9.out),fun h=> absurd h (by decide),fun h=> absurd h (by decide)⟩
           ·intro a w2 hB hF hd
            refine flow_wanted (wanted_yes rfl rfl ((hd 7 _ rfl (waits_spec rfl)).1) rfl) ?_
            exact flow_val (fun h=> by cases h) (run_neq_boolT rfl ((hd 8 _ rfl (waits_spec rfl)).1) ((hd 11 _ rfl (waits_spec rfl)).1) Try.underlying4) ⟨rfl,fun h=> absurd h (by decide),fun h=> absurd h (by decide)⟩
           ·intro a w2 hB hF hd
            rw [if_pos (wanted_none rfl)]
            exact flow_val (fun h=> by cases h) (run_pick rfl ((hd 7 _ rfl (waits_spec rfl)).1)) ⟨(((hd 12 _ rfl (waits_spec rfl)).1)),fun h=> absurd h (by decide),fun h=> absurd h (by decide)⟩
           ·intro a w2 hB hF hd
            rw [if_pos (wanted_none rfl)]
            exact flow_move _ (.inl rfl) (by simp) ⟨((hd 13 _ rfl (waits_spec rfl)).1),fun h=> absurd h (by decide),fun h=> absurd h (by decide)⟩
           ·intro a w2 hB hF hd
            refine flow_wanted (wanted_yes rfl rfl ((hd 14 _ rfl (waits_spec rfl)).1) rfl) ?_
            exact flow_move _ (.inl rfl) (by simp) ⟨trivial,fun _=> (by rw [show a.eval (Operand.tmp 14)= _ from hF.same 14 rfl];exact VR.out.below hB),fun h=> absurd h (by decide)⟩
           ·intro a w2 hB hF hd
            refine flow_wanted (wanted_yes rfl rfl ((hd 14 _ rfl (waits_spec rfl)).1) rfl) ?_
            exact flow_move _ (.inl rfl) (by simp) ⟨trivial,fun h=> absurd h (by decide),fun _=> (by rw [show a.eval (Operand.tmp 16)= _ from hF.same 16 rfl];exact WR.out.below hB)⟩
           ·intro a w2 hB hF hd
            refine flow_wanted (wanted_yes rfl rfl ((hd 14 _ rfl (waits_spec rfl)).1) rfl) ?_
            refine flow_call _ _ _ rfl Try.call24 _ (args2 rfl rfl) (by simp) ((same_yes _ _ _ _ _ _ ((hd 15 _ rfl (waits_spec rfl)).2.1 rfl) ((hd 16 _ rfl (waits_spec rfl)).2.2 rfl) (fun _ _=> rfl)).mono ?_)
            rintro e w3 ⟨rfl,hb⟩;exact ⟨_,rfl,⟨rfl,fun h=> absurd h (by decide),fun h=> absurd h (by decide)⟩,hb⟩
           ·intro a w2 hB hF hd
            refine flow_wanted (wanted_yes rfl rfl ((hd 14 _ rfl (waits_spec rfl)).1) rfl) ?_
            exact flow_val (fun h=> by cases h) (run_not rfl ((hd 17 _ rfl (waits_spec rfl)).1)) ⟨rfl,fun h=> absurd h (by decide),fun h=> absurd h (by decide)⟩
           ·intro a w2 hB hF hd
            rw [if_pos (wanted_none rfl)]
            exact flow_val (fun h=> by cases h) (run_pick rfl ((hd 14 _ rfl (waits_spec rfl)).1)) ⟨(((hd 18 _ rfl (waits_spec rfl)).1)),fun h=> absurd h (by decide),fun h=> absurd h (by decide)⟩
           ·intro a w2 hB hF hd
            rw [if_pos (wanted_none rfl)]
            exact flow_move _ (.inl rfl) (by simp) ⟨((hd 19 _ rfl (waits_spec rfl)).1),fun h=> absurd h (by decide),fun h=> absurd h (by decide)⟩
           ·intro a w2 hB hF hd
            refine flow_wanted (wanted_yes rfl rfl ((hd 20 _ rfl (waits_spec rfl)).1) rfl) ?_
            exact flow_move _ (.inl rfl) (by simp) ⟨(hF.same 10 rfl),fun h=> absurd h (by decide),fun h=> absurd h (by decide)⟩
           ·intro a w2 hB hF hd
            refine flow_wanted (wanted_yes rfl rfl ((hd 20 _ rfl (waits_spec rfl)).1) rfl) ?_
            exact flow_val (fun h=> by cases h) (Go.Bas.run_lss rfl ((hd 21 _ rfl (waits_spec rfl)).1) rfl) ⟨(congrArg Value.bool (HLT12.out)),fun h=> absurd h (by decide),fun h=> absurd h (by decide)⟩
           ·intro a w2 hB hF hd
            refine flow_wanted (wanted_yes rfl rfl ((hd 20 _ rfl (waits_spec rfl)).1) rfl) ?_
            exact flow_move _ (.inl rfl) (by simp) ⟨((hd 22 _ rfl (waits_spec rfl)).1),fun h=> absurd h (by decide),fun h=> absurd h (by decide)⟩
           ·intro a w2 hB hF hd
            refine flow_wanted (wanted_yes rfl rfl ((hd 23 _ rfl (waits_spec rfl)).1) rfl) ?_
            exact flow_move _ (.inl rfl) (by simp) ⟨(hF.same 3 rfl),fun h=> absurd h (by decide),fun h=> absurd h (by decide)⟩
           ·intro a w2 hB hF hd
            refine flow_wanted (wanted_yes rfl rfl ((hd 23 _ rfl (waits_spec rfl)).1) rfl) ?_
            exact flow_move _ (.inl rfl) (by simp) ⟨(hF.same 10 rfl),fun h=> absurd h (by decide),fun h=> absurd h (by decide)⟩
           ·intro a w2 hB hF hd
            refine flow_wanted (wanted_yes rfl rfl ((hd 23 _ rfl (waits_spec rfl)).1) rfl) ?_
            refine flow_call _ _ _ rfl Try.call60 _ (args2 ((hd 24 _ rfl (waits_spec rfl)).1) ((hd 25 _ rfl (waits_spec rfl)).1)) (by simp) ((HSZ1.out hB).mono ?_)
            rintro e w3 ⟨rfl,hb⟩;exact ⟨_,rfl,⟨rfl,fun h=> absurd h (by decide),fun h=> absurd h (by decide)⟩,hb⟩
           ·intro a w2 hB hF hd
            refine flow_wanted (wanted_yes rfl rfl ((hd 23 _ rfl (waits_spec rfl)).1) rfl) ?_
            exact flow_val (fun h=> by cases h) (run_load_pt rfl (hF.same 4 rfl) Try.underlying92 ((hB.cell (p:=⟨y+1,0,none⟩) Ye.out.lt).trans Ye.out.cell)) ⟨rfl,fun h=> absurd h (by decide),fun h=> absurd h (by decide)⟩
           ·intro a w2 hB hF hd
            refine flow_wanted (wanted_yes rfl rfl ((hd 23 _ rfl (waits_spec rfl)).1) rfl) ?_
            exact flow_move _ (.inl rfl) (by simp) ⟨(hF.same 10 rfl),fun h=> absurd h (by decide),fun h=> absurd h (by decide)⟩
           ·intro a w2 hB hF hd
            refine flow_wanted (wanted_yes rfl rfl ((hd 23 _ rfl (waits_spec rfl)).1) rfl) ?_
            refine flow_call _ _ _ rfl Try.call61 _ (args2 ((hd 27 _ rfl (waits_spec rfl)).1) ((hd 28 _ rfl (waits_spec rfl)).1)) (by simp) ((HSZ2.out hB).mono ?_)
            rintro e w3 ⟨rfl,hb⟩;exact ⟨_,rfl,⟨rfl,fun h=> absurd h (by decide),fun h=> absurd h (by decide)⟩,hb⟩
           ·intro a w2 hB hF hd
            refine flow_wanted (wanted_yes rfl rfl ((hd 23 _ rfl (waits_spec rfl)).1) rfl) ?_
            exact flow_val (fun h=> by cases h) (Go.Bas.run_neq_int rfl ((hd 26 _ rfl (waits_spec rfl)).1) ((hd 29 _ rfl (waits_spec rfl)).1)) ⟨(congrArg Value.bool (HSE.out)),fun h=> absurd h (by decide),fun h=> absurd h (by decide)⟩
           ·intro a w2 hB hF hd
            refine flow_wanted (wanted_yes rfl rfl ((hd 20 _ rfl (waits_spec rfl)).1) rfl) ?_
            exact flow_val (fun h=> by cases h) (run_pick rfl ((hd 23 _ rfl (waits_spec rfl)).1)) ⟨(((hd 30 _ rfl (waits_spec rfl)).1)),fun h=> absurd h (by decide),fun h=> absurd h (by decide)⟩
           ·intro a w2 hB hF hd
            rw [if_pos (wanted_none rfl)]
            exact flow_val (fun h=> by cases h) (run_pick rfl ((hd 20 _ rfl (waits_spec rfl)).1)) ⟨(((hd 31 _ rfl (waits_spec rfl)).1)),fun h=> absurd h (by decide),fun h=> absurd h (by decide)⟩
          ·intro a wf hB hF hS
           obtain ⟨x126,hx126⟩:∃x,x=a.tmps.getD 126 undef:=⟨_,rfl⟩
           obtain ⟨x127,hx127⟩:∃x,x=a.tmps.getD 127 undef:=⟨_,rfl⟩
           have ha:=puts_each rfl rfl hF [_,_,_,_,_,_,_,_,_,_,_,_,_,_,_,x126,x127,_,_,_,_,_,_,_,_,_,_,_,_,_,_,_,_] rfl ⟨(hS 0 _ rfl).1,(hS 1 _ rfl).1,(hS 2 _ rfl).1,(hS 3 _ rfl).1,(hS 4 _ rfl).1,(hS 5 _ rfl).1,(hS 6 _ rfl).1,(hS 7 _ rfl).1,(hS 8 _ rfl).1,(hS 9 _ rfl).1,(hS 10 _ rfl).1,(hS 11 _ rfl).1,(hS 12 _ rfl).1,(hS 13 _ rfl).1,(hS 14 _ rfl).1,hx126.symm,hx127.symm,(hS 17 _ rfl).1,(hS 18 _ rfl).1,(hS 19 _ rfl).1,(hS 20 _ rfl).1,(hS 21 _ rfl).1,(hS 22 _ rfl).1,(hS 23 _ rfl).1,(hS 24 _ rfl).1,(hS 25 _ rfl).1,(hS 26 _ rfl).1,(hS 27 _ rfl).1,(hS 28 _ rfl).1,(hS 29 _ rfl).1,(hS 30 _ rfl).1,(hS 31 _ rfl).1,(hS 32 _ rfl).1,trivial⟩
           simp only [puts,Act.put,List.setIfInBounds_toArray,List.set_cons_succ,List.set_cons_zero] at ha
           subst ha
           clear hx126 hx127
           clear hS hF
           have Bf:=Lib.hid (Be.out.trans (hB.mono Be.out.size))
           clear hB
           go_wp2
           go_roundw
           case rel=> exact ⟨j+1,by have:=HLJ.out;omega,by go_num,Bf.out⟩
           case measure=> have:=HLJ.out;simp [intOf];omega
         ·have HLT12:Hid (decide ((j:Int)<12)=false):=Lib.hid (decide_eq_false (by omega))
          clear hlt12
          go_upto_region 27 with (fail)
          refine region_flow (n:=171) (by kernel_rfl) (by kernel_rfl) (by kernel_rfl) rfl
           (fun ii vv ww=> (match ii with | 0 | 8 | 11 | 17=> vv=.bool true | 1 | 2 | 5 | 6 | 7 | 12 | 13 | 14 | 18 | 19 | 20 | 22 | 23 | 31 | 32=> vv=.bool false | 3 | 4=> vv=.agg (arr .i64 3 (tf t)) | 9=> vv=.pointer (some ⟨b11,0,none⟩) | 10=> vv=.int .i64 (t.1) | 21=> vv=.int .i64 ((j:Int)) | 24 | 25 | 26 | 27 | 28 | 29 | 30=> vv=undef | _=> True)∧(ii=15→Rd .u8 ww vv bl.length (bf bl))∧(ii=16→Rd .u8 ww vv bl.length (bf bl)))
           (fun w w'=> Below w.heap.size w w') (fun _ _ h=> h) (fun i v w w' h hE=> ⟨h.1,fun e=> Rd.below (h.2.1 e) hE,fun e=> Rd.below (h.2.2 e) hE⟩) ?_ ?_
          ·refine Each.all ?_
           refine ⟨?_,?_,?_,?_,?_,?_,?_,?_,?_,?_,?_,?_,?_,?_,?_,?_,?_,?_,?_,?_,?_,?_,?_,?_,?_,?_,?_,?_,?_,?_,?_,?_,?_,trivial⟩
           ·intro a w2 hB hF hd
            rw [if_pos (wanted_none rfl)]
            exact flow_move _ (.inl rfl) (by simp) ⟨(hF.same 13 rfl),fun h=> absurd h (by decide),fun h=> absurd h (by decide)⟩
           ·intro a w2 hB hF hd
            rw [if_pos (wanted_none rfl)]
            exact flow_val (fun h=> by cases h) (run_not rfl ((hd 0 _ rfl (waits_spec rfl)).1)) ⟨rfl,fun h=> absurd h (by decide),fun h=> absurd h (by decide)⟩
           ·intro a w2 hB hF hd
            rw [if_pos (wanted_none rfl)]
            exact flow_move _ (.inl rfl) (by simp) ⟨((hd 1 _ rfl (waits_spec rfl)).1),fun h=> absurd h (by decide),fun h=> absurd h (by decide)⟩
           ·intro a w2 hB hF hd
            refine flow_wanted (wanted_yes rfl rfl ((hd 2 _ rfl (waits_spec rfl)).1) rfl) ?_
            exact flow_val (fun h=> by cases h) (run_load_mid' rfl (hF.same 12 rfl) Try.underlying97 rfl Try.sizeTm (fun i hi=> (hB.cell (p:=⟨b12,0+i,none⟩) A2e.out.lt).trans (by rw [Nat.zero_add];exact A2e.out.cell i hi))) ⟨rfl,fun h=> absurd h (by decide),fun h=> absurd h (by decide)⟩
           ·intro a w2 hB hF hd
            refine flow_wanted (wanted_yes rfl rfl ((hd 2 _ rfl (waits_spec rfl)).1) rfl) ?_
            exact flow_val (fun h=> by cases h) (run_load_mid' rfl (hF.same 11 rfl) Try.underlying97 rfl Try.sizeTm (fun i hi=> (hB.cell (p:=⟨b11,0+i,none⟩) A1e.out.lt).trans (by rw [Nat.zero_add];exact A1e.out.cell i hi))) ⟨rfl,fun h=> absurd h (by decide),fun h=> absurd h (by decide)⟩
           ·intro a w2 hB hF hd
            refine flow_wanted (wanted_yes rfl rfl ((hd 2 _ rfl (waits_spec rfl)).1) rfl) ?_
            exact flow_val (fun h=> by cases h) (run_neq_tm (t:=t) (u:=t) rfl ((hd 3 _ rfl (waits_spec rfl)).1) ((hd 4 _ rfl (waits_spec rfl)).1) HOT.out HOT.out) ⟨(congrArg Value.bool (show (!decide (t=t))=false by simp)),fun h=> absurd h (by decide),fun h=> absurd h (by decide)⟩
           ·intro a w2 hB hF hd
            rw [if_pos (wanted_none rfl)]
            exact flow_val (fun h=> by cases h) (run_pick rfl ((hd 2 _ rfl (waits_spec rfl)).1)) ⟨(((hd 5 _ rfl (waits_spec rfl)).1)),fun h=> absurd h (by decide),fun h=> absurd h (by decide)⟩
           ·intro a w2 hB hF hd
            rw [if_pos (wanted_none rfl)]
            exact flow_move _ (.inl rfl) (by simp) ⟨((hd 6 _ rfl (waits_spec rfl)).1),fun h=> absurd h (by decide),fun h=> absurd h (by decide)⟩
           ·intro a w2 hB hF hd
            refine flow_wanted (wanted_yes rfl rfl ((hd 7 _ rfl (waits_spec rfl)).1) rfl) ?_
            exact flow_move _ (.inl rfl) (by simp) ⟨(hF.same 15 rfl),fun h=> absurd h (by decide),fun h=> absurd h (by decide)⟩
           ·intro a w2 hB hF hd
            refine flow_wanted (wanted_yes rfl rfl ((hd 7 _ rfl (waits_spec rfl)).1) rfl) ?_
            refine flow_val (fun h=> by cases h) (run_field_at (m:=0) (k:=0) rfl (hF.same 11 rfl) (by kernel_rfl)) ?_
            exact ⟨rfl,fun h=> absurd h (by decide),fun h=> absurd h (by decide)⟩
           ·intro a w2 hB hF hd
            refine flow_wanted (wanted_yes rfl rfl ((hd 7 _ rfl (waits_spec rfl)).1) rfl) ?_
            exact flow_val (fun h=> by cases h) (run_load_cell rfl ((hd 9 _ rfl (waits_spec rfl)).1) Try.underlying3 ((hB.cell (p:=⟨b11,0,none⟩) A1e.out.lt).trans (A1e.out.cell 0 (by decide)))) ⟨rfl,fun h=> absurd h (by decide),fun h=> absurd h (by decide)⟩
           ·intro a w2 hB hF hd
            refine flow_wanted (wanted_yes rfl rfl ((hd 7 _ rfl (waits_spec rfl)).1) rfl) ?_
            refine flow_val (fun h=> by cases h) (Go.Bas.run_eql_int rfl ((hd 10 _ rfl (waits_spec rfl)).1) rfl) ?_
            exact ⟨(congrArg Value.bool HK9.out),fun h=> absurd h (by decide),fun h=> absurd h (by decide)⟩
           ·intro a w2 hB hF hd
            refine flow_wanted (wanted_yes rfl rfl ((hd 7 _ rfl (waits_spec rfl)).1) rfl) ?_
            exact flow_val (fun h=> by cases h) (run_neq_boolT rfl ((hd 8 _ rfl (waits_spec rfl)).1) ((hd 11 _ rfl (waits_spec rfl)).1) Try.underlying4) ⟨rfl,fun h=> absurd h (by decide),fun h=> absurd h (by decide)⟩
           ·intro a w2 hB hF hd
            rw [if_pos (wanted_none rfl)]
            exact flow_val (fun h=> by cases h) (run_pick rfl ((hd 7 _ rfl (waits_spec rfl)).1)) ⟨(((hd 12 _ rfl (waits_spec rfl)).1)),fun h=> absurd h (by decide),fun h=> absurd h (by decide)⟩
           ·intro a w2 hB hF hd
            rw [if_pos (wanted_none rfl)]
            exact flow_move _ (.inl rfl) (by simp) ⟨((hd 13 _ rfl (waits_spec rfl)).1),fun h=> absurd h (by decide),fun h=> absurd h (by decide)⟩
           ·intro a w2 hB hF hd
            refine flow_wanted (wanted_yes rfl rfl ((hd 14 _ rfl (waits_spec rfl)).1) rfl) ?_
            exact flow_move _ (.inl rfl) (by simp) ⟨trivial,fun _=> (by rw [show a.eval (Operand.tmp 14)= _ from hF.same 14 rfl];exact VR.out.below hB),fun h=> absurd h (by decide)⟩
           ·intro a w2 hB hF hd
            refine flow_wanted (wanted_yes rfl rfl ((hd 14 _ rfl (waits_spec rfl)).1) rfl) ?_
            exact flow_move _ (.inl rfl) (by simp) ⟨trivial,fun h=> absurd h (by decide),fun _=> (by rw [show a.eval (Operand.tmp 16)= _ from hF.same 16 rfl];exact WR.out.below hB)⟩
           ·intro a w2 hB hF hd
            refine flow_wanted (wanted_yes rfl rfl ((hd 14 _ rfl (waits_spec rfl)).1) rfl) ?_
            refine flow_call _ _ _ rfl Try.call24 _ (args2 rfl rfl) (by simp) ((same_yes _ _ _ _ _ _ ((hd 15 _ rfl (waits_spec rfl)).2.1 rfl) ((hd 16 _ rfl (waits_spec rfl)).2.2 rfl) (fun _ _=> rfl)).mono ?_)
            rintro e w3 ⟨rfl,hb⟩;exact ⟨_,rfl,⟨rfl,fun h=> absurd h (by decide),fun h=> absurd h (by decide)⟩,hb⟩
           ·intro a w2 hB hF hd
            refine flow_wanted (wanted_yes rfl rfl ((hd 14 _ rfl (waits_spec rfl)).1) rfl) ?_
            exact flow_val (fun h=> by cases h) (run_not rfl ((hd 17 _ rfl (waits_spec rfl)).1)) ⟨rfl,fun h=> absurd h (by decide),fun h=> absurd h (by decide)⟩
           ·intro a w2 hB hF hd
            rw [if_pos (wanted_none rfl)]
            exact flow_val (fun h=> by cases h) (run_pick rfl ((hd 14 _ rfl (waits_spec rfl)).1)) ⟨(((hd 18 _ rfl (waits_spec rfl)).1)),fun h=> absurd h (by decide),fun h=> absurd h (by decide)⟩
           ·intro a w2 hB hF hd
            rw [if_pos (wanted_none rfl)]
            exact flow_move _ (.inl rfl) (by simp) ⟨((hd 19 _ rfl (waits_spec rfl)).1),fun h=> absurd h (by decide),fun h=> absurd h (by decide)⟩
           ·intro a w2 hB hF hd
            refine flow_wanted (wanted_yes rfl rfl ((hd 20 _ rfl (waits_spec rfl)).1) rfl) ?_
            exact flow_move _ (.inl rfl) (by simp) ⟨(hF.same 10 rfl),fun h=> absurd h (by decide),fun h=> absurd h (by decide)⟩
           ·intro a w2 hB hF hd
            refine flow_wanted (wanted_yes rfl rfl ((hd 20 _ rfl (waits_spec rfl)).1) rfl) ?_
            exact flow_val (fun h=> by cases h) (Go.Bas.run_lss rfl ((hd 21 _ rfl (waits_spec rfl)).1) rfl) ⟨(congrArg Value.bool (HLT12.out)),fun h=> absurd h (by decide),fun h=> absurd h (by decide)⟩
           ·intro a w2 hB hF hd
            refine flow_wanted (wanted_yes rfl rfl ((hd 20 _ rfl (waits_spec rfl)).1) rfl) ?_
            exact flow_move _ (.inl rfl) (by simp) ⟨((hd 22 _ rfl (waits_spec rfl)).1),fun h=> absurd h (by decide),fun h=> absurd h (by decide)⟩
           ·intro a w2 hB hF hd
            rw [if_neg (by rw [wanted_some rfl rfl ((hd 23 _ rfl (waits_spec rfl)).1)];decide)]
            exact ⟨rfl,fun h=> absurd h (by decide),fun h=> absurd h (by decide)⟩
           ·intro a w2 hB hF hd
            rw [if_neg (by rw [wanted_some rfl rfl ((hd 23 _ rfl (waits_spec rfl)).1)];decide)]
            exact ⟨rfl,fun h=> absurd h (by decide),fun h=> absurd h (by decide)⟩
           ·intro a w2 hB hF hd
            rw [if_neg (by rw [wanted_some rfl rfl ((hd 23 _ rfl (waits_spec rfl)).1)];decide)]
            exact ⟨rfl,fun h=> absurd h (by decide),fun h=> absurd h (by decide)⟩
           ·intro a w2 hB hF hd
            rw [if_neg (by rw [wanted_some rfl rfl ((hd 23 _ rfl (waits_spec rfl)).1)];decide)]
            exact ⟨rfl,fun h=> absurd h (by decide),fun h=> absurd h (by decide)⟩
           ·intro a w2 hB hF hd
            rw [if_neg (by rw [wanted_some rfl rfl ((hd 23 _ rfl (waits_spec rfl)).1)];decide)]
            exact ⟨rfl,fun h=> absurd h (by decide),fun h=> absurd h (by decide)⟩
           ·intro a w2 hB hF hd
            rw [if_neg (by rw [wanted_some rfl rfl ((hd 23 _ rfl (waits_spec rfl)).1)];decide)]
            exact ⟨rfl,fun h=> absurd h (by decide),fun h=> absurd h (by decide)⟩
           ·intro a w2 hB hF hd
            rw [if_neg (by rw [wanted_some rfl rfl ((hd 23 _ rfl (waits_spec rfl)).1)];decide)]
            exact ⟨rfl,fun h=> absurd h (by decide),fun h=> absurd h (by decide)⟩
           ·intro a w2 hB hF hd
            refine flow_wanted (wanted_yes rfl rfl ((hd 20 _ rfl (waits_spec rfl)).1) rfl) ?_
            exact flow_val (fun h=> by cases h) (run_pick rfl ((hd 23 _ rfl (waits_spec rfl)).1)) ⟨(rfl),fun h=> absurd h (by decide),fun h=> absurd h (by decide)⟩
           ·intro a w2 hB hF hd
            rw [if_pos (wanted_none rfl)]
            exact flow_val (fun h=> by cases h) (run_pick rfl ((hd 20 _ rfl (waits_spec rfl)).1)) ⟨(((hd 31 _ rfl (waits_spec rfl)).1)),fun h=> absurd h (by decide),fun h=> absurd h (by decide)⟩
          ·intro a wf hB hF hS
           obtain ⟨x126,hx126⟩:∃x,x=a.tmps.getD 126 undef:=⟨_,rfl⟩
           obtain ⟨x127,hx127⟩:∃x,x=a.tmps.getD 127 undef:=⟨_,rfl⟩
           have ha:=puts_each rfl rfl hF [_,_,_,_,_,_,_,_,_,_,_,_,_,_,_,x126,x127,_,_,_,_,_,_,_,_,_,_,_,_,_,_,_,_] rfl ⟨(hS 0 _ rfl).1,(hS 1 _ rfl).1,(hS 2 _ rfl).1,(hS 3 _ rfl).1,(hS 4 _ rfl).1,(hS 5 _ rfl).1,(hS 6 _ rfl).1,(hS 7 _ rfl).1,(hS 8 _ rfl).1,(hS 9 _ rfl).1,(hS 10 _ rfl).1,(hS 11 _ rfl).1,(hS 12 _ rfl).1,(hS 13 _ rfl).1,(hS 14 _ rfl).1,hx126.symm,hx127.symm,(hS 17 _ rfl).1,(hS 18 _ rfl).1,(hS 19 _ rfl).1,(hS 20 _ rfl).1,(hS 21 _ rfl).1,(hS 22 _ rfl).1,(hS 23 _ rfl).1,(hS 24 _ rfl).1,(hS 25 _ rfl).1,(hS 26 _ rfl).1,(hS 27 _ rfl).1,(hS 28 _ rfl).1,(hS 29 _ rfl).1,(hS 30 _ rfl).1,(hS 31 _ rfl).1,(hS 32 _ rfl).1,trivial⟩
           simp only [puts,Act.put,List.setIfInBounds_toArray,List.set_cons_succ,List.set_cons_zero] at ha
           subst ha
           clear hx126 hx127
           clear hS hF
           have Bf:=Lib.hid (Be.out.trans (hB.mono Be.out.size))
           clear hB
           go_wp2
           go_roundw
           case rel=> exact ⟨j+1,by have:=HLJ.out;omega,by go_num,Bf.out⟩
           case measure=> have:=HLJ.out;simp [intOf];omega
       ·have hby:bytA S (j:Int)=([],false):=by
         unfold bytA
         rw [if_neg fun h=> ?_]
         obtain ⟨a,ha,u,hu,hu9⟩:=hasT_iff.1 h
         obtain rfl:j=a:=by omega
         rw [HTJ.out] at hu
         cases hu
         exact hk9 (hu9.resolve_left (by decide))
        rw [hby] at hv9 ⊢
        obtain ⟨bl,hbl⟩:∃b,b=([] :List Int):=⟨_,rfl⟩
        rw [←hbl] at hv9 ⊢
        have VR:=Lib.hid hv9
        obtain ⟨av9,cv9,rfl,_⟩:=hv9
        have WR:Hid (Rd .u8 wd (.slice none 0 0) bl.length (bf bl)):=Lib.hid (by rw [hbl];exact (Go.Bas.Own.nil .u8 5 0 wd (bf [])).rd)
        obtain ⟨we,hwe⟩:∃x,x=wd:=⟨_,rfl⟩
        rw [←hwe] at A1d A2d Bd VR WR ⊢
        have HK9:Hid ((t.1==9)=false):=Lib.hid (by simpa using hk9)
        have hk9b:(t.1==9)=false:=HK9.out
        have ck:we.cell? ⟨b11,0,none⟩=some (.int .i64 t.1):=A1d.out.cell 0 (by decide)
        have Be:=Bd
        have A1e:=A1d
        have A2e:=A2d
        have SSe:=Lib.hid (SS8.out.below' Be.out)
        have RSe:=Lib.hid (RS8.out.below Be.out)
        have Ye:Hid (Boxed we (y+1) 92 (.pointer (some ⟨y,0,none⟩))):=Lib.hid (boxed_below Y8.out Be.out)
        clear hwe hby hk9 hbl
        by_cases hlt12:j<12
        ·have HLT12:Hid (decide ((j:Int)<12)=true):=Lib.hid (decide_eq_true (by omega))
         obtain ⟨SZ,hSZ⟩:∃z,z=szT S.l j:=⟨_,rfl⟩
         have HSZ1:Hid (∀{w2:World},Below we.heap.size we w2→Calls Try.prog 60 #[.pointer (some ⟨p,0,none⟩),.int .i64 (j:Int)] w2 fun e w'=> e=.returned (.int .i64 SZ)∧Below w2.heap.size w2 w'):=Lib.hid fun hB=> by
          have h:=sSize_any (SSe.out.below' hB) (j:Int) (by have:=HSL.out.1;omega)
          rw [sizeA_at HLJ.out,←hSZ] at h
          exact h
         have HSZ2:Hid (∀{w2:World},Below we.heap.size we w2→Calls Try.prog 61 #[.pointer (some ⟨y,0,none⟩),.int .i64 (j:Int)] w2 fun e w'=> e=.returned (.int .i64 SZ)∧Below w2.heap.size w2 w'):=Lib.hid fun hB=> by
          rw [hSZ]
          exact rSize_any HOKS.out (by have:=HSL.out.1;omega) j hlt12 HLJ.out (RSe.out.below hB)
         have HSE:Hid ((SZ !=SZ)=false):=Lib.hid (by simp)
         clear hSZ hlt12
         go_upto_region 27 with (fail)
         refine region_flow (n:=171) (by kernel_rfl) (by kernel_rfl) (by kernel_rfl) rfl
          (fun ii vv ww=> (match ii with | 0 | 17 | 22 | 23=> vv=.bool true | 1 | 2 | 5 | 6 | 7 | 8 | 11 | 12 | 13 | 14 | 18 | 19 | 20 | 30 | 31 | 32=> vv=.bool false | 3 | 4=> vv=.agg (arr .i64 3 (tf t)) | 9=> vv=.pointer (some ⟨b11,0,none⟩) | 10=> vv=.int .i64 (t.1) | 21 | 25 | 28=> vv=.int .i64 ((j:Int)) | 24=> vv=.pointer (some ⟨p,0,none⟩) | 26 | 29=> vv=.int .i64 (SZ) | 27=> vv=.pointer (some ⟨y,0,none⟩) | _=> True)∧(ii=15→Rd .u8 ww vv bl.length (bf bl))∧(ii=16→Rd .u8 ww vv bl.length (bf bl)))
          (fun w w'=> Below w.heap.size w w') (fun _ _ h=> h) (fun i v w w' h hE=> ⟨h.1,fun e=> Rd.below (h.2.1 e) hE,fun e=> Rd.below (h.2.2 e) hE⟩) ?_ ?_
         ·refine Each.all ?_
          refine ⟨?_,?_,?_,?_,?_,?_,?_,?_,?_,?_,?_,?_,?_,?_,?_,?_,?_,?_,?_,?_,?_,?_,?_,?_,?_,?_,?_,?_,?_,?_,?_,?_,?_,trivial⟩
          ·intro a w2 hB hF hd
           rw [if_pos (wanted_none rfl)]
           exact flow_move _ (.inl rfl) (by simp) ⟨(hF.same 13 rfl),fun h=> absurd h (by decide),fun h=> absurd h (by decide)⟩
          ·intro a w2 hB hF hd
           rw [if_pos (wanted_none rfl)]
           exact flow_val (fun h=> by cases h) (run_not rfl ((hd 0 _ rfl (waits_spec rfl)).1)) ⟨rfl,fun h=> absurd h (by decide),fun h=> absurd h (by decide)⟩
          ·intro a w2 hB hF hd
           rw [if_pos (wanted_none rfl)]
           exact flow_move _ (.inl rfl) (by simp) ⟨((hd 1 _ rfl (waits_spec rfl)).1),fun h=> absurd h (by decide),fun h=> absurd h (by decide)⟩
          ·intro a w2 hB hF hd
           refine flow_wanted (wanted_yes rfl rfl ((hd 2 _ rfl (waits_spec rfl)).1) rfl) ?_
           exact flow_val (fun h=> by cases h) (run_load_mid' rfl (hF.same 12 rfl) Try.underlying97 rfl Try.sizeTm (fun i hi=> (hB.cell (p:=⟨b12,0+i,none⟩) A2e.out.lt).trans (by rw [Nat.zero_add];exact A2e.out.cell i hi))) ⟨rfl,fun h=> absurd h (by decide),fun h=> absurd h (by decide)⟩
          ·intro a w2 hB hF hd
           refine flow_wanted (wanted_yes rfl rfl ((hd 2 _ rfl (waits_spec rfl)).1) rfl) ?_
           exact flow_val (fun h=> by cases h) (run_load_mid' rfl (hF.same 11 rfl) Try.underlying97 rfl Try.sizeTm (fun i hi=> (hB.cell (p:=⟨b11,0+i,none⟩) A1e.out.lt).trans (by rw [Nat.zero_add];exact A1e.out.cell i hi))) ⟨rfl,fun h=> absurd h (by decide),fun h=> absurd h (by decide)⟩
          ·intro a w2 hB hF hd
           refine flow_wanted (wanted_yes rfl rfl ((hd 2 _ rfl (waits_spec rfl)).1) rfl) ?_
           exact flow_val (fun h=> by cases h) (run_neq_tm (t:=t) (u:=t) rfl ((hd 3 _ rfl (waits_spec rfl)).1) ((hd 4 _ rfl (waits_spec rfl)).1) HOT.out HOT.out) ⟨(congrArg Value.bool (show (!decide (t=t))=false by simp)),fun h=> absurd h (by decide),fun h=> absurd h (by decide)⟩
          ·intro a w2 hB hF hd
           rw [if_pos (wanted_none rfl)]
           exact flow_val (fun h=> by cases h) (run_pick rfl ((hd 2 _ rfl (waits_spec rfl)).1)) ⟨(((hd 5 _ rfl (waits_spec rfl)).1)),fun h=> absurd h (by decide),fun h=> absurd h (by decide)⟩
          ·intro a w2 hB hF hd
           rw [if_pos (wanted_none rfl)]
           exact flow_move _ (.inl rfl) (by simp) ⟨((hd 6 _ rfl (waits_spec rfl)).1),fun h=> absurd h (by decide),fun h=> absurd h (by decide)⟩
          ·intro a w2 hB hF hd
           refine flow_wanted (wanted_yes rfl rfl ((hd 7 _ rfl (waits_spec rfl)).1) rfl) ?_
           exact flow_move _ (.inl rfl) (by simp) ⟨(hF.same 15 rfl),fun h=> absurd h (by decide),fun h=> absurd h (by decide)⟩
          ·intro a w2 hB hF hd
           refine flow_wanted (wanted_yes rfl rfl ((hd 7 _ rfl (waits_spec rfl)).1) rfl) ?_
           refine flow_val (fun h=> by cases h) (run_field_at (m:=0) (k:=0) rfl (hF.same 11 rfl) (by kernel_rfl)) ?_
           exact ⟨rfl,fun h=> absurd h (by decide),fun h=> absurd h (by decide)⟩
          ·intro a w2 hB hF hd
           refine flow_wanted (wanted_yes rfl rfl ((hd 7 _ rfl (waits_spec rfl)).1) rfl) ?_
           exact flow_val (fun h=> by cases h) (run_load_cell rfl ((hd 9 _ rfl (waits_spec rfl)).1) Try.underlying3 ((hB.cell (p:=⟨b11,0,none⟩) A1e.out.lt).trans (A1e.out.cell 0 (by decide)))) ⟨rfl,fun h=> absurd h (by decide),fun h=> absurd h (by decide)⟩
          ·intro a w2 hB hF hd
           refine flow_wanted (wanted_yes rfl rfl ((hd 7 _ rfl (waits_spec rfl)).1) rfl) ?_
           refine flow_val (fun h=> by cases h) (Go.Bas.run_eql_int rfl ((hd 10 _ rfl (waits_spec rfl)).1) rfl) ?_
           exact ⟨(congrArg Value.bool HK9.out),fun h=> absurd h (by decide),fun h=> absurd h (by decide)⟩
          ·intro a w2 hB hF hd
           refine flow_wanted (wanted_yes rfl rfl ((hd 7 _ rfl (waits_spec rfl)).1) rfl) ?_
           exact flow_val (fun h=> by cases h) (run_neq_boolT rfl ((hd 8 _ rfl (waits_spec rfl)).1) ((hd 11 _ rfl (waits_spec rfl)).1) Try.underlying4) ⟨rfl,fun h=> absurd h (by decide),fun h=> absurd h (by decide)⟩
          ·intro a w2 hB hF hd
           rw [if_pos (wanted_none rfl)]
           exact flow_val (fun h=> by cases h) (run_pick rfl ((hd 7 _ rfl (waits_spec rfl)).1)) ⟨(((hd 12 _ rfl (waits_spec rfl)).1)),fun h=> absurd h (by decide),fun h=> absurd h (by decide)⟩
          ·intro a w2 hB hF hd
           rw [if_pos (wanted_none rfl)]
           exact flow_move _ (.inl rfl) (by simp) ⟨((hd 13 _ rfl (waits_spec rfl)).1),fun h=> absurd h (by decide),fun h=> absurd h (by decide)⟩
          ·intro a w2 hB hF hd
           refine flow_wanted (wanted_yes rfl rfl ((hd 14 _ rfl (waits_spec rfl)).1) rfl) ?_
           exact flow_move _ (.inl rfl) (by simp) ⟨trivial,fun _=> (by rw [show a.eval (Operand.tmp 14)= _ from hF.same 14 rfl];exact VR.out.below hB),fun h=> absurd h (by decide)⟩
          ·intro a w2 hB hF hd
           refine flow_wanted (wanted_yes rfl rfl ((hd 14 _ rfl (waits_spec rfl)).1) rfl) ?_
           exact flow_move _ (.inl rfl) (by simp) ⟨trivial,fun h=> absurd h (by decide),fun _=> (by rw [show a.eval (Operand.tmp 16)= _ from hF.same 16 rfl];exact WR.out.below hB)⟩
          ·intro a w2 hB hF hd
           refine flow_wanted (wanted_yes rfl rfl ((hd 14 _ rfl (waits_spec rfl)).1) rfl) ?_
           refine flow_call _ _ _ rfl Try.call24 _ (args2 rfl rfl) (by simp) ((same_yes _ _ _ _ _ _ ((hd 15 _ rfl (waits_spec rfl)).2.1 rfl) ((hd 16 _ rfl (waits_spec rfl)).2.2 rfl) (fun _ _=> rfl)).mono ?_)
           rintro e w3 ⟨rfl,hb⟩;exact ⟨_,rfl,⟨rfl,fun h=> absurd h (by decide),fun h=> absurd h (by decide)⟩,hb⟩
          ·intro a w2 hB hF hd
           refine flow_wanted (wanted_yes rfl rfl ((hd 14 _ rfl (waits_spec rfl)).1) rfl) ?_
           exact flow_val (fun h=> by cases h) (run_not rfl ((hd 17 _ rfl (waits_spec rfl)).1)) ⟨rfl,fun h=> absurd h (by decide),fun h=> absurd h (by decide)⟩
          ·intro a w2 hB hF hd
           rw [if_pos (wanted_none rfl)]
           exact flow_val (fun h=> by cases h) (run_pick rfl ((hd 14 _ rfl (waits_spec rfl)).1)) ⟨(((hd 18 _ rfl (waits_spec rfl)).1)),fun h=> absurd h (by decide),fun h=> absurd h (by decide)⟩
          ·intro a w2 hB hF hd
           rw [if_pos (wanted_none rfl)]
           exact flow_move _ (.inl rfl) (by simp) ⟨((hd 19 _ rfl (waits_spec rfl)).1),fun h=> absurd h (by decide),fun h=> absurd h (by decide)⟩
          ·intro a w2 hB hF hd
           refine flow_wanted (wanted_yes rfl rfl ((hd 20 _ rfl (waits_spec rfl)).1) rfl) ?_
           exact flow_move _ (.inl rfl) (by simp) ⟨(hF.same 10 rfl),fun h=> absurd h (by decide),fun h=> absurd h (by decide)⟩
          ·intro a w2 hB hF hd
           refine flow_wanted (wanted_yes rfl rfl ((hd 20 _ rfl (waits_spec rfl)).1) rfl) ?_
           exact flow_val (fun h=> by cases h) (Go.Bas.run_lss rfl ((hd 21 _ rfl (waits_spec rfl)).1) rfl) ⟨(congrArg Value.bool (HLT12.out)),fun h=> absurd h (by decide),fun h=> absurd h (by decide)⟩
          ·intro a w2 hB hF hd
           refine flow_wanted (wanted_yes rfl rfl ((hd 20 _ rfl (waits_spec rfl)).1) rfl) ?_
           exact flow_move _ (.inl rfl) (by simp) ⟨((hd 22 _ rfl (waits_spec rfl)).1),fun h=> absurd h (by decide),fun h=> absurd h (by decide)⟩
          ·intro a w2 hB hF hd
           refine flow_wanted (wanted_yes rfl rfl ((hd 23 _ rfl (waits_spec rfl)).1) rfl) ?_
           exact flow_move _ (.inl rfl) (by simp) ⟨(hF.same 3 rfl),fun h=> absurd h (by decide),fun h=> absurd h (by decide)⟩
          ·intro a w2 hB hF hd
           refine flow_wanted (wanted_yes rfl rfl ((hd 23 _ rfl (waits_spec rfl)).1) rfl) ?_
           exact flow_move _ (.inl rfl) (by simp) ⟨(hF.same 10 rfl),fun h=> absurd h (by decide),fun h=> absurd h (by decide)⟩
          ·intro a w2 hB hF hd
           refine flow_wanted (wanted_yes rfl rfl ((hd 23 _ rfl (waits_spec rfl)).1) rfl) ?_
           refine flow_call _ _ _ rfl Try.call60 _ (args2 ((hd 24 _ rfl (waits_spec rfl)).1) ((hd 25 _ rfl (waits_spec rfl)).1)) (by simp) ((HSZ1.out hB).mono ?_)
           rintro e w3 ⟨rfl,hb⟩;exact ⟨_,rfl,⟨rfl,fun h=> absurd h (by decide),fun h=> absurd h (by decide)⟩,hb⟩
          ·intro a w2 hB hF hd
           refine flow_wanted (wanted_yes rfl rfl ((hd 23 _ rfl (waits_spec rfl)).1) rfl) ?_
           exact flow_val (fun h=> by cases h) (run_load_pt rfl (hF.same 4 rfl) Try.underlying92 ((hB.cell (p:=⟨y+1,0,none⟩) Ye.out.lt).trans Ye.out.cell)) ⟨rfl,fun h=> absurd h (by decide),fun h=> absurd h (by decide)⟩
          ·intro a w2 hB hF hd
           refine flow_wanted (wanted_yes rfl rfl ((hd 23 _ rfl (waits_spec rfl)).1) rfl) ?_
           exact flow_move _ (.inl rfl) (by simp) ⟨(hF.same 10 rfl),fun h=> absurd h (by decide),fun h=> absurd h (by decide)⟩
          ·intro a w2 hB hF hd
           refine flow_wanted (wanted_yes rfl rfl ((hd 23 _ rfl (waits_spec rfl)).1) rfl) ?_
           refine flow_call _ _ _ rfl Try.call61 _ (args2 ((hd 27 _ rfl (waits_spec rfl)).1) ((hd 28 _ rfl (waits_spec rfl)).1)) (by simp) ((HSZ2.out hB).mono ?_)
           rintro e w3 ⟨rfl,hb⟩;exact ⟨_,rfl,⟨rfl,fun h=> absurd h (by decide),fun h=> absurd h (by decide)⟩,hb⟩
          ·intro a w2 hB hF hd
           refine flow_wanted (wanted_yes rfl rfl ((hd 23 _ rfl (waits_spec rfl)).1) rfl) ?_
           exact flow_val (fun h=> by cases h) (Go.Bas.run_neq_int rfl ((hd 26 _ rfl (waits_spec rfl)).1) ((hd 29 _ rfl (waits_spec rfl)).1)) ⟨(congrArg Value.bool (HSE.out)),fun h=> absurd h (by decide),fun h=> absurd h (by decide)⟩
          ·intro a w2 hB hF hd
           refine flow_wanted (wanted_yes rfl rfl ((hd 20 _ rfl (waits_spec rfl)).1) rfl) ?_
           exact flow_val (fun h=> by cases h) (run_pick rfl ((hd 23 _ rfl (waits_spec rfl)).1)) ⟨(((hd 30 _ rfl (waits_spec rfl)).1)),fun h=> absurd h (by decide),fun h=> absurd h (by decide)⟩
          ·intro a w2 hB hF hd
           rw [if_pos (wanted_none rfl)]
           exact flow_val (fun h=> by cases h) (run_pick rfl ((hd 20 _ rfl (waits_spec rfl)).1)) ⟨(((hd 31 _ rfl (waits_spec rfl)).1)),fun h=> absurd h (by decide),fun h=> absurd h (by decide)⟩
         ·intro a wf hB hF hS
          obtain ⟨x126,hx126⟩:∃x,x=a.tmps.getD 126 undef:=⟨_,rfl⟩
          obtain ⟨x127,hx127⟩:∃x,x=a.tmps.getD 127 undef:=⟨_,rfl⟩
          have ha:=puts_each rfl rfl hF [_,_,_,_,_,_,_,_,_,_,_,_,_,_,_,x126,x127,_,_,_,_,_,_,_,_,_,_,_,_,_,_,_,_] rfl ⟨(hS 0 _ rfl).1,(hS 1 _ rfl).1,(hS 2 _ rfl).1,(hS 3 _ rfl).1,(hS 4 _ rfl).1,(hS 5 _ rfl).1,(hS 6 _ rfl).1,(hS 7 _ rfl).1,(hS 8 _ rfl).1,(hS 9 _ rfl).1,(hS 10 _ rfl).1,(hS 11 _ rfl).1,(hS 12 _ rfl).1,(hS 13 _ rfl).1,(hS 14 _ rfl).1,hx126.symm,hx127.symm,(hS 17 _ rfl).1,(hS 18 _ rfl).1,(hS 19 _ rfl).1,(hS 20 _ rfl).1,(hS 21 _ rfl).1,(hS 22 _ rfl).1,(hS 23 _ rfl).1,(hS 24 _ rfl).1,(hS 25 _ rfl).1,(hS 26 _ rfl).1,(hS 27 _ rfl).1,(hS 28 _ rfl).1,(hS 29 _ rfl).1,(hS 30 _ rfl).1,(hS 31 _ rfl).1,(hS 32 _ rfl).1,trivial⟩
          simp only [puts,Act.put,List.setIfInBounds_toArray,List.set_cons_succ,List.set_cons_zero] at ha
          subst ha
          clear hx126 hx127
          clear hS hF
          have Bf:=Lib.hid (Be.out.trans (hB.mono Be.out.size))
          clear hB
          go_wp2
          go_roundw
          case rel=> exact ⟨j+1,by have:=HLJ.out;omega,by go_num,Bf.out⟩
          case measure=> have:=HLJ.out;simp [intOf];omega
        ·have HLT12:Hid (decide ((j:Int)<12)=false):=Lib.hid (decide_eq_false (by omega))
         clear hlt12
         go_upto_region 27 with (fail)
         refine region_flow (n:=171) (by kernel_rfl) (by kernel_rfl) (by kernel_rfl) rfl
          (fun ii vv ww=> (match ii with | 0 | 17=> vv=.bool true | 1 | 2 | 5 | 6 | 7 | 8 | 11 | 12 | 13 | 14 | 18 | 19 | 20 | 22 | 23 | 31 | 32=> vv=.bool false | 3 | 4=> vv=.agg (arr .i64 3 (tf t)) | 9=> vv=.pointer (some ⟨b11,0,none⟩) | 10=> vv=.int .i64 (t.1) | 21=> vv=.int .i64 ((j:Int)) | 24 | 25 | 26 | 27 | 28 | 29 | 30=> vv=undef | _=> True)∧(ii=15→Rd .u8 ww vv bl.length (bf bl))∧(ii=16→Rd .u8 ww vv bl.length (bf bl)))
          (fun w w'=> Below w.heap.size w w') (fun _ _ h=> h) (fun i v w w' h hE=> ⟨h.1,fun e=> Rd.below (h.2.1 e) hE,fun e=> Rd.below (h.2.2 e) hE⟩) ?_ ?_
         ·refine Each.all ?_
          refine ⟨?_,?_,?_,?_,?_,?_,?_,?_,?_,?_,?_,?_,?_,?_,?_,?_,?_,?_,?_,?_,?_,?_,?_,?_,?_,?_,?_,?_,?_,?_,?_,?_,?_,trivial⟩
          ·intro a w2 hB hF hd
           rw [if_pos (wanted_none rfl)]
           exact flow_move _ (.inl rfl) (by simp) ⟨(hF.same 13 rfl),fun h=> absurd h (by decide),fun h=> absurd h (by decide)⟩
          ·intro a w2 hB hF hd
           rw [if_pos (wanted_none rfl)]
           exact flow_val (fun h=> by cases h) (run_not rfl ((hd 0 _ rfl (waits_spec rfl)).1)) ⟨rfl,fun h=> absurd h (by decide),fun h=> absurd h (by decide)⟩
          ·intro a w2 hB hF hd
           rw [if_pos (wanted_none rfl)]
           exact flow_move _ (.inl rfl) (by simp) ⟨((hd 1 _ rfl (waits_spec rfl)).1),fun h=> absurd h (by decide),fun h=> absurd h (by decide)⟩
          ·intro a w2 hB hF hd
           refine flow_wanted (wanted_yes rfl rfl ((hd 2 _ rfl (waits_spec rfl)).1) rfl) ?_
           exact flow_val (fun h=> by cases h) (run_load_mid' rfl (hF.same 12 rfl) Try.underlying97 rfl Try.sizeTm (fun i hi=> (hB.cell (p:=⟨b12,0+i,none⟩) A2e.out.lt).trans (by rw [Nat.zero_add];exact A2e.out.cell i hi))) ⟨rfl,fun h=> absurd h (by decide),fun h=> absurd h (by decide)⟩
          ·intro a w2 hB hF hd
           refine flow_wanted (wanted_yes rfl rfl ((hd 2 _ rfl (waits_spec rfl)).1) rfl) ?_
           exact flow_val (fun h=> by cases h) (run_load_mid' rfl (hF.same 11 rfl) Try.underlying97 rfl Try.sizeTm (fun i hi=> (hB.cell (p:=⟨b11,0+i,none⟩) A1e.out.lt).trans (by rw [Nat.zero_add];exact A1e.out.cell i hi))) ⟨rfl,fun h=> absurd h (by decide),fun h=> absurd h (by decide)⟩
          ·intro a w2 hB hF hd
           refine flow_wanted (wanted_yes rfl rfl ((hd 2 _ rfl (waits_spec rfl)).1) rfl) ?_
           exact flow_val (fun h=> by cases h) (run_neq_tm (t:=t) (u:=t) rfl ((hd 3 _ rfl (waits_spec rfl)).1) ((hd 4 _ rfl (waits_spec rfl)).1) HOT.out HOT.out) ⟨(congrArg Value.bool (show (!decide (t=t))=false by simp)),fun h=> absurd h (by decide),fun h=> absurd h (by decide)⟩
          ·intro a w2 hB hF hd
           rw [if_pos (wanted_none rfl)]
           exact flow_val (fun h=> by cases h) (run_pick rfl ((hd 2 _ rfl (waits_spec rfl)).1)) ⟨(((hd 5 _ rfl (waits_spec rfl)).1)),fun h=> absurd h (by decide),fun h=> absurd h (by decide)⟩
          ·intro a w2 hB hF hd
           rw [if_pos (wanted_none rfl)]
           exact flow_move _ (.inl rfl) (by simp) ⟨((hd 6 _ rfl (waits_spec rfl)).1),fun h=> absurd h (by decide),fun h=> absurd h (by decide)⟩
          ·intro a w2 hB hF hd
           refine flow_wanted (wanted_yes rfl rfl ((hd 7 _ rfl (waits_spec rfl)).1) rfl) ?_
           exact flow_move _ (.inl rfl) (by simp) ⟨(hF.same 15 rfl),fun h=> absurd h (by decide),fun h=> absurd h (by decide)⟩
          ·intro a w2 hB hF hd
           refine flow_wanted (wanted_yes rfl rfl ((hd 7 _ rfl (waits_spec rfl)).1) rfl) ?_
           refine flow_val (fun h=> by cases h) (run_field_at (m:=0) (k:=0) rfl (hF.same 11 rfl) (by kernel_rfl)) ?_
           exact ⟨rfl,fun h=> absurd h (by decide),fun h=> absurd h (by decide)⟩
          ·intro a w2 hB hF hd
           refine flow_wanted (wanted_yes rfl rfl ((hd 7 _ rfl (waits_spec rfl)).1) rfl) ?_
           exact flow_val (fun h=> by cases h) (run_load_cell rfl ((hd 9 _ rfl (waits_spec rfl)).1) Try.underlying3 ((hB.cell (p:=⟨b11,0,none⟩) A1e.out.lt).trans (A1e.out.cell 0 (by decide)))) ⟨rfl,fun h=> absurd h (by decide),fun h=> absurd h (by decide)⟩
          ·intro a w2 hB hF hd
           refine flow_wanted (wanted_yes rfl rfl ((hd 7 _ rfl (waits_spec rfl)).1) rfl) ?_
           refine flow_val (fun h=> by cases h) (Go.Bas.run_eql_int rfl ((hd 10 _ rfl (waits_spec rfl)).1) rfl) ?_
           exact ⟨(congrArg Value.bool HK9.out),fun h=> absurd h (by decide),fun h=> absurd h (by decide)⟩
          ·intro a w2 hB hF hd
           refine flow_wanted (wanted_yes rfl rfl ((hd 7 _ rfl (waits_spec rfl)).1) rfl) ?_
           exact flow_val (fun h=> by cases h) (run_neq_boolT rfl ((hd 8 _ rfl (waits_spec rfl)).1) ((hd 11 _ rfl (waits_spec rfl)).1) Try.underlying4) ⟨rfl,fun h=> absurd h (by decide),fun h=> absurd h (by decide)⟩
          ·intro a w2 hB hF hd
           rw [if_pos (wanted_none rfl)]
           exact flow_val (fun h=> by cases h) (run_pick rfl ((hd 7 _ rfl (waits_spec rfl)).1)) ⟨(((hd 12 _ rfl (waits_spec rfl)).1)),fun h=> absurd h (by decide),fun h=> absurd h (by decide)⟩
          ·intro a w2 hB hF hd
           rw [if_pos (wanted_none rfl)]
           exact flow_move _ (.inl rfl) (by simp) ⟨((hd 13 _ rfl (waits_spec rfl)).1),fun h=> absurd h (by decide),fun h=> absurd h (by decide)⟩
          ·intro a w2 hB hF hd
           refine flow_wanted (wanted_yes rfl rfl ((hd 14 _ rfl (waits_spec rfl)).1) rfl) ?_
           exact flow_move _ (.inl rfl) (by simp) ⟨trivial,fun _=> (by rw [show a.eval (Operand.tmp 14)= _ from hF.same 14 rfl];exact VR.out.below hB),fun h=> absurd h (by decide)⟩
          ·intro a w2 hB hF hd
           refine flow_wanted (wanted_yes rfl rfl ((hd 14 _ rfl (waits_spec rfl)).1) rfl) ?_
           exact flow_move _ (.inl rfl) (by simp) ⟨trivial,fun h=> absurd h (by decide),fun _=> (by rw [show a.eval (Operand.tmp 16)= _ from hF.same 16 rfl];exact WR.out.below hB)⟩
          ·intro a w2 hB hF hd
           refine flow_wanted (wanted_yes rfl rfl ((hd 14 _ rfl (waits_spec rfl)).1) rfl) ?_
           refine flow_call _ _ _ rfl Try.call24 _ (args2 rfl rfl) (by simp) ((same_yes _ _ _ _ _ _ ((hd 15 _ rfl (waits_spec rfl)).2.1 rfl) ((hd 16 _ rfl (waits_spec rfl)).2.2 rfl) (fun _ _=> rfl)).mono ?_)
           rintro e w3 ⟨rfl,hb⟩;exact ⟨_,rfl,⟨rfl,fun h=> absurd h (by decide),fun h=> absurd h (by decide)⟩,hb⟩
          ·intro a w2 hB hF hd
           refine flow_wanted (wanted_yes rfl rfl ((hd 14 _ rfl (waits_spec rfl)).1) rfl) ?_
           exact flow_val (fun h=> by cases h) (run_not rfl ((hd 17 _ rfl (waits_spec rfl)).1)) ⟨rfl,fun h=> absurd h (by decide),fun h=> absurd h (by decide)⟩
          ·intro a w2 hB hF hd
           rw [if_pos (wanted_none rfl)]
           exact flow_val (fun h=> by cases h) (run_pick rfl ((hd 14 _ rfl (waits_spec rfl)).1)) ⟨(((hd 18 _ rfl (waits_spec rfl)).1)),fun h=> absurd h (by decide),fun h=> absurd h (by decide)⟩
          ·intro a w2 hB hF hd
           rw [if_pos (wanted_none rfl)]
           exact flow_move _ (.inl rfl) (by simp) ⟨((hd 19 _ rfl (waits_spec rfl)).1),fun h=> absurd h (by decide),fun h=> absurd h (by decide)⟩
          ·intro a w2 hB hF hd
           refine flow_wanted (wanted_yes rfl rfl ((hd 20 _ rfl (waits_spec rfl)).1) rfl) ?_
           exact flow_move _ (.inl rfl) (by simp) ⟨(hF.same 10 rfl),fun h=> absurd h (by decide),fun h=> absurd h (by decide)⟩
          ·intro a w2 hB hF hd
           refine flow_wanted (wanted_yes rfl rfl ((hd 20 _ rfl (waits_spec rfl)).1) rfl) ?_
           exact flow_val (fun h=> by cases h) (Go.Bas.run_lss rfl ((hd 21 _ rfl (waits_spec rfl)).1) rfl) ⟨(congrArg Value.bool (HLT12.out)),fun h=> absurd h (by decide),fun h=> absurd h (by decide)⟩
          ·intro a w2 hB hF hd
           refine flow_wanted (wanted_yes rfl rfl ((hd 20 _ rfl (waits_spec rfl)).1) rfl) ?_
           exact flow_move _ (.inl rfl) (by simp) ⟨((hd 22 _ rfl (waits_spec rfl)).1),fun h=> absurd h (by decide),fun h=> absurd h (by decide)⟩
          ·intro a w2 hB hF hd
           rw [if_neg (by rw [wanted_some rfl rfl ((hd 23 _ rfl (waits_spec rfl)).1)];decide)]
           exact ⟨rfl,fun h=> absurd h (by decide),fun h=> absurd h (by decide)⟩
          ·intro a w2 hB hF hd
           rw [if_neg (by rw [wanted_some rfl rfl ((hd 23 _ rfl (waits_spec rfl)).1)];decide)]
           exact ⟨rfl,fun h=> absurd h (by decide),fun h=> absurd h (by decide)⟩
          ·intro a w2 hB hF hd
           rw [if_neg (by rw [wanted_some rfl rfl ((hd 23 _ rfl (waits_spec rfl)).1)];decide)]
           exact ⟨rfl,fun h=> absurd h (by decide),fun h=> absurd h (by decide)⟩
          ·intro a w2 hB hF hd
           rw [if_neg (by rw [wanted_some rfl rfl ((hd 23 _ rfl (waits_spec rfl)).1)];decide)]
           exact ⟨rfl,fun h=> absurd h (by decide),fun h=> absurd h (by decide)⟩
          ·intro a w2 hB hF hd
           rw [if_neg (by rw [wanted_some rfl rfl ((hd 23 _ rfl (waits_spec rfl)).1)];decide)]
           exact ⟨rfl,fun h=> absurd h (by decide),fun h=> absurd h (by decide)⟩
          ·intro a w2 hB hF hd
           rw [if_neg (by rw [wanted_some rfl rfl ((hd 23 _ rfl (waits_spec rfl)).1)];decide)]
           exact ⟨rfl,fun h=> absurd h (by decide),fun h=> absurd h (by decide)⟩
          ·intro a w2 hB hF hd
           rw [if_neg (by rw [wanted_some rfl rfl ((hd 23 _ rfl (waits_spec rfl)).1)];decide)]
           exact ⟨rfl,fun h=> absurd h (by decide),fun h=> absurd h (by decide)⟩
          ·intro a w2 hB hF hd
           refine flow_wanted (wanted_yes rfl rfl ((hd 20 _ rfl (waits_spec rfl)).1) rfl) ?_
           exact flow_val (fun h=> by cases h) (run_pick rfl ((hd 23 _ rfl (waits_spec rfl)).1)) ⟨(rfl),fun h=> absurd h (by decide),fun h=> absurd h (by decide)⟩
          ·intro a w2 hB hF hd
           rw [if_pos (wanted_none rfl)]
           exact flow_val (fun h=> by cases h) (run_pick rfl ((hd 20 _ rfl (waits_spec rfl)).1)) ⟨(((hd 31 _ rfl (waits_spec rfl)).1)),fun h=> absurd h (by decide),fun h=> absurd h (by decide)⟩
         ·intro a wf hB hF hS
          obtain ⟨x126,hx126⟩:∃x,x=a.tmps.getD 126 undef:=⟨_,rfl⟩
          obtain ⟨x127,hx127⟩:∃x,x=a.tmps.getD 127 undef:=⟨_,rfl⟩
          have ha:=puts_each rfl rfl hF [_,_,_,_,_,_,_,_,_,_,_,_,_,_,_,x126,x127,_,_,_,_,_,_,_,_,_,_,_,_,_,_,_,_] rfl ⟨(hS 0 _ rfl).1,(hS 1 _ rfl).1,(hS 2 _ rfl).1,(hS 3 _ rfl).1,(hS 4 _ rfl).1,(hS 5 _ rfl).1,(hS 6 _ rfl).1,(hS 7 _ rfl).1,(hS 8 _ rfl).1,(hS 9 _ rfl).1,(hS 10 _ rfl).1,(hS 11 _ rfl).1,(hS 12 _ rfl).1,(hS 13 _ rfl).1,(hS 14 _ rfl).1,hx126.symm,hx127.symm,(hS 17 _ rfl).1,(hS 18 _ rfl).1,(hS 19 _ rfl).1,(hS 20 _ rfl).1,(hS 21 _ rfl).1,(hS 22 _ rfl).1,(hS 23 _ rfl).1,(hS 24 _ rfl).1,(hS 25 _ rfl).1,(hS 26 _ rfl).1,(hS 27 _ rfl).1,(hS 28 _ rfl).1,(hS 29 _ rfl).1,(hS 30 _ rfl).1,(hS 31 _ rfl).1,(hS 32 _ rfl).1,trivial⟩
          simp only [puts,Act.put,List.setIfInBounds_toArray,List.set_cons_succ,List.set_cons_zero] at ha
          subst ha
          clear hx126 hx127
          clear hS hF
          have Bf:=Lib.hid (Be.out.trans (hB.mono Be.out.size))
          clear hB
          go_wp2
          go_roundw
          case rel=> exact ⟨j+1,by have:=HLJ.out;omega,by go_num,Bf.out⟩
          case measure=> have:=HLJ.out;simp [intOf];omega
      ·obtain rfl:j=S.l.length:=by omega
       have hng:getA S (S.l.length:Int)=((0,0,0),false):=getA_no (by
        unfold hasT
        rw [decide_eq_false (show ¬ (S.l.length:Int)<S.l.length by omega),Bool.and_false,Bool.false_and])
       have SSq:=Lib.hid (SS8.out.below' BQ.out)
       have cyq:=(boxed_below Y8.out BQ.out:Boxed wr (y+1) _ _).cell
       have c0q:=(RS8.out.below BQ.out).c0
       rw [EL.out] at c0q
       clear hlt
       go_wp2_with fail
       refine (tGet_any SSq.out (S.l.length:Int)).mono ?_
       rw [hng]
       rintro e wb ⟨rfl,bb⟩
       have Bb:=Lib.hid (BQ.out.trans (bb.mono BQ.out.size))
       clear bb hng cyq c0q
       go_upto_region 31 with (first | (refine store_rowV rfl 97 _ _ rfl wb.heap.size 3 (fun i=> .int .i64 (tf (0,0,0) i)) _ 97 (heap_alloc_new _ _) rfl Try.sizeTm rfl rfl (fun _ _=> rfl) ?_))
       refine wp_world (fun w1=> Below wb.heap.size wb w1) (below_setRow' ((Below.refl _ _).alloc (Nat.le_refl _) _) (Nat.le_refl _) _) ?_
       rintro wc hb2
       have Bc:=Lib.hid (Bb.out.trans (hb2.mono Bb.out.size))
       clear hb2
       have Yc:Hid (Boxed wc (y+1) 92 (.pointer (some ⟨y,0,none⟩))):=Lib.hid (boxed_below Y8.out Bc.out)
       have Xc:Hid (Boxed wc B 4 (.bool false)):=Lib.hid (boxed_below X8.out Bc.out)
       have RSc:=Lib.hid (RS8.out.below Bc.out)
       have SSc:=Lib.hid (SS8.out.below' Bc.out)
       have Nc:=Lib.hid (N8.out.kept Bc.out)
       have c0c:Hid (wc.cell? ⟨y,0,none⟩=some (.slice al S.l.length cl)):=Lib.hid (RSc.out.c0.trans (congrArg some EL.out))
       have HSM:Hid (∀{w2:World},Below wc.heap.size wc w2→Calls Try.prog 60 #[.pointer (some ⟨p,0,none⟩),.int .i64 (-1)] w2 fun e w'=> e=.returned (.int .i64 0)∧Below w2.heap.size w2 w'):=Lib.hid fun hB=> sSize_any (SSc.out.below' hB) (-1) (by have:=HSL.out.1;omega)
       have HEQ1:Hid (((S.l.length:Int)==(S.l.length:Int))=true):=Lib.hid (by simp)
       refine region_last' (n:=171) 16 rfl (by decide) (by kernel_rfl) (by kernel_rfl) (by kernel_rfl) (by kernel_rfl) rfl
        (fun ii vv _=> (match ii with | 0=> vv=.bool false | 1 | 2 | 9 | 10 | 11 | 14 | 15=> vv=.bool true | 3 | 8=> vv=.int .i64 ((S.l.length:Int)) | 4 | 5 | 6=> vv=.pointer (some ⟨y,0,none⟩) | 7=> vv=.slice al S.l.length cl | 12=> vv=.pointer (some ⟨p,0,none⟩) | 13=> vv=.int .i64 (0) | _=> True))
        (fun w w'=> Below w.heap.size w w') (fun _ _ h=> h) (fun _ _ _ _ h _=> h) rfl ?_ ?_
       ·refine Each.all ?_
        refine ⟨?_,?_,?_,?_,?_,?_,?_,?_,?_,?_,?_,?_,?_,?_,?_,?_,(fun h=> absurd rfl h),trivial⟩
        ·intro _ a w2 hB hF hd
         rw [if_pos (wanted_none rfl)]
         exact flow_move _ (.inl rfl) (by simp) (hF.same 18 rfl)
        ·intro _ a w2 hB hF hd
         rw [if_pos (wanted_none rfl)]
         exact flow_val (fun h=> by cases h) (run_not rfl (hd 0 _ rfl (waits_spec rfl))) rfl
        ·intro _ a w2 hB hF hd
         rw [if_pos (wanted_none rfl)]
         exact flow_move _ (.inl rfl) (by simp) (hd 1 _ rfl (waits_spec rfl))
        ·intro _ a w2 hB hF hd
         refine flow_wanted (wanted_yes rfl rfl (hd 2 _ rfl (waits_spec rfl)) rfl) ?_
         exact flow_val (fun h=> by cases h) (run_load_cell rfl (hF.same 7 rfl) Try.underlying3 ((hB.cell (p:=⟨bn,0,none⟩) Nc.out.lt).trans (Nc.out.cell 0 (by decide)))) rfl
        ·intro _ a w2 hB hF hd
         refine flow_wanted (wanted_yes rfl rfl (hd 2 _ rfl (waits_spec rfl)) rfl) ?_
         exact flow_val (fun h=> by cases h) (run_load_pt rfl (hF.same 4 rfl) Try.underlying92 ((hB.cell (p:=⟨y+1,0,none⟩) Yc.out.lt).trans Yc.out.cell)) rfl
        ·intro _ a w2 hB hF hd
         refine flow_wanted (wanted_yes rfl rfl (hd 2 _ rfl (waits_spec rfl)) rfl) ?_
         exact flow_val (fun h=> by cases h) (run_nilCheck rfl (hd 4 _ rfl (waits_spec rfl))) rfl
        ·intro _ a w2 hB hF hd
         refine flow_wanted (wanted_yes rfl rfl (hd 2 _ rfl (waits_spec rfl)) rfl) ?_
         refine flow_val (fun h=> by cases h) (run_field_at (m:=0) (k:=0) rfl (hd 5 _ rfl (waits_spec rfl)) (by kernel_rfl)) ?_
         exact rfl
        ·intro _ a w2 hB hF hd
         refine flow_wanted (wanted_yes rfl rfl (hd 2 _ rfl (waits_spec rfl)) rfl) ?_
         exact flow_val (fun h=> by cases h) (run_load_slice rfl (hd 6 _ rfl (waits_spec rfl)) Try.underlying93 ((hB.cell (p:=⟨y,0,none⟩) RSc.out.row.lt).trans c0c.out)) rfl
        ·intro _ a w2 hB hF hd
         refine flow_wanted (wanted_yes rfl rfl (hd 2 _ rfl (waits_spec rfl)) rfl) ?_
         exact flow_val (fun h=> by cases h) (run_len_sl rfl (hd 7 _ rfl (waits_spec rfl)) Try.underlying93) rfl
        ·intro _ a w2 hB hF hd
         refine flow_wanted (wanted_yes rfl rfl (hd 2 _ rfl (waits_spec rfl)) rfl) ?_
         refine flow_val (fun h=> by cases h) (Go.Bas.run_eql_int rfl (hd 3 _ rfl (waits_spec rfl)) (hd 8 _ rfl (waits_spec rfl))) ?_
         exact congrArg Value.bool HEQ1.out
        ·intro _ a w2 hB hF hd
         rw [if_pos (wanted_none rfl)]
         exact flow_val (fun h=> by cases h) (run_pick rfl (hd 2 _ rfl (waits_spec rfl))) ((hd 9 _ rfl (waits_spec rfl)))
        ·intro _ a w2 hB hF hd
         rw [if_pos (wanted_none rfl)]
         exact flow_move _ (.inl rfl) (by simp) (hd 10 _ rfl (waits_spec rfl))
        ·intro _ a w2 hB hF hd
         refine flow_wanted (wanted_yes rfl rfl (hd 11 _ rfl (waits_spec rfl)) rfl) ?_
         exact flow_move _ (.inl rfl) (by simp) (hF.same 3 rfl)
        ·intro _ a w2 hB hF hd
         refine flow_wanted (wanted_yes rfl rfl (hd 11 _ rfl (waits_spec rfl)) rfl) ?_
         refine flow_call _ _ _ rfl Try.call60 _ (args2 (hd 12 _ rfl (waits_spec rfl)) rfl) (by simp) ((HSM.out hB).mono ?_)
         rintro e w3 ⟨rfl,hb⟩;exact ⟨_,rfl,rfl,hb⟩
        ·intro _ a w2 hB hF hd
         refine flow_wanted (wanted_yes rfl rfl (hd 11 _ rfl (waits_spec rfl)) rfl) ?_
         refine flow_val (fun h=> by cases h) (Go.Bas.run_eql_int rfl (hd 13 _ rfl (waits_spec rfl)) rfl) ?_
         exact rfl
        ·intro _ a w2 hB hF hd
         rw [if_pos (wanted_none rfl)]
         exact flow_val (fun h=> by cases h) (run_pick rfl (hd 11 _ rfl (waits_spec rfl))) ((hd 14 _ rfl (waits_spec rfl)))
       ·intro a wf hB hF hS
        have ha:=puts_each rfl rfl hF [_,_,_,_,_,_,_,_,_,_,_,_,_,_,_,_,undef] rfl ⟨hS 0 _ rfl (by decide),hS 1 _ rfl (by decide),hS 2 _ rfl (by decide),hS 3 _ rfl (by decide),hS 4 _ rfl (by decide),hS 5 _ rfl (by decide),hS 6 _ rfl (by decide),hS 7 _ rfl (by decide),hS 8 _ rfl (by decide),hS 9 _ rfl (by decide),hS 10 _ rfl (by decide),hS 11 _ rfl (by decide),hS 12 _ rfl (by decide),hS 13 _ rfl (by decide),hS 14 _ rfl (by decide),hS 15 _ rfl (by decide),trivial,trivial⟩
        simp only [puts,Act.put,List.setIfInBounds_toArray,List.set_cons_succ,List.set_cons_zero] at ha
        subst ha
        clear hS hF
        have Bf:=Lib.hid (Bc.out.trans (hB.mono Bc.out.size))
        have Xf:=boxed_below Xc.out hB
        refine wp_store_one 4 _ _ rfl rfl B (.bool true) (.bool false) rfl rfl (by kernel_rfl) rfl rfl Xf.cell Xf.frozen ?_
        have hDl:D<W.heap.size:=(Array.getElem?_eq_some_iff.1 HKD.out).1
        have hDB:B≠D:=by have:=HD.out;have:=HXL.out.1;omega
        have hKDf:(wf.setCell ⟨B,0,none⟩ (.bool true)).heap[D]? =some (.deferred (some [])):=(heap_setCell_other wf ⟨B,0,none⟩ D _ (Ne.symm hDB)).trans ((Bf.out.block D hDl).trans HKD.out)
        have e2:((wf.setCell ⟨B,0,none⟩ (.bool true)).putObj D (.deferred none)).cell? ⟨B,0,none⟩=some (.bool true):=(World.cell?_of_block (a:=⟨B,0,none⟩) (World.putObj_heap_other hDB)).trans (Xf.set (.bool true)).cell
        have hBW:B≤W.heap.size:=Nat.le_of_lt X8.out.lt
        have hBD:B≤D:=by have:=HD.out;have:=HXL.out.1;omega
        have HB9:Hid (Below B w ((wf.setCell ⟨B,0,none⟩ (.bool true)).putObj D (.deferred none))):=Lib.hid (((B8.out.trans (Bf.out.mono hBW)).setCell (Nat.le_refl _) _).grown (grownBy_putObj' _ D _) (by rw [size_setCell];exact Nat.le_trans hBW Bf.out.size) (fun k e=> by cases e;exact hBD))
        have HKDf:=Lib.hid hKDf
        have E2:=Lib.hid e2
        clear hB Xf hBW hBD hDB hDl hKDf e2
        go_wp2
        have e2:=E2.out
        refine ⟨by simp,.inl ⟨_,_,rfl,run_takeDeferred HKDf.out,?_⟩⟩
        exact ⟨.bool true,by simp [results,Try.results11,go_sem,e2],rfl,HB9.out⟩
end Go.Proofs.Ytlmdgmgbijfaoaa
