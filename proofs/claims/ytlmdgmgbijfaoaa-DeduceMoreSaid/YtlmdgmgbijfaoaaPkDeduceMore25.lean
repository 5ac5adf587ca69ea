/-
  Part 25 of the texts that the proof of DeduceMore rests on, one after the other. Conditions: named in each theorem.
-/
import Derived.Test.YtlmdgmgbijfaoaaPkDeduceMore20
import Derived.Test.YtlmdgmgbijfaoaaPkDeduceMore19
import Derived.Test.YtlmdgmgbijfaoaaPkDeduceMore18
import Derived.Test.YtlmdgmgbijfaoaaPkDeduceMore1
import Derived.Test.YtlmdgmgbijfaoaaPkDeduceMore13
import Derived.Test.YtlmdgmgbijfaoaaPkDeduceMore2
import Derived.Test.YtlmdgmgbijfaoaaPkDeduceMore11
import Derived.Test.YtlmdgmgbijfaoaaPkDeduceMore5
import Derived.Test.YtlmdgmgbijfaoaaPkDeduceMore3
import Derived.Test.YtlmdgmgbijfaoaaPkDeduceMore4
import Derived.Test.YtlmdgmgbijfaoaaPkDeduceMore6
import Derived.Test.YtlmdgmgbijfaoaaPkDeduceMore7
import Derived.Test.YtlmdgmgbijfaoaaPkDeduceMore10
import Derived.Test.YtlmdgmgbijfaoaaPkDeduceMore9
import Derived.Test.YtlmdgmgbijfaoaaPkDeduceMore8
import Derived.Test.YtlmdgmgbijfaoaaPkDeduceMore12
import Derived.Test.YtlmdgmgbijfaoaaPkDeduceMore15
import Derived.Test.YtlmdgmgbijfaoaaPkDeduceMore14
import Derived.Test.YtlmdgmgbijfaoaaPkDeduceMore16
import Derived.Test.YtlmdgmgbijfaoaaPkDeduceMore17
import Derived.Test.YtlmdgmgbijfaoaaPkDeduceMore21
import Derived.Test.YtlmdgmgbijfaoaaPkDeduceMore24
import Derived.Test.YtlmdgmgbijfaoaaPkDeduceMore23
import Derived.Test.YtlmdgmgbijfaoaaPkDeduceMore22
import Derived.BigFrame
import Derived.BigQuiet
import Derived.ChangeKeysEq
import Derived.ChangeMaps5
import Derived.ChangeOld
import Derived.Deep.Cut
import Derived.Deep.DrawnRows
import Derived.Deep.LoopGhost
import Derived.Deep.MidRow
import Derived.Deep.QuietTactic
import Derived.Deep.RegionHeld3
import Derived.Deep.RegionLaw
import Derived.Deep.Slices
import Derived.Deep.Strs
import Derived.Deep.Upon
import Derived.Deep.WholeRow
import Derived.DeepKeys4
import Derived.Great.BuildSlice
import Derived.Great.Walk
import Derived.Laws.BitsAllLaws
import Derived.Laws.BytesArg
import Derived.Laws.CopyOwn
import Derived.Laws.IdiomCopy
import Derived.Laws.Strings
import Derived.Laws.StructEq
import Derived.Lib.BufferRead
import Derived.Lib.Hide
import Derived.LoopIn
import Derived.LoopNIn
import Derived.MapViews
import Derived.Maps.AppendAt
import Derived.Maps.OwnSet
import Derived.Maps.Range
import Derived.Maps.Views
import Derived.OpenShut
import Derived.Orders
import Derived.OrdersIn
import Derived.OwnWalkIn
import Derived.ProofKit
import Derived.RangeFuncBound
import Derived.RangeFuncBox
import Derived.RangeFuncCalls
import Derived.RangeFuncFrom
import Derived.RangeFuncLeaves
import Derived.RangeFuncNested
import Derived.Shelf.Abstract
import Derived.Shelf.RegionOpen
import Derived.ShutString
import Derived.StillTactics
import Derived.StillTailTactics
import Derived.TacticsInMore
import Derived.Test.YtlmdgmgbijfaoaaArr
import Derived.Test.YtlmdgmgbijfaoaaFlow
import Derived.Test.YtlmdgmgbijfaoaaKit
import Derived.Test.YtlmdgmgbijfaoaaOpen
import Derived.Test.YtlmdgmgbijfaoaaOpenT
import Derived.Test.YtlmdgmgbijfaoaaRows
import Derived.Test.YtlmdgmgbijfaoaaTxt
import Derived.WalkKit
import Derived.WalkLawsBesides
import Derived.WalkMore
import Derived.WalkSmall
import Derived.WalkSpells
set_option linter.unusedVariables false
set_option linter.unusedSimpArgs false
set_option maxRecDepth 100000
set_option maxHeartbeats 6400000
namespace Go.Proofs.Ytlmdgmgbijfaoaa
open Go.RowKit Go.Bas Go.ChangeShapes Go.Maps
attribute [local go_sem ↓] Go.wp_at_zero Go.wp_at_succ
attribute [local go_sem] Oper.semAt_some
theorem tPut_bad {B:Nat} {w:World} {p:Nat} {S:TS} {F:Nat→Prop} (h:StA B w p F S) (t:Tm) (hm:mayT S t=false):Calls Try.prog 62 #[.pointer (some ⟨p,0,none⟩),tmV t] w fun e w'=> e=.returned (.tuple #[.int .i64 0,.int .i64 2])∧Below w.heap.size w w':=by
 obtain ⟨mb,mt,vl,vb,tv,h1,h2,h3⟩:=h
 have H:=Lib.hid h1
 have HM:=Lib.hid hm
 clear h1 h2 h3 hm
 go_enter Try.func62,Try.ntmps62
 go_upto_region 1 with (fail)
 refine wp_world (fun w1=> (∀i,i<3→w1.cell? ⟨w.heap.size,i,none⟩=some (.int .i64 (tf t i)))∧Below w.heap.size w w1) ⟨fun i hi=> by rcases (by omega:i=0∨i=1∨i=2) with rfl | rfl | rfl<;> exact cell_of_row _ _ _ _ _ (0,0) (heap_alloc_new w _),(Below.refl _ _).alloc (Nat.le_refl _) _⟩ ?_
 rintro w1 ⟨hc1,bb1⟩
 have HC1:Hid (∀i,i<3→w1.cell? ⟨w.heap.size,0+i,none⟩=some (.int .i64 (tf t i))):=Lib.hid fun i hi=> by rw [Nat.zero_add];exact hc1 i hi
 have B1:=Lib.hid bb1
 have H1:=Lib.hid (H.out.below bb1)
 clear hc1 bb1
 go_wp2_with fail
 refine (tIs_any H1.out).mono ?_
 rintro e w1' ⟨rfl,rfl⟩
 go_wp2_with (refine load_row (y:=fun i=> .int .i64 (tf t i)) rfl rfl rfl Try.underlying97 rfl Try.sizeTm HC1.out ?_)
 refine (tMay_any H1.out t).mono ?_
 rw [HM.out]
 rintro e w2 ⟨rfl,b2⟩
 have B2:=Lib.hid (B1.out.trans (b2.mono B1.out.size))
 clear b2
 go_wp2
 go_ret2
 exact ⟨rfl,B2.out⟩
theorem run_makeB (n:Nat) (hn:n≤1000):∃CS:Array Value,(CS.size=n∧∀i,i<n→CS[i]? =some (.bool false))∧∀w:World,(Instr.makeSlice 120 (.int .i64 (n:Int)) (.int .i64 (n:Int))).run Try.prog w=.ok (.slice (some ⟨w.heap.size,0,none⟩) n n) (w.alloc (.cells CS 4)):=by
 have hinfo:(Try.prog.info? 4).map (fun i=> (i.zero,i.size,i.bytes))=some (some (.bool false),1,1):=by kernel_rfl
 obtain ⟨i0,hi,hz0,hz1,hz2⟩:=info_parts hinfo
 refine ⟨madeCells (Value.bool false).cells (n * 1),⟨by simp [madeCells],fun i hi=> by unfold madeCells;simp [hi,Value.cells,Nat.mod_one]⟩,fun w=> ?_⟩
 have hb':(i0.bytes:Int) * (n:Int)≤281474976710656:=by rw [hz2];omega
 have hr:=run_make (P:=Try.prog) w 120 4 i0 (.bool false) Try.underlying120 hi hz0 .i64 .i64 n n (by omega) (Int.le_refl _) hb' (by omega)
 simpa [hz1] using hr
theorem may_zero (S:TS):mayT S (0,0,0)=false:=by unfold mayT;simp
theorem owm_own {β:Type} {e:TypeId} {c n:Nat} {v:Value} {q:Nat→Nat→Value} {W W':World} {row:Option Nat} (h:OwM e c W v n q) (hg:W.grownBy W' row) (hr:∀r,row=some r→∃o:Obj,W.heap[r]? =some o∧o.isCells=false):OwM e c W' v n q:=h.grown hg fun b hb e=> by
 obtain ⟨o,ho,hc⟩:=hr b e.symm
 rcases h with ⟨rfl,_⟩ | ⟨g,cap,rfl,⟨cur,h1,_⟩,_⟩
 ·cases hb
 ·cases hb
  rw [h1] at ho
  cases ho
  cases hc
def FrI (l:List Tm) (w7:World) (kp:Nat) (pre:List Nat) (W:World):Prop:=∃vl,RowB W kp 179 4∧W.cell? ⟨kp,0,none⟩=some vl∧W.cell? ⟨kp,1,none⟩=some (.slice none 0 0)∧W.cell? ⟨kp,2,none⟩=some (.slice none 0 0)∧W.cell? ⟨kp,3,none⟩=some (.bool true)∧
 OwM 97 3 W vl (pre.map (tmAt l)).length (tmv (pre.map (tmAt l)))∧(∀b,vl.ownBlock=some b→w7.heap.size≤b)∧Chg (fun b=> b=kp) w7 W
theorem frI_own {l:List Tm} {w7:World} {kp:Nat} (hk:kp<w7.heap.size):OwnFrom w7.heap.size (fun (pre:List Nat) W=> FrI l w7 kp pre W):=fun pre W W' row hs hg hr=> by
 obtain ⟨vl,h1,h2,h3,h4,h5,h6,h7,h8⟩:=hs
 have hn:some kp≠row:=fun e=> by have:=(hr kp e.symm).1;omega
 have hb:=hg.block kp h1.lt hn
 have c:=fun (i:Nat)=> World.cell?_of_block (a:=⟨kp,i,none⟩) hb
 exact ⟨vl,h1.heap hb,(c 0).trans h2,(c 1).trans h3,(c 2).trans h4,(c 3).trans h5,owm_own (β:=Unit) h6 hg (fun r e=> (hr r e).2),h7,chg_own (Nat.le_refl _) pre W W' row h8 hg hr⟩
def OwB (W:World) (n:Nat) (v:Value) (w:World):Prop:=OwM 4 1 w v n (bv fun _=> false)∧∃g,v=.slice (some ⟨g,0,none⟩) n n∧W.heap.size≤g∧g<w.heap.size
def SP8 (W:World) (kp:Nat) (al:Option Addr) (n cl:Nat) (j:Nat) (a:Act) (w:World):Prop:=match j with
 | 0=> a.tmps.getD 37 undef=.pointer (some ⟨kp,0,none⟩)
 | 1=> a.tmps.getD 38 undef=.pointer (some ⟨kp,0,none⟩)
 | 2=> a.tmps.getD 39 undef=.pointer (some ⟨kp,0,none⟩)
 | 3=> a.tmps.getD 40 undef=.pointer (some ⟨kp,0,none⟩)
 | 4=> a.tmps.getD 41 undef=.pointer (some ⟨kp,0+0,none⟩)
 | 5=> a.tmps.getD 42 undef=.slice al n cl
 | 6=> a.tmps.getD 43 undef=.int .i64 (n:Int)
 | 7=> OwB W n (a.tmps.getD 44 undef) w
 | 8=> a.tmps.getD 45 undef=.pointer (some ⟨kp,0,none⟩)
 | 9=> a.tmps.getD 46 undef=.pointer (some ⟨kp,0,none⟩)
 | 10=> a.tmps.getD 47 undef=.pointer (some ⟨kp,0+0,none⟩)
 | 11=> a.tmps.getD 48 undef=.slice al n cl
 | 12=> a.tmps.getD 49 undef=.int .i64 (n:Int)
 | 13=> OwB W n (a.tmps.getD 50 undef) w
 | 14=> a.tmps.getD 51 undef=.pointer (some ⟨kp,0,none⟩)
 | 15=> a.tmps.getD 52 undef=.pointer (some ⟨kp,0+1,none⟩)
 | 16=> w.cell? ⟨kp,0+1,none⟩=some (a.tmps.getD 44 undef)
 | 17=> a.tmps.getD 53 undef=.pointer (some ⟨kp,0,none⟩)
 | 18=> a.tmps.getD 54 undef=.pointer (some ⟨kp,0+2,none⟩)
 | 19=> w.cell? ⟨kp,0+2,none⟩=some (a.tmps.getD 50 undef)
 | _=> True
def US8 (j:Nat):List Nat:=match j with
 | 0=> [37] | 1=> [38] | 2=> [39] | 3=> [40] | 4=> [41] | 5=> [42] | 6=> [43] | 7=> [44] | 8=> [45] | 9=> [46] | 10=> [47] | 11=> [48] | 12=> [49] | 13=> [50] | 14=> [51] | 15=> [52] | 16=> [44] | 17=> [53] | 18=> [54] | 19=> [50] | _=> []
def E8 (kp:Nat) (i:Nat) (w w':World):Prop:=match i with
 | 7=> w.grownBy w' none
 | 13=> w.grownBy w' none
 | 16=> ∃v,w'=w.setCell ⟨kp,0+1,none⟩ v
 | 19=> ∃v,w'=w.setCell ⟨kp,0+2,none⟩ v
 | _=> w'=w
def JN8 (W:World) (kp:Nat) (al:Option Addr) (n cl:Nat) (w:World):Prop:=Chg (fun b=> b=kp) W w∧RowB w kp 179 4∧w.cell? ⟨kp,0+0,none⟩=some (.slice al n cl)∧w.cell? ⟨kp,3,none⟩=some (.bool true)
def R8 (n:Nat) (i:Nat) (w:World) (v:Value):Prop:=match i with
 | 7=> v=.slice (some ⟨w.heap.size,0,none⟩) n n
 | 13=> v=.slice (some ⟨w.heap.size,0,none⟩) n n
 | _=> True
def D8 (n:Nat) (a:Act):Prop:=∀g g':Nat,a.tmps.getD 44 undef=.slice (some ⟨g,0,none⟩) n n→a.tmps.getD 50 undef=.slice (some ⟨g',0,none⟩) n n→g≠g'
theorem owB_below {W w w':World} {n:Nat} {v:Value} (h:OwB W n v w) (hc:∀b,W.heap.size≤b→b<w.heap.size→w'.heap[b]? =w.heap[b]?) (hs:w.heap.size≤w'.heap.size):OwB W n v w':=by
 obtain ⟨h1,g,rfl,h2,h3⟩:=h
 exact ⟨h1.heap fun b hb=> by cases hb;exact hc g h2 h3,g,rfl,h2,Nat.lt_of_lt_of_le h3 hs⟩
theorem e8_cases {kp i:Nat} {w w':World} (h:E8 kp i w w'):(w.grownBy w' none)∨(i=16∧∃v,w'=w.setCell ⟨kp,0+1,none⟩ v)∨(i=19∧∃v,w'=w.setCell ⟨kp,0+2,none⟩ v)∨w'=w:=by
 unfold E8 at h
 split at h
 ·exact .inl h
 ·exact .inl h
 ·exact .inr (.inl ⟨rfl,h⟩)
 ·exact .inr (.inr (.inl ⟨rfl,h⟩))
 ·exact .inr (.inr (.inr h))
theorem sp8_stable {W:World} {kp:Nat} {al:Option Addr} {n cl:Nat} (hk:kp<W.heap.size) (j i:Nat) (a:Act) (w w':World) (hji:j≠i) (hs:SP8 W kp al n cl j a w) (hE:E8 kp i w w'):SP8 W kp al n cl j a w':=by
 have key:∀v,OwB W n v w→OwB W n v w':=fun v h=> by
  rcases e8_cases hE with h1 | ⟨_,u,rfl⟩ | ⟨_,u,rfl⟩ | rfl
  ·exact owB_below h (fun b _ hb=> h1.block b hb (by simp)) h1.size
  ·exact owB_below h (fun b hb _=> heap_setCell_other w ⟨kp,0+1,none⟩ b u (by simp;omega)) (by rw [size_setCell];exact Nat.le_refl _)
  ·exact owB_below h (fun b hb _=> heap_setCell_other w ⟨kp,0+2,none⟩ b u (by simp;omega)) (by rw [size_setCell];exact Nat.le_refl _)
  ·exact h
 have cell:∀(c:Nat) (v:Value),(i=16→c≠1)→(i=19→c≠2)→w.cell? ⟨kp,0+c,none⟩=some v→w'.cell? ⟨kp,0+c,none⟩=some v:=fun c v h16 h19 hv=> by
  rcases e8_cases hE with h1 | ⟨e,u,rfl⟩ | ⟨e,u,rfl⟩ | rfl
  ·exact (World.cell?_of_block (a:=⟨kp,0+c,none⟩) (h1.block kp (World.block_lt_of_cell? _ _ hv) (by simp))).trans hv
  ·exact (World.cell?_setCell_other _ _ _ _ (fun e2=> h16 e (by have:=congrArg Addr.off e2;simp only at this;omega))).trans hv
  ·exact (World.cell?_setCell_other _ _ _ _ (fun e2=> h19 e (by have:=congrArg Addr.off e2;simp only at this;omega))).trans hv
  ·exact hv
 unfold SP8 at hs ⊢
 split at hs
 all_goals first | exact hs | exact key _ hs | exact cell 1 _ (fun e=> absurd e.symm hji) (fun _=> by decide) hs | exact cell 2 _ (fun _=> by decide) (fun e=> absurd e.symm hji) hs | trivial
theorem i8_step {W:World} {kp:Nat} {al:Option Addr} {n cl:Nat} (i:Nat) (w w':World) (h:JN8 W kp al n cl w) (hE:E8 kp i w w'):JN8 W kp al n cl w':=by
 obtain ⟨h1,h2,h3,h4⟩:=h
 rcases e8_cases hE with g | ⟨_,u,rfl⟩ | ⟨_,u,rfl⟩ | rfl
 ·have hb:=g.block kp h2.lt (by simp)
  exact ⟨h1.trans (Chg.of_grown (F:=fun b=> b=kp) g fun b e=> by cases e) fun _ _ h=> h,h2.heap hb,(World.cell?_of_block (a:=⟨kp,0+0,none⟩) hb).trans h3,(World.cell?_of_block (a:=⟨kp,3,none⟩) hb).trans h4⟩
 ·exact ⟨h1.trans (Chg.set (fun b=> b=kp) _ ⟨kp,0+1,none⟩ _ rfl) fun _ _ h=> h,h2.setCell _ rfl _,(World.cell?_setCell_other _ _ _ _ (by simp)).trans h3,(World.cell?_setCell_other _ _ _ _ (by simp)).trans h4⟩
 ·exact ⟨h1.trans (Chg.set (fun b=> b=kp) _ ⟨kp,0+2,none⟩ _ rfl) fun _ _ h=> h,h2.setCell _ rfl _,(World.cell?_setCell_other _ _ _ _ (by simp)).trans h3,(World.cell?_setCell_other _ _ _ _ (by simp)).trans h4⟩
 ·exact ⟨h1,h2,h3,h4⟩
theorem sp8_loc {W:World} {kp:Nat} {al:Option Addr} {n cl:Nat} (i:Nat) (a a':Act) (w:World) (h:∀t,t ∈ US8 i→a.tmps.getD t undef=a'.tmps.getD t undef) (hs:SP8 W kp al n cl i a w):SP8 W kp al n cl i a' w:=by
 unfold SP8 at hs ⊢
 unfold US8 at h
 split at hs
 all_goals first | trivial | (have e:=h _ (List.mem_singleton.2 rfl);rw [e] at hs;exact hs)
theorem d8_loc {n:Nat} (a a':Act) (h1:a.tmps.getD 44 undef=a'.tmps.getD 44 undef) (h2:a.tmps.getD 50 undef=a'.tmps.getD 50 undef) (h:D8 n a):D8 n a':=fun g g' e1 e2=> h g g' (h1.trans e1) (h2.trans e2)
theorem put_eq {a:Act} {d:Nat} {v x:Value} (h:(a.put (some d) v).tmps.getD d undef=x) (hx:x≠undef):v=x:=by
 by_cases hd:d<a.tmps.size
 ·rwa [getD_put_same v hd] at h
 ·exfalso
  apply hx
  rw [←h]
  simp [Act.put,hd]
theorem d8_1 {W:World} {kp:Nat} {al:Option Addr} {n cl:Nat} (a:Act) (w:World) (v:Value) (hs:SP8 W kp al n cl 13 a w) (hr:R8 n 7 w v):D8 n (a.put (some 44) v):=fun g g' e1 e2=> by
 have e:=put_eq e1 (by simp [undef])
 rw [getD_put_other v (by decide)] at e2
 obtain ⟨_,q,hq,_,hlt⟩:=(hs:OwB W n (a.tmps.getD 50 undef) w)
 rw [e2] at hq
 cases hq
 rw [(hr:v= _)] at e
 cases e
 omega
theorem d8_2 {W:World} {kp:Nat} {al:Option Addr} {n cl:Nat} (a:Act) (w:World) (v:Value) (hs:SP8 W kp al n cl 7 a w) (hr:R8 n 13 w v):D8 n (a.put (some 50) v):=fun g g' e1 e2=> by
 have e:=put_eq e2 (by simp [undef])
 rw [getD_put_other v (by decide)] at e1
 obtain ⟨_,q,hq,_,hlt⟩:=(hs:OwB W n (a.tmps.getD 44 undef) w)
 rw [e1] at hq
 cases hq
 rw [(hr:v= _)] at e
 cases e
 omega
theorem cd_pure {P:Program} {W:World} {kp:Nat} {al:Option Addr} {n cl:Nat} {a:Act} {w:World} {o:Oper} {Q:Exit→Act→World→Prop} (i d:Nat) {x:Value} (hd:o.dst=some d) (hr:(execOp a.eval o).run P w=.ok (.value x) w) (hs:∀a':Act,a'.tmps.getD d undef=x→SP8 W kp al n cl i a' w) (hE:E8 kp i w w) (hR:∀v,R8 n i w v) (hz:d<a.tmps.size):
  o.wp P a w (fun a' w'=> ∃v,a'=a.put o.dst v∧(o.dst=none→v=undef)∧SP8 W kp al n cl i (a.put o.dst v) w'∧E8 kp i w w'∧R8 n i w v) Q:=by
 unfold Oper.wp
 rw [hr]
 exact ⟨x,rfl,(fun (e:o.dst=none)=> by rw [hd] at e;cases e),hs _ (by rw [hd];exact getD_put_same x hz),hE,hR x⟩
theorem cd_make {W:World} {kp:Nat} {al:Option Addr} {n cl:Nat} {a:Act} {w:World} {o:Oper} {Q:Exit→Act→World→Prop} (i d:Nat) (hi:i=7∧d=44∨i=13∧d=50) {l c:Operand} (ho:o.op=.makeSlice 120 l c) (hl:a.eval l=.int .i64 (n:Int)) (hc:a.eval c=.int .i64 (n:Int)) (hd:o.dst=some d) (hn:n≤1000) (hW:W.heap.size≤w.heap.size) (hz:d<a.tmps.size):
  o.wp Try.prog a w (fun a' w'=> ∃v,a'=a.put o.dst v∧(o.dst=none→v=undef)∧SP8 W kp al n cl i (a.put o.dst v) w'∧E8 kp i w w'∧R8 n i w v) Q:=by
 obtain ⟨CS,⟨hs,hcs⟩,hm⟩:=run_makeB n hn
 have hr:(execOp a.eval o).run Try.prog w=.ok (.value (.slice (some ⟨w.heap.size,0,none⟩) n n)) (w.alloc (.cells CS 4)):=by
  unfold execOp
  simp only [ho,hl,hc,Sem.run_bind,hm w,Result.andThen_ok,Sem.run_pure]
 unfold Oper.wp
 rw [hr]
 have hB:OwB W n (.slice (some ⟨w.heap.size,0,none⟩) n n) (w.alloc (.cells CS 4)):=⟨OwM.new w _ 1 (by unfold maxLen;omega) (by omega) fun j hj k hk=> by
  obtain rfl:k=0:=by omega
  rw [Nat.mul_one,Nat.add_zero]
  exact hcs j hj,w.heap.size,rfl,hW,by rw [World.size_alloc];exact Nat.lt_succ_self _⟩
 refine ⟨.slice (some ⟨w.heap.size,0,none⟩) n n,rfl,(fun (e:o.dst=none)=> by rw [hd] at e;cases e),?_⟩
 rw [hd]
 rcases hi with ⟨rfl,rfl⟩ | ⟨rfl,rfl⟩
 ·exact ⟨by show OwB W n ((a.put (some 44) _).tmps.getD 44 undef) _;rw [getD_put_same _ hz];exact hB,World.grownBy_alloc w _ none,rfl⟩
 ·exact ⟨by show OwB W n ((a.put (some 50) _).tmps.getD 50 undef) _;rw [getD_put_same _ hz];exact hB,World.grownBy_alloc w _ none,rfl⟩
theorem cd_store {W:World} {kp:Nat} {al:Option Addr} {n cl:Nat} {a:Act} {w:World} {o:Oper} {Q:Exit→Act→World→Prop} (i c d:Nat) (hi:i=16∧c=1∧d=44∨i=19∧c=2∧d=50) {x:Operand} (ho:o.op=.store 120 x (.tmp d)) (hd:o.dst=none) (hx:a.eval x=.pointer (some ⟨kp,0+c,none⟩)) (hy:OwB W n (a.tmps.getD d undef) w) (hr:RowB w kp 179 4):
  o.wp Try.prog a w (fun a' w'=> ∃v,a'=a.put o.dst v∧(o.dst=none→v=undef)∧SP8 W kp al n cl i (a.put o.dst v) w'∧E8 kp i w w'∧R8 n i w v) Q:=by
 obtain ⟨_,g,hg,_⟩:=hy
 have hc4:0+c<4:=by omega
 obtain ⟨v0,hv0⟩:=Option.isSome_iff_exists.1 (hr.cell_some (0+c) hc4)
 refine wp_store_at 120 x (.tmp d) ho hd kp (0+c) (.slice (some ⟨g,0,none⟩) n n) v0 rfl rfl (by kernel_rfl) hx hg hv0 (hr.free _) ?_
 refine ⟨undef,by rw [hd];rfl,fun _=> rfl,?_⟩
 rw [hd]
 rcases hi with ⟨rfl,rfl,rfl⟩ | ⟨rfl,rfl,rfl⟩
 ·exact ⟨by show (w.setCell _ _).cell? _=some (a.tmps.getD 44 undef);rw [hg];exact World.cell?_setCell_same _ _ _ hv0,⟨_,rfl⟩,trivial⟩
 ·exact ⟨by show (w.setCell _ _).cell? _=some (a.tmps.getD 50 undef);rw [hg];exact World.cell?_setCell_same _ _ _ hv0,⟨_,rfl⟩,trivial⟩
section
variable {N : Nat} {w : World} {p : Nat} {F : Nat → Prop} {S : TS}
theorem dFrom_any (h:StA N w p F S) (hlen:S.l.length≤1000) (G:List Int) (v:Value) (hv:Mat w v G.length 1 (lv kvI G)) (hvl:0<G.length→∀b,v.ownBlock=some b→b<w.heap.size) (hG:G.length≤1000):
  Calls Try.prog 66 #[.pointer (some ⟨p,0,none⟩),v] w fun e w'=> (okG S.l.length G∧∃kp vl vh vm h',e=.returned (.tuple #[.pointer (some ⟨kp,0,none⟩),.int .i64 0])∧Knm w' kp vl vh vm S.l h' (md S.l h')∧IsCl S.l (givenB G) h'∧(∀b,KW vh vm b→w.heap.size≤b)∧w.heap.size≤kp∧Below w.heap.size w w')∨(¬ okG S.l.length G∧e=.returned (.tuple #[.pointer none,.int .i64 2])∧Below w.heap.size w w'):=by
 have H:=Lib.hid h
 have HL:=Lib.hid hlen
 have HV:=Lib.hid hv
 have HVL:=Lib.hid hvl
 have HG:=Lib.hid hG
 obtain ⟨av,cv,rfl,_⟩:=hv
 clear h hlen hG hvl
 refine (callsIn_wide (n:=9)).1 ?_
 refine callsIn_of_wp_marks Try.func66 rfl trivial ?_ rfl
 simp only [Try.ntmps66,List.size_toArray,List.length_cons,List.length_nil,Nat.reduceAdd,Nat.reduceSub,Array.replicate_succ,Array.replicate_zero,List.push_toArray,List.append_toArray,List.nil_append,List.cons_append]
 refine wpIn_wide.2 ?_
 go_wp2_with fail
 refine (tPut_bad H.out (0,0,0) (may_zero S)).mono ?_
 rintro e w1 ⟨rfl,b1⟩
 have B1:=Lib.hid b1
 have H1:=Lib.hid (H.out.below' b1)
 clear b1
 go_upto_region 5 with (fail)
 obtain ⟨kp,hkp⟩:∃b,b=w1.heap.size:=⟨_,rfl⟩
 refine wp_world (fun w2=> RowB w2 w1.heap.size 179 4∧w2.cell? ⟨w1.heap.size,0,none⟩=some (.slice none 0 0)∧w2.cell? ⟨w1.heap.size,1,none⟩=some (.slice none 0 0)∧w2.cell? ⟨w1.heap.size,2,none⟩=some (.slice none 0 0)∧w2.cell? ⟨w1.heap.size,3,none⟩=some (.bool true)∧Boxed w2 (w1.heap.size+1) 114 (.pointer (some ⟨w1.heap.size,0,none⟩))∧Below w1.heap.size w1 w2) ?_ ?_
 ·have hb0:=heap_alloc_new w1 (.cells #[.slice none 0 0,.slice none 0 0,.slice none 0 0,.bool true] 179)
  have hb:=fun o:Obj=> (Below.heap_alloc (w1.alloc (.cells #[.slice none 0 0,.slice none 0 0,.slice none 0 0,.bool true] 179)) o w1.heap.size (by simp)).trans hb0
  refine ⟨⟨_,hb _,rfl⟩,cell_of_row _ _ 0 _ _ (0,0) (hb _),cell_of_row _ _ 1 _ _ (0,0) (hb _),cell_of_row _ _ 2 _ _ (0,0) (hb _),cell_of_row _ _ 3 _ _ (0,0) (hb _),?_,((Below.refl _ _).alloc (Nat.le_refl _) _).alloc (by simp) _⟩
  have:=Boxed.new (w1.alloc (.cells #[.slice none 0 0,.slice none 0 0,.slice none 0 0,.bool true] 179)) 114 (.pointer (some ⟨w1.heap.size,0,none⟩))
  rwa [World.size_alloc] at this
 rintro w2 ⟨hr2,k0,k1,k2,k3,hx2,b2⟩
 rw [←hkp] at hr2 k0 k1 k2 k3 hx2 ⊢
 have R2:=Lib.hid hr2
 have X2:=Lib.hid hx2
 have KC:=Lib.hid (And.intro k0 (And.intro k1 (And.intro k2 k3)))
 have B2:=Lib.hid (B1.out.trans (b2.mono B1.out.size))
 have H2:=Lib.hid (H1.out.below' b2)
 have HKP:=Lib.hid (show w.heap.size≤kp from hkp▸B1.out.size)
 have HFK:=Lib.hid (show ∀b,F b→b<kp from fun b hb=> hkp▸H1.out.lt hb)
 clear hr2 hx2 k0 k1 k2 k3 b2 hkp
 go_wp2_with fail
 refine (tAll_any w2 _ rfl).mono ?_
 rintro e w3 ⟨rfl,hx3,b3,hs3⟩
 obtain ⟨q2,hq2⟩:∃q,q=w2.heap.size:=⟨_,rfl⟩
 rw [←hq2] at hx3 ⊢
 have XQ:=Lib.hid hx3
 have X3:=Lib.hid (boxed_below X2.out b3)
 have B3:=Lib.hid (B2.out.trans (b3.mono B2.out.size))
 have H3:=Lib.hid (H2.out.below' b3)
 have HQK:=Lib.hid (show kp<q2 by rw [hq2];exact R2.out.lt)
 have FR0:Hid (FrI S.l w3 kp [] w3):=Lib.hid ⟨_,R2.out.heap (b3.block kp R2.out.lt),(b3.cell (p:=⟨kp,0,none⟩) R2.out.lt).trans KC.out.1,(b3.cell (p:=⟨kp,1,none⟩) R2.out.lt).trans KC.out.2.1,(b3.cell (p:=⟨kp,2,none⟩) R2.out.lt).trans KC.out.2.2.1,(b3.cell (p:=⟨kp,3,none⟩) R2.out.lt).trans KC.out.2.2.2,OwM.nil _ _ _ _,fun b hb=> (by cases hb),Chg.refl _ _⟩
 have HK3:=Lib.hid (show kp<w3.heap.size by have:=R2.out.lt;have:=b3.size;omega)
 clear hx3 b3 hs3 hq2
 obtain ⟨mb,mt,vl0,vb,tv,hts,hok,hF⟩:=H3.out
 have HOK:=Lib.hid hok
 have HGL:Hid (∀b,TG p mb mt vl0 vb S.tx.length tv q2 b→b<w3.heap.size∧b≠kp):=Lib.hid fun b hb=> hb.elim (fun h=> ⟨hts.lt h,by have:=HFK.out b ((hF b).2 h);omega⟩) fun h=> ⟨h▸XQ.out.lt,by have:=HQK.out;omega⟩
 have hstop:=tAll_stops 8 (by decide) hts q2 XQ.out HL.out
 clear hts hok hF
 go_wp2
 refine (wpIn_wide (n:=9)).1 ?_
 refine wpIn_rangeFunc_ownH (F:=Fence.wide) (n:=9) rfl (by decide) (gf:=107) rfl trivial (enters_of Try.func107 (by kernel_rfl) rfl) hstop (fun h k=> h.trans k) (keepF_b fun b hb=> (HGL.out b hb).1) (Below.refl _ _) (fun _=> rfl)
  (fun pre W=> FrI S.l w3 kp pre W) (fun _ _ _=> False) ?hI ?hIx ?h0 (fun x a' W=> ∃Bx,w3.heap.size≤Bx∧Arr .i64 W Bx 3 (tf (tmAt S.l x))∧(∀v b,W.cell? ⟨kp,0,none⟩=some v→v.ownBlock=some b→b<Bx)∧a'={ tmps:=#[.pointer (some ⟨p,0,none⟩),.slice av G.length cv,undef,undef,.pointer none,.int .i64 0,.int .i64 0,.int .i64 2,.pointer (some ⟨kp+1,0,none⟩),undef,.pointer (some ⟨Bx,0,none⟩),undef,.tuple #[.int .i64 0,.int .i64 2],.pointer (some ⟨p,0,none⟩),.agg #[.int .i64 0,.int .i64 0,.int .i64 0],.tuple #[.int .i64 0,.int .i64 2],.int .i64 0,.int .i64 2,.int .i64 2,.bool false,undef,.agg #[.slice none 0 0,.slice none 0 0,.slice none 0 0,.bool true],.pointer (some ⟨kp,0,none⟩),.pointer (some ⟨p,0,none⟩),.func (.func 107) #[] #[.pointer (some ⟨q2,0,none⟩)],.int .i64 (x:Int),tmV (tmAt S.l x),undef,undef,undef,undef,undef,undef,undef,undef,undef,undef,undef,undef,undef,undef,undef,undef,undef,undef,undef,undef,undef,undef,undef,undef,undef,undef,undef,undef,undef,undef,undef,undef,undef,undef,undef],defers:= [] }) ?hAx ?assign ?body ?done ?stop
 case hI=> exact frI_own HK3.out
 case hIx=> exact fun c=> ownFrom_pure _ _
 case h0=> exact FR0.out
 case hAx=>
  rintro x a' s W W' row ⟨Bx,h1,h2,h4,h3⟩ hg hr
  have hkW:kp<W.heap.size:=by have:=HK3.out;have:=h2.lt;omega
  have hb:=hg.block kp hkW (fun e=> by have:=(hr kp e.symm).1;have:=HK3.out;omega)
  exact ⟨Bx,h1,(arr_own Bx .i64 3 fun _:Unit=> tf (tmAt S.l x)).from _ s W W' row h2 hg hr,fun v b hv=> h4 v b ((World.cell?_of_block (a:=⟨kp,0,none⟩) hb).symm.trans hv),h3⟩
 case assign=>
  intro l pre x W K hi hK
  gi_wp2
  have hs:w3.heap.size≤W.heap.size:=by obtain ⟨_,_,_,_,_,_,_,_,h8⟩:=hi;exact h8.size
  exact hK _ _ ((KeepsOthers.alloc _ _).from _) (KeepF.ofBelow ((Below.refl _ W).alloc (Nat.le_refl _) _) fun b hb=> Nat.lt_of_lt_of_le (HGL.out b hb).1 hs) ((frI_own HK3.out).alloc _ hi) ⟨W.heap.size,hs,Arr.newAt rfl rfl,fun v b hv hb=> by
   obtain ⟨vl,h1,h2,_,_,_,h6,_⟩:=hi
   have e:=(World.cell?_of_block (a:=⟨kp,0,none⟩) (Below.heap_alloc W _ kp h1.lt)).symm.trans hv
   rw [h2] at e
   cases e
   exact h6.lt b hb,rfl⟩
 case body=>
  rintro l pre x a' W hl ⟨r,hr⟩ ⟨vl,i1,i2,i3,i4,i5,i6,i7,i8⟩ ⟨Bx,hBx,hX,hXV,rfl⟩ hlt
  have HXV:=Lib.hid (hXV _ · i2)
  clear hXV
  obtain ⟨t,ht⟩:∃t,t=tmAt S.l x:=⟨_,rfl⟩
  rw [←ht] at hX ⊢
  have HT:=Lib.hid ht
  have I1:=Lib.hid i1
  have I2:=Lib.hid i2
  have I345:=Lib.hid (And.intro i3 (And.intro i4 i5))
  have I6:=Lib.hid i6
  have I7:=Lib.hid i7
  have I8:=Lib.hid i8
  have HX:=Lib.hid hX
  have HLT:=Lib.hid (show (pre.map (tmAt S.l)).length≤1000 by rw [List.length_map];have:=HL.out;omega)
  have XW:Hid (Boxed W (kp+1) 114 (.pointer (some ⟨kp,0,none⟩))):=Lib.hid (boxed_chg X3.out i8 fun h=> by have h1:kp+1=kp:=h;omega)
  have HSW:=Lib.hid (show w3.heap.size≤W.heap.size from i8.size)
  obtain ⟨n,hn⟩:∃n,n=(pre.map (tmAt S.l)).length:=⟨_,rfl⟩
  have HN:=Lib.hid hn
  rw [←hn] at HLT I6
  clear hl hr hlt i1 i2 i3 i4 i5 i6 i7 i8 hX hBx hstop ht hn
  obtain ⟨al,cl,rfl,_⟩:=I6.out.slice
  gi_wp2_with (fail)
  apply region_earlyJI (n:=62) (fun w5=> w5.cell? ⟨kp+1,0,none⟩=some (.pointer (some ⟨kp,0,none⟩))∧w5.cell? ⟨kp,0,none⟩=some (.slice al n cl)∧∀i,i<3→w5.cell? ⟨Bx,0+i,none⟩=some (.int .i64 (tf t i))) [.e,.e,.e,.e,.e,.e,.c,.c,.e,.e,.c] 2 (by kernel_rfl) (by kernel_rfl) (by kernel_rfl) (by kernel_rfl) rfl
  ·exact ⟨XW.out.cell,I2.out,fun i hi=> by rw [Nat.zero_add];exact HX.out.cell i hi⟩
  ·rintro w5 ⟨e1,e2,e3⟩
   have E3:=Lib.hid e3
   clear e3
   simp only [selBy,Cl.isE,cond_true,cond_false]
   repeat (first | (refine still_row (y:=fun i=> .int .i64 (tf t i)) rfl rfl rfl Try.underlying97 rfl Try.sizeTm E3.out ?_) | still_step)
   exact wpStill_nil rfl
  ·intro w5
   simp only [selBy,Cl.isF,cond_true,cond_false]
   repeat still_step
   exact wpStill_nil rfl
  ·simp only [selBy,Cl.isC,cond_true,cond_false]
   refine chJ_step ⟨XW.out.cell,I2.out,fun i hi=> by rw [Nat.zero_add];exact HX.out.cell i hi⟩ (fun K hK=> ?_)
   rw [if_pos (wanted_none rfl)]
   have hbA:Below W.heap.size W (W.drew.alloc (.cells (rowV 3 (fun i=> .int .i64 (tf t i))) 97)):=((Below.refl _ _).drew).alloc (Nat.le_refl _) _
   refine wp_buildS 93 97 1 _ rfl Try.underlying93 (rowV 3 (fun i=> .int .i64 (tf t i))) (by kernel_rfl) (hK _ _ ⟨(hbA.cell (p:=⟨kp+1,0,none⟩) XW.out.lt).trans XW.out.cell,(hbA.cell (p:=⟨kp,0,none⟩) I1.out.lt).trans I2.out,fun i hi=> by rw [Nat.zero_add];exact (hbA.cell (p:=⟨Bx,i,none⟩) HX.out.lt).trans (HX.out.cell i hi)⟩ ?_)
   clear hK K
   obtain ⟨WA,hWA⟩:∃x,x=W.drew.alloc (.cells (rowV 3 (fun i=> .int .i64 (tf t i))) 97):=⟨_,rfl⟩
   have hnew:∀i,i<3→WA.cell? ⟨W.heap.size,i,none⟩=some (.int .i64 (tf t i)):=fun i hi=> by
    rw [hWA]
    exact (RowN.new (w:=W.drew) (t:=97) (z:=fun i=> .int .i64 (tf t i)) (n:=3)).2 i hi
   rw [←hWA] at hbA ⊢
   have HBA:=Lib.hid hbA
   clear hbA
   refine chJ_step ⟨(HBA.out.cell (p:=⟨kp+1,0,none⟩) XW.out.lt).trans XW.out.cell,(HBA.out.cell (p:=⟨kp,0,none⟩) I1.out.lt).trans I2.out,fun i hi=> by rw [Nat.zero_add];exact (HBA.out.cell (p:=⟨Bx,i,none⟩) HX.out.lt).trans (HX.out.cell i hi)⟩ (fun K hK=> ?_)
   rw [if_pos (wanted_none rfl)]
   refine wp_append_m _ _ rfl rfl (I6.out.below HBA.out) (by decide) Try.underlying93 Try.infoTm rfl W.heap.size 0 1 1 rfl (fun _ i=> .int .i64 (tf t i)) (fun j' hj' i hi=> ⟨?_,rfl⟩) (by have:=HLT.out;unfold maxLen;omega) (by have:=HLT.out;omega) ?_
   ·obtain rfl:j'=0:=by omega
    rw [show 0+(0 * 3+i)=i by omega]
    exact hnew i hi
   intro v4 w4 ho4 hg4 hp4
   have c4:Chg (fun b=> (Value.slice al n cl).ownBlock=some b) W w4:=(Chg.of_below HBA.out _).trans (Chg.of_grown hg4 fun b e=> e) fun _ _ h=> h
   have nk:∀b,b<w3.heap.size→¬ (Value.slice al n cl).ownBlock=some b:=fun b hb h=> by have:=I7.out b h;omega
   have KK4:Hid (KeepsOthers W w4):=Lib.hid ((KeepsOthers.of_belowT HBA.out).trans (KeepsOthers.of_grownBy hg4 fun j o e hj=> by
    rcases I6.out.below HBA.out with ⟨h,_⟩ | ⟨g,cap,h,⟨cur,h1,_⟩,_⟩
    ·rw [h] at e;cases e
    ·rw [h] at e
     cases e
     rw [h1] at hj
     cases hj
     rfl))
   have R4:=Lib.hid (I1.out.heap (c4.block kp I1.out.lt (nk kp HK3.out)))
   have E4:Hid (∀i,w4.cell? ⟨kp,i,none⟩=W.cell? ⟨kp,i,none⟩):=Lib.hid fun i=> c4.cell (p:=⟨kp,i,none⟩) I1.out.lt (nk kp HK3.out)
   have X4:Hid (Boxed w4 (kp+1) 114 (.pointer (some ⟨kp,0,none⟩))):=Lib.hid (boxed_chg XW.out c4 (nk _ X3.out.lt))
   have A4:Hid (Arr .i64 w4 Bx 3 (tf t)):=Lib.hid (HX.out.chg c4 fun h=> by have:=HXV.out _ h;omega)
   refine hK _ _ ⟨X4.out.cell,(E4.out 0).trans I2.out,fun i hi=> by rw [Nat.zero_add];exact A4.out.cell i hi⟩ ?_
   clear hK K
   refine chJ_zero ?_
   have C4:=Lib.hid c4
   have O4:=Lib.hid ho4
   have P4:=Lib.hid hp4
   have f0:=R4.out.free 0
   have e0:=(E4.out 0).trans I2.out
   obtain ⟨a4,q4,ev4,_⟩:=ho4.slice
   subst ev4
   clear c4 nk ho4 hg4 hp4 hnew
   simp only [Act.put,List.setIfInBounds_toArray,List.set_cons_succ,List.set_cons_zero]
   go_wp2
   refine onlyN ?_
   gi_wp2_with (fail)
   have hset:Chg (fun b=> b=kp) w4 (w4.setCell ⟨kp,0,none⟩ (.slice a4 (n+1) q4)):=Chg.set (fun b=> b=kp) _ ⟨kp,0,none⟩ _ rfl
   have hW4:W.heap.size≤w4.heap.size:=C4.out.size
   refine ⟨(KK4.out.trans (KeepsOthers.setCell _ _ _)).from _,⟨Nat.le_trans hW4 hset.size,fun b hb=> ?_⟩,.slice a4 (n+1) q4,R4.out.setCell _ rfl _,World.cell?_setCell_same _ _ _ e0,?_,?_,?_,?_,?_,?_⟩
   ·obtain ⟨h1,h2⟩:=HGL.out b hb
    have h3:=HSW.out
    exact (hset.block b (by omega) h2).trans (C4.out.block b (by omega) fun h=> by have:=I7.out b h;omega)
   ·exact (World.cell?_setCell_other _ _ _ _ (by simp)).trans ((E4.out 1).trans I345.out.1)
   ·exact (World.cell?_setCell_other _ _ _ _ (by simp)).trans ((E4.out 2).trans I345.out.2.1)
   ·exact (World.cell?_setCell_other _ _ _ _ (by simp)).trans ((E4.out 3).trans I345.out.2.2)
   ·rw [List.map_append]
    show OwM _ 3 _ _ (pre.map (tmAt S.l)++ [tmAt S.l x]).length (tmv (pre.map (tmAt S.l)++ [tmAt S.l x]))
    rw [←HT.out]
    refine tmv_snoc (t:=t) (y:=fun _ i=> .int .i64 (tf t i)) ?_ (fun _=> rfl)
    rw [←HN.out]
    exact O4.out.chg hset fun b hb h=> O4.out.heap_ne R4.out (by decide) ((show b=kp from h)▸hb)
   ·intro b hb
    rcases P4.out with h | h
    ·exact I7.out b (h▸hb)
    ·have:=h b hb
     have:=HBA.out.size
     have:=HSW.out
     omega
   ·exact (I8.out.trans (C4.out.mono (G:=fun b=> (Value.slice al n cl).ownBlock=some b) fun _ _ h=> h) fun b hb h=> by have:=I7.out b h;omega).trans hset fun _ _ h=> h
 case stop=>
  rintro D2 cd pre W hD2 hSp hIx
  exact hIx.elim
 case done=>
  rintro D ys W hD rfl ⟨vl,i1,i2,i3,i4,i5,i6,i7,i8⟩ hKD
  have hml:(List.range S.l.length).map (tmAt S.l)=S.l:=List.ext_getElem? fun i=> by
   rw [List.getElem?_map]
   by_cases hi:i<S.l.length
   ·rw [List.getElem?_range hi,List.getElem?_eq_getElem hi]
    exact congrArg some (tmAt_eq (List.getElem?_eq_getElem hi))
   ·rw [List.getElem?_eq_none (by simp;omega),List.getElem?_eq_none (by omega)]
    rfl
  rw [hml] at i6
  have I1:=Lib.hid i1
  have I6:=Lib.hid i6
  have I7:=Lib.hid i7
  have I8:=Lib.hid i8
  have I345:=Lib.hid (And.intro i3 (And.intro i4 i5))
  have HKD:=Lib.hid hKD
  have HD:=Lib.hid hD
  have XW:Hid (Boxed W (kp+1) 114 (.pointer (some ⟨kp,0,none⟩))):=Lib.hid (boxed_chg X3.out i8 fun h=> by have h1:kp+1=kp:=h;omega)
  obtain ⟨al,cl,rfl,_⟩:=i6.slice
  obtain ⟨n,hn⟩:∃n,n=S.l.length:=⟨_,rfl⟩
  have HN:=Lib.hid hn
  have cb:=XW.out.cell
  have k0:=i2
  have f1:=i1.free 1
  have f2:=i1.free 2
  rw [←hn] at k0
  obtain ⟨CS,HCS,HM⟩:=run_makeB n (by rw [hn];exact HL.out)
  obtain ⟨CS,HCS,HM⟩:=run_makeB n (by rw [hn];exact HL.out)
  have HMS:=Lib.hid (And.intro HCS HM)
  have HNL:=Lib.hid (show n≤1000 by rw [hn];exact HL.out)
  have HI0:Hid (JN8 W kp al n cl W):=Lib.hid ⟨Chg.refl _ _,i1,k0,I345.out.2.2⟩
  have HKW:=Lib.hid i1.lt
  clear i1 i2 i6 i7 i8 hKD hD hstop hml hn k0 f1 f2 cb HCS HM
  go_upto_region 8 with (fail)
  refine region_consD (n:=62) (by kernel_rfl) (by kernel_rfl) (by kernel_rfl) rfl (fun _=> []) US8 (by kernel_rfl) (SP8 W kp al n cl) (E8 kp) (JN8 W kp al n cl) HI0.out ⟨Chg.of_below (Below.refl _ _).drew _,HI0.out.2.1,HI0.out.2.2.1,HI0.out.2.2.2⟩ 7 13 44 50 (fun o h=> by cases h;rfl) (fun o h=> by cases h;rfl) (by decide) (by decide) rfl rfl (by decide) (D8 n) (R8 n) d8_loc d8_1 d8_2 sp8_loc ?st i8_step ?flow ?fin
  case st=> exact fun j i a w w' hji _ _ hs hE=> sp8_stable (Nat.lt_of_lt_of_le HK3.out I8.out.size) j i a w w' hji hs hE
  case flow=>
   refine Each.all ?_
   refine ⟨?_,?_,?_,?_,?_,?_,?_,?_,?_,?_,?_,?_,?_,?_,?_,?_,?_,?_,?_,?_,trivial⟩
   ·intro a w2 hI hF hd
    rw [if_pos (wanted_none rfl)]
    exact cd_pure 0 37 rfl (run_load_pt rfl (hF.same 8 rfl) Try.underlying114 ((hI.1.cell (p:=⟨kp+1,0,none⟩) XW.out.lt (fun h=> by have h1:kp+1=kp:=h;omega)).trans XW.out.cell)) (fun _ h=> h) rfl (fun _=> trivial) (Nat.lt_of_lt_of_eq (m:=62) (by decide) (hF.2.1.trans rfl).symm)
   ·intro a w2 hI hF hd
    rw [if_pos (wanted_none rfl)]
    exact cd_pure 1 38 rfl (run_load_pt rfl (hF.same 8 rfl) Try.underlying114 ((hI.1.cell (p:=⟨kp+1,0,none⟩) XW.out.lt (fun h=> by have h1:kp+1=kp:=h;omega)).trans XW.out.cell)) (fun _ h=> h) rfl (fun _=> trivial) (Nat.lt_of_lt_of_eq (m:=62) (by decide) (hF.2.1.trans rfl).symm)
   ·intro a w2 hI hF hd
    rw [if_pos (wanted_none rfl)]
    exact cd_pure 2 39 rfl (run_load_pt rfl (hF.same 8 rfl) Try.underlying114 ((hI.1.cell (p:=⟨kp+1,0,none⟩) XW.out.lt (fun h=> by have h1:kp+1=kp:=h;omega)).trans XW.out.cell)) (fun _ h=> h) rfl (fun _=> trivial) (Nat.lt_of_lt_of_eq (m:=62) (by decide) (hF.2.1.trans rfl).symm)
   ·intro a w2 hI hF hd
    rw [if_pos (wanted_none rfl)]
    exact cd_pure 3 40 rfl (run_nilCheck rfl (hd 2 _ rfl rfl rfl)) (fun _ h=> h) rfl (fun _=> trivial) (Nat.lt_of_lt_of_eq (m:=62) (by decide) (hF.2.1.trans rfl).symm)
   ·intro a w2 hI hF hd
    rw [if_pos (wanted_none rfl)]
    exact cd_pure 4 41 rfl (run_field_at (m:=0) (k:=0) rfl (hd 3 _ rfl rfl rfl) (by kernel_rfl)) (fun _ h=> h) rfl (fun _=> trivial) (Nat.lt_of_lt_of_eq (m:=62) (by decide) (hF.2.1.trans rfl).symm)
   ·intro a w2 hI hF hd
    rw [if_pos (wanted_none rfl)]
    exact cd_pure 5 42 rfl (run_load_slice rfl (hd 4 _ rfl rfl rfl) Try.underlying93 hI.2.2.1) (fun _ h=> h) rfl (fun _=> trivial) (Nat.lt_of_lt_of_eq (m:=62) (by decide) (hF.2.1.trans rfl).symm)
   ·intro a w2 hI hF hd
    rw [if_pos (wanted_none rfl)]
    exact cd_pure 6 43 rfl (run_len_sl rfl (hd 5 _ rfl rfl rfl) Try.underlying93) (fun _ h=> h) rfl (fun _=> trivial) (Nat.lt_of_lt_of_eq (m:=62) (by decide) (hF.2.1.trans rfl).symm)
   ·intro a w2 hI hF hd
    rw [if_pos (wanted_none rfl)]
    exact cd_make 7 44 (by decide) rfl (hd 6 _ rfl rfl rfl) (hd 6 _ rfl rfl rfl) rfl HNL.out hI.1.size (Nat.lt_of_lt_of_eq (m:=62) (by decide) (hF.2.1.trans rfl).symm)
   ·intro a w2 hI hF hd
    rw [if_pos (wanted_none rfl)]
    exact cd_pure 8 45 rfl (run_load_pt rfl (hF.same 8 rfl) Try.underlying114 ((hI.1.cell (p:=⟨kp+1,0,none⟩) XW.out.lt (fun h=> by have h1:kp+1=kp:=h;omega)).trans XW.out.cell)) (fun _ h=> h) rfl (fun _=> trivial) (Nat.lt_of_lt_of_eq (m:=62) (by decide) (hF.2.1.trans rfl).symm)
   ·intro a w2 hI hF hd
    rw [if_pos (wanted_none rfl)]
    exact cd_pure 9 46 rfl (run_nilCheck rfl (hd 8 _ rfl rfl rfl)) (fun _ h=> h) rfl (fun _=> trivial) (Nat.lt_of_lt_of_eq (m:=62) (by decide) (hF.2.1.trans rfl).symm)
   ·intro a w2 hI hF hd
    rw [if_pos (wanted_none rfl)]
    exact cd_pure 10 47 rfl (run_field_at (m:=0) (k:=0) rfl (hd 9 _ rfl rfl rfl) (by kernel_rfl)) (fun _ h=> h) rfl (fun _=> trivial) (Nat.lt_of_lt_of_eq (m:=62) (by decide) (hF.2.1.trans rfl).symm)
   ·intro a w2 hI hF hd
    rw [if_pos (wanted_none rfl)]
    exact cd_pure 11 48 rfl (run_load_slice rfl (hd 10 _ rfl rfl rfl) Try.underlying93 hI.2.2.1) (fun _ h=> h) rfl (fun _=> trivial) (Nat.lt_of_lt_of_eq (m:=62) (by decide) (hF.2.1.trans rfl).symm)
   ·intro a w2 hI hF hd
    rw [if_pos (wanted_none rfl)]
    exact cd_pure 12 49 rfl (run_len_sl rfl (hd 11 _ rfl rfl rfl) Try.underlying93) (fun _ h=> h) rfl (fun _=> trivial) (Nat.lt_of_lt_of_eq (m:=62) (by decide) (hF.2.1.trans rfl).symm)
   ·intro a w2 hI hF hd
    rw [if_pos (wanted_none rfl)]
    exact cd_make 13 50 (by decide) rfl (hd 12 _ rfl rfl rfl) (hd 12 _ rfl rfl rfl) rfl HNL.out hI.1.size (Nat.lt_of_lt_of_eq (m:=62) (by decide) (hF.2.1.trans rfl).symm)
   ·intro a w2 hI hF hd
    rw [if_pos (wanted_none rfl)]
    exact cd_pure 14 51 rfl (run_nilCheck rfl (hd 0 _ rfl rfl rfl)) (fun _ h=> h) rfl (fun _=> trivial) (Nat.lt_of_lt_of_eq (m:=62) (by decide) (hF.2.1.trans rfl).symm)
   ·intro a w2 hI hF hd
    rw [if_pos (wanted_none rfl)]
    exact cd_pure 15 52 rfl (run_field_at (m:=0) (k:=1) rfl (hd 14 _ rfl rfl rfl) (by kernel_rfl)) (fun _ h=> h) rfl (fun _=> trivial) (Nat.lt_of_lt_of_eq (m:=62) (by decide) (hF.2.1.trans rfl).symm)
   ·intro a w2 hI hF hd
    rw [if_pos (wanted_none rfl)]
    exact cd_store 16 1 44 (by decide) rfl rfl (hd 15 _ rfl rfl rfl) (hd 7 _ rfl rfl rfl) hI.2.1
   ·intro a w2 hI hF hd
    rw [if_pos (wanted_none rfl)]
    exact cd_pure 17 53 rfl (run_nilCheck rfl (hd 1 _ rfl rfl rfl)) (fun _ h=> h) rfl (fun _=> trivial) (Nat.lt_of_lt_of_eq (m:=62) (by decide) (hF.2.1.trans rfl).symm)
   ·intro a w2 hI hF hd
    rw [if_pos (wanted_none rfl)]
    exact cd_pure 18 54 rfl (run_field_at (m:=0) (k:=2) rfl (hd 17 _ rfl rfl rfl) (by kernel_rfl)) (fun _ h=> h) rfl (fun _=> trivial) (Nat.lt_of_lt_of_eq (m:=62) (by decide) (hF.2.1.trans rfl).symm)
   ·intro a w2 hI hF hd
    rw [if_pos (wanted_none rfl)]
    exact cd_store 19 2 50 (by decide) rfl rfl (hd 18 _ rfl rfl rfl) (hd 13 _ rfl rfl rfl) hI.2.1
  case fin=>
   intro a wf hI hF hD8 hS
   have s7:OwB W n (a.tmps.getD 44 undef) wf:=hS 7 _ rfl rfl
   have s13:OwB W n (a.tmps.getD 50 undef) wf:=hS 13 _ rfl rfl
   have s16:wf.cell? ⟨kp,0+1,none⟩=some (a.tmps.getD 44 undef):=hS 16 _ rfl rfl
   have s19:wf.cell? ⟨kp,0+2,none⟩=some (a.tmps.getD 50 undef):=hS 19 _ rfl rfl
   obtain ⟨o7,g7,e7,l7,u7⟩:=s7
   obtain ⟨o13,g13,e13,l13,u13⟩:=s13
   have hne:=hD8 g7 g13 e7 e13
   have ha:=puts_each rfl rfl hF [_,_,_,_,_,_,_,_,_,_,_,_,_,_,_,_,undef,_,_,undef] rfl ⟨hS 0 _ rfl rfl,hS 1 _ rfl rfl,hS 2 _ rfl rfl,hS 3 _ rfl rfl,hS 4 _ rfl rfl,hS 5 _ rfl rfl,hS 6 _ rfl rfl,e7,hS 8 _ rfl rfl,hS 9 _ rfl rfl,hS 10 _ rfl rfl,hS 11 _ rfl rfl,hS 12 _ rfl rfl,e13,hS 14 _ rfl rfl,hS 15 _ rfl rfl,trivial,hS 17 _ rfl rfl,hS 18 _ rfl rfl,trivial,trivial⟩
   simp only [puts,Act.put,List.setIfInBounds_toArray,List.set_cons_succ,List.set_cons_zero] at ha
   rw [e7] at s16 o7
   rw [e13] at s19 o13
   have KN:Hid (Knm wf kp (.slice al n cl) (.slice (some ⟨g7,0,none⟩) n n) (.slice (some ⟨g13,0,none⟩) n n) S.l (fun _=> false) (fun _=> false)):=Lib.hid ⟨hI.2.1,hI.2.2.1,s16,s19,hI.2.2.2,(by have h6:=I6.out.chg hI.1 fun b hb h=> (by have:=I7.out b hb;have h1:b=kp:=h;have:=HK3.out;omega);rw [HN.out];exact h6),by rw [←HN.out];exact o7,by rw [←HN.out];exact o13,fun b hb h=> by cases hb;cases h;exact hne rfl⟩
   subst ha
   have HCW:=Lib.hid hI.1
   have XF:Hid (Boxed wf (kp+1) 114 (.pointer (some ⟨kp,0,none⟩))):=Lib.hid (boxed_chg XW.out hI.1 fun h=> by have h1:kp+1=kp:=h;omega)
   have HVF:Hid (Mat wf (.slice av G.length cv) G.length 1 (lv kvI G)):=Lib.hid (((HV.out.below B3.out).chg I8.out (fun h0 b hb h=> by have:=HVL.out h0 b hb;have h1:b=kp:=h;have:=HKP.out;omega)).chg hI.1 (fun h0 b hb h=> by have:=HVL.out h0 b hb;have h1:b=kp:=h;have:=HKP.out;omega))
   have HWS:=Lib.hid (show w.heap.size≤W.heap.size from Nat.le_trans B3.out.size I8.out.size)
   have HKW2:Hid (∀b,KW (.slice (some ⟨g7,0,none⟩) n n) (.slice (some ⟨g13,0,none⟩) n n) b→W.heap.size≤b):=Lib.hid fun b hb=> hb.elim (fun h=> by cases h;exact l7) fun h=> by cases h;exact l13
   clear hS hF hI hD8 o7 o13 s16 s19 e7 e13 l7 l13 u7 u13 hne
   have cb:=XF.out.cell
   by_cases hgood:okG S.l.length G
   ·have HGOOD:=Lib.hid hgood
    clear hgood
    go_wp2_with fail
    refine (kMore_ok KN.out HOK.out HL.out G _ HVF.out (fun h0 b hb h=> by have:=HVL.out h0 b hb;have:=HKW2.out b h;have:=HWS.out;omega) HG.out HGOOD.out).mono ?_
    rintro e wg ⟨rfl,h',hk',hcl',hcg⟩
    have KG:=Lib.hid hk'
    have CL:=Lib.hid hcl'
    have CG:=Lib.hid hcg
    have XG:Hid (Boxed wg (kp+1) 114 (.pointer (some ⟨kp,0,none⟩))):=Lib.hid (boxed_chg XF.out hcg fun h=> by have:=HKW2.out _ h;have:=XW.out.lt;omega)
    clear hk' hcl' hcg cb
    have cb:=XG.out.cell
    have hDW:D<W.heap.size:=(Array.getElem?_eq_some_iff.1 HKD.out).1
    have hDk:D≠kp:=by have:=HD.out;have:=HK3.out;omega
    have HKG:Hid (wg.heap[D]? =some (.deferred (some []))):=Lib.hid ((CG.out.block D (Nat.lt_of_lt_of_le hDW HCW.out.size) (fun h=> by have:=HKW2.out _ h;omega)).trans ((HCW.out.block D hDW (fun h=> hDk h)).trans HKD.out))
    have bg:Below w.heap.size w wg:=B3.out.trans ((I8.out.below (Nat.le_trans B3.out.size (Nat.le_refl _)) fun b hb=> by have h1:b=kp:=hb;have:=HKP.out;omega).trans ((HCW.out.below HWS.out fun b hb=> by have h1:b=kp:=hb;have:=HKP.out;omega).trans (CG.out.below (Nat.le_trans HWS.out HCW.out.size) fun b hb=> Nat.le_trans HWS.out (HKW2.out b hb))))
    have HBG:Hid (Below w.heap.size w (wg.putObj D (.deferred none))):=Lib.hid (bg.grown (grownBy_putObj' _ D _) bg.size (fun k e=> by cases e;have:=HD.out;have:=B3.out.size;omega))
    have hKb:∀b,b=kp∨KW (.slice (some ⟨g7,0,none⟩) n n) (.slice (some ⟨g13,0,none⟩) n n) b∨(Value.slice al n cl).ownBlock=some b→(wg.putObj D (.deferred none)).heap[b]? =wg.heap[b]?:=fun b hb=> World.putObj_heap_other (by
     rcases hb with rfl | hb | hb
     ·exact fun e=> hDk e.symm
     ·intro e
      have:=HKW2.out b hb
      omega
     ·intro e
      subst e
      have h6:=I6.out
      rw [←HN.out] at h6
      rcases h6 with ⟨h,_⟩ | ⟨g,cap,h,⟨cur,h1,_⟩,_⟩
      ·rw [h] at hb;cases hb
      ·rw [h] at hb
       cases hb
       have h2:=HKD.out
       rw [h1] at h2
       cases h2)
    have KF:Hid (Knm (wg.putObj D (.deferred none)) kp (.slice al n cl) (.slice (some ⟨g7,0,none⟩) n n) (.slice (some ⟨g13,0,none⟩) n n) S.l h' (md S.l h')):=Lib.hid (by
     have k:=KG.out
     have hp:=hKb kp (.inl rfl)
     have c:=fun (i:Nat)=> World.cell?_of_block (a:=⟨kp,i,none⟩) hp
     exact ⟨k.row.heap hp,(c 0).trans k.c0,(c 1).trans k.c1,(c 2).trans k.c2,(c 3).trans k.c3,k.ls.heap fun b hb=> hKb b (.inr (.inr hb)),k.hs.heap fun b hb=> hKb b (.inr (.inl (.inl hb))),k.ms.heap fun b hb=> hKb b (.inr (.inl (.inr hb))),k.ne⟩)
    clear hDW hDk bg hKb
    go_wp2
    refine ⟨by simp,.inl ⟨_,_,rfl,run_takeDeferred HKG.out,?_⟩⟩
    exact ⟨_,by simp [results,Try.results66,go_sem],.inl ⟨HGOOD.out,kp,_,_,_,h',rfl,KF.out,CL.out.congr (fun n _=> by rw [Bool.false_or]),fun b hb=> Nat.le_trans HWS.out (HKW2.out b hb),HKP.out,HBG.out⟩⟩
   ·go_wp2_with fail
    refine (kMore_bad KN.out HL.out G _ HVF.out HG.out hgood).mono ?_
    rintro e wg ⟨rfl,rfl⟩
    have HNG:=Lib.hid hgood
    have hDW:D<W.heap.size:=(Array.getElem?_eq_some_iff.1 HKD.out).1
    have hDk:D≠kp:=by have:=HD.out;have:=HK3.out;omega
    have HKG:Hid (wg.heap[D]? =some (.deferred (some []))):=Lib.hid ((HCW.out.block D hDW (fun h=> hDk h)).trans HKD.out)
    have bg:Below w.heap.size w wg:=B3.out.trans ((I8.out.below (Nat.le_trans B3.out.size (Nat.le_refl _)) fun b hb=> by have h1:b=kp:=hb;have:=HKP.out;omega).trans (HCW.out.below HWS.out fun b hb=> by have h1:b=kp:=hb;have:=HKP.out;omega))
    have HBG:Hid (Below w.heap.size w (wg.putObj D (.deferred none))):=Lib.hid (bg.grown (grownBy_putObj' _ D _) bg.size (fun k e=> by cases e;have:=HD.out;have:=B3.out.size;omega))
    clear hDW hDk bg hgood cb
    go_wp2
    refine ⟨by simp,.inl ⟨_,_,rfl,run_takeDeferred HKG.out,?_⟩⟩
    exact ⟨_,by simp [results,Try.results66,go_sem],.inr ⟨HNG.out,rfl,HBG.out⟩⟩
end
end Go.Proofs.Ytlmdgmgbijfaoaa
namespace Go.Proofs.Ytlmdgmgbijfaoaa
open Go.RowKit Go.Bas Go.ChangeShapes Go.Maps
attribute [local go_sem ↓] Go.wp_at_zero Go.wp_at_succ
theorem lMade15 (w:World) (v:Value) (L:List TDo) (hd:TDos w v L) (hok:∀(j:Nat) (d:TDo),L[j]? =some d→okD d) (hfew:FewD L):
  Calls Try.prog 67 #[v] w fun e w'=> ∃p F v2,e=.returned (.tuple #[.pointer (some ⟨p,0,none⟩),v2])∧StA w.heap.size w' p F (stp L L.length)∧OwM 97 3 w' v2 (stp L L.length).l.length (tmv (stp L L.length).l)∧Below w.heap.size w w':=by
 obtain ⟨m,hm⟩:∃m,m=L.length:=⟨_,rfl⟩
 have HM:=Lib.hid hm
 have HTD:=Lib.hid hd
 obtain ⟨q,hq,hrow⟩:=hd
 rw [←hm] at hq ⊢
 obtain ⟨av,cv,rfl,hcv,hcv2,hcell⟩:=hq
 have HRW:=Lib.hid hrow
 have HC:=Lib.hid hcell
 have HOK:=Lib.hid hok
 have HFEW:=Lib.hid hfew
 clear hcell hrow hok hm hfew
 obtain ⟨B,hB⟩:∃x,x=w.heap.size:=⟨_,rfl⟩
 have HB:=Lib.hid hB
 rw [←hB]
 clear hB
 go_enter Try.func67,Try.ntmps67
 go_wp2_with fail
 refine (tNew_any w).mono ?_
 rintro e w4 ⟨p,F,rfl,h4,b4⟩
 rw [←HB.out] at h4 b4
 have H4:=Lib.hid h4
 have B4:=Lib.hid b4
 have HS4:=Lib.hid (show B≤w4.heap.size from HB.out▸b4.size)
 clear h4 b4
 go_upto_region 2 with (fail)
 refine wp_world (fun w5=> TwoT B w5 p w4.heap.size (stp L 0) (fun b=> F b∨RF w4.heap.size (.slice none 0 0) (.slice none 0 0) b)∧Below B w w5) ⟨⟨F,RF w4.heap.size (.slice none 0 0) (.slice none 0 0),H4.out.below' ((Below.refl _ _).alloc (Nat.le_refl _) _),rEmpty HS4.out,fun b hb hr=> ?_,fun b=> Iff.rfl⟩,B4.out.alloc HS4.out _⟩ ?_
 ·have:=H4.out.lt hb
  rcases hr with rfl | hr | hr
  ·omega
  ·cases hr
  ·cases hr
 rintro w5 ⟨t5,b5⟩
 obtain ⟨y,hy⟩:∃y,y=w4.heap.size:=⟨_,rfl⟩
 rw [←hy] at t5 ⊢
 have T5:=Lib.hid t5
 have B5:=Lib.hid b5
 clear t5 b5 hy
 go_wp2
 go_loopw [13] (fun i wr=> ∃k:Nat,k≤m∧i=.int .i64 k∧Below B w wr∧∃G,TwoT B wr p y (stp L k) G) (fun i _=> m - (intOf i).toNat)
 case atStart=> exact ⟨0,Nat.zero_le _,rfl,B5.out,_,T5.out⟩
 case round=>
  obtain ⟨k,hk,rfl,hBe,G,hT⟩:=hrel
  have HBe:=Lib.hid hBe
  have HT:=Lib.hid hT
  have HLK:=Lib.hid (show (stp L k).l.length≤30∧(stp L k).tx.length≤30 by have h1:=stp_len L k;have:=HFEW.out.1;have:=HM.out;omega)
  clear hBe hT
  by_cases hlt:k<m
  ·obtain ⟨bb,o,rfl,hbl,hcc⟩:=HC.out (by omega)
   have HCL:Hid (∀i,i<6→wr.cell? ⟨bb,o+k * 6+i,none⟩=some (q k i)):=fun i hi=> (HBe.out.cell (p:=⟨bb,o+k * 6+i,none⟩) (HB.out▸hbl)).trans (hcc k hlt i hi)
   obtain ⟨d,hd⟩:∃d,L[k]? =some d:=⟨_,List.getElem?_eq_getElem (by rw [←HM.out];exact hlt)⟩
   have HRD:=Lib.hid ((HRW.out k d hd).below (HB.out▸HBe.out))
   have HOC:Hid (∀i,i<6→(q k i).oneCell'=true):=Lib.hid HRD.out.one
   have HOD:=Lib.hid (HOK.out k d hd)
   have H100:=Lib.hid (HFEW.out.2 k d hd)
   have HVB:Hid (0<d.2.2.2.length→∀c,(q k 5).ownBlock=some c→c<B):=Lib.hid fun h0 c hc=> by
    obtain ⟨a',c',e',_,_,_,h4'⟩:=(HRW.out k d hd).z5
    obtain ⟨b',o',rfl,hlt',_⟩:=h4' h0
    rw [e'] at hc
    cases hc
    have hB1:=HB.out
    exact hB1▸hlt'
   have HST:=Lib.hid (stp_succ hd)
   have HLT:=Lib.hid hlt
   clear hcc hd hbl
   go_upto_region 5 with (first | (refine load_row rfl rfl rfl Try.underlying99 rfl Try.sizeD14 HCL.out ?_) | (refine store_rowV rfl 99 _ _ rfl wr.heap.size 6 (q k) _ 99 (heap_alloc_new _ _) rfl Try.sizeD14 rfl rfl HOC.out ?_))
   refine wp_world (fun w6=> RowN w6 wr.heap.size 6 99 (q k)∧Below wr.heap.size wr w6) ⟨RowN.setRow (heap_alloc_new _ _),below_setRow' ((Below.refl _ _).alloc (Nat.le_refl _) _) (Nat.le_refl _) _⟩ ?_
   rintro w6 ⟨hr6,hb6⟩
   obtain ⟨bd,hbd⟩:∃b,b=wr.heap.size:=⟨_,rfl⟩
   have DT6:=Lib.hid (DoT.of_row hr6 (HRD.out.below hb6))
   have VR6:=Lib.hid (HRD.out.below hb6).z5
   have T6:=Lib.hid (HT.out.below hb6)
   have B6:=Lib.hid (laterT HB.out HBe.out hb6)
   have HNX:Hid (¬ G bd):=Lib.hid fun h=> by have:=HT.out.lt h;omega
   have HBS:=Lib.hid (show B≤w6.heap.size from T6.out.le)
   rw [←hbd] at DT6 ⊢
   obtain ⟨av5,cv5,ev5,_⟩:=VR6.out
   obtain ⟨kd,n,t,b⟩:=d
   have VR6:Hid (Rd .u8 w6 (q k 5) b.length (bf b)):=VR6
   rw [ev5] at DT6 HVB VR6
   have D0:w6.cell? ⟨bd,0,none⟩=some (.int .i64 kd):=DT6.out.d0
   clear hr6 hb6 hbd ev5
   obtain ⟨F1,F2,hs1,hr1,hdj,hG⟩:=T6.out
   have S1:=Lib.hid hs1
   have R1:=Lib.hid hr1
   have HDJ:=Lib.hid hdj
   have HGG:=Lib.hid hG
   have HN1:Hid (¬ F1 bd):=Lib.hid fun h=> HNX.out ((hG bd).2 (.inl h))
   have HN2:Hid (¬ F2 bd):=Lib.hid fun h=> HNX.out ((hG bd).2 (.inr h))
   clear hs1 hr1 hdj hG
   by_cases hk1:kd=1
   ·subst hk1
    have HC2:=Lib.hid DT6.out.d2
    have HSS:Hid (stp L (k+1)=(stp L k).put t):=Lib.hid (by rw [HST.out];rfl)
    go_wp2_with (refine load_row (y:=fun i=> .int .i64 (tf t i)) rfl rfl rfl Try.underlying97 rfl Try.sizeTm HC2.out ?_)
    refine (tPut_any S1.out HBS.out t HOD.out.2.2.1 (by have:=HLK.out.1;omega)).mono ?_
    rintro e w7 ⟨rfl,F3,h3,c3,f3⟩
    have R2:=Lib.hid (R1.out.keep c3 (fun b hb h5=> HDJ.out b h5 hb) fun b hb=> S1.out.hi hb)
    have S3:=Lib.hid h3
    have C3:=Lib.hid c3
    have F3':=Lib.hid f3
    have HC3:Hid (∀i,i<3→w7.cell? ⟨bd,2+i,none⟩=some (.int .i64 (tf t i))):=Lib.hid fun i hi=> (c3.cell (p:=⟨bd,2+i,none⟩) DT6.out.lt HN1.out).trans (HC2.out i hi)
    clear h3 c3 f3 D0
    go_wp2_with (refine load_row (y:=fun i=> .int .i64 (tf t i)) rfl rfl rfl Try.underlying97 rfl Try.sizeTm HC3.out ?_)
    refine (rPut_any R2.out (Nat.le_trans HBS.out C3.out.size) t HOD.out.2.2.1 (by have:=HLK.out.1;omega)).mono ?_
    rintro e w8 ⟨rfl,F4,h5,c5,f5⟩
    obtain ⟨G',hT',hcG,_⟩:=TwoT.join (Chg.refl (fun _=> False) w6) HGG.out S1.out R1.out HDJ.out S3.out C3.out F3'.out h5 c5 f5
    have T8:=Lib.hid hT'
    have B8:Hid (Below B w w8):=Lib.hid (B6.out.trans (hcG.below HBS.out fun b hb=> T6.out.hi hb))
    clear h5 c5 f5 hT' hcG
    go_wp2
    go_roundw
    case rel=> exact ⟨k+1,by have:=HLT.out;omega,by go_num,B8.out,G',by rw [HSS.out];exact T8.out⟩
    case measure=> have:=HLT.out;simp [intOf];omega
   ·by_cases hk2:kd=2
    ·subst hk2
     have HSS:Hid (stp L (k+1)=(stp L k).draw n):=Lib.hid (by rw [HST.out];rfl)
     have D1:w6.cell? ⟨bd,1,none⟩=some (.int .i64 n):=DT6.out.d1
     go_wp2_with fail
     refine (tDraw_any S1.out HBS.out n (by have:=HLK.out.1;omega)).mono ?_
     rintro e w7 ⟨rfl,F3,h3,c3,f3⟩
     have R2:=Lib.hid (R1.out.keep c3 (fun b hb h5=> HDJ.out b h5 hb) fun b hb=> S1.out.hi hb)
     have S3:=Lib.hid h3
     have C3:=Lib.hid c3
     have F3':=Lib.hid f3
     have D1':w7.cell? ⟨bd,1,none⟩=some (.int .i64 n):=(c3.cell (p:=⟨bd,1,none⟩) DT6.out.lt HN1.out).trans D1
     clear h3 c3 f3 D0 D1
     go_wp2_with fail
     refine (rDraw_any R2.out (Nat.le_trans HBS.out C3.out.size) n HOD.out.2.1 (by have:=HLK.out.1;omega)).mono ?_
     rintro e w8 ⟨rfl,F4,h5,c5,f5⟩
     obtain ⟨G',hT',hcG,_⟩:=TwoT.join (Chg.refl (fun _=> False) w6) HGG.out S1.out R1.out HDJ.out S3.out C3.out F3'.out h5 c5 f5
     have T8:=Lib.hid hT'
     have B8:Hid (Below B w w8):=Lib.hid (B6.out.trans (hcG.below HBS.out fun b hb=> T6.out.hi hb))
     clear h5 c5 f5 hT' hcG
     go_wp2
     go_roundw
     case rel=> exact ⟨k+1,by have:=HLT.out;omega,by go_num,B8.out,G',by rw [HSS.out];exact T8.out⟩
     case measure=> have:=HLT.out;simp [intOf];omega
    ·by_cases hk3:kd=3
     ·subst hk3
      have HSS:Hid (stp L (k+1)=(stp L k).text b):=Lib.hid (by rw [HST.out];rfl)
      have D5:w6.cell? ⟨bd,5,none⟩=some (.slice av5 b.length cv5):=DT6.out.d5
      have HOX:Hid (okX b):=Lib.hid ⟨HOD.out.2.2.2,by have h9:b.length≤100:=H100.out;omega⟩
      go_wp2_with fail
      refine (tText_any S1.out HBS.out b HOX.out _ VR6.out (fun h0 c hc hf=> by have:=HVB.out h0 c hc;have:=S1.out.hi hf;omega) (by have:=HLK.out.1;omega) (by have:=HLK.out.2;omega)).mono ?_
      rintro e w7 ⟨rfl,F3,h3,c3,f3⟩
      have R2:=Lib.hid (R1.out.keep c3 (fun b hb h5=> HDJ.out b h5 hb) fun b hb=> S1.out.hi hb)
      have S3:=Lib.hid h3
      have C3:=Lib.hid c3
      have F3':=Lib.hid f3
      have VR7:=Lib.hid (VR6.out.chgZ c3 fun h0 c hc hf=> by have:=HVB.out h0 c hc;have:=S1.out.hi hf;omega)
      have D5':w7.cell? ⟨bd,5,none⟩=some (.slice av5 b.length cv5):=(c3.cell (p:=⟨bd,5,none⟩) DT6.out.lt HN1.out).trans D5
      clear h3 c3 f3 D0 D5
      go_wp2_with fail
      refine (rText_any R2.out (Nat.le_trans HBS.out C3.out.size) S1.out.ok b HOX.out _ VR7.out HVB.out (by have:=HLK.out.1;omega) (by have:=HLK.out.2;omega)).mono ?_
      rintro e w8 ⟨rfl,F4,h5,c5,f5⟩
      obtain ⟨G',hT',hcG,_⟩:=TwoT.join (Chg.refl (fun _=> False) w6) HGG.out S1.out R1.out HDJ.out S3.out C3.out F3'.out h5 c5 f5
      have T8:=Lib.hid hT'
      have B8:Hid (Below B w w8):=Lib.hid (B6.out.trans (hcG.below HBS.out fun b hb=> T6.out.hi hb))
      clear h5 c5 f5 hT' hcG
      go_wp2
      go_roundw
      case rel=> exact ⟨k+1,by have:=HLT.out;omega,by go_num,B8.out,G',by rw [HSS.out];exact T8.out⟩
      case measure=> have:=HLT.out;simp [intOf];omega
     ·have HSS:Hid (stp L (k+1)=stp L k):=Lib.hid (by rw [HST.out];unfold TS.step;rw [if_neg hk1,if_neg hk2,if_neg hk3])
      have q1:(kd==1)=false:=by simpa using hk1
      have q2:(kd==2)=false:=by simpa using hk2
      have q3:(kd==3)=false:=by simpa using hk3
      clear hk1 hk2 hk3
      go_wp2
      go_roundw
      case rel=> exact ⟨k+1,by have:=HLT.out;omega,by go_num,B6.out,G,by rw [HSS.out];exact T6.out⟩
      case measure=> have:=HLT.out;simp [intOf];omega
  ·obtain rfl:k=m:=by omega
   clear hlt
   obtain ⟨F1,F2,hs1,⟨vl2,vb2,tv2,hrs,_⟩,_,_⟩:=HT.out
   have S1:=Lib.hid hs1
   have RS:=Lib.hid hrs
   have c0:=hrs.c0
   obtain ⟨a2,c2,rfl,_⟩:=hrs.ls.slice
   clear hs1 hrs
   go_upto_region 16 with (fail)
   go_quiet (fail)
   go_wp2
   refine bodyPost_ret (by simp [results,Try.results67,go_sem];rfl) rfl ?_
   exact ⟨p,F1,_,rfl,S1.out.below' (Go.Bas.below_drewN (Below.refl _ _) _),RS.out.ls.below (Go.Bas.below_drewN (Below.refl _ _) _),Go.Bas.below_drewN HBe.out _⟩
theorem right15 {w:World} {vl:Value} {l:List Tm} (hl:OwM 97 3 w vl l.length (tmv l)) (hlen:l.length≤1000) (G:List Int) (v:Value) (hv:Mat w v G.length 1 (lv kvI G)) (hG:G.length≤1000):Calls Try.prog 68 #[vl,v] w fun e w'=> e=.returned (.bool (decide (okG l.length G)))∧w'=w:=by
 have HV:=Lib.hid hv
 have HG:=Lib.hid hG
 obtain ⟨al,cl,rfl,_⟩:=hl.slice
 obtain ⟨av,cv,rfl,_⟩:=hv
 obtain ⟨R,hR⟩:∃R,R=decide (okG l.length G):=⟨_,rfl⟩
 rw [←hR]
 have HR:=Lib.hid hR
 clear hl hG hlen hR
 go_enter Try.func68,Try.ntmps68
 go_wp2
 go_loop [9] (fun i=> ∃k:Nat,k≤G.length∧i=.int .i64 k∧∀j x,j<k→G[j]? =some x→0≤x∧x<(l.length:Int)) (fun i=> G.length - (intOf i).toNat)
 case atStart=> exact ⟨0,Nat.zero_le _,rfl,fun j x hj=> absurd hj (Nat.not_lt_zero _)⟩
 case round=>
  obtain ⟨k,hk,rfl,hno⟩:=hrel
  have HNO:=Lib.hid hno
  clear hno
  by_cases hlt:k<G.length
  ·obtain ⟨x,hx⟩:∃x,G[k]? =some x:=⟨_,List.getElem?_eq_getElem hlt⟩
   obtain ⟨b,o,cap,e,_,z0⟩:=mat_at HV.out hlt hx
   cases e
   have HX:=Lib.hid hx
   have hk9:(k:Int)<(G.length:Int):=by omega
   have hk8:(k:Int)<1000000:=by have:=HG.out;omega
   have HLT:=Lib.hid hlt
   clear hx hlt
   by_cases h1:x<0
   ·have HF:Hid (R=false):=Lib.hid (by rw [HR.out];exact decide_eq_false fun h=> by have:=(h x (List.mem_of_getElem? HX.out)).1;omega)
    go_wp2
    go_ret
    rw [HF.out]
    exact ⟨rfl,rfl⟩
   ·by_cases h2:(l.length:Int)≤x
    ·have HF:Hid (R=false):=Lib.hid (by rw [HR.out];exact decide_eq_false fun h=> by have:=(h x (List.mem_of_getElem? HX.out)).2;omega)
     go_wp2
     go_ret
     rw [HF.out]
     exact ⟨rfl,rfl⟩
    ·have HIN:=Lib.hid (show 0≤x∧x<(l.length:Int) by omega)
     go_wp2
     go_round
     case rel=> exact ⟨k+1,by have:=HLT.out;omega,by go_num,fun j y hj hy=> by
      by_cases e:j=k
      ·subst e
       rw [HX.out] at hy
       cases hy
       exact HIN.out
      ·exact HNO.out j y (by omega) hy⟩
     case measure=> have:=HLT.out;simp [intOf];omega
  ·obtain rfl:k=G.length:=by omega
   have HF:Hid (R=true):=Lib.hid (by
    rw [HR.out]
    refine decide_eq_true fun x hx=> ?_
    obtain ⟨j,hj,rfl⟩:=List.mem_iff_getElem.1 hx
    exact HNO.out j _ hj (List.getElem?_eq_getElem hj))
   go_wp2
   go_ret
   rw [HF.out]
   exact ⟨rfl,rfl⟩
end Go.Proofs.Ytlmdgmgbijfaoaa
namespace Go.Bas
def l15:List Tm:= [(1,2,0),(1,3,0),(5,0,1)]
theorem cl15:ClosedK l15 (fun n=> n==2):=by unfold ClosedK;decide
theorem one15 {h:Nat→Bool} (hc:IsCl l15 (givenB [2]) h):h 1=false:=by
 cases hh:h 1 with
 | false=> rfl
 | true=>
  have:=hc.so _ cl15 (fun n hn hg=> by
   have hn:n<3:=hn
   rcases (by omega:n=0∨n=1∨n=2) with rfl | rfl | rfl
   ·exact absurd hg (by decide)
   ·exact absurd hg (by decide)
   ·rfl) 1 (by decide) hh
  cases this
theorem two15 {S:TS} (hS:S.l=l15) (hok:S.Ok) {h:Nat→Bool} (hc:IsCl l15 (givenB [2,0]) h):h 1=true∧(yesL h 3).length=3:=by
 have h0:h 0=true:=hc.up 0 (by decide) (by decide)
 have h2:h 2=true:=hc.up 2 (by decide) (by decide)
 have h1:h 1=true:=by
  refine hc.cl 2 (by decide) h2 ?_
  have hm:md l15 h 0=true:=by
   have:=md_has hok (h:=h) (n:=0) (by rw [hS];decide) h0
   rwa [hS] at this
  show opnB l15 (md l15 h) 2=true
  unfold opnB
  rw [if_neg (by decide),if_pos (by decide)]
  exact hm
 refine ⟨h1,?_⟩
 unfold yesL
 rw [List.length_map]
 show (List.filter h [0,1,2]).length=3
 simp [h0,h1,h2]
end Go.Bas
namespace Go.Proofs.Ytlmdgmgbijfaoaa
open Go.RowKit Go.Bas Go.ChangeShapes Go.Maps
attribute [local go_sem ↓] Go.wp_at_zero Go.wp_at_succ
theorem awD1:drawA ⟨[], []⟩ 2=(0,0)∧TS.draw ⟨[], []⟩ 2=⟨[(1,2,0)], []⟩:=⟨by rfl,by rfl⟩
theorem awD2:drawA ⟨[(1,2,0)], []⟩ 3=(1,0)∧TS.draw ⟨[(1,2,0)], []⟩ 3=⟨[(1,2,0),(1,3,0)], []⟩:=⟨by rfl,by rfl⟩
theorem awD3:putA ⟨[(1,2,0),(1,3,0)], []⟩ (5,0,1)=(2,0)∧TS.put ⟨[(1,2,0),(1,3,0)], []⟩ (5,0,1)=⟨l15, []⟩:=⟨by rfl,by rfl⟩
theorem okT501:okTm (5,0,1):=⟨⟨by decide,by decide⟩,⟨by decide,by decide⟩,⟨by decide,by decide⟩⟩
theorem awake15 (w:World):Calls Try.prog 65 #[] w fun e w'=> e=.returned (.bool true)∧Below w.heap.size w w':=by
 go_enter Try.func65,Try.ntmps65
 go_wp2_with fail
 refine (tNew_any w).mono ?_
 rintro e w1 ⟨p,F,rfl,h1,b1⟩
 have H1:=Lib.hid h1
 have B1:=Lib.hid b1
 clear h1 b1
 go_wp2_with fail
 refine (tDraw_any H1.out B1.out.size 2 (by decide)).mono ?_
 rw [awD1.1,awD1.2]
 rintro e w2 ⟨rfl,F2,h2,c2,f2⟩
 have H2:=Lib.hid h2
 have B2:Hid (Below w.heap.size w w2):=Lib.hid (B1.out.trans (c2.below B1.out.size fun b hb=> H1.out.hi hb))
 clear h2 c2 f2
 go_wp2_with fail
 refine (tDraw_any H2.out B2.out.size 3 (by decide)).mono ?_
 rw [awD2.1,awD2.2]
 rintro e w3 ⟨rfl,F3,h3,c3,f3⟩
 have H3:=Lib.hid h3
 have B3:Hid (Below w.heap.size w w3):=Lib.hid (B2.out.trans (c3.below B2.out.size fun b hb=> H2.out.hi hb))
 clear h3 c3 f3
 go_wp2_with fail
 refine (tPut_any H3.out B3.out.size (5,0,1) okT501 (by decide)).mono ?_
 rw [awD3.1,awD3.2]
 rintro e w4 ⟨rfl,F4,h4,c4,f4⟩
 have H4:=Lib.hid h4
 have B4:Hid (Below w.heap.size w w4):=Lib.hid (B3.out.trans (c4.below B3.out.size fun b hb=> H3.out.hi hb))
 clear h4 c4 f4
 go_wp2_with fail
 obtain ⟨w5,hw5⟩:∃x,x=w4.alloc (.cells #[.int .i64 2] 3):=⟨_,rfl⟩
 have hm5:Mat w5 (.slice (some ⟨w4.heap.size,0,none⟩) 1 1) ([2] :List Int).length 1 (lv kvI [2]):=⟨_,_,rfl,Nat.le_refl _,by decide,fun _=> ⟨_,_,rfl,by rw [hw5,World.size_alloc];omega,fun j hj i hi=> by
  have hj:j<1:=hj
  obtain rfl:j=0:=by omega
  obtain rfl:i=0:=by omega
  rw [hw5]
  exact cell_of_row _ _ 0 _ _ (0,0) (heap_alloc_new w4 _)⟩⟩
 have b5:Below w4.heap.size w4 w5:=by rw [hw5];exact (Below.refl _ _).alloc (Nat.le_refl _) _
 rw [←hw5]
 refine (dFrom_any (H4.out.below' b5) (by decide) [2] _ hm5 (fun _ b hb=> by cases hb;rw [hw5,World.size_alloc];exact Nat.lt_succ_self _) (by decide)).mono ?_
 rintro e w6 (⟨_,k1,al1,ah1,am1,h1,rfl,hk1,hcl1,hw1,hp1,b6⟩ | ⟨hbad,_⟩)
 rotate_left
 ·exact absurd (by decide) hbad
 have K1:=Lib.hid hk1
 have HH1:=Lib.hid (one15 hcl1)
 have B6:Hid (Below w.heap.size w w6):=Lib.hid ((B4.out.trans (b5.mono B4.out.size)).trans (b6.mono (Nat.le_trans B4.out.size b5.size)))
 have H6:=Lib.hid ((H4.out.below' b5).below' b6)
 clear hk1 hcl1 hw1 hp1 b6 b5 hm5 hw5
 go_wp2_with fail
 obtain ⟨w7,hw7⟩:∃x,x=w6.alloc (.cells #[.int .i64 2,.int .i64 0] 3):=⟨_,rfl⟩
 have hm7:Mat w7 (.slice (some ⟨w6.heap.size,0,none⟩) 2 2) ([2,0] :List Int).length 1 (lv kvI [2,0]):=⟨_,_,rfl,Nat.le_refl _,by decide,fun _=> ⟨_,_,rfl,by rw [hw7,World.size_alloc];omega,fun j hj i hi=> by
  have hj:j<2:=hj
  obtain rfl:i=0:=by omega
  rw [hw7]
  rcases (by omega:j=0∨j=1) with rfl | rfl
  ·exact cell_of_row _ _ 0 _ _ (0,0) (heap_alloc_new w6 _)
  ·exact cell_of_row _ _ 1 _ _ (0,0) (heap_alloc_new w6 _)⟩⟩
 have b7:Below w6.heap.size w6 w7:=by rw [hw7];exact (Below.refl _ _).alloc (Nat.le_refl _) _
 rw [←hw7]
 refine (dFrom_any (H6.out.below' b7) (by decide) [2,0] _ hm7 (fun _ b hb=> by cases hb;rw [hw7,World.size_alloc];exact Nat.lt_succ_self _) (by decide)).mono ?_
 rintro e w8 (⟨_,k2,al2,ah2,am2,h2,rfl,hk2,hcl2,hw2,hp2,b8⟩ | ⟨hbad,_⟩)
 rotate_left
 ·exact absurd (by decide) hbad
 have K2:=Lib.hid hk2
 have K1':=Lib.hid ((K1.out.below b7).below b8)
 have HH2:=Lib.hid (two15 rfl H6.out.ok hcl2)
 have B8:Hid (Below w.heap.size w w8):=Lib.hid ((B6.out.trans (b7.mono B6.out.size)).trans (b8.mono (Nat.le_trans B6.out.size b7.size)))
 clear hk2 hcl2 hw2 hp2 b8 b7 hm7 hw7
 have HA:Hid (∀{w2:World},Below w8.heap.size w8 w2→Calls Try.prog 71 #[.pointer (some ⟨k1,0,none⟩),.int .i64 1] w2 fun e w'=> e=.returned (.bool false)∧Below w2.heap.size w2 w'):=Lib.hid fun hB=> (kHas_any (K1'.out.below hB) 1).mono fun e w' h=> ⟨by rw [h.1];show Ending.returned (.bool (knB 3 h1 ((1:Nat):Int)))= _;rw [knB_in (by decide),HH1.out],by rw [h.2];exact Below.refl _ _⟩
 have HBq:Hid (∀{w2:World},Below w8.heap.size w8 w2→Calls Try.prog 71 #[.pointer (some ⟨k2,0,none⟩),.int .i64 1] w2 fun e w'=> e=.returned (.bool true)∧Below w2.heap.size w2 w'):=Lib.hid fun hB=> (kHas_any (K2.out.below hB) 1).mono fun e w' h=> ⟨by rw [h.1];show Ending.returned (.bool (knB 3 h2 ((1:Nat):Int)))= _;rw [knB_in (by decide),HH2.out.1],by rw [h.2];exact Below.refl _ _⟩
 have HCq:Hid (∀{w2:World},Below w8.heap.size w8 w2→Calls Try.prog 74 #[.pointer (some ⟨k2,0,none⟩)] w2 fun e w'=> ∃u,e=.returned u∧(∃a c,u=Value.slice a 3 c)∧Below w2.heap.size w2 w'):=Lib.hid fun hB=> (kList_any (K2.out.below hB) (by decide)).mono fun e w' ⟨u,h1,h2,h3⟩=> ⟨u,h1,by
  obtain ⟨a,c,e,_⟩:=h2.slice
  refine ⟨a,c,?_⟩
  rw [e]
  show Value.slice a (yesL _ 3).length c= _
  rw [HH2.out.2],h3⟩
 go_upto_region 7 with (fail)
 refine region_flow (n:=69) (by kernel_rfl) (by kernel_rfl) (by kernel_rfl) rfl
  (fun ii vv ww=> (match ii with | 0 | 3=> vv=.int .i64 (0) | 1 | 2 | 4 | 5 | 6 | 10 | 11 | 12 | 15 | 16 | 17 | 21 | 22 | 23=> vv=.bool true | 7=> vv=.pointer (some ⟨k1,0,none⟩) | 8 | 14=> vv=.int .i64 (1) | 9=> vv=.bool false | 13 | 18=> vv=.pointer (some ⟨k2,0,none⟩) | 20=> vv=.int .i64 (3) | _=> True)∧(ii=19→∃a c,vv=Value.slice a 3 c))
  (fun w w'=> Below w.heap.size w w') (fun _ _ h=> h) (fun i v w w' h hE=> ⟨h.1,fun e=> (fun h _=> h) (h.2 e) hE⟩) ?_ ?_
 ·refine Each.all ?_
  refine ⟨?_,?_,?_,?_,?_,?_,?_,?_,?_,?_,?_,?_,?_,?_,?_,?_,?_,?_,?_,?_,?_,?_,?_,?_,trivial⟩
  ·intro a w2 hB hF hd
   rw [if_pos (wanted_none rfl)]
   exact flow_move _ (.inl rfl) (by simp) ⟨(hF.same 9 rfl),fun h=> absurd h (by decide)⟩
  ·intro a w2 hB hF hd
   rw [if_pos (wanted_none rfl)]
   refine flow_val (fun h=> by cases h) (Go.Bas.run_eql_int rfl ((hd 0 _ rfl (waits_spec rfl)).1) rfl) ?_
   exact ⟨rfl,fun h=> absurd h (by decide)⟩
  ·intro a w2 hB hF hd
   rw [if_pos (wanted_none rfl)]
   exact flow_move _ (.inl rfl) (by simp) ⟨((hd 1 _ rfl (waits_spec rfl)).1),fun h=> absurd h (by decide)⟩
  ·intro a w2 hB hF hd
   refine flow_wanted (wanted_yes rfl rfl ((hd 2 _ rfl (waits_spec rfl)).1) rfl) ?_
   exact flow_move _ (.inl rfl) (by simp) ⟨(hF.same 11 rfl),fun h=> absurd h (by decide)⟩
  ·intro a w2 hB hF hd
   refine flow_wanted (wanted_yes rfl rfl ((hd 2 _ rfl (waits_spec rfl)).1) rfl) ?_
   refine flow_val (fun h=> by cases h) (Go.Bas.run_eql_int rfl ((hd 3 _ rfl (waits_spec rfl)).1) rfl) ?_
   exact ⟨rfl,fun h=> absurd h (by decide)⟩
  ·intro a w2 hB hF hd
   rw [if_pos (wanted_none rfl)]
   exact flow_val (fun h=> by cases h) (run_pick rfl ((hd 2 _ rfl (waits_spec rfl)).1)) ⟨(((hd 4 _ rfl (waits_spec rfl)).1)),fun h=> absurd h (by decide)⟩
  ·intro a w2 hB hF hd
   rw [if_pos (wanted_none rfl)]
   exact flow_move _ (.inl rfl) (by simp) ⟨((hd 5 _ rfl (waits_spec rfl)).1),fun h=> absurd h (by decide)⟩
  ·intro a w2 hB hF hd
   refine flow_wanted (wanted_yes rfl rfl ((hd 6 _ rfl (waits_spec rfl)).1) rfl) ?_
   exact flow_move _ (.inl rfl) (by simp) ⟨(hF.same 8 rfl),fun h=> absurd h (by decide)⟩
  ·intro a w2 hB hF hd
   refine flow_wanted (wanted_yes rfl rfl ((hd 6 _ rfl (waits_spec rfl)).1) rfl) ?_
   exact flow_move _ (.inl rfl) (by simp) ⟨(hF.same 4 rfl),fun h=> absurd h (by decide)⟩
  ·intro a w2 hB hF hd
   refine flow_wanted (wanted_yes rfl rfl ((hd 6 _ rfl (waits_spec rfl)).1) rfl) ?_
   refine flow_call _ _ _ rfl Try.call71 _ (args2 ((hd 7 _ rfl (waits_spec rfl)).1) ((hd 8 _ rfl (waits_spec rfl)).1)) (by simp) ((HA.out hB).mono ?_)
   rintro e w3 ⟨rfl,hb⟩;exact ⟨_,rfl,⟨rfl,fun h=> absurd h (by decide)⟩,hb⟩
  ·intro a w2 hB hF hd
   refine flow_wanted (wanted_yes rfl rfl ((hd 6 _ rfl (waits_spec rfl)).1) rfl) ?_
   exact flow_val (fun h=> by cases h) (run_not rfl ((hd 9 _ rfl (waits_spec rfl)).1)) ⟨rfl,fun h=> absurd h (by decide)⟩
  ·intro a w2 hB hF hd
   rw [if_pos (wanted_none rfl)]
   exact flow_val (fun h=> by cases h) (run_pick rfl ((hd 6 _ rfl (waits_spec rfl)).1)) ⟨(((hd 10 _ rfl (waits_spec rfl)).1)),fun h=> absurd h (by decide)⟩
  ·intro a w2 hB hF hd
   rw [if_pos (wanted_none rfl)]
   exact flow_move _ (.inl rfl) (by simp) ⟨((hd 11 _ rfl (waits_spec rfl)).1),fun h=> absurd h (by decide)⟩
  ·intro a w2 hB hF hd
   refine flow_wanted (wanted_yes rfl rfl ((hd 12 _ rfl (waits_spec rfl)).1) rfl) ?_
   exact flow_move _ (.inl rfl) (by simp) ⟨(hF.same 10 rfl),fun h=> absurd h (by decide)⟩
  ·intro a w2 hB hF hd
   refine flow_wanted (wanted_yes rfl rfl ((hd 12 _ rfl (waits_spec rfl)).1) rfl) ?_
   exact flow_move _ (.inl rfl) (by simp) ⟨(hF.same 4 rfl),fun h=> absurd h (by decide)⟩
  ·intro a w2 hB hF hd
   refine flow_wanted (wanted_yes rfl rfl ((hd 12 _ rfl (waits_spec rfl)).1) rfl) ?_
   refine flow_call _ _ _ rfl Try.call71 _ (args2 ((hd 13 _ rfl (waits_spec rfl)).1) ((hd 14 _ rfl (waits_spec rfl)).1)) (by simp) ((HBq.out hB).mono ?_)
   rintro e w3 ⟨rfl,hb⟩;exact ⟨_,rfl,⟨rfl,fun h=> absurd h (by decide)⟩,hb⟩
  ·intro a w2 hB hF hd
   rw [if_pos (wanted_none rfl)]
   exact flow_val (fun h=> by cases h) (run_pick rfl ((hd 12 _ rfl (waits_spec rfl)).1)) ⟨(((hd 15 _ rfl (waits_spec rfl)).1)),fun h=> absurd h (by decide)⟩
  ·intro a w2 hB hF hd
   rw [if_pos (wanted_none rfl)]
   exact flow_move _ (.inl rfl) (by simp) ⟨((hd 16 _ rfl (waits_spec rfl)).1),fun h=> absurd h (by decide)⟩
  ·intro a w2 hB hF hd
   refine flow_wanted (wanted_yes rfl rfl ((hd 17 _ rfl (waits_spec rfl)).1) rfl) ?_
   exact flow_move _ (.inl rfl) (by simp) ⟨(hF.same 10 rfl),fun h=> absurd h (by decide)⟩
  ·intro a w2 hB hF hd
   refine flow_wanted (wanted_yes rfl rfl ((hd 17 _ rfl (waits_spec rfl)).1) rfl) ?_
   refine flow_call _ _ _ rfl Try.call74 _ (args1 ((hd 18 _ rfl (waits_spec rfl)).1)) (by simp) ((HCq.out hB).mono ?_)
   rintro e w3 ⟨u,rfl,hr,hb⟩;exact ⟨u,rfl,⟨trivial,fun _=> hr⟩,hb⟩
  ·intro a w2 hB hF hd
   refine flow_wanted (wanted_yes rfl rfl ((hd 17 _ rfl (waits_spec rfl)).1) rfl) ?_
   obtain ⟨aa,cc,ee⟩:=((hd 19 _ rfl (waits_spec rfl)).2 rfl)
   exact flow_val (fun h=> by cases h) (run_len_sl rfl ee Try.underlying56) ⟨rfl,fun h=> absurd h (by decide)⟩
  ·intro a w2 hB hF hd
   refine flow_wanted (wanted_yes rfl rfl ((hd 17 _ rfl (waits_spec rfl)).1) rfl) ?_
   refine flow_val (fun h=> by cases h) (Go.Bas.run_eql_int rfl ((hd 20 _ rfl (waits_spec rfl)).1) rfl) ?_
   exact ⟨rfl,fun h=> absurd h (by decide)⟩
  ·intro a w2 hB hF hd
   rw [if_pos (wanted_none rfl)]
   exact flow_val (fun h=> by cases h) (run_pick rfl ((hd 17 _ rfl (waits_spec rfl)).1)) ⟨(((hd 21 _ rfl (waits_spec rfl)).1)),fun h=> absurd h (by decide)⟩
  ·intro a w2 hB hF hd
   rw [if_pos (wanted_none rfl)]
   exact flow_move _ (.inr rfl) (by simp) ⟨((hd 22 _ rfl (waits_spec rfl)).1),fun h=> absurd h (by decide)⟩
 ·intro a wf hB hF hS
  obtain ⟨x65,hx65⟩:∃x,x=a.tmps.getD 65 undef:=⟨_,rfl⟩
  have ha:=puts_each rfl rfl hF [_,_,_,_,_,_,_,_,_,_,_,_,_,_,_,_,_,_,_,x65,_,_,_,_] rfl ⟨(hS 0 _ rfl).1,(hS 1 _ rfl).1,(hS 2 _ rfl).1,(hS 3 _ rfl).1,(hS 4 _ rfl).1,(hS 5 _ rfl).1,(hS 6 _ rfl).1,(hS 7 _ rfl).1,(hS 8 _ rfl).1,(hS 9 _ rfl).1,(hS 10 _ rfl).1,(hS 11 _ rfl).1,(hS 12 _ rfl).1,(hS 13 _ rfl).1,(hS 14 _ rfl).1,(hS 15 _ rfl).1,(hS 16 _ rfl).1,(hS 17 _ rfl).1,(hS 18 _ rfl).1,hx65.symm,(hS 20 _ rfl).1,(hS 21 _ rfl).1,(hS 22 _ rfl).1,(hS 23 _ rfl).1,trivial⟩
  simp only [puts,Act.put,List.setIfInBounds_toArray,List.set_cons_succ,List.set_cons_zero] at ha
  subst ha
  clear hx65
  clear hS hF
  have Bf:=Lib.hid (B8.out.trans (hB.mono B8.out.size))
  clear hB
  go_wp2
  go_ret
  exact ⟨rfl,Bf.out⟩
end Go.Proofs.Ytlmdgmgbijfaoaa
namespace Go.Bas
open Go.RowKit Go.ChangeShapes Go.WideShapes Go.ChangeAt
theorem open_nums {H:Type} {enc:TypeId × Value→H} {P:Program} {w:World} {base:Nat} {spare:Nat→Bool} {held:Bool} {t e:TypeId} {v:Value} {d:DataW H} {p:List MemPlace} (ht:P.underlying t=some (.slice e)) (he:P.underlying e=some (.int .i64)) (hc:P.cellsOf e=1)
  {b0:Nat} (hv:Value.okWide P w .any b0 t v) (h:DataW.Trod enc P w base spare held t v d p):
  ∃L:List Int,Mat w v L.length 1 (lv (Value.int .i64) L)∧(∀m c,v=.slice none m c→m=0∧c=0)∧∀x,x ∈ L→ -9223372036854775808≤x∧x≤9223372036854775807:=by
 obtain ⟨n,f,hr,hb⟩:=open_rd ht he hc hv h
 exact list_of_rd hr hb
end Go.Bas
namespace Go.Proofs.Ytlmdgmgbijfaoaa
open Go.RowKit Go.Bas Go.ChangeShapes Go.Maps
attribute [local go_sem ↓] Go.wp_at_zero Go.wp_at_succ
section
variable {w w' : World} {p1 p2 : Nat} {v vl1 vh1 vm1 vl2 vh2 vm2 : Value} {l1 l2 : List Tm} {h1 m1 h2 m2 : Nat → Bool}
theorem Knm.nT (k2:Knm w p2 vl2 vh2 vm2 l2 h2 m2) {e:TypeId} {c n:Nat} {q:Nat→Nat→Value} (he:e≠4) (hv:OwM e c w v n q):∀b,v.ownBlock=some b→¬ KW vh2 vm2 b:=fun b hb hw=> by
 rcases hv with ⟨rfl,_⟩ | ⟨g,cap,rfl,hr,_⟩
 ·cases hb
 ·cases hb
  exact hw.elim (fun h=> k2.hs.heap_ne hr he h) fun h=> k2.ms.heap_ne hr he h
theorem Knm.other (k1:Knm w p1 vl1 vh1 vm1 l1 h1 m1) (k2:Knm w p2 vl2 vh2 vm2 l2 h2 m2) (hd:∀b,KW vh1 vm1 b→¬ KW vh2 vm2 b) (hc:Chg (KW vh2 vm2) w w'):Knm w' p1 vl1 vh1 vm1 l1 h1 m1:=by
 have hl:=k1.row.lt
 have hp:¬ KW vh2 vm2 p1:=fun hb=> hb.elim (fun hb=> k2.hs.heap_ne k1.row (by decide) hb) fun hb=> k2.ms.heap_ne k1.row (by decide) hb
 exact ⟨k1.row.heap (hc.block p1 hl hp),(hc.cell (p:=⟨p1,0,none⟩) hl hp).trans k1.c0,(hc.cell (p:=⟨p1,1,none⟩) hl hp).trans k1.c1,(hc.cell (p:=⟨p1,2,none⟩) hl hp).trans k1.c2,(hc.cell (p:=⟨p1,3,none⟩) hl hp).trans k1.c3,k1.ls.chg hc (k2.nT (by decide) k1.ls),k1.hs.chg hc fun b hb=> hd b (.inl hb),k1.ms.chg hc fun b hb=> hd b (.inr hb),k1.ne⟩
end
theorem more_one {w:World} {p:Nat} {vl vh vm:Value} {S:TS} {h:Nat→Bool} {Q:List Int} (k:Knm w p vl vh vm S.l h (md S.l h)) (hcl:IsCl S.l (givenB Q) h) (hok:S.Ok) (hlen:S.l.length≤1000) (x:Int) (hx:0≤x∧x<(S.l.length:Int)):
  Calls Try.prog 75 #[.pointer (some ⟨p,0,none⟩),.slice (some ⟨w.heap.size,0,none⟩) 1 1] (w.alloc (.cells #[.int .i64 x] 3)) fun e w'=> e=.returned (.int .i64 0)∧∃h',Knm w' p vl vh vm S.l h' (md S.l h')∧IsCl S.l (givenB (Q++ [x])) h'∧Chg (KW vh vm) w w':=by
 obtain ⟨W,hW⟩:∃W,W=w.alloc (.cells #[.int .i64 x] 3):=⟨_,rfl⟩
 have bW:Below w.heap.size w W:=by rw [hW];exact (Below.refl _ _).alloc (Nat.le_refl _) _
 have hm:Mat W (.slice (some ⟨w.heap.size,0,none⟩) 1 1) ([x] :List Int).length 1 (lv kvI [x]):=⟨_,_,rfl,Nat.le_refl _,by decide,fun _=> ⟨_,_,rfl,by rw [hW,World.size_alloc];exact Nat.lt_succ_self _,fun i hi q hq=> by
  have hi:i<1:=hi
  obtain rfl:i=0:=by omega
  obtain rfl:q=0:=by omega
  rw [hW]
  exact cell_of_row _ _ 0 _ _ (0,0) (heap_alloc_new w _)⟩⟩
 rw [←hW]
 refine (kMore_ok (k.below bW) hok hlen [x] _ hm (fun _ b hb hw=> ?_) (by show 1≤1000;decide) (fun y hy=> by obtain rfl:=List.mem_singleton.1 hy;exact hx)).mono ?_
 ·cases hb
  exact Nat.lt_irrefl _ (k.ltW hw)
 ·rintro e w' ⟨rfl,h',hk,hc,hg⟩
  refine ⟨rfl,h',hk,(hcl.more hc).congr fun n hn=> ?_,(Chg.of_below bW _).trans hg fun _ _ hb=> hb⟩
  simp [givenB]
theorem deduceMore_law (w:World) (v0:Value) (L:List TDo) (hd:TDos w v0 L) (hok:∀(j:Nat) (d:TDo),L[j]? =some d→okD d) (v1:Value) (G:List Int) (hv1:InL w v1 G) (v2:Value) (M:List Int) (hv2:InL w v2 M):
  Calls Try.prog 14 #[v0,v1,v2] w fun e w'=> e=.returned (.bool true)∧Below w.heap.size w w':=by
 have HTD:=Lib.hid hd
 have HOKD:=Lib.hid hok
 have HV:=Lib.hid hv1
 have HU:=Lib.hid hv2
 have HVL:Hid (0<G.length→∀b,v1.ownBlock=some b→b<w.heap.size):=Lib.hid fun h0 b hb=> by
  obtain ⟨a,c,rfl,_,_,h3⟩:=hv1.mat
  obtain ⟨b',o,rfl,hl,_⟩:=h3 h0
  cases hb
  exact hl
 have HUL:Hid (0<M.length→∀b,v2.ownBlock=some b→b<w.heap.size):=Lib.hid fun h0 b hb=> by
  obtain ⟨a,c,rfl,_,_,h3⟩:=hv2.mat
  obtain ⟨b',o,rfl,hl,_⟩:=h3 h0
  cases hb
  exact hl
 obtain ⟨q,⟨av,cv,rfl,_⟩,_⟩:=hd
 obtain ⟨aw,cw,rfl,_⟩:=hv1.mat
 obtain ⟨ax,cx,rfl,_⟩:=hv2.mat
 obtain ⟨B,hB⟩:∃x,x=w.heap.size:=⟨_,rfl⟩
 have HB:=Lib.hid hB
 rw [←hB]
 clear hB hok hv1 hv2
 go_enter Try.func14,Try.ntmps14
 go_wp2_with fail
 refine (awake15 w).mono ?_
 rintro e w1 ⟨rfl,b1⟩
 have B1:Hid (Below B w w1):=Lib.hid (HB.out▸b1)
 clear b1
 go_wp2_with fail
 refine (kCount_nil w1).mono ?_
 rintro e w1 ⟨rfl,rfl⟩
 go_wp2_with fail
 refine (kMore_nil w1 _).mono ?_
 rintro e w1 ⟨rfl,rfl⟩
 go_wp2_with fail
 refine (kHas_nil w1 _).mono ?_
 rintro e w1 ⟨rfl,rfl⟩
 go_wp2_with fail
 refine (kCan_nil w1 _).mono ?_
 rintro e w1 ⟨rfl,rfl⟩
 go_wp2_with fail
 refine (kList_nil w1).mono ?_
 rintro e w2 ⟨rfl,rfl⟩
 go_wp2_with fail
 refine (few14 _ L w2 (tdos_below HTD.out (HB.out▸B1.out))).mono ?_
 rintro e w3 ⟨r,rfl,hr,b3⟩
 have B3:=Lib.hid (laterT HB.out B1.out b3)
 have HFW:=Lib.hid hr
 clear b3 hr
 cases r with
 | false=>
  go_wp2
  go_ret
  exact ⟨rfl,B3.out⟩
 | true=>
 by_cases h30:30<G.length
 ·have h30i:(30:Int)<(G.length:Int):=by omega
  go_wp2
  go_ret
  exact ⟨rfl,B3.out⟩
 have h30i:¬ (30:Int)<(G.length:Int):=by omega
 have HG30:=Lib.hid (show G.length≤30 by omega)
 clear h30
 by_cases h31:30<M.length
 ·have h31i:(30:Int)<(M.length:Int):=by omega
  go_wp2
  go_ret
  exact ⟨rfl,B3.out⟩
 have h31i:¬ (30:Int)<(M.length:Int):=by omega
 have HM30:=Lib.hid (show M.length≤30 by omega)
 have HFEW:=Lib.hid (HFW.out rfl)
 clear h31
 go_wp2_with fail
 refine (lMade15 w3 _ L (tdos_below HTD.out (HB.out▸B3.out)) HOKD.out HFEW.out).mono ?_
 rintro e w4 ⟨p,F,v2,rfl,h4,o4,b4⟩
 obtain ⟨S,hS⟩:∃S,S=stp L L.length:=⟨_,rfl⟩
 rw [←hS] at h4 o4
 have HSL:Hid (S.l.length≤30):=Lib.hid (by rw [hS];have:=(stp_len L L.length).1;have:=HFEW.out.1;omega)
 have H4:=Lib.hid h4
 have O4:=Lib.hid o4
 have HOK:=Lib.hid h4.ok
 have B4:=Lib.hid (laterT HB.out B3.out b4)
 have HLN:=Lib.hid (show (S.l.length:Int)<1000000 by have:=HSL.out;omega)
 obtain ⟨a2,c2,rfl,_⟩:=o4.slice
 clear h4 o4 b4 hS
 go_wp2_with fail
 refine (dFrom_any H4.out (by have:=HSL.out;omega) G _ (HV.out.mat.below (HB.out▸B4.out)) (fun h0 b hb=> Nat.lt_of_lt_of_le (HVL.out h0 b hb) (by have:=B4.out.size;exact this)) (by have:=HG30.out;omega)).mono ?_
 rintro e w5 (⟨hgood,kp,vl,vh,vm,hk,rfl,hkn,hcl,hkw,hkp,b5⟩ | ⟨hbad,rfl,b5⟩)
 rotate_left
 ·have B5:=Lib.hid (laterT HB.out B4.out b5)
  have O5:=Lib.hid (O4.out.below b5)
  have HD:Hid (decide (okG S.l.length G)=false):=Lib.hid (decide_eq_false hbad)
  clear b5 hbad
  go_wp2_with fail
  refine (right15 O5.out (by have:=HSL.out;omega) G _ (HV.out.mat.below (HB.out▸B5.out)) (by have:=HG30.out;omega)).mono ?_
  rw [HD.out]
  rintro e w6 ⟨rfl,rfl⟩
  go_wp2
  go_ret
  exact ⟨rfl,B5.out⟩
 have B5:=Lib.hid (laterT HB.out B4.out b5)
 have H5:=Lib.hid (H4.out.below' b5)
 have O5:=Lib.hid (O4.out.below b5)
 have HGOOD:=Lib.hid hgood
 have KN:=Lib.hid hkn
 have HCL:=Lib.hid hcl
 have HKW:=Lib.hid hkw
 have HKP:=Lib.hid hkp
 clear b5 hgood hkn hcl hkw hkp
 go_wp2_with fail
 refine (kList_any KN.out (by have:=HSL.out;omega)).mono ?_
 rintro e w6 ⟨vw,rfl,hvw,b6⟩
 have B6:=Lib.hid (laterT HB.out B5.out b6)
 have H6:=Lib.hid (H5.out.below' b6)
 have O6:=Lib.hid (O5.out.below b6)
 have K6:=Lib.hid (KN.out.below b6)
 have W6:=Lib.hid hvw
 obtain ⟨a3,c3,rfl,_⟩:=hvw.slice
 clear b6 hvw
 go_wp2_with fail
 have HUW:Hid (0<M.length→∀b,(Value.slice ax M.length cx).ownBlock=some b→¬ KW vh vm b):=Lib.hid fun h0 b hb hw=> by
  have h1:=HUL.out h0 b hb
  have h2:=HKW.out b hw
  have h3:=B4.out.size
  omega
 by_cases hgm:okG S.l.length M
 rotate_left
 ·have HD:Hid (decide (okG S.l.length M)=false):=Lib.hid (decide_eq_false hgm)
  refine (kMore_bad K6.out (by have:=HSL.out;omega) M _ (HU.out.mat.below (HB.out▸B6.out)) (by have:=HM30.out;omega) hgm).mono ?_
  rintro e w6 ⟨rfl,rfl⟩
  clear hgm
  go_wp2_with fail
  refine (right15 O6.out (by have:=HSL.out;omega) M _ (HU.out.mat.below (HB.out▸B6.out)) (by have:=HM30.out;omega)).mono ?_
  rw [HD.out]
  rintro e w6 ⟨rfl,rfl⟩
  go_wp2_with fail
  refine (kList_any K6.out (by have:=HSL.out;omega)).mono ?_
  rintro e w7 ⟨vw2,rfl,hvw2,b7⟩
  have B7:=Lib.hid (laterT HB.out B6.out b7)
  have W7:=Lib.hid (W6.out.below b7)
  have X7:=Lib.hid hvw2
  obtain ⟨a4,c4,rfl,_⟩:=hvw2.slice
  have HYL:Hid ((yesL hk S.l.length).length≤1000000):=Lib.hid (by have:=yesL_le hk S.l.length;have:=HSL.out;omega)
  clear b7 hvw2
  go_wp2_with fail
  refine (ints_any _ _ _ _ _ X7.out.mat W7.out.mat HYL.out).mono ?_
  rw [decide_eq_true (rfl:yesL hk S.l.length=yesL hk S.l.length)]
  rintro e w8 ⟨rfl,b8⟩
  have B8:=Lib.hid (laterT HB.out B7.out b8)
  clear b8
  go_wp2
  go_ret
  exact ⟨rfl,B8.out⟩
 refine (kMore_ok K6.out HOK.out (by have:=HSL.out;omega) M _ (HU.out.mat.below (HB.out▸B6.out)) HUW.out (by have:=HM30.out;omega) hgm).mono ?_
 rintro e w7 ⟨rfl,h2,hk7,hc7,chg7⟩
 have HFW:Hid (∀b,F b→¬ KW vh vm b):=Lib.hid fun b hF hK=> by have:=H4.out.lt hF;have:=HKW.out b hK;omega
 have B7:Hid (Below B w w7):=Lib.hid (B6.out.trans (chg7.below (HB.out▸B6.out.size) fun b hb=> by have:=HKW.out b hb;have:=B4.out.size;have:=HB.out;omega))
 have H7:=Lib.hid (H6.out.keep' chg7 HFW.out)
 have O7:=Lib.hid (O6.out.chg chg7 (K6.out.nT (by decide) O6.out))
 have W7:=Lib.hid (W6.out.chg chg7 (K6.out.nT (by decide) W6.out))
 have K7:=Lib.hid hk7
 have HCL2:=Lib.hid (HCL.out.more hc7)
 have HUP:Hid (∀n,n<S.l.length→hk n=true→h2 n=true):=Lib.hid fun n hn h=> hc7.up n hn (by simp [h])
 have HD:Hid (decide (okG S.l.length M)=true):=Lib.hid (decide_eq_true hgm)
 have HGM:=Lib.hid hgm
 clear hgm hk7 hc7 chg7
 go_wp2_with fail
 refine (right15 O7.out (by have:=HSL.out;omega) M _ (HU.out.mat.below (HB.out▸B7.out)) (by have:=HM30.out;omega)).mono ?_
 rw [HD.out]
 rintro e w7 ⟨rfl,rfl⟩
 obtain ⟨MG,hMG⟩:∃l,l=M++G:=⟨_,rfl⟩
 have HMG:=Lib.hid hMG
 have HMGL:Hid (MG.length≤60):=Lib.hid (by rw [hMG,List.length_append];have:=HM30.out;have:=HG30.out;omega)
 have HMGK:Hid (okG S.l.length MG):=Lib.hid fun x hx=> by
  rw [hMG] at hx
  exact (List.mem_append.1 hx).elim (HGM.out x) (HGOOD.out x)
 clear hMG
 go_wp2_with (at_builtin;apply Hid.out)
 refine Lib.hid ?_
 obtain ⟨W8,hW8⟩:∃x,x=w7.alloc (.cells #[] 3):=⟨_,rfl⟩
 have B8:Below w7.heap.size w7 W8:=by rw [hW8];exact (Below.refl _ _).alloc (Nat.le_refl _) _
 have hE:OwM 3 1 W8 (.slice (some ⟨w7.heap.size,0,none⟩) 0 0) ([] :List Int).length (lv (Value.int .i64) []):=by
  rw [hW8]
  exact OwM.new w7 3 1 (cs:=#[]) (n:=0) (by unfold maxLen;decide) rfl (fun j hj=> absurd hj (Nat.not_lt_zero _))
 rw [←hW8]
 clear hW8
 refine wpList_append_ints [] M rfl _ _ rfl rfl hE Try.underlying56 Try.info3 rfl rfl (HU.out.mat.below (HB.out▸laterB HB.out B7.out B8)) HU.out.nil (by have:=HM30.out;unfold maxLen;simp;omega) (by have:=HM30.out;simp;omega) ?_
 intro v8 w8 ho8 hg8 hp8
 have B9:Below w7.heap.size w7 w8:=B8.grown hg8 B8.size fun b hb=> by cases hb;exact Nat.le_refl _
 have hv8:∀b,v8.ownBlock=some b→w7.heap.size≤b:=fun b hb=> by
  rcases hp8 with h | h
  ·rw [h] at hb;cases hb;exact Nat.le_refl _
  ·have:=h b hb;have:=B8.size;omega
 rw [List.nil_append] at ho8
 have O8:=Lib.hid ho8
 have BB9:=Lib.hid B9
 have HV8:=Lib.hid hv8
 clear hE B8 ho8 hg8 hp8 B9 hv8
 go_wp2_with (at_builtin;apply Hid.out)
 refine Lib.hid ?_
 refine wpList_append_ints M G rfl _ _ rfl rfl O8.out Try.underlying56 Try.info3 rfl rfl (HV.out.mat.below (HB.out▸laterB HB.out B7.out BB9.out)) HV.out.nil (by have:=HM30.out;have:=HG30.out;unfold maxLen;omega) (by have:=HM30.out;have:=HG30.out;omega) ?_
 intro v9 w9 ho9 hg9 hp9
 rw [←HMG.out] at ho9
 have BA:=Lib.hid (BB9.out.grown hg9 BB9.out.size HV8.out)
 have O9:=Lib.hid ho9
 obtain ⟨a9,c9,rfl,_⟩:=ho9.slice
 clear ho9 hg9 hp9
 go_wp2_with fail
 refine (dFrom_any (H7.out.below' BA.out) (by have:=HSL.out;omega) MG _ O9.out.mat (fun _ b hb=> O9.out.lt b hb) (by have:=HMGL.out;omega)).mono ?_
 rintro e w10 (⟨_,kp2,vl2,vh2,vm2,ha,rfl,hka,hca,hkwa,_,b10⟩ | ⟨hbad,_⟩)
 rotate_left
 ·exact absurd HMGK.out hbad
 have BF:Hid (Below w7.heap.size w7 w10):=Lib.hid (BA.out.trans (b10.mono BA.out.size))
 have KA:=Lib.hid hka
 have HCA:=Lib.hid hca
 have HKWA:Hid (∀b,KW vh2 vm2 b→w7.heap.size≤b):=Lib.hid fun b hb=> Nat.le_trans BA.out.size (hkwa b hb)
 clear hka hca hkwa b10
 go_wp2_with fail
 refine (dFrom_any (H7.out.below' BF.out) (by have:=HSL.out;omega) [] (.slice none 0 0) ⟨none,0,rfl,Nat.le_refl _,by decide,fun h=> absurd h (Nat.lt_irrefl 0)⟩ (fun h=> absurd h (Nat.lt_irrefl 0)) (by decide)).mono ?_
 rintro e w11 (⟨_,kp3,vl3,vh3,vm3,hb0,rfl,hkb,hcb,hkwb,_,b11⟩ | ⟨hbad,_⟩)
 rotate_left
 ·exact absurd (fun x hx=> by cases hx) hbad
 have HDAB:Hid (∀b,KW vh2 vm2 b→¬ KW vh3 vm3 b):=Lib.hid fun b h1 h2=> by have:=KA.out.ltW h1;have:=hkwb b h2;omega
 have HDKB:Hid (∀b,KW vh vm b→¬ KW vh3 vm3 b):=Lib.hid fun b h1 h2=> by have:=K7.out.ltW h1;have:=hkwb b h2;have:=BF.out.size;omega
 have HKWB:Hid (∀b,KW vh3 vm3 b→w10.heap.size≤b):=Lib.hid hkwb
 have BG:Hid (Below w7.heap.size w7 w11):=Lib.hid (BF.out.trans (b11.mono BF.out.size))
 have KA1:=Lib.hid (KA.out.below b11)
 have KB:=Lib.hid hkb
 have HCB:=Lib.hid hcb
 have H11:=Lib.hid (H7.out.below' BG.out)
 have O11:=Lib.hid (O7.out.below BG.out)
 have K11:=Lib.hid (K7.out.below BG.out)
 have W11:=Lib.hid (W7.out.below BG.out)
 have B11:=Lib.hid (laterT HB.out B7.out BG.out)
 have HSZ:Hid (w10.heap.size≤w11.heap.size):=Lib.hid b11.size
 have B10:=Lib.hid (laterT HB.out B7.out BF.out)
 clear hkb hcb hkwb b11
 go_wp2
 go_loopw [131] (fun i wr=> ∃(n:Nat) (h:Nat→Bool) (Q:List Int),n≤G.length∧i=.int .i64 n∧Knm wr kp3 vl3 vh3 vm3 S.l h (md S.l h)∧IsCl S.l (givenB Q) h∧Chg (KW vh3 vm3) w11 wr∧(∀x,x ∈ Q→x ∈ G)∧∀j x,G.length≤j+n→G[j]? =some x→x ∈ Q) (fun i _=> G.length - (intOf i).toNat)
 case atStart=> exact ⟨0,hb0, [],Nat.zero_le _,rfl,KB.out,HCB.out,Chg.refl _ _,fun x hx=> (by cases hx),fun j x hj hx=> by have:=(List.getElem?_eq_some_iff.1 hx).1;omega⟩
 case round=>
  obtain ⟨n,h,Q,hn,rfl,hkn,hcl,hch,hq1,hq2⟩:=hrel
  have KR:=Lib.hid hkn
  have HCR:=Lib.hid hcl
  have CR:=Lib.hid hch
  have HQ1:=Lib.hid hq1
  have HQ2:=Lib.hid hq2
  have BR:Hid (Below w10.heap.size w11 wr):=Lib.hid (hch.below HSZ.out HKWB.out)
  have BRW:Hid (Below B w wr):=Lib.hid (B11.out.trans (BR.out.mono (HB.out▸B10.out.size)))
  clear hkn hcl hch hq1 hq2
  by_cases hlt:n<G.length
  ·obtain ⟨x,hx⟩:∃x,G[G.length - 1 - n]? =some x:=⟨_,List.getElem?_eq_getElem (by omega)⟩
   have hWr:Mat wr (.slice aw G.length cw) G.length 1 (lv kvI G):=HV.out.mat.below (HB.out▸BRW.out)
   obtain ⟨g,o,cap,eg,hg,zg⟩:=mat_at hWr (by omega) hx
   cases eg
   obtain ⟨g1,hg1⟩:∃g1:Nat,G.length=g1+1:=⟨G.length - 1,by omega⟩
   obtain ⟨d,hd⟩:∃d:Nat,g1=n+d:=⟨g1 - n,by omega⟩
   have ed:G.length - 1 - n=d:=by omega
   rw [ed] at zg hx
   have hk9:(n:Int)<(G.length:Int):=by omega
   have hk8:(G.length:Int)<1000000:=by have:=HG30.out;omega
   have hs1:(G.length:Int) - 1=(g1:Int):=by omega
   have hs2:(g1:Int) - (n:Int)=(d:Int):=by omega
   have hw1:IntKind.i64.wrap ((G.length:Int) - 1)=(g1:Int):=by rw [wrap_i64_id (by omega) (by omega)];omega
   have hw2:IntKind.i64.wrap ((g1:Int) - (n:Int))=(d:Int):=by rw [wrap_i64_id (by omega) (by omega)];omega
   have hk7:(d:Int)<(G.length:Int):=by omega
   have hk6:(d:Int)<1000000:=by omega
   have HDG:Hid (G.length=n+d+1):=Lib.hid (by omega)
   have HX:=Lib.hid hx
   have HLT:=Lib.hid hlt
   clear ed hg1 hd hx hlt hWr
   have HXM:=Lib.hid (HGOOD.out x (List.mem_of_getElem? HX.out))
   go_wp2_with fail
   refine (more_one KR.out HCR.out HOK.out (by have:=HSL.out;omega) x HXM.out).mono ?_
   rintro e w2 ⟨rfl,h',hk',hc',hg'⟩
   have K2:=Lib.hid hk'
   have C2:=Lib.hid hc'
   have G2:=Lib.hid (CR.out.trans hg' fun _ _ hb=> hb)
   clear hk' hc' hg'
   go_wp2
   go_roundw
   case rel=>
    refine ⟨n+1,h',Q++ [x],by have:=HLT.out;omega,by go_num,K2.out,C2.out,G2.out,fun y hy=> ?_,fun j y hj hy=> ?_⟩
    ·rcases List.mem_append.1 hy with hy | hy
     ·exact HQ1.out y hy
     ·rw [List.mem_singleton.1 hy]
      exact List.mem_of_getElem? HX.out
    ·by_cases hjd:j=d
     ·rw [hjd,HX.out] at hy
      cases hy
      exact List.mem_append.2 (.inr (List.mem_singleton.2 rfl))
     ·exact List.mem_append.2 (.inl (HQ2.out j y (by have:=HDG.out;omega) hy))
   case measure=> have:=HLT.out;simp [intOf];omega
  ·obtain rfl:n=G.length:=by omega
   have HG3:Hid (∀x,x ∈ G→x ∈ Q):=Lib.hid fun x hx=> by
    obtain ⟨j,hj⟩:=List.getElem?_of_mem hx
    exact HQ2.out j x (by omega) hj
   clear hlt
   rename World=> wo
   go_wp2
   go_loopw [148] (fun i wr=> ∃(n:Nat) (h:Nat→Bool) (Q:List Int),n≤M.length∧i=.int .i64 n∧Knm wr kp3 vl3 vh3 vm3 S.l h (md S.l h)∧IsCl S.l (givenB Q) h∧Chg (KW vh3 vm3) w11 wr∧(∀x,x ∈ Q→x ∈ G∨x ∈ M)∧(∀x,x ∈ G→x ∈ Q)∧∀j x,j<n→M[j]? =some x→x ∈ Q) (fun i _=> M.length - (intOf i).toNat)
   case atStart=> exact ⟨0,h,Q,Nat.zero_le _,rfl,KR.out,HCR.out,CR.out,fun x hx=> .inl (HQ1.out x hx),HG3.out,fun j x hj=> absurd hj (Nat.not_lt_zero _)⟩
   case round=>
    obtain ⟨n,h',Q',hn',rfl,hkn,hcl,hch,hq1,hq3,hq2⟩:=hrel
    have KS:=Lib.hid hkn
    have HCS:=Lib.hid hcl
    have CS:=Lib.hid hch
    have HP1:=Lib.hid hq1
    have HP2:=Lib.hid hq2
    have HP3:=Lib.hid hq3
    have BS:Hid (Below w10.heap.size w11 wr):=Lib.hid (hch.below HSZ.out HKWB.out)
    have BSW:Hid (Below B w wr):=Lib.hid (B11.out.trans (BS.out.mono (HB.out▸B10.out.size)))
    clear hkn hcl hch hq1 hq2 hq3
    by_cases hlt:n<M.length
    ·obtain ⟨x,hx⟩:∃x,M[n]? =some x:=⟨_,List.getElem?_eq_getElem hlt⟩
     have hWr:Mat wr (.slice ax M.length cx) M.length 1 (lv kvI M):=HU.out.mat.below (HB.out▸BSW.out)
     obtain ⟨g,o,cap,eg,hg,zg⟩:=mat_at hWr hlt hx
     cases eg
     have hk9:(n:Int)<(M.length:Int):=by omega
     have hk8:(n:Int)<1000000:=by have:=HM30.out;omega
     have HXM:=Lib.hid (HGM.out x (List.mem_of_getElem? hx))
     have HX:=Lib.hid hx
     have HLT:=Lib.hid hlt
     clear hx hlt hWr
     go_wp2_with fail
     refine (more_one KS.out HCS.out HOK.out (by have:=HSL.out;omega) x HXM.out).mono ?_
     rintro e w2 ⟨rfl,h3,hk',hc',hg'⟩
     have K2:=Lib.hid hk'
     have C2:=Lib.hid hc'
     have G2:=Lib.hid (CS.out.trans hg' fun _ _ hb=> hb)
     clear hk' hc' hg'
     go_wp2
     go_roundw
     case rel=>
      refine ⟨n+1,h3,Q'++ [x],by have:=HLT.out;omega,by go_num,K2.out,C2.out,G2.out,fun y hy=> ?_,fun y hy=> List.mem_append.2 (.inl (HP3.out y hy)),fun j y hj hy=> ?_⟩
      ·rcases List.mem_append.1 hy with hy | hy
       ·exact HP1.out y hy
       ·rw [List.mem_singleton.1 hy]
        exact .inr (List.mem_of_getElem? HX.out)
      ·by_cases hjd:j=n
       ·rw [hjd,HX.out] at hy
        cases hy
        exact List.mem_append.2 (.inr (List.mem_singleton.2 rfl))
       ·exact List.mem_append.2 (.inl (HP2.out j y (by omega) hy))
     case measure=> have:=HLT.out;simp [intOf];omega
    ·obtain rfl:n=M.length:=by omega
     have HP4:Hid (∀x,x ∈ M→x ∈ Q'):=Lib.hid fun x hx=> by
      obtain ⟨j,hj⟩:=List.getElem?_of_mem hx
      exact HP2.out j x (List.getElem?_eq_some_iff.1 hj).1 hj
     have hgv:∀(l:List Int) (i:Nat),givenB l i=true ↔ (i:Int) ∈ l:=fun l i=> by simp [givenB]
     have SA:Hid (∀i,i<S.l.length→ha i=h2 i):=Lib.hid (HCA.out.same HCL2.out (fun i hi hg=> HCL2.out.up i hi (by
       rw [Bool.or_eq_true,hgv,hgv]
       exact (List.mem_append.1 (HMG.out▸(hgv _ _).1 hg)).symm)) fun i hi hg=> HCA.out.up i hi ((hgv _ _).2 (by
       rw [Bool.or_eq_true,hgv,hgv] at hg
       rw [HMG.out]
       exact List.mem_append.2 hg.symm)))
     have SB:Hid (∀i,i<S.l.length→h' i=h2 i):=Lib.hid (HCS.out.same HCL2.out (fun i hi hg=> HCL2.out.up i hi (by
       rw [Bool.or_eq_true,hgv,hgv]
       exact HP1.out _ ((hgv _ _).1 hg))) fun i hi hg=> HCS.out.up i hi ((hgv _ _).2 (by
       rw [Bool.or_eq_true,hgv,hgv] at hg
       exact hg.elim (HP3.out _) (HP4.out _))))
     clear hlt hgv
     have A1:Hid (Knm wr kp2 vl2 vh2 vm2 S.l h2 (md S.l h2)):=Lib.hid ((KA1.out.other KB.out HDAB.out CS.out).congr SA.out fun i hi=> md_congr HOK.out SA.out hi)
     have D1:Hid (Knm wr kp3 vl3 vh3 vm3 S.l h2 (md S.l h2)):=Lib.hid (KS.out.congr SB.out fun i hi=> md_congr HOK.out SB.out hi)
     have K1:=Lib.hid (K11.out.other KB.out HDKB.out CS.out)
     have W1:=Lib.hid (W11.out.chg CS.out (KB.out.nT (by decide) W11.out))
     have T1:=Lib.hid (H11.out.keep' CS.out fun b hF hK=> by have:=H7.out.lt hF;have:=HKWB.out b hK;have:=BF.out.size;omega)
     have HY:Hid ((yesL h2 S.l.length).length≤30):=Lib.hid (by have:=yesL_le h2 S.l.length;have:=HSL.out;omega)
     obtain ⟨Y,hY⟩:∃l,l=yesL h2 S.l.length:=⟨_,rfl⟩
     have HYY:=Lib.hid hY
     rw [←hY] at HY
     clear hY
     go_wp2_with fail
     refine (kList_any K1.out (by have:=HSL.out;omega)).mono ?_
     rw [←HYY.out]
     rintro e w2 ⟨u2,rfl,hu2,b2⟩
     have A2:=Lib.hid (A1.out.below b2)
     have D2:=Lib.hid (D1.out.below b2)
     have K2:=Lib.hid (K1.out.below b2)
     have W2:=Lib.hid (W1.out.below b2)
     have T2:=Lib.hid (T1.out.below' b2)
     have U2:=Lib.hid hu2
     have BX2:=Lib.hid (laterT HB.out BSW.out b2)
     obtain ⟨a5,c5,rfl,_⟩:=hu2.slice
     clear hu2 b2
     go_wp2_with fail
     refine (dFrom_any T2.out (by have:=HSL.out;omega) Y _ U2.out.mat (fun _ b hb=> U2.out.lt b hb) (by have:=HY.out;omega)).mono ?_
     rintro e w3 (⟨_,kp4,vl4,vh4,vm4,hc,rfl,hkc,hcc,_,_,b3⟩ | ⟨hbad,_⟩)
     rotate_left
     ·refine absurd (fun x hx=> ?_) hbad
      obtain ⟨i,rfl,hi,_⟩:=yesL_mem.1 (HYY.out▸hx)
      omega
     have SC:Hid (∀i,i<S.l.length→hc i=h2 i):=Lib.hid (hcc.same HCL2.out (fun i hi hg=> by
       have hg:(i:Int) ∈ Y:=by simpa [givenB] using hg
       obtain ⟨i',e,_,hi'⟩:=yesL_mem.1 (HYY.out▸hg)
       rw [show i=i' by omega]
       exact hi') fun i hi hg=> hcc.up i hi (by
       have:=yesL_mem.2 ⟨i,rfl,hi,HCL2.out.up i hi hg⟩
       rw [←HYY.out] at this
       simpa [givenB] using this))
     have C3:Hid (Knm w3 kp4 vl4 vh4 vm4 S.l h2 (md S.l h2)):=Lib.hid (hkc.congr SC.out fun i hi=> md_congr HOK.out SC.out hi)
     have A3:=Lib.hid (A2.out.below b3)
     have D3:=Lib.hid (D2.out.below b3)
     have K3:=Lib.hid (K2.out.below b3)
     have W3:=Lib.hid (W2.out.below b3)
     have BX3:=Lib.hid (laterT HB.out BX2.out b3)
     clear hkc hcc b3
     have HYL:Hid (Y.length≤1000000):=Lib.hid (by have:=HY.out;omega)
     go_wp2_with fail
     refine (kList_any A3.out (by have:=HSL.out;omega)).mono ?_
     rw [←HYY.out]
     rintro e w4 ⟨x1,rfl,hx1,b4⟩
     have A4:=Lib.hid (A3.out.below b4)
     have D4:=Lib.hid (D3.out.below b4)
     have K4:=Lib.hid (K3.out.below b4)
     have C4:=Lib.hid (C3.out.below b4)
     have W4:=Lib.hid (W3.out.below b4)
     have BX4:=Lib.hid (laterT HB.out BX3.out b4)
     have L4:=Lib.hid hx1
     obtain ⟨y1,z1,rfl,_⟩:=hx1.slice
     clear hx1 b4
     go_wp2_with fail
     refine (kList_any K4.out (by have:=HSL.out;omega)).mono ?_
     rw [←HYY.out]
     rintro e w5 ⟨x2,rfl,hx2,b5⟩
     have A5:=Lib.hid (A4.out.below b5)
     have D5:=Lib.hid (D4.out.below b5)
     have K5:=Lib.hid (K4.out.below b5)
     have C5:=Lib.hid (C4.out.below b5)
     have W5:=Lib.hid (W4.out.below b5)
     have L5:=Lib.hid (L4.out.below b5)
     have BX5:=Lib.hid (laterT HB.out BX4.out b5)
     have M5:=Lib.hid hx2
     obtain ⟨y2,z2,rfl,_⟩:=hx2.slice
     clear hx2 b5
     go_wp2_with fail
     refine (ints_any _ _ _ _ _ L5.out.mat M5.out.mat HYL.out).mono ?_
     rw [decide_eq_true (rfl:Y=Y)]
     rintro e w6 ⟨rfl,b6⟩
     have A6:=Lib.hid (A5.out.below b6)
     have D6:=Lib.hid (D5.out.below b6)
     have K6:=Lib.hid (K5.out.below b6)
     have C6:=Lib.hid (C5.out.below b6)
     have W6:=Lib.hid (W5.out.below b6)
     have BX6:=Lib.hid (laterT HB.out BX5.out b6)
     clear b6
     go_wp2_with fail
     refine (kList_any D6.out (by have:=HSL.out;omega)).mono ?_
     rw [←HYY.out]
     rintro e w7 ⟨x3,rfl,hx3,b7⟩
     have A7:=Lib.hid (A6.out.below b7)
     have D7:=Lib.hid (D6.out.below b7)
     have K7:=Lib.hid (K6.out.below b7)
     have C7:=Lib.hid (C6.out.below b7)
     have W7:=Lib.hid (W6.out.below b7)
     have BX7:=Lib.hid (laterT HB.out BX6.out b7)
     have L7:=Lib.hid hx3
     obtain ⟨y3,z3,rfl,_⟩:=hx3.slice
     clear hx3 b7
     go_wp2_with fail
     refine (kList_any K7.out (by have:=HSL.out;omega)).mono ?_
     rw [←HYY.out]
     rintro e w8 ⟨x4,rfl,hx4,b8⟩
     have A8:=Lib.hid (A7.out.below b8)
     have D8:=Lib.hid (D7.out.below b8)
     have K8:=Lib.hid (K7.out.below b8)
     have C8:=Lib.hid (C7.out.below b8)
     have W8:=Lib.hid (W7.out.below b8)
     have L8:=Lib.hid (L7.out.below b8)
     have BX8:=Lib.hid (laterT HB.out BX7.out b8)
     have M8:=Lib.hid hx4
     obtain ⟨y4,z4,rfl,_⟩:=hx4.slice
     clear hx4 b8
     go_wp2_with fail
     refine (ints_any _ _ _ _ _ L8.out.mat M8.out.mat HYL.out).mono ?_
     rw [decide_eq_true (rfl:Y=Y)]
     rintro e w9 ⟨rfl,b9⟩
     have A9:=Lib.hid (A8.out.below b9)
     have D9:=Lib.hid (D8.out.below b9)
     have K9:=Lib.hid (K8.out.below b9)
     have C9:=Lib.hid (C8.out.below b9)
     have W9:=Lib.hid (W8.out.below b9)
     have BX9:=Lib.hid (laterT HB.out BX8.out b9)
     clear b9
     go_wp2_with fail
     refine (kList_any C9.out (by have:=HSL.out;omega)).mono ?_
     rw [←HYY.out]
     rintro e w10 ⟨x5,rfl,hx5,b10⟩
     have A10:=Lib.hid (A9.out.below b10)
     have D10:=Lib.hid (D9.out.below b10)
     have K10:=Lib.hid (K9.out.below b10)
     have C10:=Lib.hid (C9.out.below b10)
     have W10:=Lib.hid (W9.out.below b10)
     have BX10:=Lib.hid (laterT HB.out BX9.out b10)
     have L10:=Lib.hid hx5
     obtain ⟨y5,z5,rfl,_⟩:=hx5.slice
     clear hx5 b10
     go_wp2_with fail
     refine (kList_any K10.out (by have:=HSL.out;omega)).mono ?_
     rw [←HYY.out]
     rintro e w11 ⟨x6,rfl,hx6,b11⟩
     have A11:=Lib.hid (A10.out.below b11)
     have D11:=Lib.hid (D10.out.below b11)
     have K11:=Lib.hid (K10.out.below b11)
     have C11:=Lib.hid (C10.out.below b11)
     have W11:=Lib.hid (W10.out.below b11)
     have L11:=Lib.hid (L10.out.below b11)
     have BX11:=Lib.hid (laterT HB.out BX10.out b11)
     have M11:=Lib.hid hx6
     obtain ⟨y6,z6,rfl,_⟩:=hx6.slice
     clear hx6 b11
     go_wp2_with fail
     refine (ints_any _ _ _ _ _ L11.out.mat M11.out.mat HYL.out).mono ?_
     rw [decide_eq_true (rfl:Y=Y)]
     rintro e w12 ⟨rfl,b12⟩
     have A12:=Lib.hid (A11.out.below b12)
     have D12:=Lib.hid (D11.out.below b12)
     have K12:=Lib.hid (K11.out.below b12)
     have C12:=Lib.hid (C11.out.below b12)
     have W12:=Lib.hid (W11.out.below b12)
     have BX12:=Lib.hid (laterT HB.out BX11.out b12)
     clear b12
     go_wp2
     have HYW:=Lib.hid (show (yesL hk S.l.length).length≤30 by have:=yesL_le hk S.l.length;have:=HSL.out;omega)
     go_loopw [192] (fun i wr=> ∃n:Nat,n≤(yesL hk S.l.length).length∧i=.int .i64 n∧Below w12.heap.size w12 wr) (fun i _=> (yesL hk S.l.length).length - (intOf i).toNat)
     case atStart=> exact ⟨0,Nat.zero_le _,rfl,Below.refl _ _⟩
     case round=>
      obtain ⟨n,hn3,rfl,hbe⟩:=hrel
      have KZ:=Lib.hid (K12.out.below hbe)
      have HBE:=Lib.hid hbe
      have BZ:=Lib.hid (laterT HB.out BX12.out hbe)
      by_cases hlt:n<(yesL hk S.l.length).length
      ·obtain ⟨x,hx⟩:∃x,(yesL hk S.l.length)[n]? =some x:=⟨_,List.getElem?_eq_getElem hlt⟩
       obtain ⟨i,rfl,hi,hki⟩:=yesL_mem.1 (List.mem_of_getElem? hx)
       obtain ⟨g,o,cap,eg,hg,zg⟩:=mat_at (W12.out.below hbe).mat hlt hx
       cases eg
       have hk9:(n:Int)<((yesL hk S.l.length).length:Int):=by omega
       have hk8:(n:Int)<1000000:=by have:=HYW.out;omega
       have HI:=Lib.hid hi
       have HH2:=Lib.hid (HUP.out i hi hki)
       have HLT:=Lib.hid hlt
       clear hx hlt hi hki hbe hn3
       go_wp2_with fail
       refine (kHas_any KZ.out (i:Int)).mono ?_
       rw [knB_in HI.out,HH2.out]
       rintro e w2 ⟨rfl,rfl⟩
       go_wp2_with fail
       refine (kCan_any KZ.out (i:Int)).mono ?_
       rw [knB_in HI.out,md_has HOK.out HI.out HH2.out]
       rintro e w2 ⟨rfl,rfl⟩
       go_wp2
       go_roundw
       case rel=> exact ⟨n+1,by have:=HLT.out;omega,by go_num,HBE.out⟩
       case measure=> have:=HLT.out;simp [intOf];omega
      ·obtain rfl:n=(yesL hk S.l.length).length:=by omega
       clear hlt hbe hn3
       go_wp2
       go_ret
       exact ⟨rfl,BZ.out⟩
end Go.Proofs.Ytlmdgmgbijfaoaa
