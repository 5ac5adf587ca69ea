/-
  Part 22 of the texts that the proof of DeduceMore rests on, one after the other. Conditions: named in each theorem.
-/
import Derived.Test.YtlmdgmgbijfaoaaPkDeduceMore18
import Derived.Test.YtlmdgmgbijfaoaaPkDeduceMore13
import Derived.Test.YtlmdgmgbijfaoaaPkDeduceMore1
import Derived.Test.YtlmdgmgbijfaoaaPkDeduceMore2
import Derived.Test.YtlmdgmgbijfaoaaPkDeduceMore11
import Derived.Test.YtlmdgmgbijfaoaaPkDeduceMore5
import Derived.Test.YtlmdgmgbijfaoaaPkDeduceMore3
import Derived.Test.YtlmdgmgbijfaoaaPkDeduceMore4
import Derived.Test.YtlmdgmgbijfaoaaPkDeduceMore6
import Derived.Test.YtlmdgmgbijfaoaaPkDeduceMore7
import Derived.Test.YtlmdgmgbijfaoaaPkDeduceMore10
import Derived.Test.YtlmdgmgbijfaoaaPkDeduceMore9
import Derived.Test.YtlmdgmgbijfaoaaPkDeduceMore8
import Derived.Test.YtlmdgmgbijfaoaaPkDeduceMore12
import Derived.BigFrame
import Derived.BigQuiet
import Derived.ChangeKeysEq
import Derived.ChangeMaps5
import Derived.ChangeOld
import Derived.Deep.Cut
import Derived.Deep.DrawnRows
import Derived.Deep.MidRow
import Derived.Deep.QuietTactic
import Derived.Deep.RegionHeld3
import Derived.Deep.RegionLaw
import Derived.Deep.Slices
import Derived.Deep.Strs
import Derived.Deep.Upon
import Derived.Deep.WholeRow
import Derived.DeepKeys4
import Derived.Great.BuildSlice
import Derived.Great.Walk
import Derived.Laws.BytesArg
import Derived.Laws.CopyOwn
import Derived.Laws.IdiomCopy
import Derived.Laws.Strings
import Derived.Laws.StructEq
import Derived.Lib.BufferRead
import Derived.Lib.Hide
import Derived.LoopIn
import Derived.LoopNIn
import Derived.MapViews
import Derived.Maps.AppendAt
import Derived.Maps.OwnSet
import Derived.Maps.Range
import Derived.Maps.Views
import Derived.OpenShut
import Derived.Orders
import Derived.OwnWalkIn
import Derived.ProofKit
import Derived.RangeFuncBound
import Derived.RangeFuncBox
import Derived.RangeFuncCalls
import Derived.RangeFuncFrom
import Derived.RangeFuncLeaves
import Derived.RangeFuncNested
import Derived.Shelf.Abstract
import Derived.Shelf.RegionOpen
import Derived.ShutString
import Derived.StillTactics
import Derived.TacticsInMore
import Derived.Test.YtlmdgmgbijfaoaaArr
import Derived.Test.YtlmdgmgbijfaoaaFlow
import Derived.Test.YtlmdgmgbijfaoaaKit
import Derived.Test.YtlmdgmgbijfaoaaOpen
import Derived.Test.YtlmdgmgbijfaoaaOpenT
import Derived.Test.YtlmdgmgbijfaoaaRows
import Derived.Test.YtlmdgmgbijfaoaaTxt
import Derived.WalkKit
import Derived.WalkLawsBesides
import Derived.WalkSmall
import Derived.WalkSpells
set_option linter.unusedVariables false
set_option linter.unusedSimpArgs false
set_option maxRecDepth 100000
set_option maxHeartbeats 1600000
namespace Go.Bas
open Go.RowKit
def KeepF (G:Nat→Prop) (W W':World):Prop:=W.heap.size≤W'.heap.size∧∀b,G b→W'.heap[b]? =W.heap[b]?
theorem KeepF.refl (G:Nat→Prop) (W:World):KeepF G W W:=⟨Nat.le_refl _,fun _ _=> rfl⟩
theorem KeepF.trans {G:Nat→Prop} {A B C:World} (h:KeepF G A B) (k:KeepF G B C):KeepF G A C:=⟨Nat.le_trans h.1 k.1,fun b h1=> (k.2 b h1).trans (h.2 b h1)⟩
theorem KeepF.ofBelow {G:Nat→Prop} {A B:World} (h:Below A.heap.size A B) (hs:∀b,G b→b<A.heap.size):KeepF G A B:=⟨h.size,fun b h2=> h.block b (hs b h2)⟩
theorem keepF_b {G:Nat→Prop} {w:World} (hn:∀b,G b→b<w.heap.size) (W:World) (l:Nat) (o o':Obj) (hl:w.heap.size≤l) (h:W.heap[l]? =some o) (_:o.isCells=false) (_:o.isWalk=false):KeepF G W (W.putObj l o'):=
 ⟨(grownBy_putObj' W l o').size,fun b h2=> (grownBy_putObj' W l o').block b (by have:=(Array.getElem?_eq_some_iff.1 h).1;have:=hn b h2;omega) (fun e=> by have:=Option.some.inj e;have:=hn b h2;omega)⟩
section
variable {F : Fence} {n : Nat} {P : Program} {ops : Array Oper} {Q : Exit → Act → World → Prop} {K : Act → World → Prop} {a : Act} {w : World} {rest : List Oper} {o : Oper}
theorem wpIn_val (hF:∀f,F.fn f) (hd:∀c,o.op≠.defer c) {v:Value} (hr:(execOp a.eval o).run P w=.ok (.value v) w) (h:K (a.put o.dst v) w):o.wpIn F n P a w K Q:=
 ⟨fun f _=> hF f,by rw [Oper.semAt_plain _ _ _ hd,hr];exact h⟩
theorem load_rowIn (hF:∀f,F.fn f) (hg:o.guard=none) {T:TypeId} {d:TypeDesc} {x:Operand} {b off m:Nat} {y:Nat→Value} (ho:o.op=.load T x) (hx:a.eval x=.pointer (some ⟨b,off,none⟩))
  (hu:P.underlying T=some d) (hd:d.isRow=true) (hi:(P.info? T).map (·.size)=some m) (hc:∀i,i<m→w.cell? ⟨b,off+i,none⟩=some (y i))
  (h:wpListIn F n P ops Q rest (a.put o.dst (.agg (rowV m y))) w):wpListIn F n P ops Q (o::rest) a w:=
 wpListIn_plain hg fun _ hK=> wpIn_val hF (by rw [ho];intro c h;cases h) (run_load_row ho hx hu hd hi hc) (hK _ _ h)
end
def tmAt (l:List Tm) (k:Nat):Tm:=l.getD k (0,0,0)
theorem tmAt_eq {l:List Tm} {k:Nat} {t:Tm} (h:l[k]? =some t):tmAt l k=t:=by unfold tmAt;rw [List.getD_eq_getElem?_getD,h];rfl
end Go.Bas
namespace Go.Proofs.Ytlmdgmgbijfaoaa
open Go.RowKit Go.Bas Go.ChangeShapes Go.Maps
attribute [local go_sem ↓] Go.wp_at_zero Go.wp_at_succ
section
variable {B : Nat} {w w' : World} {p mb mt : Nat} {vl vb : Value} {tv : Nat → Value} {S : TS}
theorem Tst.heapK (h:Tst B w p mb mt vl vb tv S) (hh:∀b,TF p mb mt vl vb S.tx.length tv b→w'.heap[b]? =w.heap[b]?):Tst B w' p mb mt vl vb tv S:=by
 have hp:=hh p (.inl rfl)
 have c:=fun (i:Nat)=> World.cell?_of_block (a:=⟨p,i,none⟩) hp
 refine ⟨⟨h.row.heap hp,(c 0).trans h.c0,(c 1).trans h.c1,(c 2).trans h.c2,(c 3).trans h.c3,fun k hk=> (c (4+k)).trans (h.nx k hk),h.ls.heap fun b hb=> hh b (.inr (.inr (.inr (.inl hb)))),h.am.heap (hh mb (.inr (.inl rfl))),h.xm.heap (hh mt (.inr (.inr (.inl rfl)))),
  h.bs.heap fun b hb=> hh b (.inr (.inr (.inr (.inr (.inl hb))))),fun j b hb=> ?_,h.ne,h.hp,h.hb,h.hm,h.hl,h.hv⟩,h.nd,h.txn,h.all,h.okt,h.okx⟩
 obtain ⟨h1,h2⟩:=h.bt j b hb
 refine ⟨h1,h2.imp id ?_⟩
 rintro ⟨g,cap,cur,r1,r2,r3,r⟩
 exact ⟨g,cap,cur,r1,r2,(hh g (.inr (.inr (.inr (.inr (.inr ⟨j,(List.getElem?_eq_some_iff.1 hb).1,by rw [r1];rfl⟩)))))).trans r3,r⟩
theorem tAll_any (w:World) (v:Value) (hv:v.oneCell'=true):Calls Try.prog 57 #[v] w fun e w'=> e=.returned (.func (.func 107) #[] #[.pointer (some ⟨w.heap.size,0,none⟩)])∧Boxed w' w.heap.size 90 v∧Below w.heap.size w w'∧w'.heap.size=w.heap.size+1:=by
 go_enter Try.func57,Try.ntmps57
 go_wp2
 go_ret
 exact ⟨rfl,Boxed.new w _ _,(Below.refl _ _).alloc (Nat.le_refl _) _,by simp⟩
def TG (p mb mt:Nat) (vl vb:Value) (n:Nat) (tv:Nat→Value) (q b:Nat):Prop:=TF p mb mt vl vb n tv b∨b=q
theorem tAll_stops (n:Nat) (hn:1≤n) (h:Tst B w p mb mt vl vb tv S) (q:Nat) (hq:Boxed w q 90 (.pointer (some ⟨p,0,none⟩))) (hl:S.l.length≤1000):
  SeqStopsK Fence.wide n Try.prog 107 #[.pointer (some ⟨q,0,none⟩)] (fun x:Nat=> #[natV x,tmV (tmAt S.l x)]) (KeepF (TG p mb mt vl vb S.tx.length tv q))
   (fun ys=> ys=List.range S.l.length) (fun pre=> ∃k,k≤S.l.length∧pre=List.range k) S.l.length w:=fun l J Jx W hW hJ hJx hY h0=> by
 refine callsIn_wide.2 ?_
 have H:=Lib.hid (h.below hW)
 have hQ:Boxed W q 90 (.pointer (some ⟨p,0,none⟩)):=by unfold Boxed;rw [hW.block q hq.lt];exact hq
 have HQ:=Lib.hid hQ
 have HY:=Lib.hid hY
 have HJ:=Lib.hid hJ
 have HH0:=Lib.hid h0
 have HL:=Lib.hid hl
 have HGW:Hid (∀b,TG p mb mt vl vb S.tx.length tv q b→b<W.heap.size):=Lib.hid fun b hb=> hb.elim H.out.lt fun e=> e▸hQ.lt
 have z0:=hQ.cell
 clear hY hJ hJx h0 hW h hq hl hQ
 go_enter Try.func107,Try.ntmps107
 go_wp2_with fail
 refine (tLen_any H.out).mono ?_
 rintro e w1 ⟨rfl,rfl⟩
 clear z0
 go_wp2
 go_loopw [6] (fun v wr=> ∃k:Nat,k≤S.l.length∧v=.int .i64 k∧J (List.range k) wr∧KeepF (TG p mb mt vl vb S.tx.length tv q) w1 wr) (fun v _=> S.l.length - (intOf v).toNat)
 case atStart=> exact ⟨0,Nat.zero_le _,rfl,HH0.out,KeepF.refl _ _⟩
 case round=>
  obtain ⟨k,hk,rfl,hJs,hnx⟩:=hrel
  have HJS:=Lib.hid hJs
  have HNX:=Lib.hid hnx
  have H2:=Lib.hid (H.out.heapK (w':=wr) fun b hb=> hnx.2 b (.inl hb))
  clear hJs hnx
  by_cases hlt:k<S.l.length
  ·obtain ⟨t,ht⟩:∃t,S.l[k]? =some t:=⟨_,List.getElem?_eq_getElem hlt⟩
   have z0:wr.cell? ⟨q,0,none⟩=some (.pointer (some ⟨p,0,none⟩)):=(World.cell?_of_block (a:=⟨q,0,none⟩) (HNX.out.2 q (.inr rfl))).trans HQ.out.cell
   have c0:=H2.out.c0
   obtain ⟨g,cap,ev,_,_,_,hc⟩:=H2.out.ls.form (by omega)
   rw [ev] at c0
   have HC:Hid (∀i,i<3→wr.cell? ⟨g,k * 3+i,none⟩=some (.int .i64 (tf t i))):=Lib.hid fun i hi=> (hc k hlt i hi).trans (congrArg some (tmv_at ht))
   have h9:(k:Int)<(S.l.length:Int):=by omega
   have h8:(k:Int)<1000000:=by have:=HL.out;omega
   have HT:=Lib.hid ht
   have HKL:=Lib.hid hlt
   obtain ⟨fn,tmps,assign,body,hy,hR⟩:=HY.out _ k wr HJS.out (by rw [List.length_range];exact hlt)
   rw [tmAt_eq HT.out] at hy
   change (Instr.yield l #[Value.int .i64 (k:Int),Value.agg (rowV 3 fun i=> Value.int .i64 (tf t i))]).run Try.prog wr= _ at hy
   clear hc ev ht
   go_upto_region 3 with (fail)
   refine (wpIn_wide (n:=n)).1 ?_
   gi_wp2_with (refine load_rowIn (y:=fun i=> .int .i64 (tf t i)) (fun _=> trivial) rfl rfl rfl Try.underlying97 rfl Try.sizeTm HC.out ?_)
   refine hR.mono ?_
   rintro e W3 (⟨rfl,hJ3,hk3⟩ | ⟨rfl,hJx3⟩)
   ·rw [←List.range_succ] at hJ3
    have HN3:=Lib.hid (HNX.out.trans hk3)
    gi_wp2
    go_wp2
    go_roundw
    case rel=> first | exact ⟨k+1,by have:=HKL.out;omega,by go_num,hJ3,HN3.out⟩ | ((repeat apply Exists.intro);exact ⟨⟨k+1,by have:=HKL.out;omega,by go_num,hJ3,HN3.out⟩,rfl⟩)
    case measure=> have:=HKL.out;simp [intOf];omega
   ·rw [←List.range_succ] at hJx3
    gi_wp2
    go_wp2
    refine bodyPost_ret (results_none rfl _ _ _) rfl ?_
    exact ⟨⟨_,rfl⟩,.inr ⟨_,⟨k+1,HKL.out,rfl⟩,hJx3⟩⟩
  ·obtain rfl:k=S.l.length:=by omega
   have hk9:¬ (S.l.length:Int)<(S.l.length:Int):=by omega
   clear hlt
   go_wp2
   go_end0
   first
    | exact ⟨⟨_,rfl⟩,.inl ⟨_,rfl,HJS.out⟩⟩
    | exact ⟨⟨_,rfl⟩,.inl HJS.out⟩
end
end Go.Proofs.Ytlmdgmgbijfaoaa
