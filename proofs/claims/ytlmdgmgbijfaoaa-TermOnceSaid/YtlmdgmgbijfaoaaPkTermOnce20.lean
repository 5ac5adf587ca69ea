/-
  Part 20 of the texts that the proof of TermOnce rests on, one after the other. Conditions: named in each theorem.
-/
import Derived.Test.YtlmdgmgbijfaoaaPkTermOnce16
import Derived.Test.YtlmdgmgbijfaoaaPkTermOnce15
import Derived.Test.YtlmdgmgbijfaoaaPkTermOnce13
import Derived.Test.YtlmdgmgbijfaoaaPkTermOnce1
import Derived.Test.YtlmdgmgbijfaoaaPkTermOnce2
import Derived.Test.YtlmdgmgbijfaoaaPkTermOnce11
import Derived.Test.YtlmdgmgbijfaoaaPkTermOnce5
import Derived.Test.YtlmdgmgbijfaoaaPkTermOnce3
import Derived.Test.YtlmdgmgbijfaoaaPkTermOnce4
import Derived.Test.YtlmdgmgbijfaoaaPkTermOnce6
import Derived.Test.YtlmdgmgbijfaoaaPkTermOnce7
import Derived.Test.YtlmdgmgbijfaoaaPkTermOnce10
import Derived.Test.YtlmdgmgbijfaoaaPkTermOnce9
import Derived.Test.YtlmdgmgbijfaoaaPkTermOnce8
import Derived.Test.YtlmdgmgbijfaoaaPkTermOnce12
import Derived.Test.YtlmdgmgbijfaoaaPkTermOnce14
import Derived.Test.YtlmdgmgbijfaoaaPkTermOnce18
import Derived.Test.YtlmdgmgbijfaoaaPkTermOnce17
import Derived.Test.YtlmdgmgbijfaoaaPkTermOnce19
import Derived.BigFrame
import Derived.BigQuiet
import Derived.ChangeKeysEq
import Derived.ChangeMaps5
import Derived.ChangeOld
import Derived.Deep.Cut
import Derived.Deep.DrawnRows
import Derived.Deep.MidRow
import Derived.Deep.QuietTactic
import Derived.Deep.RegionHeld3
import Derived.Deep.RegionLaw
import Derived.Deep.Slices
import Derived.Deep.Strs
import Derived.Deep.Upon
import Derived.Deep.WholeRow
import Derived.DeepKeys4
import Derived.Great.BuildSlice
import Derived.Great.Walk
import Derived.Laws.BytesArg
import Derived.Laws.CopyOwn
import Derived.Laws.IdiomCopy
import Derived.Laws.Strings
import Derived.Laws.StructEq
import Derived.Lib.BufferRead
import Derived.Lib.Hide
import Derived.LoopIn
import Derived.LoopNIn
import Derived.MapViews
import Derived.Maps.AppendAt
import Derived.Maps.OwnSet
import Derived.Maps.Range
import Derived.Maps.Views
import Derived.OpenShut
import Derived.Orders
import Derived.OrdersIn
import Derived.OwnWalkIn
import Derived.ProofKit
import Derived.RangeFuncBound
import Derived.RangeFuncBox
import Derived.RangeFuncCalls
import Derived.RangeFuncFrom
import Derived.RangeFuncLeaves
import Derived.RangeFuncNested
import Derived.Shelf.Abstract
import Derived.Shelf.RegionOpen
import Derived.ShutString
import Derived.StillTactics
import Derived.StillTailTactics
import Derived.TacticsInMore
import Derived.Test.YtlmdgmgbijfaoaaArr
import Derived.Test.YtlmdgmgbijfaoaaFlow
import Derived.Test.YtlmdgmgbijfaoaaKit
import Derived.Test.YtlmdgmgbijfaoaaOpen
import Derived.Test.YtlmdgmgbijfaoaaOpenT
import Derived.Test.YtlmdgmgbijfaoaaRows
import Derived.Test.YtlmdgmgbijfaoaaTxt
import Derived.WalkKit
import Derived.WalkLawsBesides
import Derived.WalkSmall
import Derived.WalkSpells
set_option linter.unusedVariables false
set_option linter.unusedSimpArgs false
set_option maxRecDepth 100000
set_option maxHeartbeats 6400000
namespace Go.Bas
open Go.RowKit
theorem arr_own {β:Type} (B:Nat) (k:IntKind) (n:Nat) (f:β→Nat→Int):Go.Own (fun s W=> Arr k W B n (f s)):=fun s W W' row hs hg hr=> by
 obtain ⟨T,h⟩:=hs
 refine ⟨T,(hg.block B (Array.getElem?_eq_some_iff.1 h).1 fun e=> ?_).trans h⟩
 obtain ⟨o,ho,hc⟩:=hr B e.symm
 rw [h] at ho
 cases ho
 cases hc
theorem Row.arrT {k:IntKind} {w:World} {g n:Nat} {f:Nat→Int} {T:TypeId} (h:Row k w g n n f T):Arr k w g n f:=by
 obtain ⟨cs,h1,h2,_,h3⟩:=h
 have:cs=Go.Bas.arr k n f:=by
  refine Array.ext_getElem? fun i=> ?_
  by_cases hi:i<n
  ·rw [h3 i hi,arr_get hi]
  ·rw [Array.getElem?_eq_none (by omega),Array.getElem?_eq_none (by simp;omega)]
 exact ⟨T,this▸h1⟩
def szQ (f:Nat→Int) (t:Tm):Int:=if t.1=1∨t.1=9 then 0 else if t.1=4∨t.1=5∨t.1=8 then f t.2.1.toNat+f t.2.2.toNat else f t.2.1.toNat
def szF (l:List Tm) (pre:List Nat):Nat→Int:=pre.foldl (fun f k=> upd f k (min (1+szQ f (tmAt l k)) 1048576)) (fun _=> 0)
theorem szF_snoc (l:List Tm) (pre:List Nat) (k:Nat):szF l (pre++ [k])=upd (szF l pre) k (min (1+szQ (szF l pre) (tmAt l k)) 1048576):=by
 unfold szF;rw [List.foldl_append];rfl
theorem szF_bound (l:List Tm) (pre:List Nat):∀i,0≤szF l pre i∧szF l pre i≤1048576:=by
 induction pre using list_snoc with
 | h0=> intro i;exact ⟨Int.le_refl 0,(by decide:(0:Int)≤1048576)⟩
 | h1 pre k ih=>
  intro i
  rw [szF_snoc]
  unfold upd
  split
  ·have:0≤szQ (szF l pre) (tmAt l k):=by
    unfold szQ
    have h1:=(ih (tmAt l k).2.1.toNat).1
    have h2:=(ih (tmAt l k).2.2.toNat).1
    split
    ·omega
    ·split<;> omega
   omega
  ·exact ih i
theorem szF_range {S:TS} (hok:S.Ok):∀k,k≤S.l.length→∀i,i<k→szF S.l (List.range k) i=szT S.l i:=by
 intro k
 induction k with
 | zero=> intro _ i hi;omega
 | succ k ih=>
  intro hk i hi
  rw [List.range_succ,szF_snoc]
  unfold upd
  split
  ·rename_i e
   subst e
   obtain ⟨t,ht⟩:∃t,S.l[i]? =some t:=⟨_,List.getElem?_eq_getElem hk⟩
   rw [szT_at ht,tmAt_eq ht]
   have one:∀a:Nat,a<i→szF S.l (List.range i) a=(szs (S.l.take i)).getD a 0:=fun a ha=> by rw [ih (by omega) a ha,getD_szs ha (by omega)]
   have:szQ (szF S.l (List.range i)) t=szP (szs (S.l.take i)) t:=by
    unfold szQ szP
    rcases hok.ok i t ht with ⟨h1,_⟩ | ⟨h1,⟨a,ha,hai⟩,_⟩ | ⟨h1,⟨a,ha,hai,_⟩,b,hb,hbi⟩ | ⟨h1,⟨a,ha,hai⟩,b,hb,hbi⟩ | ⟨h1,⟨a,ha,hai⟩,b,hb,hbi,_⟩ | ⟨h1,_⟩ | ⟨h1,⟨a,ha,hai,_⟩,_⟩
    ·rw [if_pos (.inl h1),if_pos (.inl h1)]
    ·rw [if_neg (by omega),if_neg (by omega),if_neg (by omega),if_neg (by omega),ha,Int.toNat_natCast,one a hai]
    ·rw [if_neg (by omega),if_pos (by omega),if_neg (by omega),if_pos (by omega),ha,hb,Int.toNat_natCast,Int.toNat_natCast,one a hai,one b hbi]
    ·rw [if_neg (by omega),if_pos (by omega),if_neg (by omega),if_pos (by omega),ha,hb,Int.toNat_natCast,Int.toNat_natCast,one a hai,one b hbi]
    ·rw [if_neg (by omega),if_pos (by omega),if_neg (by omega),if_pos (by omega),ha,hb,Int.toNat_natCast,Int.toNat_natCast,one a hai,one b hbi]
    ·rw [if_pos (.inr h1),if_pos (.inr h1)]
    ·rw [if_neg (by omega),if_neg (by omega),if_neg (by omega),if_neg (by omega),ha,Int.toNat_natCast,one a hai]
   rw [this]
  ·exact ih (by omega) i (by omega)
theorem boxed_cell {W:World} {B:Nat} {t:TypeId} {v:Value} (h:Boxed W B t v) {p:Addr} (hne:B≠p.block) (u:Value):Boxed (W.setCell p u) B t v:=
 (heap_setCell_other W p B u hne).trans h
def SzI (T:TypeId) (l:List Tm) (n0 m:Nat) (w:World) (a bs g q:Nat) (pre:List Nat) (W:World):Prop:=
 Boxed W bs T (.slice (some ⟨g,0,none⟩) (a+1) (a+1))∧Arr .i64 W g (a+1) (szF l pre)∧Arr .i64 W q 1 (fun _=> (a:Int))∧Below n0 w W∧m≤W.heap.size
theorem szI_own {T:TypeId} {l:List Tm} {n0 m:Nat} {w:World} {a bs g q B:Nat} (h1:n0≤w.heap.size) (h2:n0≤B):OwnFrom B (fun pre W=> SzI T l n0 m w a bs g q pre W):=
 ((boxed_own _ _ fun _=> _).from B).and (((arr_own g _ _ _).from B).and (((arr_own q _ _ _).from B).and ((ownFrom_below h1 h2).and fun _ _ _ _ hs hg _=> Nat.le_trans hs hg.size)))
def OnlyG (g n0:Nat) (w W W1:World):Prop:=KeepsOthers W W1∧(∀b,b≠g→W1.heap[b]? =W.heap[b]?)∧Below n0 w W1∧W1.heap.size=W.heap.size
theorem OnlyG.refl {g n0:Nat} {w W:World} (h:Below n0 w W):OnlyG g n0 w W W:=⟨KeepsOthers.refl _,fun _ _=> rfl,h,rfl⟩
theorem OnlyG.set {g n0:Nat} {w W W1:World} (h:OnlyG g n0 w W W1) (hg:n0≤g) (i:Nat) (v:Value):OnlyG g n0 w W (W1.setCell ⟨g,i,none⟩ v):=
 ⟨h.1.trans (KeepsOthers.setCell _ _ _),fun b hb=> (heap_setCell_other W1 ⟨g,i,none⟩ b v hb).trans (h.2.1 b hb),h.2.2.1.setCell hg v,(size_setCell _ _ _).trans h.2.2.2⟩
theorem OnlyG.drew {g n0:Nat} {w W W1:World} (h:OnlyG g n0 w W W1):OnlyG g n0 w W W1.drew:=⟨h.1.trans (KeepsOthers.drew _),h.2.1,h.2.2.1.drew,h.2.2.2⟩
theorem szI_fin {T:TypeId} {l:List Tm} {n0 m B:Nat} {w W W1:World} {a bs g q x:Nat} {pre:List Nat} {G:Nat→Prop} {u v:Int} (hi:SzI T l n0 m w a bs g q pre W) (hG:∀b,G b→b≠g) (h1:n0≤g) (hgb:g≠bs) (hgq:g≠q)
  (hO:OnlyG g n0 w W W1) (A1:Arr .i64 W1 g (a+1) (upd (szF l pre) x u)) (hv:v=min (1+szQ (szF l pre) (tmAt l x)) 1048576):
  KeepsFrom B W (W1.setCell ⟨g,x,none⟩ (.int .i64 v)).drew∧KeepF G W (W1.setCell ⟨g,x,none⟩ (.int .i64 v)).drew∧SzI T l n0 m w a bs g q (pre++ [x]) (W1.setCell ⟨g,x,none⟩ (.int .i64 v)).drew:=by
 have hO2:=(hO.set h1 x (.int .i64 v)).drew
 refine ⟨hO2.1.from B,⟨Nat.le_of_eq hO2.2.2.2.symm,fun b hb=> hO2.2.1 b (hG b hb)⟩,?_,?_,?_,hO2.2.2.1,by rw [hO2.2.2.2];exact hi.2.2.2.2⟩
 ·exact (hO2.2.1 bs (Ne.symm hgb)).trans hi.1
 ·refine ((A1.set x v).drew).congr fun i _=> ?_
  rw [szF_snoc,hv]
  unfold upd
  split<;> rfl
 ·obtain ⟨T',h⟩:=hi.2.2.1
  exact ⟨T',(hO2.2.1 q (Ne.symm hgq)).trans h⟩
end Go.Bas
namespace Go.Proofs.Ytlmdgmgbijfaoaa
open Go.RowKit Go.Bas Go.ChangeShapes Go.Maps
attribute [local go_sem ↓] Go.wp_at_zero Go.wp_at_succ
attribute [local go_sem] Oper.semAt_some
def sizeA (S:TS) (n:Int):Int:=if hasT S.l n 0=true then szT S.l n.toNat else 0
section
variable {B : Nat} {w w' : World} {p mb mt : Nat} {vl vb : Value} {tv : Nat → Value} {S : TS}
theorem tSize_no (h:Tst B w p mb mt vl vb tv S) (n:Int) (hn:hasT S.l n 0=false):Calls Try.prog 60 #[.pointer (some ⟨p,0,none⟩),.int .i64 n] w fun e w'=> e=.returned (.int .i64 0)∧Below w.heap.size w w':=by
 have H:=Lib.hid h
 have HN:=Lib.hid hn
 clear h hn
 go_enter Try.func60,Try.ntmps60
 go_upto_region 1 with (fail)
 refine wp_world (fun w1=> w1.cell? ⟨w.heap.size,0,none⟩=some (.int .i64 n)∧Below w.heap.size w w1) ⟨cell_of_row _ _ 0 _ _ (0,0) (heap_alloc_new w _),(Below.refl _ _).alloc (Nat.le_refl _) _⟩ ?_
 rintro w1 ⟨e0,bb1⟩
 have B1:=Lib.hid bb1
 have H1:=Lib.hid (H.out.below bb1)
 clear bb1
 go_wp2_with fail
 refine (tIs_any H1.out).mono ?_
 rintro e w1' ⟨rfl,rfl⟩
 go_wp2_with fail
 refine (tHas_any H1.out n 0).mono ?_
 rintro e w2 ⟨rfl,rfl⟩
 rw [HN.out]
 go_wp2
 go_ret
 exact ⟨rfl,B1.out⟩
theorem tSize_nil (w:World) (n:Int):Calls Try.prog 60 #[.pointer none,.int .i64 n] w fun e w'=> e=.returned (.int .i64 0)∧Below w.heap.size w w':=by
 go_enter Try.func60,Try.ntmps60
 go_upto_region 1 with (fail)
 refine wp_world (fun w1=> Below w.heap.size w w1) ((Below.refl _ _).alloc (Nat.le_refl _) _) ?_
 rintro w1 b1
 go_wp2_with fail
 refine (tIs_nil w1).mono ?_
 rintro e w' ⟨rfl,rfl⟩
 go_wp2
 go_ret
 exact ⟨rfl,b1⟩
theorem tSize_yes (h:Tst B w p mb mt vl vb tv S) (hok:S.Ok) (a:Nat) (ha:a<S.l.length) (hl:S.l.length≤1000):Calls Try.prog 60 #[.pointer (some ⟨p,0,none⟩),.int .i64 (a:Int)] w fun e w'=> e=.returned (.int .i64 (szT S.l a))∧Below w.heap.size w w':=by
 have H:=Lib.hid h
 have HOK:=Lib.hid hok
 have HA:=Lib.hid ha
 have HL:=Lib.hid hl
 have HAS:Hid (hasT S.l (a:Int) 0=true):=Lib.hid (hasT_iff.2 ⟨a,rfl,_,List.getElem?_eq_getElem ha,.inl rfl⟩)
 obtain ⟨R,hR⟩:∃R,R=szT S.l a:=⟨_,rfl⟩
 rw [←hR]
 have HR:=Lib.hid hR
 clear h hok ha hl hR
 refine (callsIn_wide (n:=9)).1 ?_
 refine callsIn_of_wp_marks Try.func60 rfl trivial ?_ rfl
 simp only [Try.ntmps60,List.size_toArray,List.length_cons,List.length_nil,Nat.reduceAdd,Nat.reduceSub,Array.replicate_succ,Array.replicate_zero,List.push_toArray,List.append_toArray,List.nil_append,List.cons_append]
 refine wpIn_wide.2 ?_
 go_upto_region 1 with (fail)
 refine wp_world (fun w1=> Arr .i64 w1 w.heap.size 1 (fun _=> (a:Int))∧w1.cell? ⟨w.heap.size,0,none⟩=some (.int .i64 (a:Int))∧Below w.heap.size w w1∧w1.heap.size=w.heap.size+1) ⟨Arr.newAt rfl rfl,cell_of_row _ _ 0 _ _ (0,0) (heap_alloc_new w _),(Below.refl _ _).alloc (Nat.le_refl _) _,by simp⟩ ?_
 rintro w1 ⟨hq1,e0,bb1,hs1⟩
 have HQ1:=Lib.hid hq1
 have B1:=Lib.hid bb1
 have H1:=Lib.hid (H.out.below bb1)
 have HS1:=Lib.hid hs1
 clear bb1 hq1 hs1
 go_wp2_with fail
 refine (tIs_any H1.out).mono ?_
 rintro e w1' ⟨rfl,rfl⟩
 go_wp2_with fail
 refine (tHas_any H1.out a 0).mono ?_
 rintro e w2 ⟨rfl,rfl⟩
 rw [HAS.out]
 have ha9:(a:Int)<1000000:=by have:=HA.out;have:=HL.out;omega
 have hd2:(((a+1:Nat):Int))=(a:Int)+1:=by omega
 go_upto_region 4 with (refine make_ints rfl _ _ 56 rfl w2.heap.size 3 .i64 8 Try.underlying56 Try.info3 .i64 .i64 (a+1) rfl (by rw [hd2];rfl) (by omega) (by omega) (Nat.le_refl _) ?_;intro w3 hown hgrow)
 obtain ⟨g,hg⟩:∃g,g=w2.heap.size:=⟨_,rfl⟩
 obtain ⟨bs,hbs⟩:∃b,b=w3.heap.size:=⟨_,rfl⟩
 have b3:Below w2.heap.size w2 w3:=below_grown0 (Below.refl _ _) hgrow (Nat.le_refl _)
 refine wp_world (fun w4=> Boxed w4 bs 56 (.slice (some ⟨g,0,none⟩) (a+1) (a+1))∧Go.Bas.Own .i64 3 g w4 (.slice (some ⟨g,0,none⟩) (a+1) (a+1)) (a+1) (fun _=> 0)∧Below w2.heap.size w2 w4∧g<bs∧bs<w4.heap.size) ⟨by rw [hbs,hg];exact Boxed.new w3 _ _,by rw [hg];exact hown.alloc _,b3.trans (((Below.refl _ _).alloc (Nat.le_refl _) _).mono b3.size),by rw [hbs,hg];exact hown.owmT.lt _ rfl,by rw [hbs,World.size_alloc];omega⟩ ?_
 rintro w4 ⟨hx4,ho4,b4,hgb,hbw⟩
 rw [←hg,←hbs]
 have X4:=Lib.hid hx4
 have O4:=Lib.hid ho4
 have HGB:=Lib.hid hgb
 have HBW:=Lib.hid hbw
 have HG:=Lib.hid (show g=w.heap.size+1 by rw [hg];exact HS1.out)
 have B4:=Lib.hid (B1.out.trans (b4.mono B1.out.size))
 have H4:=Lib.hid (H1.out.below b4)
 have Q4:=Lib.hid (HQ1.out.kept b4)
 clear hown hgrow b3 b4 hx4 ho4 hgb hbw hg hbs e0 hd2
 go_wp2_with fail
 refine (tAll_any w4 _ rfl).mono ?_
 rintro e w5 ⟨rfl,hx5,b5,hs5⟩
 obtain ⟨q2,hq2⟩:∃q,q=w4.heap.size:=⟨_,rfl⟩
 rw [←hq2] at hx5 ⊢
 have HQ2:=Lib.hid hq2
 have XQ:=Lib.hid hx5
 have H5:=Lib.hid (H4.out.below b5)
 have X5:Hid (Boxed w5 bs 56 (.slice (some ⟨g,0,none⟩) (a+1) (a+1))):=Lib.hid (by unfold Boxed;rw [b5.block bs X4.out.lt];exact X4.out)
 have O5:=Lib.hid (O4.out.below b5)
 have Q5:=Lib.hid (Q4.out.kept b5)
 have B5:=Lib.hid (B4.out.trans (b5.mono B4.out.size))
 have HS5:=Lib.hid hs5
 clear hx5 b5 hs5 hq2
 have HGL:Hid (∀b,TG p mb mt vl vb S.tx.length tv q2 b→b<w5.heap.size):=Lib.hid fun b hb=> hb.elim H5.out.lt fun e=> e▸XQ.out.lt
 have HTG:Hid (∀b,TG p mb mt vl vb S.tx.length tv q2 b→b≠g):=Lib.hid fun b hb=> hb.elim (fun h=> by have:=H.out.lt h;have:=HG.out;omega) fun e=> by have:=HGB.out;have:=HBW.out;have:=HQ2.out;omega
 have hstop:=tAll_stops 8 (by decide) H5.out q2 XQ.out HL.out
 go_wp2
 refine (wpIn_wide (n:=9)).1 ?_
 refine wpIn_rangeFunc_ownH (F:=Fence.wide) (n:=9) rfl (by decide) (gf:=107) rfl trivial (enters_of Try.func107 (by kernel_rfl) rfl) hstop (fun h k=> h.trans k) (keepF_b HGL.out) (Below.refl _ _) (fun _=> rfl)
  (fun pre W=> SzI 56 S.l w.heap.size w5.heap.size w a bs g w.heap.size pre W) (fun cd pre W=> SzI 56 S.l w.heap.size w5.heap.size w a bs g w.heap.size pre.dropLast W∧(a<pre.getLastD 0∧cd=Code.exit 0)) ?hI ?hIx ?h0 (fun x a' W=> ∃Bx,w5.heap.size≤Bx∧Arr .i64 W Bx 3 (tf (tmAt S.l x))∧a'={ tmps:=#[.pointer (some ⟨p,0,none⟩),.int .i64 (a:Int),undef,.pointer (some ⟨w.heap.size,0,none⟩),.int .i64 0,.pointer (some ⟨bs,0,none⟩),.int .i64 (x:Int),.pointer (some ⟨Bx,0,none⟩),.pointer (some ⟨p,0,none⟩),.bool true,.bool false,.bool false,.pointer (some ⟨p,0,none⟩),.int .i64 (a:Int),.bool true,.bool false,.bool false,.int .i64 (a:Int),.int .i64 ((a:Int)+1),.slice (some ⟨g,0,none⟩) (a+1) (a+1),.pointer (some ⟨p,0,none⟩),.func (.func 107) #[] #[.pointer (some ⟨q2,0,none⟩)],.int .i64 (x:Int),tmV (tmAt S.l x),undef,undef,undef,undef,undef,undef,undef,undef,undef,undef,undef,undef,undef,undef,undef,undef,undef,undef,undef,undef,undef,undef,undef,undef,undef,undef,undef,undef,undef,undef,undef,undef,undef,undef,undef,undef,undef,undef,undef,undef,undef,undef,undef,undef,undef,undef,undef,undef,undef,undef,undef,undef,undef,undef,undef],defers:= [] }) ?hAx ?assign ?body ?done ?stop
 case hI=> exact szI_own (Nat.le_refl _) B5.out.size
 case hIx=> exact fun _=> OwnFrom.and (fun s W W' row hs hg hr=> szI_own (Nat.le_refl _) B5.out.size (s.dropLast) W W' row hs hg hr) (ownFrom_pure _ _)
 case h0=> exact ⟨X5.out,Row.arrT O5.out.rows,Q5.out,B5.out,Nat.le_refl _⟩
 case hAx=>
  rintro x a' s W W' row ⟨Bx,h1,h2,h3⟩ hg hr
  exact ⟨Bx,h1,(arr_own Bx .i64 3 fun _:Unit=> tf (tmAt S.l x)).from _ s W W' row h2 hg hr,h3⟩
 case assign=>
  intro l pre x W K hi hK
  gi_wp2
  exact hK _ _ ((KeepsOthers.alloc _ _).from _) (KeepF.ofBelow ((Below.refl _ W).alloc (Nat.le_refl _) _) fun b hb=> Nat.lt_of_lt_of_le (HGL.out b hb) hi.2.2.2.2) ((szI_own (Nat.le_refl _) B5.out.size).alloc _ hi) ⟨W.heap.size,hi.2.2.2.2,Arr.newAt rfl rfl,rfl⟩
 case body=>
  rintro l pre x a' W hl ⟨r,hr⟩ ⟨i1,i2,i3,i4,i5⟩ ⟨Bx,hBx,hX,rfl⟩ hlt
  have II:=Lib.hid (show SzI 56 S.l w.heap.size w5.heap.size w a bs g w.heap.size pre W from ⟨i1,i2,i3,i4,i5⟩)
  have HX:=Lib.hid hX
  have HBX:=Lib.hid hBx
  have cn:=i3.cell 0 (by decide)
  have cs:=i1.cell
  clear hl hr hlt i1 i2 i3 i4 i5 hX hBx hstop
  by_cases hxa:x≤a
  ·have ck:=HX.out.cell 0 (by decide)
   obtain ⟨t,ht⟩:∃t,t=tmAt S.l x:=⟨_,rfl⟩
   have hok:=HOK.out.ok x t (by rw [ht];unfold tmAt;rw [List.getD_eq_getElem?_getD];have:=HA.out;rw [List.getElem?_eq_getElem (show x<S.l.length by omega)];rfl)
   rw [←ht] at HX ck ⊢
   have hx1:x<a+1:=by omega
   have hx9:¬ (a:Int)<(x:Int):=by omega
   have hx8:(x:Int)<1000000:=by omega
   have hx7:(x:Int)<(a:Int)+1:=by omega
   have cg:=II.out.2.1.cell x hx1
   have fg:=II.out.2.1.free x
   have HXA:=Lib.hid hx1
   have hgx:g≠Bx:=by have:=HGB.out;have:=HBW.out;have:=HS5.out;have:=HBX.out;omega
   have hgb:g≠bs:=by have:=HGB.out;omega
   have hgn:g≠w.heap.size:=by have:=HG.out;omega
   clear hxa
   have key:∀k A Bq,t=(k,A,Bq)→(k=1∨k=9)∨((k=4∨k=5∨k=8)∧(∃n:Nat,A=n∧n<x)∧∃m:Nat,Bq=m∧m<x)∨((k=2∨k=3∨k=6∨k=7∨k=10)∧∃n:Nat,A=n∧n<x):=by
    rintro k A Bq rfl
    rcases hok with ⟨h1,_⟩ | ⟨h1,⟨a,ha,hai⟩,_⟩ | ⟨h1,⟨a,ha,hai,_⟩,b,hb,hbi⟩ | ⟨h1,⟨a,ha,hai⟩,b,hb,hbi⟩ | ⟨h1,⟨a,ha,hai⟩,b,hb,hbi,_⟩ | ⟨h1,_⟩ | ⟨h1,⟨a,ha,hai,_⟩,_⟩
    ·exact .inl (.inl h1)
    ·exact .inr (.inr ⟨by simp only at h1;omega,a,ha,hai⟩)
    ·exact .inr (.inl ⟨.inl h1,⟨a,ha,hai⟩,b,hb,hbi⟩)
    ·exact .inr (.inl ⟨.inr (.inl h1),⟨a,ha,hai⟩,b,hb,hbi⟩)
    ·exact .inr (.inl ⟨.inr (.inr h1),⟨a,ha,hai⟩,b,hb,hbi⟩)
    ·exact .inl (.inr h1)
    ·exact .inr (.inr ⟨by simp only at h1;omega,a,ha,hai⟩)
   obtain ⟨k,A,Bq⟩:=t
   have HT:=Lib.hid ht
   clear ht hok
   obtain hk | ⟨hk,⟨n1,rfl,hn1⟩,n2,rfl,hn2⟩ | ⟨hk,n1,rfl,hn1⟩:=key k A Bq rfl
   ·clear key
    have ck2:W.cell? ⟨Bx,0,none⟩=some (.int .i64 k):=ck
    clear ck
    rcases hk with rfl | rfl
    all_goals gi_wp2
    all_goals obtain ⟨W1,hW1⟩:∃W1,W.setCell ⟨g,x,none⟩ (.int .i64 1)=W1:=⟨_,rfl⟩
    all_goals rw [hW1]
    all_goals have X1:Boxed W1 bs 56 (.slice (some ⟨g,0,none⟩) (a+1) (a+1)):=hW1▸boxed_cell II.out.1 (Ne.symm hgb) _
    all_goals have A1:Hid (Arr .i64 W1 g (a+1) (upd (szF S.l pre) x 1)):=Lib.hid (hW1▸II.out.2.1.set x 1)
    all_goals have O1:Hid (OnlyG g w.heap.size w W W1):=Lib.hid (hW1▸(OnlyG.refl II.out.2.2.2.1).set (by have:=HG.out;omega) x (.int .i64 1))
    all_goals have cb:W1.drew.cell? ⟨bs,0,none⟩=some (.slice (some ⟨g,0,none⟩) (a+1) (a+1)):=(show Boxed W1.drew bs _ _ from X1).cell
    all_goals have cv:W1.drew.cell? ⟨g,x,none⟩=some (.int .i64 1):=(A1.out.drew.cell x HXA.out).trans (by unfold upd;rw [if_pos rfl])
    all_goals have fv:=A1.out.drew.free x
    all_goals refine tail_round 8 (by kernel_rfl) (by kernel_rfl) (by kernel_rfl) (by rintro ⟨_,_,h⟩;exact h) ?_
    all_goals simp only [List.take_succ_cons,List.take_zero,List.drop_succ_cons,List.drop_zero]
    all_goals repeat still_step
    all_goals refine wpStill_nil ?_
    all_goals go_wp2
    all_goals refine szI_fin II.out HTG.out (by have:=HG.out;omega) hgb hgn O1.out A1.out ?_
    all_goals rw [←HT.out]
    all_goals rfl
   ·clear key
    have ck2:W.cell? ⟨Bx,0,none⟩=some (.int .i64 k):=ck
    clear ck
    have HN1:=Lib.hid hn1
    have HN2:=Lib.hid hn2
    obtain ⟨s1,hs1⟩:∃s1,s1=szF S.l pre n1:=⟨_,rfl⟩
    obtain ⟨s2,hs2⟩:∃s2,s2=szF S.l pre n2:=⟨_,rfl⟩
    obtain ⟨y1,y2⟩:=hs1▸szF_bound S.l pre n1
    obtain ⟨y3,y4⟩:=hs2▸szF_bound S.l pre n2
    have hn3:(n1:Int)<(a:Int)+1:=by omega
    have hn4:(n2:Int)<(a:Int)+1:=by omega
    have hn5:n1<a+1:=by omega
    have hn6:n2<a+1:=by omega
    have HSA:=Lib.hid hs1
    have HSB:=Lib.hid hs2
    clear hs1 hs2
    rcases hk with rfl | rfl | rfl
    all_goals gi_wp2
    all_goals obtain ⟨W1,hW1⟩:∃W1,W.setCell ⟨g,x,none⟩ (.int .i64 1)=W1:=⟨_,rfl⟩
    all_goals rw [hW1]
    all_goals have X1:Boxed W1 bs 56 (.slice (some ⟨g,0,none⟩) (a+1) (a+1)):=hW1▸boxed_cell II.out.1 (Ne.symm hgb) _
    all_goals have A1:Hid (Arr .i64 W1 g (a+1) (upd (szF S.l pre) x 1)):=Lib.hid (hW1▸II.out.2.1.set x 1)
    all_goals have O1:Hid (OnlyG g w.heap.size w W W1):=Lib.hid (hW1▸(OnlyG.refl II.out.2.2.2.1).set (by have:=HG.out;omega) x (.int .i64 1))
    all_goals have cb:W1.drew.cell? ⟨bs,0,none⟩=some (.slice (some ⟨g,0,none⟩) (a+1) (a+1)):=(show Boxed W1.drew bs _ _ from X1).cell
    all_goals have cv:W1.drew.cell? ⟨g,x,none⟩=some (.int .i64 1):=(A1.out.drew.cell x HXA.out).trans (by unfold upd;rw [if_pos rfl])
    all_goals have fv:=A1.out.drew.free x
    all_goals have X3:Arr .i64 W1 Bx 3 (tf (_,(n1:Int),_)):=hW1▸HX.out.other (Ne.symm hgx) _
    all_goals have cx1:W1.drew.cell? ⟨Bx,1,none⟩=some (.int .i64 (n1:Int)):=X3.drew.cell 1 (by decide)
    all_goals have cA:W1.drew.cell? ⟨g,n1,none⟩=some (.int .i64 s1):=(A1.out.drew.cell n1 (by have:=HXA.out;have:=HN1.out;omega)).trans (by unfold upd;rw [if_neg (by have:=HN1.out;omega),HSA.out])
    all_goals have cx2:W1.drew.cell? ⟨Bx,2,none⟩=some (.int .i64 (n2:Int)):=X3.drew.cell 2 (by decide)
    all_goals have cB:W1.drew.cell? ⟨g,n2,none⟩=some (.int .i64 s2):=(A1.out.drew.cell n2 (by have:=HXA.out;have:=HN2.out;omega)).trans (by unfold upd;rw [if_neg (by have:=HN2.out;omega),HSB.out])
    all_goals refine tail_round 17 (by kernel_rfl) (by kernel_rfl) (by kernel_rfl) (by rintro ⟨_,_,h⟩;exact h) ?_
    all_goals simp only [List.take_succ_cons,List.take_zero,List.drop_succ_cons,List.drop_zero]
    all_goals repeat still_step
    all_goals refine wpStill_nil ?_
    all_goals go_wp2
    all_goals clear X1 cb cv fv cx1 cA X3 cx2 cB
    all_goals obtain ⟨W2,hW2⟩:∃W2,(W1.setCell ⟨g,x,none⟩ (.int .i64 (1+(s1+s2)))).drew=W2:=⟨_,rfl⟩
    all_goals rw [hW2]
    all_goals have A2:Hid (Arr .i64 W2 g (a+1) (upd (szF S.l pre) x (1+(s1+s2)))):=Lib.hid (hW2▸((A1.out.set x (1+(s1+s2))).drew.congr fun i _=> by unfold upd;split<;> rfl))
    all_goals have O2:Hid (OnlyG g w.heap.size w W W2):=Lib.hid (hW2▸(O1.out.set (by have:=HG.out;omega) x (.int .i64 (1+(s1+s2)))).drew)
    all_goals have cb:W2.drew.cell? ⟨bs,0,none⟩=some (.slice (some ⟨g,0,none⟩) (a+1) (a+1)):=(show Boxed W2.drew bs 56 _ from (O2.out.2.1 bs (Ne.symm hgb)).trans II.out.1).cell
    all_goals have cv:W2.drew.cell? ⟨g,x,none⟩=some (.int .i64 (1+(s1+s2))):=(A2.out.drew.cell x HXA.out).trans (by unfold upd;rw [if_pos rfl])
    all_goals have fv:=A2.out.drew.free x
    all_goals have y7:0≤1+(s1+s2):=by omega
    all_goals have y8:1+(s1+s2)≤3145728:=by omega
    all_goals refine tail_round 8 (by kernel_rfl) (by kernel_rfl) (by kernel_rfl) (by rintro ⟨_,_,h⟩;exact h) ?_
    all_goals simp only [List.take_succ_cons,List.take_zero,List.drop_succ_cons,List.drop_zero]
    all_goals repeat still_step
    all_goals refine wpStill_nil ?_
    all_goals go_wp2
    all_goals refine szI_fin II.out HTG.out (by have:=HG.out;omega) hgb hgn O2.out A2.out ?_
    all_goals rw [←HT.out,HSA.out]
    all_goals rw [HSB.out]
    all_goals rfl
   ·clear key
    have ck2:W.cell? ⟨Bx,0,none⟩=some (.int .i64 k):=ck
    clear ck
    have HN1:=Lib.hid hn1
    obtain ⟨s1,hs1⟩:∃s1,s1=szF S.l pre n1:=⟨_,rfl⟩
    obtain ⟨y1,y2⟩:=hs1▸szF_bound S.l pre n1
    have hn3:(n1:Int)<(a:Int)+1:=by omega
    have hn5:n1<a+1:=by omega
    have HSA:=Lib.hid hs1
    clear hs1
    rcases hk with rfl | rfl | rfl | rfl | rfl
    all_goals gi_wp2
    all_goals obtain ⟨W1,hW1⟩:∃W1,W.setCell ⟨g,x,none⟩ (.int .i64 1)=W1:=⟨_,rfl⟩
    all_goals rw [hW1]
    all_goals have X1:Boxed W1 bs 56 (.slice (some ⟨g,0,none⟩) (a+1) (a+1)):=hW1▸boxed_cell II.out.1 (Ne.symm hgb) _
    all_goals have A1:Hid (Arr .i64 W1 g (a+1) (upd (szF S.l pre) x 1)):=Lib.hid (hW1▸II.out.2.1.set x 1)
    all_goals have O1:Hid (OnlyG g w.heap.size w W W1):=Lib.hid (hW1▸(OnlyG.refl II.out.2.2.2.1).set (by have:=HG.out;omega) x (.int .i64 1))
    all_goals have cb:W1.drew.cell? ⟨bs,0,none⟩=some (.slice (some ⟨g,0,none⟩) (a+1) (a+1)):=(show Boxed W1.drew bs _ _ from X1).cell
    all_goals have cv:W1.drew.cell? ⟨g,x,none⟩=some (.int .i64 1):=(A1.out.drew.cell x HXA.out).trans (by unfold upd;rw [if_pos rfl])
    all_goals have fv:=A1.out.drew.free x
    all_goals have X3:Arr .i64 W1 Bx 3 (tf (_,(n1:Int),_)):=hW1▸HX.out.other (Ne.symm hgx) _
    all_goals have cx1:W1.drew.cell? ⟨Bx,1,none⟩=some (.int .i64 (n1:Int)):=X3.drew.cell 1 (by decide)
    all_goals have cA:W1.drew.cell? ⟨g,n1,none⟩=some (.int .i64 s1):=(A1.out.drew.cell n1 (by have:=HXA.out;have:=HN1.out;omega)).trans (by unfold upd;rw [if_neg (by have:=HN1.out;omega),HSA.out])
    all_goals refine tail_round 11 (by kernel_rfl) (by kernel_rfl) (by kernel_rfl) (by rintro ⟨_,_,h⟩;exact h) ?_
    all_goals simp only [List.take_succ_cons,List.take_zero,List.drop_succ_cons,List.drop_zero]
    all_goals repeat still_step
    all_goals refine wpStill_nil ?_
    all_goals go_wp2
    all_goals clear X1 cb cv fv cx1 cA X3 
    all_goals obtain ⟨W2,hW2⟩:∃W2,(W1.setCell ⟨g,x,none⟩ (.int .i64 (1+s1))).drew=W2:=⟨_,rfl⟩
    all_goals rw [hW2]
    all_goals have A2:Hid (Arr .i64 W2 g (a+1) (upd (szF S.l pre) x (1+s1))):=Lib.hid (hW2▸((A1.out.set x (1+s1)).drew.congr fun i _=> by unfold upd;split<;> rfl))
    all_goals have O2:Hid (OnlyG g w.heap.size w W W2):=Lib.hid (hW2▸(O1.out.set (by have:=HG.out;omega) x (.int .i64 (1+s1))).drew)
    all_goals have cb:W2.drew.cell? ⟨bs,0,none⟩=some (.slice (some ⟨g,0,none⟩) (a+1) (a+1)):=(show Boxed W2.drew bs 56 _ from (O2.out.2.1 bs (Ne.symm hgb)).trans II.out.1).cell
    all_goals have cv:W2.drew.cell? ⟨g,x,none⟩=some (.int .i64 (1+s1)):=(A2.out.drew.cell x HXA.out).trans (by unfold upd;rw [if_pos rfl])
    all_goals have fv:=A2.out.drew.free x
    all_goals have y7:0≤1+s1:=by omega
    all_goals have y8:1+s1≤3145728:=by omega
    all_goals refine tail_round 8 (by kernel_rfl) (by kernel_rfl) (by kernel_rfl) (by rintro ⟨_,_,h⟩;exact h) ?_
    all_goals simp only [List.take_succ_cons,List.take_zero,List.drop_succ_cons,List.drop_zero]
    all_goals repeat still_step
    all_goals refine wpStill_nil ?_
    all_goals go_wp2
    all_goals refine szI_fin II.out HTG.out (by have:=HG.out;omega) hgb hgn O2.out A2.out ?_
    all_goals rw [←HT.out,HSA.out]
    all_goals rfl
  ·have hx9:(a:Int)<(x:Int):=by omega
   have HX9:=Lib.hid hxa
   clear hxa
   gi_wp2
   refine ⟨KeepsFrom.refl _ _,?_,?_,rfl⟩
   ·rw [List.dropLast_concat];exact II.out
   ·rw [List.getLastD_concat];have:=HX9.out;omega
 case done=>
  rintro D ys W hD rfl hI hKD
  have hb:Below w.heap.size w (W.putObj D (.deferred none)):=hI.2.2.2.1.trans (belowK_b (w:=w) (Nat.le_refl _) W D _ _ (by have:=B5.out.size;omega) hKD rfl rfl)
  have cb:=hI.1.cell
  have cn:=hI.2.2.1.cell 0 (by decide)
  have cg:=hI.2.1.cell a (by omega)
  rw [szF_range HOK.out _ (Nat.le_refl _) a HA.out,←HR.out] at cg
  have hx7:(a:Int)<(a:Int)+1:=by omega
  have hx1:a<a+1:=by omega
  have HB:=Lib.hid hb
  clear hb hI hstop
  go_wp2
  refine ⟨by simp,.inl ⟨_,_,rfl,run_takeDeferred hKD,?_⟩⟩
  exact ⟨.int .i64 R,by simp [results,Try.results60],rfl,HB.out⟩
 case stop=>
  rintro D cd pre W hD ⟨k,hk,rfl⟩ ⟨hI,hlt,rfl⟩ hKD
  obtain ⟨k',rfl⟩:∃k',k=k'+1:=by
   cases k with
   | zero=> exact absurd hlt (Nat.not_lt_zero _)
   | succ k'=> exact ⟨k',rfl⟩
  rw [List.range_succ,List.dropLast_concat] at hI
  rw [List.range_succ,List.getLastD_concat] at hlt
  have hb:Below w.heap.size w (W.putObj D (.deferred none)):=hI.2.2.2.1.trans (belowK_b (w:=w) (Nat.le_refl _) W D _ _ (by have:=B5.out.size;omega) hKD rfl rfl)
  have cb:=hI.1.cell
  have cn:=hI.2.2.1.cell 0 (by decide)
  have cg:=hI.2.1.cell a (by omega)
  rw [szF_range HOK.out k' (by omega) a hlt,←HR.out] at cg
  have hx7:(a:Int)<(a:Int)+1:=by omega
  have hx1:a<a+1:=by omega
  have HB:=Lib.hid hb
  clear hb hI hstop hlt hk
  gi_wp2
  go_wp2
  refine ⟨by simp,.inl ⟨_,_,rfl,run_takeDeferred hKD,?_⟩⟩
  exact ⟨.int .i64 R,by simp [results,Try.results60],rfl,HB.out⟩
theorem tSize_any (h:Tst B w p mb mt vl vb tv S) (hok:S.Ok) (n:Int) (hl:S.l.length≤1000):Calls Try.prog 60 #[.pointer (some ⟨p,0,none⟩),.int .i64 n] w fun e w'=> e=.returned (.int .i64 (sizeA S n))∧Below w.heap.size w w':=by
 unfold sizeA
 by_cases hn:hasT S.l n 0=true
 ·rw [if_pos hn]
  obtain ⟨a,rfl,t,ht,_⟩:=hasT_iff.1 hn
  rw [Int.toNat_natCast]
  exact tSize_yes h hok a (List.getElem?_eq_some_iff.1 ht).1 hl
 ·rw [if_neg hn]
  exact tSize_no h n (by simpa using hn)
end
end Go.Proofs.Ytlmdgmgbijfaoaa
namespace Go.Bas
open Go.RowKit
def bytA (S:TS) (n:Int):List Int × Bool:=if hasT S.l n 9=true then (S.tx.getD (tmAt S.l n.toNat).2.1.toNat [],true) else ([],false)
end Go.Bas
namespace Go.Proofs.Ytlmdgmgbijfaoaa
open Go.RowKit Go.Bas Go.ChangeShapes Go.Maps
attribute [local go_sem ↓] Go.wp_at_zero Go.wp_at_succ
section
variable {B : Nat} {w w' : World} {p mb mt : Nat} {vl vb : Value} {tv : Nat → Value} {S : TS}
theorem tBytes_no (h:Tst B w p mb mt vl vb tv S) (n:Int) (hn:hasT S.l n 9=false):Calls Try.prog 59 #[.pointer (some ⟨p,0,none⟩),.int .i64 n] w fun e w'=> e=.returned (.tuple #[.slice none 0 0,.bool false])∧w'=w:=by
 have H:=Lib.hid h
 have HN:=Lib.hid hn
 clear h hn
 go_enter Try.func59,Try.ntmps59
 go_wp2_with fail
 refine (tIs_any H.out).mono ?_
 rintro e w1' ⟨rfl,rfl⟩
 go_wp2_with fail
 refine (tHas_any H.out n 9).mono ?_
 rintro e w2 ⟨rfl,rfl⟩
 rw [HN.out]
 go_wp2
 go_ret2
 exact ⟨rfl,rfl⟩
theorem tBytes_yes (h:Tst B w p mb mt vl vb tv S) (a j:Nat) (b:List Int) (z:Int) (ha:S.l[a]? =some (9,(j:Int),z)) (hb:S.tx[j]? =some b) (hl:S.l.length≤1000) (hx:S.tx.length≤1000):
  Calls Try.prog 59 #[.pointer (some ⟨p,0,none⟩),.int .i64 (a:Int)] w fun e w'=> ∃v,e=.returned (.tuple #[v,.bool true])∧Rd .u8 w' v b.length (bf b)∧Below w.heap.size w w':=by
 have H:=Lib.hid h
 have HN:Hid (hasT S.l (a:Int) 9=true):=Lib.hid (hasT_iff.2 ⟨a,rfl,_,ha,.inr rfl⟩)
 have c0:=h.c0
 have c3:=h.c3
 have hla:=(List.getElem?_eq_some_iff.1 ha).1
 have hlb:=(List.getElem?_eq_some_iff.1 hb).1
 obtain ⟨g,cap,ev,_,_,_,hc⟩:=h.ls.form (by omega)
 obtain ⟨g2,cap2,ev2,_,_,_,hc2⟩:=h.bs.form (by omega)
 have HO:=Lib.hid (h.bt j b hb)
 obtain ⟨au,cu,eu,_⟩:=(h.bt j b hb).owmT.slice
 have c1:w.cell? ⟨g,a * 3+1,none⟩=some (.int .i64 (j:Int)):=(hc a hla 1 (by decide)).trans (congrArg some (tmv_at ha))
 have c2:w.cell? ⟨g2,j,none⟩=some (.slice au b.length cu):=by
  have:=hc2 j hlb 0 (by decide)
  rw [Nat.mul_one,Nat.add_zero,eu] at this
  exact this
 rw [eu] at HO
 rw [ev] at c0
 rw [ev2] at c3
 have h1:(a:Int)<(S.l.length:Int):=by omega
 have h2:(j:Int)<(S.tx.length:Int):=by omega
 have h3:(a:Int)<1000000:=by omega
 have h4:(j:Int)<1000000:=by omega
 have HBL:Hid (b.length≤1048576):=Lib.hid (h.okx b (List.mem_of_getElem? hb)).2
 clear h ha hb hc hc2 ev ev2 eu hl hx
 go_enter Try.func59,Try.ntmps59
 go_wp2_with fail
 refine (tIs_any H.out).mono ?_
 rintro e w1' ⟨rfl,rfl⟩
 go_wp2_with fail
 refine (tHas_any H.out a 9).mono ?_
 rintro e w2 ⟨rfl,rfl⟩
 rw [HN.out]
 go_upto_region 3 with (fail)
 apply region_early' (n:=30) [.e,.e,.e,.e,.e,.e,.e,.e,.e,.e,.e,.e,.e,.e,.c,.c,.e] 2 (by kernel_rfl) (by kernel_rfl) (by kernel_rfl) rfl
 ·intro w5 hB5
  have d0:=(hB5.cell (p:=⟨p,0,none⟩) (World.block_lt_of_cell? _ _ c0)).trans c0
  have d3:=(hB5.cell (p:=⟨p,3,none⟩) (World.block_lt_of_cell? _ _ c3)).trans c3
  have d1:=(hB5.cell (p:=⟨g,a * 3+1,none⟩) (World.block_lt_of_cell? _ _ c1)).trans c1
  have d2:=(hB5.cell (p:=⟨g2,j,none⟩) (World.block_lt_of_cell? _ _ c2)).trans c2
  simp only [selBy,Cl.isE,cond_true,cond_false]
  repeat still_step
  exact wpStill_nil rfl
 ·intro w5
  simp only [selBy,Cl.isF,cond_true,cond_false]
  repeat still_step
  exact wpStill_nil rfl
 ·simp only [selBy,Cl.isC,cond_true,cond_false]
  refine chW_step ((Below.refl _ _).drew) (fun K hK=> ?_)
  go_simp
  refine (clone_any _ _ _ _ ((HO.out.below ((Below.refl w2.heap.size w2).drew)).rd) (by have:=HBL.out;omega)).mono ?_
  rintro e w5 ⟨u,rfl,hu,b5⟩
  have b5':Below w2.heap.size w2 w5:=((Below.refl w2.heap.size w2).drew).trans b5
  refine hK _ _ b5' ?_
  clear hK K
  have HU:=Lib.hid hu.rd
  obtain ⟨a5,c5,e5,_⟩:=hu.owmT.slice
  subst e5
  refine chW_step b5' (fun K hK=> ?_)
  go_simp
  refine hK _ _ b5' (chW_zero ?_)
  clear hK K
  go_wp2
  refine onlyN ?_
  go_wp2
  go_ret2
  exact ⟨_,rfl,HU.out,b5'⟩
end
end Go.Proofs.Ytlmdgmgbijfaoaa
namespace Go.Proofs.Ytlmdgmgbijfaoaa
open Go.RowKit Go.Bas Go.ChangeShapes Go.Maps
attribute [local go_sem ↓] Go.wp_at_zero Go.wp_at_succ
theorem tNew_any (w:World):Calls Try.prog 54 #[] w fun e w'=> ∃p F,e=.returned (.pointer (some ⟨p,0,none⟩))∧StA w.heap.size w' p F ⟨[], []⟩∧Below w.heap.size w w':=by
 have HM:=Lib.hid (Mpv.made Try.prog 97 3 w (fun i=> lv tmV [] i 0) (fun i=> match ([] :List Tm)[i]? with | some x=> natV (plc [] x) | none=> undef))
 have HM2:=Lib.hid (Mpv.made Try.prog 9 3 (w.alloc (.map #[] 0)) (fun i=> lv txV [] i 0) (fun i=> match ([] :List (List Int))[i]? with | some x=> natV (txN ⟨[], []⟩ x) | none=> undef))
 have hmk:∀w,(Instr.makeMap 167 none).run Try.prog w=.ok (.map (some w.heap.size)) (w.alloc (.map #[] 0)):=fun w=> rfl
 have hmk2:∀w,(Instr.makeMap 157 none).run Try.prog w=.ok (.map (some w.heap.size)) (w.alloc (.map #[] 0)):=fun w=> rfl
 go_enter Try.func54,Try.ntmps54
 go_wp2
 go_ret
 obtain ⟨W2,hW2⟩:∃W2,(w.alloc (.map #[] 0)).alloc (.map #[] 0)=W2:=⟨_,rfl⟩
 have b1:Below w.heap.size w W2:=by rw [←hW2];exact ((Below.refl _ _).alloc (Nat.le_refl _) _).alloc (by simp) _
 have hs:W2.heap.size=w.heap.size+1+1:=by rw [←hW2];simp
 have m1:=(HM.out.alloc (.map #[] 0))
 have m2:=HM2.out
 rw [hW2] at m1 m2
 rw [World.size_alloc] at m2
 rw [hW2,←hs]
 obtain ⟨O,hO⟩:∃O,O=Obj.cells #[.slice none 0 0,.map (some w.heap.size),.map (some (w.heap.size+1)),.slice none 0 0,.int .i64 0,.int .i64 0,.int .i64 0,.int .i64 0,.int .i64 0] 170:=⟨_,rfl⟩
 have hb:=heap_alloc_new W2 (.cells #[.slice none 0 0,.map (some w.heap.size),.map (some (w.heap.size+1)),.slice none 0 0,.int .i64 0,.int .i64 0,.int .i64 0,.int .i64 0,.int .i64 0] 170)
 have hc:=fun i=> cell_of_row _ _ i _ _ (0,0) hb
 refine ⟨W2.heap.size,_,rfl,⟨w.heap.size,w.heap.size+1,.slice none 0 0,.slice none 0 0,fun _=> .slice none 0 0,⟨⟨⟨_,hb,rfl⟩,hc 0,hc 1,hc 2,hc 3,fun k hk=> ?_,OwM.nil _ _ _ _,m1.alloc _,m2.alloc _,OwM.nil _ _ _ _,fun j b hj=> (by simp at hj),by omega,by omega,Nat.le_refl _,by omega,fun b hb=> (by cases hb),fun b hb=> (by cases hb)⟩,List.nodup_nil,List.nodup_nil,fun j hj=> absurd hj (Nat.not_lt_zero _),fun t ht=> (by cases ht),fun b hb=> (by cases hb)⟩,TS.Ok.empty,fun b=> Iff.rfl⟩,b1.alloc b1.size _⟩
 rcases (by omega:k=0∨k=1∨k=2∨k=3∨k=4) with rfl | rfl | rfl | rfl | rfl<;> exact hc _
theorem StA.below' {B:Nat} {w w':World} {p:Nat} {F:Nat→Prop} {S:TS} (h:StA B w p F S) (hb:Below w.heap.size w w'):StA B w' p F S:=by
 obtain ⟨mb,mt,vl,vb,tv,h1,h2,h3⟩:=h
 exact ⟨mb,mt,vl,vb,tv,h1.below hb,h2,h3⟩
theorem StA.keep' {B:Nat} {w w':World} {p:Nat} {F G:Nat→Prop} {S:TS} (h:StA B w p F S) (hc:Chg G w w') (hF:∀b,F b→¬ G b):StA B w' p F S:=by
 obtain ⟨mb,mt,vl,vb,tv,h1,h2,h3⟩:=h
 exact ⟨mb,mt,vl,vb,tv,h1.keep hc fun b hb=> hF b ((h3 b).2 hb),h2,h3⟩
theorem sLen_any {B:Nat} {w:World} {p:Nat} {F:Nat→Prop} {S:TS} (h:StA B w p F S):Calls Try.prog 56 #[.pointer (some ⟨p,0,none⟩)] w fun e w'=> e=.returned (natV S.l.length)∧w'=w:=by
 obtain ⟨mb,mt,vl,vb,tv,h1,_,_⟩:=h
 exact tLen_any h1
theorem sSize_any {B:Nat} {w:World} {p:Nat} {F:Nat→Prop} {S:TS} (h:StA B w p F S) (n:Int) (hl:S.l.length≤1000):Calls Try.prog 60 #[.pointer (some ⟨p,0,none⟩),.int .i64 n] w fun e w'=> e=.returned (.int .i64 (sizeA S n))∧Below w.heap.size w w':=by
 obtain ⟨mb,mt,vl,vb,tv,h1,h2,_⟩:=h
 exact tSize_any h1 h2 n hl
theorem sBytes_any {B:Nat} {w:World} {p:Nat} {F:Nat→Prop} {S:TS} (h:StA B w p F S) (n:Int) (hl:S.l.length≤1000) (hx:S.tx.length≤1000):Calls Try.prog 59 #[.pointer (some ⟨p,0,none⟩),.int .i64 n] w fun e w'=> ∃v,e=.returned (.tuple #[v,.bool (bytA S n).2])∧Rd .u8 w' v (bytA S n).1.length (bf (bytA S n).1)∧Below w.heap.size w w':=by
 obtain ⟨mb,mt,vl,vb,tv,h1,h2,_⟩:=h
 unfold bytA
 by_cases hn:hasT S.l n 9=true
 ·rw [if_pos hn]
  obtain ⟨a,rfl,⟨k,A,z⟩,ht,hk⟩:=hasT_iff.1 hn
  have hk9:k=9:=hk.elim (fun h=> absurd h (by decide)) id
  subst hk9
  obtain ⟨j,rfl,hj⟩:∃j:Nat,A=j∧j<S.tx.length:=by
   rcases h2.ok a _ ht with ⟨h1,_⟩ | ⟨h1,_⟩ | ⟨h1,_⟩ | ⟨h1,_⟩ | ⟨h1,_⟩ | ⟨_,⟨j,h1,h2⟩,_⟩ | ⟨h1,_⟩
   ·simp only at h1;omega
   ·simp only at h1;omega
   ·simp only at h1;omega
   ·simp only at h1;omega
   ·simp only at h1;omega
   ·exact ⟨j,h1,h2⟩
   ·simp only at h1;omega
  have e:=tBytes_yes h1 a j S.tx[j] z ht (List.getElem?_eq_getElem hj) hl hx
  rw [Int.toNat_natCast,tmAt_eq ht]
  show Calls _ _ _ _ fun e w'=> ∃v,e=.returned (.tuple #[v,.bool true])∧Rd .u8 w' v (S.tx.getD j []).length (bf (S.tx.getD j []))∧_
  rw [List.getD_eq_getElem?_getD,List.getElem?_eq_getElem hj]
  exact e
 ·rw [if_neg hn]
  refine (tBytes_no h1 n (by simpa using hn)).mono ?_
  rintro e w' ⟨rfl,rfl⟩
  exact ⟨_,rfl,(Go.Bas.Own.nil .u8 5 0 w' (bf [])).rd,Below.refl _ _⟩
end Go.Proofs.Ytlmdgmgbijfaoaa
namespace Go.Proofs.Ytlmdgmgbijfaoaa
open Go.RowKit Go.Bas Go.ChangeShapes Go.Maps
attribute [local go_sem ↓] Go.wp_at_zero Go.wp_at_succ
theorem awT1:putA ⟨[], []⟩ (1,3,0)=(0,0)∧(TS.put ⟨[], []⟩ (1,3,0))=⟨[(1,3,0)], []⟩:=⟨by rfl,by rfl⟩
theorem awT2:putA ⟨[(1,3,0)], []⟩ (1,3,0)=(0,0)∧(TS.put ⟨[(1,3,0)], []⟩ (1,3,0))=⟨[(1,3,0)], []⟩:=⟨by rfl,by rfl⟩
theorem okT13:okTm (1,3,0):=⟨⟨by decide,by decide⟩,⟨by decide,by decide⟩,⟨by decide,by decide⟩⟩
theorem awake14 (w:World):Calls Try.prog 52 #[] w fun e w'=> e=.returned (.bool true)∧Below w.heap.size w w':=by
 go_enter Try.func52,Try.ntmps52
 go_wp2_with fail
 refine (tNew_any w).mono ?_
 rintro e w1 ⟨p,F,rfl,h1,b1⟩
 have H1:=Lib.hid h1
 have B1:=Lib.hid b1
 clear h1 b1
 go_wp2_with fail
 refine (tPut_any H1.out B1.out.size (1,3,0) okT13 (by decide)).mono ?_
 rintro e w2 ⟨rfl,F2,h2,c2,f2⟩
 rw [awT1.2] at h2
 rw [awT1.1]
 have H2:=Lib.hid h2
 have B2:Hid (Below w.heap.size w w2):=Lib.hid (B1.out.trans (c2.below B1.out.size fun b hb=> H1.out.hi hb))
 clear h2 c2 f2
 go_wp2_with fail
 refine (tPut_any H2.out B2.out.size (1,3,0) okT13 (by decide)).mono ?_
 rintro e w3 ⟨rfl,F3,h3,c3,f3⟩
 rw [awT2.2] at h3
 rw [awT2.1]
 have H3:=Lib.hid h3
 have B3:Hid (Below w.heap.size w w3):=Lib.hid (B2.out.trans (c3.below B2.out.size fun b hb=> H2.out.hi hb))
 clear h3 c3 f3
 go_wp2_with fail
 refine (sLen_any H3.out).mono ?_
 rintro e w4 ⟨rfl,rfl⟩
 go_wp2
 go_ret
 exact ⟨rfl,B3.out⟩
end Go.Proofs.Ytlmdgmgbijfaoaa
namespace Go.Bas
open Go.RowKit
abbrev TDo:=Int × Int × Tm × List Int
structure RowD (w:World) (z:Nat→Value) (d:TDo):Prop where
 z0:z 0=.int .i64 d.1
 z1:z 1=.int .i64 d.2.1
 z2:z 2=.int .i64 d.2.2.1.1
 z3:z 3=.int .i64 d.2.2.1.2.1
 z4:z 4=.int .i64 d.2.2.1.2.2
 z5:Rd .u8 w (z 5) d.2.2.2.length (bf d.2.2.2)
def TDos (w:World) (v:Value) (L:List TDo):Prop:=∃q,Mat w v L.length 6 q∧∀j d,L[j]? =some d→RowD w (q j) d
def okD (d:TDo):Prop:=okI64 d.1∧okI64 d.2.1∧okTm d.2.2.1∧okB d.2.2.2
theorem RowD.below {w w':World} {z:Nat→Value} {d:TDo} (h:RowD w z d) (hb:Below w.heap.size w w'):RowD w' z d:=⟨h.z0,h.z1,h.z2,h.z3,h.z4,h.z5.below hb⟩
theorem RowD.one {w:World} {z:Nat→Value} {d:TDo} (h:RowD w z d):∀i,i<6→(z i).oneCell'=true:=fun i hi=> by
 rcases (by omega:i=0∨i=1∨i=2∨i=3∨i=4∨i=5) with rfl | rfl | rfl | rfl | rfl | rfl
 ·rw [h.z0];rfl
 ·rw [h.z1];rfl
 ·rw [h.z2];rfl
 ·rw [h.z3];rfl
 ·rw [h.z4];rfl
 ·obtain ⟨a,c,e,_⟩:=h.z5
  rw [e];rfl
end Go.Bas
namespace Go.Proofs.Ytlmdgmgbijfaoaa
open Go.RowKit Go.Bas Go.ChangeShapes Go.Maps
attribute [local go_sem ↓] Go.wp_at_zero Go.wp_at_succ
theorem Try.sizeD14:(Try.prog.info? 99).map (·.size)=some 6:=by kernel_rfl
def FewD (L:List TDo):Prop:=L.length≤30∧∀(j:Nat) (d:TDo),L[j]? =some d→d.2.2.2.length≤100
theorem few14 (v:Value) (L:List TDo) (w:World) (h:TDos w v L):Calls Try.prog 53 #[v] w fun e w'=> ∃r,e=.returned (.bool r)∧(r=true→FewD L)∧Below w.heap.size w w':=by
 obtain ⟨q,hq,hd⟩:=h
 obtain ⟨m,hm⟩:∃m,m=L.length:=⟨_,rfl⟩
 rw [←hm] at hq
 obtain ⟨a,cap,rfl,hcap,hcap2,hcell⟩:=hq
 have HD:=Lib.hid hd
 have HC:=Lib.hid hcell
 have HM:=Lib.hid hm
 clear hd hcell hm
 go_enter Try.func53,Try.ntmps53
 go_wp2
 go_loopw [7] (fun i wr=> ∃k:Nat,k≤m∧i=.int .i64 k∧(∀(j:Nat) (d:TDo),j<k→L[j]? =some d→d.2.2.2.length≤100)∧Below w.heap.size w wr) (fun i _=> m - (intOf i).toNat)
 case atStart=> exact ⟨0,Nat.zero_le _,rfl,fun j d hj=> absurd hj (Nat.not_lt_zero _),Below.refl _ _⟩
 case round=>
  obtain ⟨k,hk,rfl,hle,hBe⟩:=hrel
  have HL:=Lib.hid hle
  have HBe:=Lib.hid hBe
  clear hle hBe
  by_cases hlt:k<m
  ·obtain ⟨bb,o,rfl,hbl,hcc⟩:=HC.out (by omega)
   have HCL:Hid (∀i,i<6→wr.cell? ⟨bb,o+k * 6+i,none⟩=some (q k i)):=fun i hi=> (HBe.out.cell (p:=⟨bb,o+k * 6+i,none⟩) hbl).trans (hcc k hlt i hi)
   obtain ⟨d,hd⟩:∃d,L[k]? =some d:=⟨_,List.getElem?_eq_getElem (by rw [←HM.out];exact hlt)⟩
   have HRD:=Lib.hid (HD.out k d hd)
   have HOC:Hid (∀i,i<6→(q k i).oneCell'=true):=Lib.hid HRD.out.one
   obtain ⟨ax,cx,e2,_⟩:=HRD.out.z5
   have HE2:=Lib.hid e2
   have HDK:=Lib.hid hd
   obtain ⟨n5,hn5⟩:∃n,n=d.2.2.2.length:=⟨_,rfl⟩
   have HN5:=Lib.hid hn5
   clear hcc e2 hd hn5
   go_upto_region 4 with (first | (refine load_row rfl rfl rfl Try.underlying99 rfl Try.sizeD14 HCL.out ?_) | (refine store_rowV rfl 99 _ _ rfl wr.heap.size 6 (q k) _ 99 (heap_alloc_new _ _) rfl Try.sizeD14 rfl rfl HOC.out ?_))
   refine wp_world (fun w4=> RowN w4 wr.heap.size 6 99 (q k)∧Below wr.heap.size wr w4) ⟨RowN.setRow (heap_alloc_new _ _),below_setRow' ((Below.refl _ _).alloc (Nat.le_refl _) _) (Nat.le_refl _) _⟩ ?_
   rintro w4 ⟨hr4,hb4⟩
   have d2:=hr4.2 5 (by decide)
   rw [HE2.out,←HN5.out] at d2
   have HB4:=Lib.hid (HBe.out.trans (hb4.mono HBe.out.size))
   clear hr4 hb4 HCL
   by_cases hgt:n5≤100
   ·have hg9:¬ (100:Int)<(n5:Int):=by omega
    go_wp2
    go_roundw
    case rel=> exact ⟨k+1,by omega,by go_num,fun j d' hj hd'=> by
     by_cases e:j=k
     ·subst e;rw [HDK.out] at hd';cases hd';rw [←HN5.out];exact hgt
     ·exact HL.out j d' (by omega) hd',HB4.out⟩
    case measure=> simp [intOf];omega
   ·have hg9:(100:Int)<(n5:Int):=by omega
    go_wp2
    go_ret
    exact ⟨false,rfl,(fun e=> by cases e),HB4.out⟩
  ·obtain rfl:k=m:=by omega
   go_wp2
   go_ret
   refine ⟨_,rfl,fun e=> ⟨?_,fun j d hd=> HL.out j d (by rw [HM.out];exact (List.getElem?_eq_some_iff.1 hd).1) hd⟩,HBe.out⟩
   have:(k:Int)≤30:=by simpa using e
   rw [←HM.out]
   omega
end Go.Proofs.Ytlmdgmgbijfaoaa
namespace Go.Bas
open Go.RowKit
end Go.Bas
namespace Go.Proofs.Ytlmdgmgbijfaoaa
open Go.RowKit Go.Bas Go.ChangeShapes Go.Maps
attribute [local go_sem ↓] Go.wp_at_zero Go.wp_at_succ
section
variable {B : Nat} {w : World} {p q : Nat} {S : TS} {G : Nat → Prop}
structure DoT (w:World) (b:Nat) (k n:Int) (t:Tm) (v:Value):Prop where
 d0:w.cell? ⟨b,0,none⟩=some (.int .i64 k)
 d1:w.cell? ⟨b,1,none⟩=some (.int .i64 n)
 d2:∀i,i<3→w.cell? ⟨b,2+i,none⟩=some (.int .i64 (tf t i))
 d5:w.cell? ⟨b,5,none⟩=some v
 lt:b<w.heap.size
theorem DoT.chg {F:Nat→Prop} {w w':World} {b:Nat} {k n:Int} {t:Tm} {v:Value} (h:DoT w b k n t v) (hc:Chg F w w') (hn:¬ F b):DoT w' b k n t v:=
 ⟨(hc.cell (p:=⟨b,0,none⟩) h.lt hn).trans h.d0,(hc.cell (p:=⟨b,1,none⟩) h.lt hn).trans h.d1,fun i hi=> (hc.cell (p:=⟨b,2+i,none⟩) h.lt hn).trans (h.d2 i hi),(hc.cell (p:=⟨b,5,none⟩) h.lt hn).trans h.d5,Nat.lt_of_lt_of_le h.lt hc.size⟩
end
end Go.Proofs.Ytlmdgmgbijfaoaa
namespace Go.Bas
open Go.RowKit Go.ChangeShapes Go.WideShapes Go.ChangeAt
section
variable {H : Type} {enc : TypeId × Value → H} {P : Program} {w : World} {base : Nat} {spare : Nat → Bool} {held : Bool}
theorem trod_struct4 {t:TypeId} {f0 f1 f2 f3:Field} {fuel:Nat} {cs:List Value} {x:DataW H × List MemPlace} (ht:P.underlying t=some (.struct #[f0,f1,f2,f3])) (h:DataW.trod enc P w base spare held fuel t cs=some x):
  ∃y0 y1 y2 y3 n,DataW.trod enc P w base spare held n f0.type ((cs.drop f0.offset).take (P.cellsOf f0.type))=some y0∧
   DataW.trod enc P w base spare held n f1.type ((cs.drop f1.offset).take (P.cellsOf f1.type))=some y1∧DataW.trod enc P w base spare held n f2.type ((cs.drop f2.offset).take (P.cellsOf f2.type))=some y2∧DataW.trod enc P w base spare held n f3.type ((cs.drop f3.offset).take (P.cellsOf f3.type))=some y3:=by
 obtain ⟨xs,n,_,rfl,hl,hlen,hf⟩:=DataW.trod_struct ht h
 match xs,hlen with
 | [y0,y1,y2,y3],_=> exact ⟨y0,y1,y2,y3,n,by simpa using hf 0 f0 rfl,by simpa using hf 1 f1 rfl,by simpa using hf 2 f2 rfl,by simpa using hf 3 f3 rfl⟩
theorem okI64_of {x:Int} (h:(Lit.int .i64 x).wf=true):okI64 x:=bounds_i64 h
theorem open_tdos {t e:TypeId} {f0 f1 f2 f3 g0 g1 g2:Field} {eb:TypeId} {v:Value} {d:DataW H} {p:List MemPlace} (ht:P.underlying t=some (.slice e)) (he:P.underlying e=some (.struct #[f0,f1,f2,f3])) (hT:P.underlying f2.type=some (.struct #[g0,g1,g2])) (hc:P.cellsOf e=6)
  (ho:(f0.offset,f1.offset,f2.offset,f3.offset)=(0,1,2,5)) (hk:(P.cellsOf f0.type,P.cellsOf f1.type,P.cellsOf f2.type,P.cellsOf f3.type)=(1,1,3,1)) (ho2:(g0.offset,g1.offset,g2.offset)=(0,1,2)) (hk2:(P.cellsOf g0.type,P.cellsOf g1.type,P.cellsOf g2.type)=(1,1,1))
  (h0:P.underlying f0.type=some (.int .i64)) (h1:P.underlying f1.type=some (.int .i64)) (t0:P.underlying g0.type=some (.int .i64)) (t1:P.underlying g1.type=some (.int .i64)) (t2:P.underlying g2.type=some (.int .i64)) (h2:P.underlying f3.type=some (.slice eb)) (h3:P.underlying eb=some (.int .u8)) (h4:P.cellsOf eb=1)
  {b0:Nat} (hv:Value.okWide P w .any b0 t v) (h:DataW.Trod enc P w base spare held t v d p):
  ∃L:List TDo,TDos w v L∧∀(j:Nat) (d:TDo),L[j]? =some d→okD d:=by
 obtain ⟨m,q,hq,htr⟩:=open_mat ht hc (by decide) hv h
 simp only [Prod.mk.injEq] at ho hk ho2 hk2
 have each:∀j,j<m→∃d:TDo,RowD w (q j) d∧okD d:=by
  intro j hj
  obtain ⟨fuel,y,hy⟩:=htr j hj
  obtain ⟨y0,y1,y2,y3,n',e0,e1,e2,e3⟩:=trod_struct4 he hy
  rw [ho.1,hk.1] at e0
  rw [ho.2.1,hk.2.1] at e1
  rw [ho.2.2.1,hk.2.2.1] at e2
  rw [ho.2.2.2,hk.2.2.2] at e3
  obtain ⟨z0,z1,z2,n2,_,_,c0,c1,c2⟩:=Go.Deep.trod_struct3 hT e2
  rw [ho2.1,hk2.1] at c0
  rw [ho2.2.1,hk2.2.1] at c1
  rw [ho2.2.2,hk2.2.2] at c2
  obtain ⟨k,hk0,_,wk⟩:=DataW.trod_int h0 e0
  obtain ⟨n,hn0,_,wn⟩:=DataW.trod_int h1 e1
  obtain ⟨a,ha0,_,wa⟩:=DataW.trod_int t0 c0
  obtain ⟨b,hb0,_,wb⟩:=DataW.trod_int t1 c1
  obtain ⟨c,hc0,_,wc⟩:=DataW.trod_int t2 c2
  obtain ⟨u,l,f,hu,hr,hb⟩:=trod_rd h2 h3 h4 e3
  simp [List.range_succ] at hk0 hn0 hu ha0 hb0 hc0
  subst hu
  refine ⟨(k,n,(a,b,c),(List.range l).map f),⟨hk0,hn0,ha0,hb0,hc0,?_⟩,okI64_of wk,okI64_of wn,⟨okI64_of wa,okI64_of wb,okI64_of wc⟩,fun x hx=> ?_⟩
  ·show Rd .u8 w (q j 5) ((List.range l).map f).length (bf ((List.range l).map f))
   rw [List.length_map,List.length_range]
   refine hr.congr fun i hi=> ?_
   unfold bf
   rw [List.getD_eq_getElem?_getD,List.getElem?_map,List.getElem?_range hi]
   rfl
  ·obtain ⟨i,hi,rfl⟩:=List.mem_map.1 hx
   have:=bounds_u8 (hb i (List.mem_range.1 hi))
   omega
 classical
 refine ⟨(List.range m).map fun j=> if h:j<m then Classical.choose (each j h) else default,⟨q,by rw [List.length_map,List.length_range];exact hq,fun j d hd=> ?_⟩,fun j d hd=> ?_⟩
 all_goals rw [List.getElem?_map] at hd
 all_goals by_cases hj:j<m
 ·rw [List.getElem?_range hj,Option.map_some,dif_pos hj] at hd
  cases hd
  exact (Classical.choose_spec (each j hj)).1
 ·rw [List.getElem?_eq_none (by simp;omega)] at hd
  cases hd
 ·rw [List.getElem?_range hj,Option.map_some,dif_pos hj] at hd
  cases hd
  exact (Classical.choose_spec (each j hj)).2
 ·rw [List.getElem?_eq_none (by simp;omega)] at hd
  cases hd
end
end Go.Bas
