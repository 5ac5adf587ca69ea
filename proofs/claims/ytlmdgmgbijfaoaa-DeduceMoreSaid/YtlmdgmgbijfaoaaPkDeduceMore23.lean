/-
  Part 23 of the texts that the proof of DeduceMore rests on, one after the other. Conditions: named in each theorem.
-/
import Derived.Test.YtlmdgmgbijfaoaaPkDeduceMore22
import Derived.Test.YtlmdgmgbijfaoaaPkDeduceMore18
import Derived.Test.YtlmdgmgbijfaoaaPkDeduceMore13
import Derived.Test.YtlmdgmgbijfaoaaPkDeduceMore1
import Derived.Test.YtlmdgmgbijfaoaaPkDeduceMore2
import Derived.Test.YtlmdgmgbijfaoaaPkDeduceMore11
import Derived.Test.YtlmdgmgbijfaoaaPkDeduceMore5
import Derived.Test.YtlmdgmgbijfaoaaPkDeduceMore3
import Derived.Test.YtlmdgmgbijfaoaaPkDeduceMore4
import Derived.Test.YtlmdgmgbijfaoaaPkDeduceMore6
import Derived.Test.YtlmdgmgbijfaoaaPkDeduceMore7
import Derived.Test.YtlmdgmgbijfaoaaPkDeduceMore10
import Derived.Test.YtlmdgmgbijfaoaaPkDeduceMore9
import Derived.Test.YtlmdgmgbijfaoaaPkDeduceMore8
import Derived.Test.YtlmdgmgbijfaoaaPkDeduceMore12
import Derived.Test.YtlmdgmgbijfaoaaPkDeduceMore14
import Derived.Test.YtlmdgmgbijfaoaaPkDeduceMore15
import Derived.BigFrame
import Derived.BigQuiet
import Derived.ChangeKeysEq
import Derived.ChangeMaps5
import Derived.ChangeOld
import Derived.Deep.Cut
import Derived.Deep.DrawnRows
import Derived.Deep.MidRow
import Derived.Deep.QuietTactic
import Derived.Deep.RegionHeld3
import Derived.Deep.RegionLaw
import Derived.Deep.Slices
import Derived.Deep.Strs
import Derived.Deep.Upon
import Derived.Deep.WholeRow
import Derived.DeepKeys4
import Derived.Great.BuildSlice
import Derived.Great.Walk
import Derived.Laws.BytesArg
import Derived.Laws.CopyOwn
import Derived.Laws.IdiomCopy
import Derived.Laws.Strings
import Derived.Laws.StructEq
import Derived.Lib.BufferRead
import Derived.Lib.Hide
import Derived.LoopIn
import Derived.LoopNIn
import Derived.MapViews
import Derived.Maps.AppendAt
import Derived.Maps.OwnSet
import Derived.Maps.Range
import Derived.Maps.Views
import Derived.OpenShut
import Derived.Orders
import Derived.OrdersIn
import Derived.OwnWalkIn
import Derived.ProofKit
import Derived.RangeFuncBound
import Derived.RangeFuncBox
import Derived.RangeFuncCalls
import Derived.RangeFuncFrom
import Derived.RangeFuncLeaves
import Derived.RangeFuncNested
import Derived.Shelf.Abstract
import Derived.Shelf.RegionOpen
import Derived.ShutString
import Derived.StillTactics
import Derived.StillTailTactics
import Derived.TacticsInMore
import Derived.Test.YtlmdgmgbijfaoaaArr
import Derived.Test.YtlmdgmgbijfaoaaFlow
import Derived.Test.YtlmdgmgbijfaoaaKit
import Derived.Test.YtlmdgmgbijfaoaaOpen
import Derived.Test.YtlmdgmgbijfaoaaOpenT
import Derived.Test.YtlmdgmgbijfaoaaRows
import Derived.Test.YtlmdgmgbijfaoaaTxt
import Derived.WalkKit
import Derived.WalkLawsBesides
import Derived.WalkSmall
import Derived.WalkSpells
set_option linter.unusedVariables false
set_option linter.unusedSimpArgs false
set_option maxRecDepth 100000
set_option maxHeartbeats 800000
namespace Go.Bas
open Go.RowKit
theorem arr_own {β:Type} (B:Nat) (k:IntKind) (n:Nat) (f:β→Nat→Int):Go.Own (fun s W=> Arr k W B n (f s)):=fun s W W' row hs hg hr=> by
 obtain ⟨T,h⟩:=hs
 refine ⟨T,(hg.block B (Array.getElem?_eq_some_iff.1 h).1 fun e=> ?_).trans h⟩
 obtain ⟨o,ho,hc⟩:=hr B e.symm
 rw [h] at ho
 cases ho
 cases hc
end Go.Bas
namespace Go.Proofs.Ytlmdgmgbijfaoaa
open Go.RowKit Go.Bas Go.ChangeShapes Go.Maps
attribute [local go_sem ↓] Go.wp_at_zero Go.wp_at_succ
attribute [local go_sem] Oper.semAt_some
section
variable {B : Nat} {w w' : World} {p mb mt : Nat} {vl vb : Value} {tv : Nat → Value} {S : TS}
end
end Go.Proofs.Ytlmdgmgbijfaoaa
namespace Go.Proofs.Ytlmdgmgbijfaoaa
open Go.RowKit Go.Bas Go.ChangeShapes Go.Maps
attribute [local go_sem ↓] Go.wp_at_zero Go.wp_at_succ
theorem tNew_any (w:World):Calls Try.prog 54 #[] w fun e w'=> ∃p F,e=.returned (.pointer (some ⟨p,0,none⟩))∧StA w.heap.size w' p F ⟨[], []⟩∧Below w.heap.size w w':=by
 have HM:=Lib.hid (Mpv.made Try.prog 97 3 w (fun i=> lv tmV [] i 0) (fun i=> match ([] :List Tm)[i]? with | some x=> natV (plc [] x) | none=> undef))
 have HM2:=Lib.hid (Mpv.made Try.prog 9 3 (w.alloc (.map #[] 0)) (fun i=> lv txV [] i 0) (fun i=> match ([] :List (List Int))[i]? with | some x=> natV (txN ⟨[], []⟩ x) | none=> undef))
 have hmk:∀w,(Instr.makeMap 167 none).run Try.prog w=.ok (.map (some w.heap.size)) (w.alloc (.map #[] 0)):=fun w=> rfl
 have hmk2:∀w,(Instr.makeMap 157 none).run Try.prog w=.ok (.map (some w.heap.size)) (w.alloc (.map #[] 0)):=fun w=> rfl
 go_enter Try.func54,Try.ntmps54
 go_wp2
 go_ret
 obtain ⟨W2,hW2⟩:∃W2,(w.alloc (.map #[] 0)).alloc (.map #[] 0)=W2:=⟨_,rfl⟩
 have b1:Below w.heap.size w W2:=by rw [←hW2];exact ((Below.refl _ _).alloc (Nat.le_refl _) _).alloc (by simp) _
 have hs:W2.heap.size=w.heap.size+1+1:=by rw [←hW2];simp
 have m1:=(HM.out.alloc (.map #[] 0))
 have m2:=HM2.out
 rw [hW2] at m1 m2
 rw [World.size_alloc] at m2
 rw [hW2,←hs]
 obtain ⟨O,hO⟩:∃O,O=Obj.cells #[.slice none 0 0,.map (some w.heap.size),.map (some (w.heap.size+1)),.slice none 0 0,.int .i64 0,.int .i64 0,.int .i64 0,.int .i64 0,.int .i64 0] 170:=⟨_,rfl⟩
 have hb:=heap_alloc_new W2 (.cells #[.slice none 0 0,.map (some w.heap.size),.map (some (w.heap.size+1)),.slice none 0 0,.int .i64 0,.int .i64 0,.int .i64 0,.int .i64 0,.int .i64 0] 170)
 have hc:=fun i=> cell_of_row _ _ i _ _ (0,0) hb
 refine ⟨W2.heap.size,_,rfl,⟨w.heap.size,w.heap.size+1,.slice none 0 0,.slice none 0 0,fun _=> .slice none 0 0,⟨⟨⟨_,hb,rfl⟩,hc 0,hc 1,hc 2,hc 3,fun k hk=> ?_,OwM.nil _ _ _ _,m1.alloc _,m2.alloc _,OwM.nil _ _ _ _,fun j b hj=> (by simp at hj),by omega,by omega,Nat.le_refl _,by omega,fun b hb=> (by cases hb),fun b hb=> (by cases hb)⟩,List.nodup_nil,List.nodup_nil,fun j hj=> absurd hj (Nat.not_lt_zero _),fun t ht=> (by cases ht),fun b hb=> (by cases hb)⟩,TS.Ok.empty,fun b=> Iff.rfl⟩,b1.alloc b1.size _⟩
 rcases (by omega:k=0∨k=1∨k=2∨k=3∨k=4) with rfl | rfl | rfl | rfl | rfl<;> exact hc _
theorem StA.below' {B:Nat} {w w':World} {p:Nat} {F:Nat→Prop} {S:TS} (h:StA B w p F S) (hb:Below w.heap.size w w'):StA B w' p F S:=by
 obtain ⟨mb,mt,vl,vb,tv,h1,h2,h3⟩:=h
 exact ⟨mb,mt,vl,vb,tv,h1.below hb,h2,h3⟩
theorem StA.keep' {B:Nat} {w w':World} {p:Nat} {F G:Nat→Prop} {S:TS} (h:StA B w p F S) (hc:Chg G w w') (hF:∀b,F b→¬ G b):StA B w' p F S:=by
 obtain ⟨mb,mt,vl,vb,tv,h1,h2,h3⟩:=h
 exact ⟨mb,mt,vl,vb,tv,h1.keep hc fun b hb=> hF b ((h3 b).2 hb),h2,h3⟩
end Go.Proofs.Ytlmdgmgbijfaoaa
namespace Go.Bas
open Go.RowKit
abbrev TDo:=Int × Int × Tm × List Int
structure RowD (w:World) (z:Nat→Value) (d:TDo):Prop where
 z0:z 0=.int .i64 d.1
 z1:z 1=.int .i64 d.2.1
 z2:z 2=.int .i64 d.2.2.1.1
 z3:z 3=.int .i64 d.2.2.1.2.1
 z4:z 4=.int .i64 d.2.2.1.2.2
 z5:Rd .u8 w (z 5) d.2.2.2.length (bf d.2.2.2)
def TDos (w:World) (v:Value) (L:List TDo):Prop:=∃q,Mat w v L.length 6 q∧∀j d,L[j]? =some d→RowD w (q j) d
def okD (d:TDo):Prop:=okI64 d.1∧okI64 d.2.1∧okTm d.2.2.1∧okB d.2.2.2
theorem RowD.below {w w':World} {z:Nat→Value} {d:TDo} (h:RowD w z d) (hb:Below w.heap.size w w'):RowD w' z d:=⟨h.z0,h.z1,h.z2,h.z3,h.z4,h.z5.below hb⟩
theorem RowD.one {w:World} {z:Nat→Value} {d:TDo} (h:RowD w z d):∀i,i<6→(z i).oneCell'=true:=fun i hi=> by
 rcases (by omega:i=0∨i=1∨i=2∨i=3∨i=4∨i=5) with rfl | rfl | rfl | rfl | rfl | rfl
 ·rw [h.z0];rfl
 ·rw [h.z1];rfl
 ·rw [h.z2];rfl
 ·rw [h.z3];rfl
 ·rw [h.z4];rfl
 ·obtain ⟨a,c,e,_⟩:=h.z5
  rw [e];rfl
end Go.Bas
namespace Go.Proofs.Ytlmdgmgbijfaoaa
open Go.RowKit Go.Bas Go.ChangeShapes Go.Maps
attribute [local go_sem ↓] Go.wp_at_zero Go.wp_at_succ
theorem Try.sizeD14:(Try.prog.info? 99).map (·.size)=some 6:=by kernel_rfl
def FewD (L:List TDo):Prop:=L.length≤30∧∀(j:Nat) (d:TDo),L[j]? =some d→d.2.2.2.length≤100
theorem few14 (v:Value) (L:List TDo) (w:World) (h:TDos w v L):Calls Try.prog 53 #[v] w fun e w'=> ∃r,e=.returned (.bool r)∧(r=true→FewD L)∧Below w.heap.size w w':=by
 obtain ⟨q,hq,hd⟩:=h
 obtain ⟨m,hm⟩:∃m,m=L.length:=⟨_,rfl⟩
 rw [←hm] at hq
 obtain ⟨a,cap,rfl,hcap,hcap2,hcell⟩:=hq
 have HD:=Lib.hid hd
 have HC:=Lib.hid hcell
 have HM:=Lib.hid hm
 clear hd hcell hm
 go_enter Try.func53,Try.ntmps53
 go_wp2
 go_loopw [7] (fun i wr=> ∃k:Nat,k≤m∧i=.int .i64 k∧(∀(j:Nat) (d:TDo),j<k→L[j]? =some d→d.2.2.2.length≤100)∧Below w.heap.size w wr) (fun i _=> m - (intOf i).toNat)
 case atStart=> exact ⟨0,Nat.zero_le _,rfl,fun j d hj=> absurd hj (Nat.not_lt_zero _),Below.refl _ _⟩
 case round=>
  obtain ⟨k,hk,rfl,hle,hBe⟩:=hrel
  have HL:=Lib.hid hle
  have HBe:=Lib.hid hBe
  clear hle hBe
  by_cases hlt:k<m
  ·obtain ⟨bb,o,rfl,hbl,hcc⟩:=HC.out (by omega)
   have HCL:Hid (∀i,i<6→wr.cell? ⟨bb,o+k * 6+i,none⟩=some (q k i)):=fun i hi=> (HBe.out.cell (p:=⟨bb,o+k * 6+i,none⟩) hbl).trans (hcc k hlt i hi)
   obtain ⟨d,hd⟩:∃d,L[k]? =some d:=⟨_,List.getElem?_eq_getElem (by rw [←HM.out];exact hlt)⟩
   have HRD:=Lib.hid (HD.out k d hd)
   have HOC:Hid (∀i,i<6→(q k i).oneCell'=true):=Lib.hid HRD.out.one
   obtain ⟨ax,cx,e2,_⟩:=HRD.out.z5
   have HE2:=Lib.hid e2
   have HDK:=Lib.hid hd
   obtain ⟨n5,hn5⟩:∃n,n=d.2.2.2.length:=⟨_,rfl⟩
   have HN5:=Lib.hid hn5
   clear hcc e2 hd hn5
   go_upto_region 4 with (first | (refine load_row rfl rfl rfl Try.underlying99 rfl Try.sizeD14 HCL.out ?_) | (refine store_rowV rfl 99 _ _ rfl wr.heap.size 6 (q k) _ 99 (heap_alloc_new _ _) rfl Try.sizeD14 rfl rfl HOC.out ?_))
   refine wp_world (fun w4=> RowN w4 wr.heap.size 6 99 (q k)∧Below wr.heap.size wr w4) ⟨RowN.setRow (heap_alloc_new _ _),below_setRow' ((Below.refl _ _).alloc (Nat.le_refl _) _) (Nat.le_refl _) _⟩ ?_
   rintro w4 ⟨hr4,hb4⟩
   have d2:=hr4.2 5 (by decide)
   rw [HE2.out,←HN5.out] at d2
   have HB4:=Lib.hid (HBe.out.trans (hb4.mono HBe.out.size))
   clear hr4 hb4 HCL
   by_cases hgt:n5≤100
   ·have hg9:¬ (100:Int)<(n5:Int):=by omega
    go_wp2
    go_roundw
    case rel=> exact ⟨k+1,by omega,by go_num,fun j d' hj hd'=> by
     by_cases e:j=k
     ·subst e;rw [HDK.out] at hd';cases hd';rw [←HN5.out];exact hgt
     ·exact HL.out j d' (by omega) hd',HB4.out⟩
    case measure=> simp [intOf];omega
   ·have hg9:(100:Int)<(n5:Int):=by omega
    go_wp2
    go_ret
    exact ⟨false,rfl,(fun e=> by cases e),HB4.out⟩
  ·obtain rfl:k=m:=by omega
   go_wp2
   go_ret
   refine ⟨_,rfl,fun e=> ⟨?_,fun j d hd=> HL.out j d (by rw [HM.out];exact (List.getElem?_eq_some_iff.1 hd).1) hd⟩,HBe.out⟩
   have:(k:Int)≤30:=by simpa using e
   rw [←HM.out]
   omega
end Go.Proofs.Ytlmdgmgbijfaoaa
namespace Go.Bas
open Go.RowKit
def TS.step (S:TS) (d:TDo):TS:=if d.1=1 then S.put d.2.2.1 else if d.1=2 then S.draw d.2.1 else if d.1=3 then S.text d.2.2.2 else S
theorem step_len (S:TS) (d:TDo):(S.step d).l.length≤S.l.length+1∧(S.step d).tx.length≤S.tx.length+1:=by
 unfold TS.step
 split
 ·have:=put_len S d.2.2.1;rw [this.2];omega
 ·split
  ·have:=draw_len S d.2.1;rw [this.2];omega
  ·split
   ·exact text_len S d.2.2.2
   ·omega
end Go.Bas
namespace Go.Proofs.Ytlmdgmgbijfaoaa
open Go.RowKit Go.Bas Go.ChangeShapes Go.Maps
attribute [local go_sem ↓] Go.wp_at_zero Go.wp_at_succ
def TwoT (B:Nat) (w:World) (p q:Nat) (S:TS) (G:Nat→Prop):Prop:=∃F1 F2,StA B w p F1 S∧RsA B w q F2 S∧(∀b,F1 b→¬ F2 b)∧∀b,G b ↔ F1 b∨F2 b
theorem TwoT.below {B:Nat} {w w':World} {p q:Nat} {S:TS} {G:Nat→Prop} (h:TwoT B w p q S G) (hb:Below w.heap.size w w'):TwoT B w' p q S G:=by
 obtain ⟨F1,F2,h1,h2,h3⟩:=h
 exact ⟨F1,F2,h1.below hb,h2.below hb,h3⟩
theorem TwoT.hi {B:Nat} {w:World} {p q:Nat} {S:TS} {G:Nat→Prop} (h:TwoT B w p q S G) {b:Nat} (hb:G b):B≤b:=by
 obtain ⟨F1,F2,h1,h2,_,h4⟩:=h
 exact ((h4 b).1 hb).elim h1.hi h2.hi
theorem TwoT.lt {B:Nat} {w:World} {p q:Nat} {S:TS} {G:Nat→Prop} (h:TwoT B w p q S G) {b:Nat} (hb:G b):b<w.heap.size:=by
 obtain ⟨F1,F2,h1,h2,_,h4⟩:=h
 exact ((h4 b).1 hb).elim h1.lt h2.lt
theorem TwoT.join {B:Nat} {w0 w w1 w2:World} {p q:Nat} {F1 F2 F1' F2' G:Nat→Prop} {S S':TS} (h0:Chg (fun _=> False) w0 w) (hG:∀b,G b ↔ F1 b∨F2 b) (h:StA B w p F1 S) (hr:RsA B w q F2 S) (hd:∀b,F1 b→¬ F2 b) (h1:StA B w1 p F1' S') (c1:Chg F1 w w1) (f1:∀b,F1' b→F1 b∨w.heap.size≤b)
  (h2:RsA B w2 q F2' S') (c2:Chg F2 w1 w2) (f2:∀b,F2' b→F2 b∨w1.heap.size≤b):∃G',TwoT B w2 p q S' G'∧Chg G w0 w2∧∀b,G' b→G b∨w0.heap.size≤b:=
 ⟨fun b=> F1' b∨F2' b,⟨F1',F2',h1.keep c2 fun b hb h5=> (f1 b hb).elim (fun h6=> hd b h6 h5) fun h6=> by have:=hr.lt h5;omega,h2,(fun b hb h5=> by
  rcases f2 b h5 with h6 | h6
  ·exact (f1 b hb).elim (fun h7=> hd b h7 h6) fun h7=> by have:=hr.lt h6;omega
  ·have:=h1.lt hb;omega),fun b=> Iff.rfl⟩,(h0.mono (G:=G) fun _ _ h=> h.elim).trans ((c1.mono (G:=G) fun b _ h=> (hG b).2 (.inl h)).trans (c2.mono (G:=G) fun b _ h=> (hG b).2 (.inr h)) fun _ _ h=> h) fun _ _ h=> h,fun b hb=> by
  have s0:=h0.size
  have s1:=c1.size
  rcases hb with h5 | h5
  ·exact (f1 b h5).elim (fun h6=> .inl ((hG b).2 (.inl h6))) fun h6=> .inr (by omega)
  ·exact (f2 b h5).elim (fun h6=> .inl ((hG b).2 (.inr h6))) fun h6=> .inr (by omega)⟩
section
variable {B : Nat} {w : World} {p q : Nat} {S : TS} {G : Nat → Prop}
structure DoT (w:World) (b:Nat) (k n:Int) (t:Tm) (v:Value):Prop where
 d0:w.cell? ⟨b,0,none⟩=some (.int .i64 k)
 d1:w.cell? ⟨b,1,none⟩=some (.int .i64 n)
 d2:∀i,i<3→w.cell? ⟨b,2+i,none⟩=some (.int .i64 (tf t i))
 d5:w.cell? ⟨b,5,none⟩=some v
 lt:b<w.heap.size
end
end Go.Proofs.Ytlmdgmgbijfaoaa
namespace Go.Bas
open Go.RowKit Go.ChangeShapes Go.WideShapes Go.ChangeAt
section
variable {H : Type} {enc : TypeId × Value → H} {P : Program} {w : World} {base : Nat} {spare : Nat → Bool} {held : Bool}
theorem trod_struct4 {t:TypeId} {f0 f1 f2 f3:Field} {fuel:Nat} {cs:List Value} {x:DataW H × List MemPlace} (ht:P.underlying t=some (.struct #[f0,f1,f2,f3])) (h:DataW.trod enc P w base spare held fuel t cs=some x):
  ∃y0 y1 y2 y3 n,DataW.trod enc P w base spare held n f0.type ((cs.drop f0.offset).take (P.cellsOf f0.type))=some y0∧
   DataW.trod enc P w base spare held n f1.type ((cs.drop f1.offset).take (P.cellsOf f1.type))=some y1∧DataW.trod enc P w base spare held n f2.type ((cs.drop f2.offset).take (P.cellsOf f2.type))=some y2∧DataW.trod enc P w base spare held n f3.type ((cs.drop f3.offset).take (P.cellsOf f3.type))=some y3:=by
 obtain ⟨xs,n,_,rfl,hl,hlen,hf⟩:=DataW.trod_struct ht h
 match xs,hlen with
 | [y0,y1,y2,y3],_=> exact ⟨y0,y1,y2,y3,n,by simpa using hf 0 f0 rfl,by simpa using hf 1 f1 rfl,by simpa using hf 2 f2 rfl,by simpa using hf 3 f3 rfl⟩
theorem okI64_of {x:Int} (h:(Lit.int .i64 x).wf=true):okI64 x:=bounds_i64 h
theorem open_tdos {t e:TypeId} {f0 f1 f2 f3 g0 g1 g2:Field} {eb:TypeId} {v:Value} {d:DataW H} {p:List MemPlace} (ht:P.underlying t=some (.slice e)) (he:P.underlying e=some (.struct #[f0,f1,f2,f3])) (hT:P.underlying f2.type=some (.struct #[g0,g1,g2])) (hc:P.cellsOf e=6)
  (ho:(f0.offset,f1.offset,f2.offset,f3.offset)=(0,1,2,5)) (hk:(P.cellsOf f0.type,P.cellsOf f1.type,P.cellsOf f2.type,P.cellsOf f3.type)=(1,1,3,1)) (ho2:(g0.offset,g1.offset,g2.offset)=(0,1,2)) (hk2:(P.cellsOf g0.type,P.cellsOf g1.type,P.cellsOf g2.type)=(1,1,1))
  (h0:P.underlying f0.type=some (.int .i64)) (h1:P.underlying f1.type=some (.int .i64)) (t0:P.underlying g0.type=some (.int .i64)) (t1:P.underlying g1.type=some (.int .i64)) (t2:P.underlying g2.type=some (.int .i64)) (h2:P.underlying f3.type=some (.slice eb)) (h3:P.underlying eb=some (.int .u8)) (h4:P.cellsOf eb=1)
  {b0:Nat} (hv:Value.okWide P w .any b0 t v) (h:DataW.Trod enc P w base spare held t v d p):
  ∃L:List TDo,TDos w v L∧∀(j:Nat) (d:TDo),L[j]? =some d→okD d:=by
 obtain ⟨m,q,hq,htr⟩:=open_mat ht hc (by decide) hv h
 simp only [Prod.mk.injEq] at ho hk ho2 hk2
 have each:∀j,j<m→∃d:TDo,RowD w (q j) d∧okD d:=by
  intro j hj
  obtain ⟨fuel,y,hy⟩:=htr j hj
  obtain ⟨y0,y1,y2,y3,n',e0,e1,e2,e3⟩:=trod_struct4 he hy
  rw [ho.1,hk.1] at e0
  rw [ho.2.1,hk.2.1] at e1
  rw [ho.2.2.1,hk.2.2.1] at e2
  rw [ho.2.2.2,hk.2.2.2] at e3
  obtain ⟨z0,z1,z2,n2,_,_,c0,c1,c2⟩:=Go.Deep.trod_struct3 hT e2
  rw [ho2.1,hk2.1] at c0
  rw [ho2.2.1,hk2.2.1] at c1
  rw [ho2.2.2,hk2.2.2] at c2
  obtain ⟨k,hk0,_,wk⟩:=DataW.trod_int h0 e0
  obtain ⟨n,hn0,_,wn⟩:=DataW.trod_int h1 e1
  obtain ⟨a,ha0,_,wa⟩:=DataW.trod_int t0 c0
  obtain ⟨b,hb0,_,wb⟩:=DataW.trod_int t1 c1
  obtain ⟨c,hc0,_,wc⟩:=DataW.trod_int t2 c2
  obtain ⟨u,l,f,hu,hr,hb⟩:=trod_rd h2 h3 h4 e3
  simp [List.range_succ] at hk0 hn0 hu ha0 hb0 hc0
  subst hu
  refine ⟨(k,n,(a,b,c),(List.range l).map f),⟨hk0,hn0,ha0,hb0,hc0,?_⟩,okI64_of wk,okI64_of wn,⟨okI64_of wa,okI64_of wb,okI64_of wc⟩,fun x hx=> ?_⟩
  ·show Rd .u8 w (q j 5) ((List.range l).map f).length (bf ((List.range l).map f))
   rw [List.length_map,List.length_range]
   refine hr.congr fun i hi=> ?_
   unfold bf
   rw [List.getD_eq_getElem?_getD,List.getElem?_map,List.getElem?_range hi]
   rfl
  ·obtain ⟨i,hi,rfl⟩:=List.mem_map.1 hx
   have:=bounds_u8 (hb i (List.mem_range.1 hi))
   omega
 classical
 refine ⟨(List.range m).map fun j=> if h:j<m then Classical.choose (each j h) else default,⟨q,by rw [List.length_map,List.length_range];exact hq,fun j d hd=> ?_⟩,fun j d hd=> ?_⟩
 all_goals rw [List.getElem?_map] at hd
 all_goals by_cases hj:j<m
 ·rw [List.getElem?_range hj,Option.map_some,dif_pos hj] at hd
  cases hd
  exact (Classical.choose_spec (each j hj)).1
 ·rw [List.getElem?_eq_none (by simp;omega)] at hd
  cases hd
 ·rw [List.getElem?_range hj,Option.map_some,dif_pos hj] at hd
  cases hd
  exact (Classical.choose_spec (each j hj)).2
 ·rw [List.getElem?_eq_none (by simp;omega)] at hd
  cases hd
end
end Go.Bas
