/- Part 38 of SuiteBytes; conditions: in each theorem. -/
import Derived.Test.YtpcjekgfnfjbpaaGreatPkSuiteBytes37
import Derived.Test.YtpcjekgfnfjbpaaGreatPkSuiteBytes15
import Derived.WalkMore
set_option linter.unusedVariables false
set_option linter.unusedSimpArgs false
set_option maxRecDepth 100000
set_option maxHeartbeats 6400000
namespace Go.bC
open Go.RowKit
theorem Two.adt (p:Bool) (s:Two):(s.flip p).a=if p then s.c else s.a:=by cases p<;> rfl
theorem Two.ads (p:Bool) (s:Two):(s.flip p).b=if p then s.d else s.b:=by cases p<;> rfl
theorem Two.adr (p:Bool) (s:Two):(s.flip p).c=if p then s.a else s.c:=by cases p<;> rfl
theorem Two.adq (p:Bool) (s:Two):(s.flip p).d=if p then s.b else s.d:=by cases p<;> rfl
theorem Two.flip_flip (p q:Bool) (s:Two):(s.flip q).flip (p !=q)=s.flip p:=by cases p<;> cases q<;> rfl
def Fe4 (f g h e:Nat->Int) (s:Two):Prop:=Fe f s.a/\Fe g s.b/\Fe h s.c/\Fe e s.d
theorem Fe4.flip {f g h e:Nat->Int} {s:Two} (p:Bool) (H:Fe4 f g h e s):Fe4 (bD p f h) (bD p g e) (bD p h f) (bD p e g) (s.flip p):=
 ⟨by rw[Two.adt];exact Ae H.1 H.2.2.1,by rw[Two.ads];exact Ae H.2.1 H.2.2.2,by rw[Two.adr];exact Ae H.2.2.1 H.1,by rw[Two.adq];exact Ae H.2.2.2 H.2.1⟩
end Go.bC
namespace Go.Proofs.YtpcjekgfnfjbpaaGreat
open Go.RowKit Go.bC Go.ChangeShapes
attribute [local go_sem ↓] Go.wp_at_zero Go.wp_at_succ
theorem QF (S U:Int) (w:World):
  Calls Tryz.prog 141 #[.agg (arr .u8 32 (dg 256 S)),.agg (arr .u8 32 (dg 256 U))] w fun e w'=>e=.returned (.agg (arr .u8 32 (dg 256 (yB (gV S) (U % 2 ^ 255) % Pr))))/\Below w.heap.size w w':=by
 have RQ:=ak (fun w=>zm S w);have CW:=ak (fun w=>BM U w);have HFU:=ak (Ib U);have IC:Hid (∀w,Calls Tryz.prog 200 #[.int .i64 1] w fun e w'=>e=.returned (.agg (arr .i64 16 (aW 1)))/\Below w.heap.size w w'):=fun w=>eO 1 w;have HS0:Hid (∀w,Calls Tryz.prog 200 #[.int .i64 0] w fun e w'=>e=.returned (.agg (arr .i64 16 (aW 0)))/\Below w.heap.size w w'):=fun w=>eO 0 w;have HF1:Hid (Fe (aW 1) 1):=by have h:=nN 1;rwa [show sG 1=1 by decide] at h
 have ZP:Hid (Fe (aW 0) 0):=by have h:=nN 0;rwa [show sG 0=0 by decide] at h
 obtain⟨UN,hUN⟩:∃UN,UN=U % 2 ^ 255:=⟨_,rfl⟩
 rw[<-hUN] at HFU CW ⊢;obtain⟨N,hN⟩:∃N,N=gV S:=⟨_,rfl⟩
 rw[<-hN] at RQ ⊢;unfold El at CW;obtain⟨fu,hfu⟩:∃fu,fu=dg 65536 UN:=⟨_,rfl⟩
 rw[<-hfu] at HFU CW;clear hUN hfu hN;obtain⟨g1,hg1⟩:∃g1,g1=aW 1:=⟨_,rfl⟩
 obtain⟨g0,hg0⟩:∃g0,g0=aW 0:=⟨_,rfl⟩
 rw[<-hg1] at IC HF1;rw[<-hg0] at HS0 ZP;clear hg1 hg0
 go_enter Tryz.func141,Tryz.ntmps141
 go_upto_region 1 with(fail)
 refine aJ (fun w1=>aQ .u8 w1 w.heap.size 32 (dg 256 S)/\aQ .u8 w1 (w.heap.size+1) 32 (dg 256 U)/\aQ .u8 w1 (w.heap.size+2) 32 (fun _=>0)/\Below w.heap.size w w1)
  ⟨.alloc (.alloc (bU rfl rfl) _) _,.alloc (bU (by first | omega | (simp<;> omega)) rfl) _,bU (by first | omega | (simp<;> omega)) (by rfl),(((bT _ _).alloc (bB _) _).alloc (by first | omega | (simp<;> omega)) _).alloc (by first | omega | (simp<;> omega)) _⟩ ?_
 rintro w1 ⟨hA,hP,hZ,aA⟩;refine wp_scope_straight ?_;go_wp2_with (refine bq rfl 22 _ rfl .u8 w.heap.size 32 (dg 256 S) 5 dY dh rfl hA ?_);refine(RQ.out _).mono ?_;rintro e w2 ⟨rfl,dP⟩;have hP2:=hP.kept dP;have gy:=hZ.kept dP;have gu:=aA.trans (dP.mono aA.size);have hl2:=gy.lt;clear hA hP hZ aA dP;go_upto_region 2 with(refine aM rfl 22 _ _ rfl .u8 w2.heap.size 32 (fun _=>0) (dg 256 N) dh rfl rfl (bU rfl (by rfl)) ?_)
 refine aJ (fun w3=>aQ .u8 w3 w2.heap.size 32 (dg 256 N)/\aQ .u8 w3 (w.heap.size+1) 32 (dg 256 U)/\aQ .u8 w3 (w.heap.size+2) 32 (fun _=>0)/\Below w.heap.size w w3)
  ⟨(bU rfl (by rfl):aQ .u8 _ _ 32 (fun _=>0)).setRow _ _,aQ.aG (aQ.alloc hP2 _) _ aH _,aQ.aG (aQ.alloc gy _) _ aH _,aC (gu.alloc gu.size _) gu.size _⟩ ?_
 rintro w3 ⟨hN,hP3,jy,gU⟩;obtain⟨bn,hbn⟩:∃bn,bn=w2.heap.size:=⟨_,rfl⟩
 rw[<-hbn] at hN hl2 ⊢;clear hbn hP2 gy gu
 try simp only[Act.put,dK,dL,dM]
 go_wp2_with (refine bq rfl 22 _ rfl .u8 (w.heap.size+1) 32 (dg 256 U) 5 dY dh rfl hP3 ?_);refine(CW.out _).mono ?_;rintro e w4 ⟨rfl,jd⟩;have hN4:=hN.kept jd;have xq:=jy.kept jd;have jT:=gU.trans (jd.mono gU.size);have hl4:=hN4.lt;clear hN hP3 jy gU jd;go_upto_region 3 with(refine aM rfl 191 _ _ rfl .i64 w4.heap.size 16 (fun _=>0) fu bQ rfl rfl (bU rfl (by rfl)) ?_)
 refine aJ (fun w5=>aQ .i64 w5 w4.heap.size 16 fu/\aQ .u8 w5 bn 32 (dg 256 N)/\aQ .u8 w5 (w.heap.size+2) 32 (fun _=>0)/\Below w.heap.size w w5)
  ⟨(bU rfl (by rfl):aQ .i64 _ _ 16 (fun _=>0)).setRow _ _,aQ.aG (aQ.alloc hN4 _) _ aH _,aQ.aG (aQ.alloc xq _) _ aH _,aC (jT.alloc jT.size _) jT.size _⟩ ?_
 rintro w5 ⟨hV,hN5,rW,iG⟩;obtain⟨bu,hbu⟩:∃bu,bu=w4.heap.size:=⟨_,rfl⟩
 rw[<-hbu] at hV hl4 ⊢;clear hbu hN4 xq jT
 try simp only[Act.put,dK,dL,dM]
 have hlu:=hV.lt
 refine bG (n:=77) aS aS aS rfl
  (gZ [(8,4),(9,5),(10,6),(11,7)]) (eZ [(8,4),(9,5),(10,6),(11,7)]) (fun _=>arr .i64 16 (fun _=>0)) (fun i=>match i with | 4=>(arr .i64 16 (g1)) | 5=>(arr .i64 16 (g0)) | 6=>(arr .i64 16 (fu)) | 7=>(arr .i64 16 (g1)) | _=> #[]) (fun _=>191) (fun i=>match i with | 4=>7 | 5=>8 | 6=>9 | 7=>10 | _=>0)
  (fun ii vv _=>(match ii with | 0 | 3=>vv=.agg (arr .i64 16 (g1)) | 1=>vv=.agg (arr .i64 16 (g0)) | 2=>vv=.agg (arr .i64 16 (fu)) | _=>True)) (fun _ _=>True) (fun _ _ _=>trivial) (fun _ _ _ _ _ _ _=>trivial) (fun _ _ _ _ h _=>h)
  (fJ rfl) (dU rfl) ?_ ?_ ?_ ?_
 ·refine cB ?_;refine⟨?_,?_,?_,?_,(fun h=>by cases h),(fun h=>by cases h),(fun h=>by cases h),(fun h=>by cases h),(fun _ h=>by cases h),(fun _ h=>by cases h),(fun _ h=>by cases h),(fun _ h=>by cases h),trivial⟩
  ·intro _ _ a w2 hB hF hd;refine aO <| aD _ _ _ rfl Tryz.call200 _ (args1 rfl) aR ((IC.out w2).mono ?_);rintro e w3 ⟨rfl,hb⟩;exact⟨_,rfl,rfl,hb⟩
  ·intro _ _ a w2 hB hF hd;refine aO <| aD _ _ _ rfl Tryz.call200 _ (args1 rfl) aR ((HS0.out w2).mono ?_);rintro e w3 ⟨rfl,hb⟩;exact⟨_,rfl,rfl,hb⟩
  ·intro _ _ a w2 hB hF hd;exact aO <| aT (aF rfl cZ rfl bQ (hF.same 6 rfl) (hV.below hB hV.lt)) rfl
  ·intro _ _ a w2 hB hF hd;refine aO <| aD _ _ _ rfl Tryz.call200 _ (args1 rfl) aR ((IC.out w2).mono ?_);rintro e w3 ⟨rfl,hb⟩;exact⟨_,rfl,rfl,hb⟩
 ·refine cB ?_;refine⟨(fun h=>by cases h),(fun h=>by cases h),(fun h=>by cases h),(fun h=>by cases h),?_,?_,?_,?_,(fun h=>by cases h),(fun h=>by cases h),(fun h=>by cases h),(fun h=>by cases h),trivial⟩
  ·exact fun _=>⟨rfl,rfl,fun a w2 K h=>aZ rfl rfl Tryz.zeroValue191 aR h⟩
  ·exact fun _=>⟨rfl,rfl,fun a w2 K h=>aZ rfl rfl Tryz.zeroValue191 aR h⟩
  ·exact fun _=>⟨rfl,rfl,fun a w2 K h=>aZ rfl rfl Tryz.zeroValue191 aR h⟩
  ·exact fun _=>⟨rfl,rfl,fun a w2 K h=>aZ rfl rfl Tryz.zeroValue191 aR h⟩
 ·refine cB ?_;refine⟨(fun _ h=>by cases h),(fun _ h=>by cases h),(fun _ h=>by cases h),(fun _ h=>by cases h),(fun _ h=>by cases h),(fun _ h=>by cases h),(fun _ h=>by cases h),(fun _ h=>by cases h),?_,?_,?_,?_,trivial⟩
  ·intro p hp;obtain rfl:4=p:=iy hp;exact⟨rfl,rfl,⟨_,rfl⟩,aj rfl,fun a w2 b K hB hF hd hx hb h=>bJ rfl rfl bQ hx (hd 0 _ rfl rfl rfl (aj rfl)) hb h⟩
  ·intro p hp;obtain rfl:5=p:=iy hp;exact⟨rfl,rfl,⟨_,rfl⟩,aj rfl,fun a w2 b K hB hF hd hx hb h=>bJ rfl rfl bQ hx (hd 1 _ rfl rfl rfl (aj rfl)) hb h⟩
  ·intro p hp;obtain rfl:6=p:=iy hp;exact⟨rfl,rfl,⟨_,rfl⟩,aj rfl,fun a w2 b K hB hF hd hx hb h=>bJ rfl rfl bQ hx (hd 2 _ rfl rfl rfl (aj rfl)) hb h⟩
  ·intro p hp;obtain rfl:7=p:=iy hp;exact⟨rfl,rfl,⟨_,rfl⟩,aj rfl,fun a w2 b K hB hF hd hx hb h=>bJ rfl rfl bQ hx (hd 3 _ rfl rfl rfl (aj rfl)) hb h⟩
 ·intro a w6 blk hB hF hS hv hfin dw;obtain⟨v4,IE,Lv⟩:=hv 4 _ rfl rfl;obtain⟨v5,xQ,FR⟩:=hv 5 _ rfl rfl;obtain⟨v6,Ld,XI⟩:=hv 6 _ rfl rfl;obtain⟨v7,Dc,Sz⟩:=hv 7 _ rfl rfl;have ha:=aP rfl rfl hF [_,_,_,_,_,_,_,_,undef,undef,undef,undef] rfl ⟨hS 0 _ rfl rfl rfl,hS 1 _ rfl rfl rfl,hS 2 _ rfl rfl rfl,hS 3 _ rfl rfl rfl,v4,v5,v6,v7,trivial,trivial,trivial,trivial,trivial⟩;have f4:=hfin 8 _ 4 rfl rfl;have f5:=hfin 9 _ 5 rfl rfl;have f6:=hfin 10 _ 6 rfl rfl;have f7:=hfin 11 _ 7 rfl rfl;have Cb:=dw 4 5 _ _ rfl rfl rfl rfl aN;have agI:=dw 4 6 _ _ rfl rfl rfl rfl aN;have agH:=dw 4 7 _ _ rfl rfl rfl rfl aN;have agG:=dw 5 6 _ _ rfl rfl rfl rfl aN;have agF:=dw 5 7 _ _ rfl rfl rfl rfl aN;have Wj:=dw 6 7 _ _ rfl rfl rfl rfl aN;simp only[puts,Act.put,dK,dL,dM] at ha;subst ha;have V4:aQ .i64 w6 (blk 4) 16 (g1):=⟨_,f4⟩
  have V5:aQ .i64 w6 (blk 5) 16 (g0):=⟨_,f5⟩
  have V6:aQ .i64 w6 (blk 6) 16 (fu):=⟨_,f6⟩
  have V7:aQ .i64 w6 (blk 7) 16 (g1):=⟨_,f7⟩
  clear hS hv hfin dw hF v4 v5 v6 v7 f4 f5 f6 f7;have Ze:=hV.kept hB;have hN6:=hN5.kept hB;have sW:=rW.kept hB;have iw:=iG.trans (hB.mono iG.size);clear hV hN5 rW iG hB;obtain⟨x7,e7⟩:∃x,x=blk 4:=⟨_,rfl⟩
  obtain⟨x8,e8⟩:∃x,x=blk 5:=⟨_,rfl⟩
  obtain⟨x9,e9⟩:∃x,x=blk 6:=⟨_,rfl⟩
  obtain⟨x10,e10⟩:∃x,x=blk 7:=⟨_,rfl⟩
  rw[<-e7] at V4 Cb agI agH IE ⊢;rw[<-e8] at V5 Cb agG agF xQ ⊢;rw[<-e9] at V6 agI agG Wj Ld ⊢;rw[<-e10] at V7 agH agF Wj Dc ⊢;clear e7 e8 e9 e10;have l7:bu<x7:=by omega
  have l8:bu<x8:=by omega
  have l9:bu<x9:=by omega
  have l10:bu<x10:=by omega
  clear IE xQ Ld Dc Lv FR XI Sz hlu;have HR0:Hid (Fe4 g1 g0 fu g1 ((Aa N UN 0).flip false)):=⟨HF1.out,ZP.out,HFU.out,HF1.out⟩
  go_wp2;refine wp_label ?_;go_wp2
  go_loopw [11,12] (fun sw i wr=> ∃(k:Nat) (q:Bool) (f7 f8 f9 f10:Nat->Int),k<=255/\i=.int .i64 (254 - (k:Int))/\sw=.bool q/\Hid (Fe4 f7 f8 f9 f10 ((Aa N UN k).flip q))/\(aQ .i64 wr x7 16 f7/\aQ .i64 wr x8 16 f8/\aQ .i64 wr x9 16 f9/\aQ .i64 wr x10 16 f10)/\(aQ .i64 wr bu 16 fu/\aQ .u8 wr bn 32 (dg 256 N)/\aQ .u8 wr (w.heap.size+2) 32 (fun _=>0))/\Below w.heap.size w wr) (fun _ i _=>(intOf i+1).toNat)
  case atStart=>exact⟨0,false,_,_,_,_,gX _,rfl,rfl,HR0,⟨V4,V5,V6,V7⟩,⟨Ze,hN6,sW⟩,iw⟩
  case round=>
   clear V4 V5 V6 V7 Ze hN6 sW iw HR0;obtain⟨k,q,f7,f8,f9,f10,hk,rfl,rfl,hR,⟨ql,pG,tq,jV⟩,⟨hV,hN,hZ⟩,aA⟩:=hrel
   rename_i wr
   obtain rfl | hlt:=(by omega:k=255\/k<255)
   ·have ei:(254:Int) - ((255:Nat):Int)= -1:=by decide
    rw[ei];clear ei;go_upto_region 7 with(fail)
    refine aX (n:=77) aS aS aS rfl
     (fun ii vv _=>(match ii with | 0=>vv=.int .i64 (-1) | 1 | 2 | 15 | 16=>vv=.bool false | 3 | 4 | 5 | 6 | 7 | 8 | 9 | 10 | 11 | 12 | 13 | 14=>vv=undef | _=>True))
     (fun w w'=>Below w.heap.size w w') (fun _ _ h=>h) (fun _ _ _ _ h _=>h) ?_ ?_
    ·refine cB ?_;refine⟨?_,?_,?_,?_,?_,?_,?_,?_,?_,?_,?_,?_,?_,?_,?_,?_,?_,trivial⟩
     ·intro a w2 hB hF hd;exact aO <| aB _ (.inl rfl) aR (hF.same 12 rfl)
     ·intro a w2 hB hF hd;exact aO <| aT (Go.bC.Oh rfl (hd 0 _ rfl (aj rfl)) rfl) (congrArg Value.bool aN)
     ·intro a w2 hB hF hd;exact aO <| aB _ (.inl rfl) aR (hd 1 _ rfl (aj rfl))
     ·intro a w2 hB hF hd;rw[if_neg (by rw[cK rfl rfl (hd 2 _ rfl (aj rfl))];decide)];exact rfl
     ·intro a w2 hB hF hd;rw[if_neg (by rw[cK rfl rfl (hd 2 _ rfl (aj rfl))];decide)];exact rfl
     ·intro a w2 hB hF hd;rw[if_neg (by rw[cK rfl rfl (hd 2 _ rfl (aj rfl))];decide)];exact rfl
     ·intro a w2 hB hF hd;rw[if_neg (by rw[cK rfl rfl (hd 2 _ rfl (aj rfl))];decide)];exact rfl
     ·intro a w2 hB hF hd;rw[if_neg (by rw[cK rfl rfl (hd 2 _ rfl (aj rfl))];decide)];exact rfl
     ·intro a w2 hB hF hd;rw[if_neg (by rw[cK rfl rfl (hd 2 _ rfl (aj rfl))];decide)];exact rfl
     ·intro a w2 hB hF hd;rw[if_neg (by rw[cK rfl rfl (hd 2 _ rfl (aj rfl))];decide)];exact rfl
     ·intro a w2 hB hF hd;rw[if_neg (by rw[cK rfl rfl (hd 2 _ rfl (aj rfl))];decide)];exact rfl
     ·intro a w2 hB hF hd;rw[if_neg (by rw[cK rfl rfl (hd 2 _ rfl (aj rfl))];decide)];exact rfl
     ·intro a w2 hB hF hd;rw[if_neg (by rw[cK rfl rfl (hd 2 _ rfl (aj rfl))];decide)];exact rfl
     ·intro a w2 hB hF hd;rw[if_neg (by rw[cK rfl rfl (hd 2 _ rfl (aj rfl))];decide)];exact rfl
     ·intro a w2 hB hF hd;rw[if_neg (by rw[cK rfl rfl (hd 2 _ rfl (aj rfl))];decide)];exact rfl
     ·intro a w2 hB hF hd;exact aO <| aT (bZ rfl (hd 2 _ rfl (aj rfl))) (rfl)
     ·intro a w2 hB hF hd;exact aO <| aB _ (.inr rfl) aR (hd 15 _ rfl (aj rfl))
    ·intro a w7 hB hF hS;have ha:=aP rfl rfl hF [_,_,_,_,_,_,_,_,_,_,_,_,_,_,_,_,_] rfl ⟨hS 0 _ rfl,hS 1 _ rfl,hS 2 _ rfl,hS 3 _ rfl,hS 4 _ rfl,hS 5 _ rfl,hS 6 _ rfl,hS 7 _ rfl,hS 8 _ rfl,hS 9 _ rfl,hS 10 _ rfl,hS 11 _ rfl,hS 12 _ rfl,hS 13 _ rfl,hS 14 _ rfl,hS 15 _ rfl,hS 16 _ rfl,trivial⟩;simp only[puts,Act.put,dK,dL,dM] at ha;subst ha;clear hS hF;replace ql:=ql.kept hB;replace pG:=pG.kept hB;replace tq:=tq.kept hB;replace jV:=jV.kept hB;replace hV:=hV.kept hB;replace hN:=hN.kept hB;replace hZ:=hZ.kept hB;replace aA:=aA.trans (hB.mono aA.size);clear hB;obtain⟨bb,hbb⟩:∃bb:Bool,bb=false:=⟨_,rfl⟩
     obtain⟨pq,hpq⟩:∃pq,pq=(bb !=q):=⟨_,rfl⟩
     have HPQ:=ak hpq;clear hpq;have zT:=ak hbb;clear hbb;go_upto_region 8 with(fail);have Xd:Hid (∀p w,p=(bb !=q)->Calls Tryz.prog 201 #[.agg (arr .i64 16 f7),.agg (arr .i64 16 f9),.bool p] w fun e w'=>e=.returned (.tuple #[.agg (arr .i64 16 (bD pq f7 f9)),.agg (arr .i64 16 (bD pq f9 f7))])/\Below w.heap.size w w'):=by
      rintro p w rfl;rw[HPQ.out];exact jG _ f7 f9 _ _ hR.out.1 hR.out.2.2.1 w
     go_wp2_with (first | (refine bN rfl 191 _ rfl .i64 x7 16 f7 cZ rfl bQ rfl ql ?_) | (refine bN rfl 191 _ rfl .i64 x9 16 f9 cZ rfl bQ rfl tq ?_));refine(Xd.out _ _ (by first | rfl | (rw[zT.out];cases q<;> rfl) | (cases q<;> cases bb<;> rfl))).mono ?_;rintro e wq0 ⟨rfl,hbq⟩;replace ql:=ql.kept hbq;replace tq:=tq.kept hbq;replace pG:=pG.kept hbq;replace jV:=jV.kept hbq;replace hV:=hV.kept hbq;replace hN:=hN.kept hbq;replace hZ:=hZ.kept hbq;replace aA:=aA.trans (hbq.mono aA.size);have s2:=tq.aG x7 aH (arr .i64 16 (bD pq f7 f9));clear Xd hbq;go_upto_region 9 with(first | (refine aM rfl 191 _ _ rfl .i64 x7 16 f7 (bD pq f7 f9) bQ rfl rfl ql ?_) | (refine aM rfl 191 _ _ rfl .i64 x9 16 f9 (bD pq f9 f7) bQ rfl rfl s2 ?_))
     refine aJ (fun wq=>aQ .i64 wq x7 16 (bD pq f7 f9)/\aQ .i64 wq x9 16 (bD pq f9 f7)/\aQ .i64 wq x8 16 f8/\aQ .i64 wq x10 16 f10/\aQ .i64 wq bu 16 fu/\aQ .u8 wq bn 32 (dg 256 N)/\aQ .u8 wq (w.heap.size+2) 32 (fun _=>0)/\Below w.heap.size w wq)
      ⟨(ql.setRow _ _).aG _ aH _,s2.setRow _ _,(pG.aG _ aH _).aG _ aH _,(jV.aG _ aH _).aG _ aH _,(hV.aG _ aH _).aG _ aH _,(hN.aG _ aH _).aG _ aH _,(hZ.aG _ aH _).aG _ aH _,aC (aC aA aH _) aH _⟩ ?_
     clear s2 ql tq pG jV hV hN hZ aA;rintro wq ⟨ql,tq,pG,jV,hV,hN,hZ,aA⟩
     try simp only[Act.put,dK,dL,dM]
     have Xc:Hid (∀p w,p=(bb !=q)->Calls Tryz.prog 201 #[.agg (arr .i64 16 f8),.agg (arr .i64 16 f10),.bool p] w fun e w'=>e=.returned (.tuple #[.agg (arr .i64 16 (bD pq f8 f10)),.agg (arr .i64 16 (bD pq f10 f8))])/\Below w.heap.size w w'):=by
      rintro p w rfl;rw[HPQ.out];exact jG _ f8 f10 _ _ hR.out.2.1 hR.out.2.2.2 w
     go_wp2_with (first | (refine bN rfl 191 _ rfl .i64 x8 16 f8 cZ rfl bQ rfl pG ?_) | (refine bN rfl 191 _ rfl .i64 x10 16 f10 cZ rfl bQ rfl jV ?_));refine(Xc.out _ _ (by first | rfl | (rw[zT.out];cases q<;> rfl) | (cases q<;> cases bb<;> rfl))).mono ?_;rintro e wp0 ⟨rfl,hbq⟩;replace pG:=pG.kept hbq;replace jV:=jV.kept hbq;replace ql:=ql.kept hbq;replace tq:=tq.kept hbq;replace hV:=hV.kept hbq;replace hN:=hN.kept hbq;replace hZ:=hZ.kept hbq;replace aA:=aA.trans (hbq.mono aA.size);have s2:=jV.aG x8 aH (arr .i64 16 (bD pq f8 f10));clear Xc hbq;go_upto_region 10 with(first | (refine aM rfl 191 _ _ rfl .i64 x8 16 f8 (bD pq f8 f10) bQ rfl rfl pG ?_) | (refine aM rfl 191 _ _ rfl .i64 x10 16 f10 (bD pq f10 f8) bQ rfl rfl s2 ?_))
     refine aJ (fun wp=>aQ .i64 wp x8 16 (bD pq f8 f10)/\aQ .i64 wp x10 16 (bD pq f10 f8)/\aQ .i64 wp x7 16 (bD pq f7 f9)/\aQ .i64 wp x9 16 (bD pq f9 f7)/\aQ .i64 wp bu 16 fu/\aQ .u8 wp bn 32 (dg 256 N)/\aQ .u8 wp (w.heap.size+2) 32 (fun _=>0)/\Below w.heap.size w wp)
      ⟨(pG.setRow _ _).aG _ aH _,s2.setRow _ _,(ql.aG _ aH _).aG _ aH _,(tq.aG _ aH _).aG _ aH _,(hV.aG _ aH _).aG _ aH _,(hN.aG _ aH _).aG _ aH _,(hZ.aG _ aH _).aG _ aH _,aC (aC aA aH _) aH _⟩ ?_
     clear s2 pG jV ql tq hV hN hZ aA;rintro wp ⟨pG,jV,ql,tq,hV,hN,hZ,aA⟩
     try simp only[Act.put,dK,dL,dM]
     replace hR:Hid (Fe4 (bD pq f7 f9) (bD pq f8 f10) (bD pq f9 f7) (bD pq f10 f8) ((Aa N UN 255).flip bb)):=by have h:=hR.out.flip pq;rwa [show ((Aa N UN 255).flip q).flip pq=(Aa N UN 255).flip bb by rw[HPQ.out,Two.flip_flip]] at h
     obtain⟨g7,hg7⟩:∃g,g=bD pq f7 f9:=⟨_,rfl⟩
     obtain⟨g8,hg8⟩:∃g,g=bD pq f8 f10:=⟨_,rfl⟩
     obtain⟨g9,hg9⟩:∃g,g=bD pq f9 f7:=⟨_,rfl⟩
     obtain⟨g10,Vm⟩:∃g,g=bD pq f10 f8:=⟨_,rfl⟩
     rw[<-hg7] at ql hR;rw[<-hg8] at pG hR;rw[<-hg9] at tq hR;rw[<-Vm] at jV hR;clear hg7 hg8 hg9 Vm;have Lc:Hid (∀w,Calls Tryz.prog 205 #[El (aU g7 (jL g8))] w fun e w'=>e=.returned (.agg (arr .u8 32 (dg 256 (yB N UN % Pr))))/\Below w.heap.size w w'):=fun w=>by
      have hr:=hR.out;rw[zT.out] at hr;exact iH _ (yB N UN) (hr.1.aU (ku hr.2.1)) w
     go_upto_region 13 with(fail)
     refine dz (n:=77) (fun i=>i==5) aS aS aS aS rfl
      (fun ii vv _=>(match ii with | 0=>vv=.agg (arr .i64 16 (g7)) | 1=>vv=.agg (arr .i64 16 (g8)) | 2=>vv=.agg (arr .i64 16 (jL g8)) | 3=>vv=.agg (arr .i64 16 (aU g7 (jL g8))) | 4=>vv=.agg (arr .u8 32 (dg 256 (yB N UN % Pr))) | _=>True))
      (fun w w'=>Below w.heap.size w w') (fun _ _ h=>h) (fun _ _ _ _ h _=>h)
      (fun _=>(w.heap.size+2)) (fun _=>(arr .u8 32 (fun _=>0))) (fun _=>(arr .u8 32 (dg 256 (yB N UN % Pr))))
      (by intro i j _ _ dx kL gB;simp only[beq_iff_eq] at dx kL;omega)
      (by intro i _ dx;exact(hZ).row)
      ?_ ?_ ?_
     ·refine cB ?_;refine⟨?_,?_,?_,?_,?_,(aL),trivial⟩
      ·intro _ a w2 hB hF hd;exact aO <| aT (aF rfl cZ rfl bQ (hF.same 7 rfl) (ql.below hB ql.lt)) rfl
      ·intro _ a w2 hB hF hd;exact aO <| aT (aF rfl cZ rfl bQ (hF.same 8 rfl) (pG.below hB pG.lt)) rfl
      ·intro _ a w2 hB hF hd;refine aO <| aD _ _ _ rfl Tryz.call204 _ (args1 (hd 1 _ rfl rfl (aj rfl))) aR ((jY g8 _ hR.out.2.1 w2).mono ?_);rintro e w3 ⟨rfl,hb⟩;exact⟨_,rfl,rfl,hb⟩
      ·intro _ a w2 hB hF hd;refine aO <| aD _ _ _ rfl Tryz.call203 _ (args2 (hd 0 _ rfl rfl (aj rfl)) (hd 2 _ rfl rfl (aj rfl))) aR ((bV _ _ _ _ hR.out.1 (ku hR.out.2.1) w2).mono ?_);rintro e w3 ⟨rfl,hb⟩;exact⟨_,rfl,rfl,hb⟩
      ·intro _ a w2 hB hF hd;refine aO <| aD _ _ _ rfl Tryz.call205 _ (args1 (hd 3 _ rfl rfl (aj rfl))) aR ((Lc.out w2).mono ?_);rintro e w3 ⟨rfl,hb⟩;exact⟨_,rfl,rfl,hb⟩
     ·refine cB ?_;refine⟨(aL),(aL),(aL),(aL),(aL),?_,trivial⟩
      ·intro _ a w1 w2 K hB hF hS hr hK;exact bE 22 _ _ rfl .u8 ((w.heap.size+2)) 32 (fun _=>0) (dg 256 (yB N UN % Pr)) dh (hF.same 4 rfl) (hS 4 _ rfl rfl) hr hK
     ·intro a wf w9 hB hF hS hfil;have other:∀{k:IntKind} {qb n:Nat} {f:Nat->Int},qb≠(w.heap.size+2)->aQ k wf qb n f->aQ k w9 qb n f:=fun {k qb n f} e0 hA=>hfil.arr (by intro i _ dx;simp only[mP,beq_iff_eq] at dx;subst dx<;> ((try simp only[]);(try dsimp only);omega)) hA;have dI:∀{B:Nat} {w0:World},B<=(w.heap.size+2)->Below B w0 wf->Below B w0 w9:=fun {B w0} e0 hA=>hfil.below (by intro i _ dx;simp only[mP,beq_iff_eq] at dx;subst dx<;> ((try simp only[]);(try dsimp only);omega)) hA;have V5:aQ .u8 w9 ((w.heap.size+2)) 32 (dg 256 (yB N UN % Pr)):=hfil.at 5 aN rfl;have qh:=hfil.size;clear hfil;have ha:=aP rfl rfl hF [_,_,_,_,_,undef] rfl ⟨hS 0 _ rfl rfl,hS 1 _ rfl rfl,hS 2 _ rfl rfl,hS 3 _ rfl rfl,hS 4 _ rfl rfl,trivial,trivial⟩;simp only[puts,Act.put,dK,dL,dM] at ha;subst ha;clear hS hF;have hb:=dI aH (aA.trans (hB.mono aA.size));go_wp2;rw[Exit.noGoto_ret];exact bodyPost_ret (bg rfl _ _ .u8 (w.heap.size+2) 32 _ 5 rfl V5 dY dh) rfl ⟨rfl,hb⟩
   ·obtain⟨m,hm⟩:∃m,m=254 - k:=⟨_,rfl⟩
    have ei:(254:Int) - (k:Int)=(m:Int):=by omega
    have XC:Hid ((m:Int)=254 - (k:Int)):=ei.symm;have Xm:=ak hlt;have aau:m<=254:=by omega
    rw[ei];have Xw:m % 8<8:=Nat.mod_lt _ aN;have hq:IntKind.i64.wrap (Int.tdiv (m:Int) 8)=((m / 8:Nat):Int):=by rw[Pg aH,bI] <;> omega
    have hr:Int.tmod (m:Int) 8=((m % 8:Nat):Int):=by rw[Int.tmod_eq_emod_of_nonneg aH];omega
    have hc:IntKind.u64.wrap ((m % 8:Nat):Int)=((m % 8:Nat):Int):=iY aH aH;obtain⟨d0,d1⟩:=aV (by decide:(0:Int)<256) N (m / 8);have hsh:=xD (x:=dg 256 N (m / 8)) (m % 8) Xw;have hand:bits .and .u8 (dg 256 N (m / 8) / 2 ^ (m % 8)) 1=N / 2 ^ m % 2:=by
     rw[tN (Int.ediv_nonneg d0 (vF (eG aN _))) (Int.lt_of_le_of_lt (Int.ediv_le_self _ d0) d1),vC N m]
    have hpl:((m / 8:Nat):Int).toNat=m / 8:=Ct _;have MP:m / 8<32:=by omega
    have hce:=hN.cell (m / 8) MP;have hBl:=hN.lt;obtain⟨bb,hbb⟩:∃bb,bb=(N / 2 ^ m % 2==1):=⟨_,rfl⟩
    obtain⟨pq,hpq⟩:∃pq,pq=(bb !=q):=⟨_,rfl⟩
    have HPQ:=ak hpq;clear hpq;go_upto_region 7 with(fail)
    refine aX (n:=77) aS aS aS rfl
     (fun ii vv _=>(match ii with | 0 | 3 | 4 | 8 | 9=>vv=.int .i64 ((m:Int)) | 1 | 2=>vv=.bool true | 5=>vv=.int .i64 ((m / 8:Nat)) | 6=>vv=.pointer (some ⟨bn,(m / 8),none⟩) | 7=>vv=.int .u8 (dg 256 N (m / 8)) | 10=>vv=.int .i64 ((m % 8:Nat)) | 11=>vv=.int .u64 ((m % 8:Nat)) | 12=>vv=.int .u8 (dg 256 N (m / 8) / 2 ^ (m % 8)) | 13=>vv=.int .u8 (N / 2 ^ m % 2) | 14 | 15 | 16=>vv=.bool bb | _=>True))
     (fun w w'=>Below w.heap.size w w') (fun _ _ h=>h) (fun _ _ _ _ h _=>h) ?_ ?_
    ·refine cB ?_;refine⟨?_,?_,?_,?_,?_,?_,?_,?_,?_,?_,?_,?_,?_,?_,?_,?_,?_,trivial⟩
     ·intro a w2 hB hF hd;exact aO <| aB _ (.inl rfl) aR (hF.same 12 rfl)
     ·intro a w2 hB hF hd;exact aO <| aT (Go.bC.Oh rfl (hd 0 _ rfl (aj rfl)) rfl) (congrArg Value.bool (decide_eq_true aH))
     ·intro a w2 hB hF hd;exact aO <| aB _ (.inl rfl) aR (hd 1 _ rfl (aj rfl))
     ·intro a w2 hB hF hd;refine aI (aK rfl rfl (hd 2 _ rfl (aj rfl)) rfl) ?_;exact aB _ (.inl rfl) aR (hF.same 12 rfl)
     ·intro a w2 hB hF hd;refine aI (aK rfl rfl (hd 2 _ rfl (aj rfl)) rfl) ?_;exact aT (Jv rfl (hd 3 _ rfl (aj rfl)) rfl aH) rfl
     ·intro a w2 hB hF hd;refine aI (aK rfl rfl (hd 2 _ rfl (aj rfl)) rfl) ?_;exact aT (Go.bC.qJ rfl (hd 4 _ rfl (aj rfl)) rfl aN) (congrArg (Value.int .i64) (hq))
     ·intro a w2 hB hF hd;refine aI (aK rfl rfl (hd 2 _ rfl (aj rfl)) rfl) ?_;exact aT (bH rfl (hF.same 5 rfl) (hd 5 _ rfl (aj rfl)) dY aS aH aH) (congrArg (fun z=>Value.pointer (some ⟨bn,z,none⟩)) hpl)
     ·intro a w2 hB hF hd;refine aI (aK rfl rfl (hd 2 _ rfl (aj rfl)) rfl) ?_;exact aT (aY rfl (hd 6 _ rfl (aj rfl)) Tryz.underlying5 ((hB.cell (p:=⟨bn,m / 8,none⟩) hBl).trans hce)) rfl
     ·intro a w2 hB hF hd;refine aI (aK rfl rfl (hd 2 _ rfl (aj rfl)) rfl) ?_;exact aB _ (.inl rfl) aR (hF.same 12 rfl)
     ·intro a w2 hB hF hd;refine aI (aK rfl rfl (hd 2 _ rfl (aj rfl)) rfl) ?_;exact aT (Jv rfl (hd 8 _ rfl (aj rfl)) rfl aH) rfl
     ·intro a w2 hB hF hd;refine aI (aK rfl rfl (hd 2 _ rfl (aj rfl)) rfl) ?_;exact aT (Go.bC.vZ rfl (hd 9 _ rfl (aj rfl)) rfl aN) (congrArg (Value.int .i64) (hr))
     ·intro a w2 hB hF hd;refine aI (aK rfl rfl (hd 2 _ rfl (aj rfl)) rfl) ?_;exact aT (kU rfl (hd 10 _ rfl (aj rfl)) Tryz.underlying3 Tryz.underlying212) (congrArg (Value.int .u64) (hc))
     ·intro a w2 hB hF hd;refine aI (aK rfl rfl (hd 2 _ rfl (aj rfl)) rfl) ?_;exact aT (Go.bC.qI rfl (hd 7 _ rfl (aj rfl)) (hd 11 _ rfl (aj rfl)) aH) (congrArg (Value.int .u8) (hsh))
     ·intro a w2 hB hF hd;refine aI (aK rfl rfl (hd 2 _ rfl (aj rfl)) rfl) ?_;exact aT (Go.bC.iQ rfl (hd 12 _ rfl (aj rfl)) rfl) (congrArg (Value.int .u8) (hand))
     ·intro a w2 hB hF hd;refine aI (aK rfl rfl (hd 2 _ rfl (aj rfl)) rfl) ?_;refine aT (Go.bC.iF rfl (hd 13 _ rfl (aj rfl)) rfl) ?_;exact congrArg Value.bool hbb.symm
     ·intro a w2 hB hF hd;exact aO <| aT (bZ rfl (hd 2 _ rfl (aj rfl))) ((hd 14 _ rfl (aj rfl)))
     ·intro a w2 hB hF hd;exact aO <| aB _ (.inr rfl) aR (hd 15 _ rfl (aj rfl))
    ·intro a w7 hB hF hS;have ha:=aP rfl rfl hF [_,_,_,_,_,_,_,_,_,_,_,_,_,_,_,_,_] rfl ⟨hS 0 _ rfl,hS 1 _ rfl,hS 2 _ rfl,hS 3 _ rfl,hS 4 _ rfl,hS 5 _ rfl,hS 6 _ rfl,hS 7 _ rfl,hS 8 _ rfl,hS 9 _ rfl,hS 10 _ rfl,hS 11 _ rfl,hS 12 _ rfl,hS 13 _ rfl,hS 14 _ rfl,hS 15 _ rfl,hS 16 _ rfl,trivial⟩;simp only[puts,Act.put,dK,dL,dM] at ha;subst ha;clear hS hF;replace ql:=ql.kept hB;replace pG:=pG.kept hB;replace tq:=tq.kept hB;replace jV:=jV.kept hB;replace hV:=hV.kept hB;replace hN:=hN.kept hB;replace hZ:=hZ.kept hB;replace aA:=aA.trans (hB.mono aA.size);have zT:=ak hbb;have HM:=ak hm;clear hB hq hr hc hsh hand hce hpl hbb hm MP Xw hBl d0 d1;go_upto_region 8 with(fail);have Xd:Hid (∀p w,p=(bb !=q)->Calls Tryz.prog 201 #[.agg (arr .i64 16 f7),.agg (arr .i64 16 f9),.bool p] w fun e w'=>e=.returned (.tuple #[.agg (arr .i64 16 (bD pq f7 f9)),.agg (arr .i64 16 (bD pq f9 f7))])/\Below w.heap.size w w'):=by
      rintro p w rfl;rw[HPQ.out];exact jG _ f7 f9 _ _ hR.out.1 hR.out.2.2.1 w
     go_wp2_with (first | (refine bN rfl 191 _ rfl .i64 x7 16 f7 cZ rfl bQ rfl ql ?_) | (refine bN rfl 191 _ rfl .i64 x9 16 f9 cZ rfl bQ rfl tq ?_));refine(Xd.out _ _ (by first | rfl | (rw[zT.out];cases q<;> rfl) | (cases q<;> cases bb<;> rfl))).mono ?_;rintro e wq0 ⟨rfl,hbq⟩;replace ql:=ql.kept hbq;replace tq:=tq.kept hbq;replace pG:=pG.kept hbq;replace jV:=jV.kept hbq;replace hV:=hV.kept hbq;replace hN:=hN.kept hbq;replace hZ:=hZ.kept hbq;replace aA:=aA.trans (hbq.mono aA.size);have s2:=tq.aG x7 aH (arr .i64 16 (bD pq f7 f9));clear Xd hbq;go_upto_region 9 with(first | (refine aM rfl 191 _ _ rfl .i64 x7 16 f7 (bD pq f7 f9) bQ rfl rfl ql ?_) | (refine aM rfl 191 _ _ rfl .i64 x9 16 f9 (bD pq f9 f7) bQ rfl rfl s2 ?_))
     refine aJ (fun wq=>aQ .i64 wq x7 16 (bD pq f7 f9)/\aQ .i64 wq x9 16 (bD pq f9 f7)/\aQ .i64 wq x8 16 f8/\aQ .i64 wq x10 16 f10/\aQ .i64 wq bu 16 fu/\aQ .u8 wq bn 32 (dg 256 N)/\aQ .u8 wq (w.heap.size+2) 32 (fun _=>0)/\Below w.heap.size w wq)
      ⟨(ql.setRow _ _).aG _ aH _,s2.setRow _ _,(pG.aG _ aH _).aG _ aH _,(jV.aG _ aH _).aG _ aH _,(hV.aG _ aH _).aG _ aH _,(hN.aG _ aH _).aG _ aH _,(hZ.aG _ aH _).aG _ aH _,aC (aC aA aH _) aH _⟩ ?_
     clear s2 ql tq pG jV hV hN hZ aA;rintro wq ⟨ql,tq,pG,jV,hV,hN,hZ,aA⟩
     try simp only[Act.put,dK,dL,dM]
     have Xc:Hid (∀p w,p=(bb !=q)->Calls Tryz.prog 201 #[.agg (arr .i64 16 f8),.agg (arr .i64 16 f10),.bool p] w fun e w'=>e=.returned (.tuple #[.agg (arr .i64 16 (bD pq f8 f10)),.agg (arr .i64 16 (bD pq f10 f8))])/\Below w.heap.size w w'):=by
      rintro p w rfl;rw[HPQ.out];exact jG _ f8 f10 _ _ hR.out.2.1 hR.out.2.2.2 w
     go_wp2_with (first | (refine bN rfl 191 _ rfl .i64 x8 16 f8 cZ rfl bQ rfl pG ?_) | (refine bN rfl 191 _ rfl .i64 x10 16 f10 cZ rfl bQ rfl jV ?_));refine(Xc.out _ _ (by first | rfl | (rw[zT.out];cases q<;> rfl) | (cases q<;> cases bb<;> rfl))).mono ?_;rintro e wp0 ⟨rfl,hbq⟩;replace pG:=pG.kept hbq;replace jV:=jV.kept hbq;replace ql:=ql.kept hbq;replace tq:=tq.kept hbq;replace hV:=hV.kept hbq;replace hN:=hN.kept hbq;replace hZ:=hZ.kept hbq;replace aA:=aA.trans (hbq.mono aA.size);have s2:=jV.aG x8 aH (arr .i64 16 (bD pq f8 f10));clear Xc hbq;go_upto_region 10 with(first | (refine aM rfl 191 _ _ rfl .i64 x8 16 f8 (bD pq f8 f10) bQ rfl rfl pG ?_) | (refine aM rfl 191 _ _ rfl .i64 x10 16 f10 (bD pq f10 f8) bQ rfl rfl s2 ?_))
     refine aJ (fun wp=>aQ .i64 wp x8 16 (bD pq f8 f10)/\aQ .i64 wp x10 16 (bD pq f10 f8)/\aQ .i64 wp x7 16 (bD pq f7 f9)/\aQ .i64 wp x9 16 (bD pq f9 f7)/\aQ .i64 wp bu 16 fu/\aQ .u8 wp bn 32 (dg 256 N)/\aQ .u8 wp (w.heap.size+2) 32 (fun _=>0)/\Below w.heap.size w wp)
      ⟨(pG.setRow _ _).aG _ aH _,s2.setRow _ _,(ql.aG _ aH _).aG _ aH _,(tq.aG _ aH _).aG _ aH _,(hV.aG _ aH _).aG _ aH _,(hN.aG _ aH _).aG _ aH _,(hZ.aG _ aH _).aG _ aH _,aC (aC aA aH _) aH _⟩ ?_
     clear s2 pG jV ql tq hV hN hZ aA;rintro wp ⟨pG,jV,ql,tq,hV,hN,hZ,aA⟩
     try simp only[Act.put,dK,dL,dM]
     replace hR:Hid (Fe4 (bD pq f7 f9) (bD pq f8 f10) (bD pq f9 f7) (bD pq f10 f8) ((Aa N UN k).flip bb)):=by have h:=hR.out.flip pq;rwa [show ((Aa N UN k).flip q).flip pq=(Aa N UN k).flip bb by rw[HPQ.out,Two.flip_flip]] at h
     obtain⟨g7,hg7⟩:∃g,g=bD pq f7 f9:=⟨_,rfl⟩
     obtain⟨g8,hg8⟩:∃g,g=bD pq f8 f10:=⟨_,rfl⟩
     obtain⟨g9,hg9⟩:∃g,g=bD pq f9 f7:=⟨_,rfl⟩
     obtain⟨g10,Vm⟩:∃g,g=bD pq f10 f8:=⟨_,rfl⟩
     rw[<-hg7] at ql hR;rw[<-hg8] at pG hR;rw[<-hg9] at tq hR;rw[<-Vm] at jV hR;clear hg7 hg8 hg9 Vm;have Sj:=ak (fun w=>MH g7 g8 g9 g10 fu _ _ _ _ _ hR.out.1 hR.out.2.1 hR.out.2.2.1 hR.out.2.2.2 HFU.out w);unfold El at Sj;go_wp2_with (first | (refine bN rfl 191 _ rfl .i64 x7 16 g7 cZ rfl bQ rfl ql ?_) | (refine bN rfl 191 _ rfl .i64 x8 16 g8 cZ rfl bQ rfl pG ?_) | (refine bN rfl 191 _ rfl .i64 x9 16 g9 cZ rfl bQ rfl tq ?_) | (refine bN rfl 191 _ rfl .i64 x10 16 g10 cZ rfl bQ rfl jV ?_) | (refine bN rfl 191 _ rfl .i64 bu 16 fu cZ rfl bQ rfl hV ?_));refine(Sj.out _).mono ?_;rintro e wc ⟨a,b,c,d,rfl,hF4,hbc⟩;replace ql:=ql.kept hbc;replace pG:=pG.kept hbc;replace tq:=tq.kept hbc;replace jV:=jV.kept hbc;replace hV:=hV.kept hbc;replace hN:=hN.kept hbc;replace hZ:=hZ.kept hbc;replace aA:=aA.trans (hbc.mono aA.size);clear Sj hbc;have s8:=pG.aG x7 aH (arr .i64 16 a);have s9:=(tq.aG x7 aH (arr .i64 16 a)).aG x8 aH (arr .i64 16 b);have s10:=((jV.aG x7 aH (arr .i64 16 a)).aG x8 aH (arr .i64 16 b)).aG x9 aH (arr .i64 16 c);have e7:=(((ql.setRow 16 a).aG x8 aH (arr .i64 16 b)).aG x9 aH (arr .i64 16 c)).aG x10 aH (arr .i64 16 d);have e8:=((s8.setRow 16 b).aG x9 aH (arr .i64 16 c)).aG x10 aH (arr .i64 16 d);have e9:=(s9.setRow 16 c).aG x10 aH (arr .i64 16 d);have e10:=s10.setRow 16 d;have hVe:=(((hV.aG x7 aH (arr .i64 16 a)).aG x8 aH (arr .i64 16 b)).aG x9 aH (arr .i64 16 c)).aG x10 aH (arr .i64 16 d);have hNe:=(((hN.aG x7 aH (arr .i64 16 a)).aG x8 aH (arr .i64 16 b)).aG x9 aH (arr .i64 16 c)).aG x10 aH (arr .i64 16 d);have hZe:=(((hZ.aG x7 aH (arr .i64 16 a)).aG x8 aH (arr .i64 16 b)).aG x9 aH (arr .i64 16 c)).aG x10 aH (arr .i64 16 d);have hbe:=aC (aC (aC (aC aA (by omega:w.heap.size<=x7) (arr .i64 16 a)) (by omega:w.heap.size<=x8) (arr .i64 16 b)) (by omega:w.heap.size<=x9) (arr .i64 16 c)) (by omega:w.heap.size<=x10) (arr .i64 16 d);have HA7:=ak ql;have S8:=ak s8;have S9:=ak s9;have S10:=ak s10;have gF:Aa N UN (k+1)=(Aa N UN k).rung UN (N / 2 ^ m % 2):=by rw[HM.out];rfl
     have hfl:=Two.Qc UN (N / 2 ^ m % 2) aH (Aa N UN k);rw[<-gF,←zT.out] at hfl;have HFL:Hid (Fe4 a b c d ((Aa N UN (k+1)).flip bb)):=by rw[<-hfl];exact hF4
     clear ql pG tq jV hV hN hZ aA s8 s9 s10 gF hfl hF4 hR ei;go_wp2_with (first | (refine aM rfl 191 _ _ rfl .i64 x7 16 g7 a bQ rfl rfl HA7.out ?_) | (refine aM rfl 191 _ _ rfl .i64 x8 16 g8 b bQ rfl rfl S8.out ?_) | (refine aM rfl 191 _ _ rfl .i64 x9 16 g9 c bQ rfl rfl S9.out ?_) | (refine aM rfl 191 _ _ rfl .i64 x10 16 g10 d bQ rfl rfl S10.out ?_));go_roundw
     case rel=>exact⟨k+1,bb,a,b,c,d,by have:=Xm.out;omega,congrArg (Value.int .i64) (by have:=XC.out;omega),rfl,HFL,⟨e7,e8,e9,e10⟩,⟨hVe,hNe,hZe⟩,hbe⟩
     case measure=>simp[intOf] <;> (have:=XC.out;omega)
abbrev mulN (S U:Int):Int:=yB (gV S) (U % 2 ^ 255) % Pr
theorem GL (S:Int) (w:World):
  Calls Tryz.prog 90 #[.agg (arr .u8 32 (dg 256 S))] w fun e w'=>e=.returned (.agg (arr .u8 32 (dg 256 (mulN S 9))))/\Below w.heap.size w w':=by
 have HM:=ak (fun w=>QF S 9 w);unfold mulN;obtain⟨X,hX⟩:∃X,X=yB (gV S) (9 % 2 ^ 255) % Pr:=⟨_,rfl⟩
 rw[<-hX] at HM ⊢;clear hX
 go_enter Tryz.func90,Tryz.ntmps90
 go_upto_region 1 with(fail);refine aJ (fun w1=>aQ .u8 w1 w.heap.size 32 (dg 256 S)/\aQ .u8 w1 (w.heap.size+1) 32 (fun _=>0)/\Below w.heap.size w w1) ⟨.alloc (bU rfl rfl) _,bU (by first | omega | (simp<;> omega)) (by rfl),((bT _ _).alloc (bB _) _).alloc (by first | omega | (simp<;> omega)) _⟩ ?_;rintro w1 ⟨hA,hZ,aA⟩
 refine dz (n:=6) (fun i=>i==3) aS aS aS aS rfl
  (fun ii vv _=>(match ii with | 0=>vv=.agg (arr .u8 32 (dg 256 S)) | 1=>vv=.agg (arr .u8 32 (dg 256 9)) | 2=>vv=.agg (arr .u8 32 (dg 256 X)) | _=>True))
  (fun w w'=>Below w.heap.size w w') (fun _ _ h=>h) (fun _ _ _ _ h _=>h)
  (fun _=>(w.heap.size+1)) (fun _=>(arr .u8 32 (fun _=>0))) (fun _=>(arr .u8 32 (dg 256 X)))
  (by intro i j _ _ dx kL gB;simp only[beq_iff_eq] at dx kL;omega)
  (by intro i _ dx;exact(hZ).row)
  ?_ ?_ ?_
 ·refine cB ?_;refine⟨?_,?_,?_,(aL),trivial⟩
  ·intro _ a w2 hB hF hd;exact aO <| aT (aF rfl dY rfl dh (hF.same 1 rfl) (hA.below hB hA.lt)) rfl
  ·intro _ a w2 hB hF hd;refine aO <| aD _ _ _ rfl Tryz.call142 _ mZ aR ((MI w2).mono ?_);rintro e w3 ⟨rfl,hb⟩;exact⟨_,rfl,rfl,hb⟩
  ·intro _ a w2 hB hF hd;refine aO <| aD _ _ _ rfl Tryz.call141 _ (args2 (hd 0 _ rfl rfl (aj rfl)) (hd 1 _ rfl rfl (aj rfl))) aR ((HM.out w2).mono ?_);rintro e w3 ⟨rfl,hb⟩;exact⟨_,rfl,rfl,hb⟩
 ·refine cB ?_;refine⟨(aL),(aL),(aL),?_,trivial⟩
  ·intro _ a w1 w2 K hB hF hS hr hK;exact bE 22 _ _ rfl .u8 ((w.heap.size+1)) 32 (fun _=>0) (dg 256 X) dh (hF.same 2 rfl) (hS 2 _ rfl rfl) hr hK
 ·intro a wf w3 hB hF hS hfil;have other:∀{k:IntKind} {qb n:Nat} {f:Nat->Int},qb≠(w.heap.size+1)->aQ k wf qb n f->aQ k w3 qb n f:=fun {k qb n f} e0 hA=>hfil.arr (by intro i _ dx;simp only[mP,beq_iff_eq] at dx;subst dx<;> ((try simp only[]);(try dsimp only);omega)) hA;have dI:∀{B:Nat} {w0:World},B<=(w.heap.size+1)->Below B w0 wf->Below B w0 w3:=fun {B w0} e0 hA=>hfil.below (by intro i _ dx;simp only[mP,beq_iff_eq] at dx;subst dx<;> ((try simp only[]);(try dsimp only);omega)) hA;have V3:aQ .u8 w3 ((w.heap.size+1)) 32 (dg 256 X):=hfil.at 3 aN rfl;have qh:=hfil.size;clear hfil;have ha:=aP rfl rfl hF [_,_,_,undef] rfl ⟨hS 0 _ rfl rfl,hS 1 _ rfl rfl,hS 2 _ rfl rfl,trivial,trivial⟩;simp only[puts,Act.put,dK,dL,dM] at ha;subst ha;clear hS hF;have hb:=dI aH (aA.trans (hB.mono aA.size));go_wp2;exact bodyPost_ret (bg rfl _ _ .u8 (w.heap.size+1) 32 _ 5 rfl V3 dY dh) rfl ⟨rfl,hb⟩
end Go.Proofs.YtpcjekgfnfjbpaaGreat
