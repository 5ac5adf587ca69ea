/- Part 45 of EscrowComes; conditions: in each theorem. -/
import Derived.Test.YtpcjekgfnfjbpaaGreatPkEC44
import Derived.Test.YtpcjekgfnfjbpaaGreatPkEC18
import Derived.WalkMore
set_option linter.unusedVariables false
set_option linter.unusedSimpArgs false
set_option maxRecDepth 100000
set_option maxHeartbeats 6400000
namespace Go.bI
open Go.RowKit
theorem Two.aht (p:Bool) (s:Two):(s.flip p).a=if p then s.c else s.a:=by cases p<;> rfl
theorem Two.ahs (p:Bool) (s:Two):(s.flip p).b=if p then s.d else s.b:=by cases p<;> rfl
theorem Two.ahr (p:Bool) (s:Two):(s.flip p).c=if p then s.a else s.c:=by cases p<;> rfl
theorem Two.ahq (p:Bool) (s:Two):(s.flip p).d=if p then s.b else s.d:=by cases p<;> rfl
theorem Two.flip_flip (p q:Bool) (s:Two):(s.flip q).flip (p !=q)=s.flip p:=by cases p<;> cases q<;> rfl
def Fe4 (f g h e:Nat->Int) (s:Two):Prop:=Fe f s.a/\Fe g s.b/\Fe h s.c/\Fe e s.d
theorem Fe4.flip {f g h e:Nat->Int} {s:Two} (p:Bool) (H:Fe4 f g h e s):Fe4 (bA p f h) (bA p g e) (bA p h f) (bA p e g) (s.flip p):=
 ⟨by rw[Two.aht];exact Bn H.1 H.2.2.1,by rw[Two.ahs];exact Bn H.2.1 H.2.2.2,by rw[Two.ahr];exact Bn H.2.2.1 H.1,by rw[Two.ahq];exact Bn H.2.2.2 H.2.1⟩
def qP (X:Int):Int:=if X=0 then 21 else 0
end Go.bI
namespace Go.Proofs.YtpcjekgfnfjbpaaGreat
open Go.RowKit Go.bI Go.ChangeShapes
attribute [local go_sem ↓] Go.wp_at_zero Go.wp_at_succ
theorem FM (S U:Int) (w:World):
  Calls Tryz.prog 141 #[.agg (arr .u8 32 (dg 256 S)),.agg (arr .u8 32 (dg 256 U))] w fun e w'=>e=.returned (.agg (arr .u8 32 (dg 256 (jI (fq S) (U % 2 ^ 255) % Pr))))/\Below w.heap.size w w':=by
 have uY:=ay (fun w=>zZ S w);have VU:=ay (fun w=>Me U w);have HFU:=ay (RG U);have Ng:Hid (∀w,Calls Tryz.prog 200 #[.int .i64 1] w fun e w'=>e=.returned (.agg (arr .i64 16 (aV 1)))/\Below w.heap.size w w'):=fun w=>fI 1 w;have HS0:Hid (∀w,Calls Tryz.prog 200 #[.int .i64 0] w fun e w'=>e=.returned (.agg (arr .i64 16 (aV 0)))/\Below w.heap.size w w'):=fun w=>fI 0 w;have HF1:Hid (Fe (aV 1) 1):=by have h:=oD 1;rwa [show sN 1=1 by decide] at h
 have HF0:Hid (Fe (aV 0) 0):=by have h:=oD 0;rwa [show sN 0=0 by decide] at h
 obtain⟨UN,hUN⟩:∃UN,UN=U % 2 ^ 255:=⟨_,rfl⟩
 rw[<-hUN] at HFU VU ⊢;obtain⟨N,hN⟩:∃N,N=fq S:=⟨_,rfl⟩
 rw[<-hN] at uY ⊢;unfold El at VU;obtain⟨fu,hfu⟩:∃fu,fu=dg 65536 UN:=⟨_,rfl⟩
 rw[<-hfu] at HFU VU;clear hUN hfu hN;obtain⟨g1,hg1⟩:∃g1,g1=aV 1:=⟨_,rfl⟩
 obtain⟨g0,hg0⟩:∃g0,g0=aV 0:=⟨_,rfl⟩
 rw[<-hg1] at Ng HF1;rw[<-hg0] at HS0 HF0;clear hg1 hg0
 go_enter Tryz.func141,Tryz.ntmps141
 go_upto_region 1 with(fail)
 refine aJ (fun w1=>aK .u8 w1 w.heap.size 32 (dg 256 S)/\aK .u8 w1 (w.heap.size+1) 32 (dg 256 U)/\aK .u8 w1 (w.heap.size+2) 32 (fun _=>0)/\Below w.heap.size w w1)
  ⟨.alloc (.alloc (cB rfl rfl) _) _,.alloc (cB dO rfl) _,cB dO (by rfl),(((bT _ _).alloc (bH _) _).alloc dO _).alloc dO _⟩ ?_
 rintro w1 ⟨hA,hP,hZ,aD⟩;refine wp_scope_straight ?_;go_wp2_with (refine aZ rfl 22 _ rfl .u8 w.heap.size 32 (dg 256 S) 5 iL fZ rfl hA ?_);refine(uY.out _).mono ?_;rintro e w2 ⟨rfl,fO⟩;have hP2:=hP.kept fO;have jG:=hZ.kept fO;have dV:=aD.trans (fO.mono aD.size);have hl2:=jG.lt;clear hA hP hZ aD fO;go_upto_region 2 with(refine aL rfl 22 _ _ rfl .u8 w2.heap.size 32 (fun _=>0) (dg 256 N) fZ rfl rfl (cB rfl (by rfl)) ?_)
 refine aJ (fun w3=>aK .u8 w3 w2.heap.size 32 (dg 256 N)/\aK .u8 w3 (w.heap.size+1) 32 (dg 256 U)/\aK .u8 w3 (w.heap.size+2) 32 (fun _=>0)/\Below w.heap.size w w3)
  ⟨(cB rfl (by rfl):aK .u8 _ _ 32 (fun _=>0)).setRow _ _,aK.aC (aK.alloc hP2 _) _ aH _,aK.aC (aK.alloc jG _) _ aH _,aB (dV.alloc dV.size _) dV.size _⟩ ?_
 rintro w3 ⟨hN,hP3,lZ,eU⟩;obtain⟨bn,hbn⟩:∃bn,bn=w2.heap.size:=⟨_,rfl⟩
 rw[<-hbn] at hN hl2 ⊢;clear hbn hP2 jG dV
 try simp only[Act.put,fB,fD,fF]
 go_wp2_with (refine aZ rfl 22 _ rfl .u8 (w.heap.size+1) 32 (dg 256 U) 5 iL fZ rfl hP3 ?_);refine(VU.out _).mono ?_;rintro e w4 ⟨rfl,jF⟩;have hN4:=hN.kept jF;have qX:=lZ.kept jF;have fU:=eU.trans (jF.mono eU.size);have hl4:=hN4.lt;clear hN hP3 lZ eU jF;go_upto_region 3 with(refine aL rfl 191 _ _ rfl .i64 w4.heap.size 16 (fun _=>0) fu bP rfl rfl (cB rfl (by rfl)) ?_)
 refine aJ (fun w5=>aK .i64 w5 w4.heap.size 16 fu/\aK .u8 w5 bn 32 (dg 256 N)/\aK .u8 w5 (w.heap.size+2) 32 (fun _=>0)/\Below w.heap.size w w5)
  ⟨(cB rfl (by rfl):aK .i64 _ _ 16 (fun _=>0)).setRow _ _,aK.aC (aK.alloc hN4 _) _ aH _,aK.aC (aK.alloc qX _) _ aH _,aB (fU.alloc fU.size _) fU.size _⟩ ?_
 rintro w5 ⟨hV,hN5,qF,gQ⟩;obtain⟨bu,hbu⟩:∃bu,bu=w4.heap.size:=⟨_,rfl⟩
 rw[<-hbu] at hV hl4 ⊢;clear hbu hN4 qX fU
 try simp only[Act.put,fB,fD,fF]
 have hlu:=hV.lt
 refine bN (n:=77) aQ aQ aQ rfl
  (ku [(8,4),(9,5),(10,6),(11,7)]) (gH [(8,4),(9,5),(10,6),(11,7)]) (fun _=>arr .i64 16 (fun _=>0)) (fun i=>match i with | 4=>(arr .i64 16 (g1)) | 5=>(arr .i64 16 (g0)) | 6=>(arr .i64 16 (fu)) | 7=>(arr .i64 16 (g1)) | _=> #[]) (fun _=>191) (fun i=>match i with | 4=>7 | 5=>8 | 6=>9 | 7=>10 | _=>0)
  (fun ii vv _=>(match ii with | 0 | 3=>vv=.agg (arr .i64 16 (g1)) | 1=>vv=.agg (arr .i64 16 (g0)) | 2=>vv=.agg (arr .i64 16 (fu)) | _=>True)) (fun _ _=>True) (fun _ _ _=>trivial) (fun _ _ _ _ _ _ _=>trivial) (fun _ _ _ _ h _=>h)
  (iJ rfl) (fT rfl) ?_ ?_ ?_ ?_
 ·refine dG ?_;refine⟨?_,?_,?_,?_,(fun h=>by cases h),(fun h=>by cases h),(fun h=>by cases h),(fun h=>by cases h),(fun _ h=>by cases h),(fun _ h=>by cases h),(fun _ h=>by cases h),(fun _ h=>by cases h),trivial⟩
  ·intro _ _ a w2 hB hF hd;refine aN <| aI _ _ _ rfl Tryz.call200 _ (args1 rfl) aR ((Ng.out w2).mono ?_);rintro e w3 ⟨rfl,hb⟩;exact⟨_,rfl,rfl,hb⟩
  ·intro _ _ a w2 hB hF hd;refine aN <| aI _ _ _ rfl Tryz.call200 _ (args1 rfl) aR ((HS0.out w2).mono ?_);rintro e w3 ⟨rfl,hb⟩;exact⟨_,rfl,rfl,hb⟩
  ·intro _ _ a w2 hB hF hd;exact aN <| aW (aF rfl dB rfl bP (hF.same 6 rfl) (hV.below hB hV.lt)) rfl
  ·intro _ _ a w2 hB hF hd;refine aN <| aI _ _ _ rfl Tryz.call200 _ (args1 rfl) aR ((Ng.out w2).mono ?_);rintro e w3 ⟨rfl,hb⟩;exact⟨_,rfl,rfl,hb⟩
 ·refine dG ?_;refine⟨(fun h=>by cases h),(fun h=>by cases h),(fun h=>by cases h),(fun h=>by cases h),?_,?_,?_,?_,(fun h=>by cases h),(fun h=>by cases h),(fun h=>by cases h),(fun h=>by cases h),trivial⟩
  ·exact fun _=>⟨rfl,rfl,fun a w2 K h=>bD rfl rfl Tryz.zeroValue191 aR h⟩
  ·exact fun _=>⟨rfl,rfl,fun a w2 K h=>bD rfl rfl Tryz.zeroValue191 aR h⟩
  ·exact fun _=>⟨rfl,rfl,fun a w2 K h=>bD rfl rfl Tryz.zeroValue191 aR h⟩
  ·exact fun _=>⟨rfl,rfl,fun a w2 K h=>bD rfl rfl Tryz.zeroValue191 aR h⟩
 ·refine dG ?_;refine⟨(fun _ h=>by cases h),(fun _ h=>by cases h),(fun _ h=>by cases h),(fun _ h=>by cases h),(fun _ h=>by cases h),(fun _ h=>by cases h),(fun _ h=>by cases h),(fun _ h=>by cases h),?_,?_,?_,?_,trivial⟩
  ·intro p hp;obtain rfl:4=p:=gJ hp;exact⟨rfl,rfl,⟨_,rfl⟩,aj rfl,fun a w2 b K hB hF hd hx hb h=>bQ rfl rfl bP hx (hd 0 _ rfl rfl rfl (aj rfl)) hb h⟩
  ·intro p hp;obtain rfl:5=p:=gJ hp;exact⟨rfl,rfl,⟨_,rfl⟩,aj rfl,fun a w2 b K hB hF hd hx hb h=>bQ rfl rfl bP hx (hd 1 _ rfl rfl rfl (aj rfl)) hb h⟩
  ·intro p hp;obtain rfl:6=p:=gJ hp;exact⟨rfl,rfl,⟨_,rfl⟩,aj rfl,fun a w2 b K hB hF hd hx hb h=>bQ rfl rfl bP hx (hd 2 _ rfl rfl rfl (aj rfl)) hb h⟩
  ·intro p hp;obtain rfl:7=p:=gJ hp;exact⟨rfl,rfl,⟨_,rfl⟩,aj rfl,fun a w2 b K hB hF hd hx hb h=>bQ rfl rfl bP hx (hd 3 _ rfl rfl rfl (aj rfl)) hb h⟩
 ·intro a w6 blk hB hF hS hv hfin dS;obtain⟨v4,Wt,v4u⟩:=hv 4 _ rfl rfl;obtain⟨v5,Jt,v5u⟩:=hv 5 _ rfl rfl;obtain⟨v6,QA,v6u⟩:=hv 6 _ rfl rfl;obtain⟨v7,Gu,v7u⟩:=hv 7 _ rfl rfl;have ha:=aO rfl rfl hF [_,_,_,_,_,_,_,_,undef,undef,undef,undef] rfl ⟨hS 0 _ rfl rfl rfl,hS 1 _ rfl rfl rfl,hS 2 _ rfl rfl rfl,hS 3 _ rfl rfl rfl,v4,v5,v6,v7,trivial,trivial,trivial,trivial,trivial⟩;have f4:=hfin 8 _ 4 rfl rfl;have f5:=hfin 9 _ 5 rfl rfl;have f6:=hfin 10 _ 6 rfl rfl;have f7:=hfin 11 _ 7 rfl rfl;have ahE:=dS 4 5 _ _ rfl rfl rfl rfl aM;have alE:=dS 4 6 _ _ rfl rfl rfl rfl aM;have alD:=dS 4 7 _ _ rfl rfl rfl rfl aM;have alC:=dS 5 6 _ _ rfl rfl rfl rfl aM;have alB:=dS 5 7 _ _ rfl rfl rfl rfl aM;have ZC:=dS 6 7 _ _ rfl rfl rfl rfl aM;simp only[puts,Act.put,fB,fD,fF] at ha;subst ha;have V4:aK .i64 w6 (blk 4) 16 (g1):=⟨_,f4⟩
  have V5:aK .i64 w6 (blk 5) 16 (g0):=⟨_,f5⟩
  have V6:aK .i64 w6 (blk 6) 16 (fu):=⟨_,f6⟩
  have V7:aK .i64 w6 (blk 7) 16 (g1):=⟨_,f7⟩
  clear hS hv hfin dS hF v4 v5 v6 v7 f4 f5 f6 f7;have hV6:=hV.kept hB;have hN6:=hN5.kept hB;have zm:=qF.kept hB;have jR:=gQ.trans (hB.mono gQ.size);clear hV hN5 qF gQ hB;obtain⟨x7,e7⟩:∃x,x=blk 4:=⟨_,rfl⟩
  obtain⟨x8,e8⟩:∃x,x=blk 5:=⟨_,rfl⟩
  obtain⟨x9,e9⟩:∃x,x=blk 6:=⟨_,rfl⟩
  obtain⟨x10,e10⟩:∃x,x=blk 7:=⟨_,rfl⟩
  rw[<-e7] at V4 ahE alE alD Wt ⊢;rw[<-e8] at V5 ahE alC alB Jt ⊢;rw[<-e9] at V6 alE alC ZC QA ⊢;rw[<-e10] at V7 alD alB ZC Gu ⊢;clear e7 e8 e9 e10;have l7:bu<x7:=by omega
  have l8:bu<x8:=by omega
  have l9:bu<x9:=by omega
  have l10:bu<x10:=by omega
  clear Wt Jt QA Gu v4u v5u v6u v7u hlu;have RZ:Hid (Fe4 g1 g0 fu g1 ((uZ N UN 0).flip false)):=⟨HF1.out,HF0.out,HFU.out,HF1.out⟩
  go_wp2;refine wp_label ?_;go_wp2
  go_loopw [11,12] (fun sw i wr=> ∃(k:Nat) (q:Bool) (f7 f8 f9 f10:Nat->Int),k<=255/\i=.int .i64 (254 - (k:Int))/\sw=.bool q/\Hid (Fe4 f7 f8 f9 f10 ((uZ N UN k).flip q))/\(aK .i64 wr x7 16 f7/\aK .i64 wr x8 16 f8/\aK .i64 wr x9 16 f9/\aK .i64 wr x10 16 f10)/\(aK .i64 wr bu 16 fu/\aK .u8 wr bn 32 (dg 256 N)/\aK .u8 wr (w.heap.size+2) 32 (fun _=>0))/\Below w.heap.size w wr) (fun _ i _=>(intOf i+1).toNat)
  case atStart=>exact⟨0,false,_,_,_,_,jm _,rfl,rfl,RZ,⟨V4,V5,V6,V7⟩,⟨hV6,hN6,zm⟩,jR⟩
  case round=>
   clear V4 V5 V6 V7 hV6 hN6 zm jR RZ;obtain⟨k,q,f7,f8,f9,f10,hk,rfl,rfl,hR,⟨qV,pU,tT,kG⟩,⟨hV,hN,hZ⟩,aD⟩:=hrel
   rename_i wr
   obtain rfl | hlt:=(by omega:k=255\/k<255)
   ·have ei:(254:Int) - ((255:Nat):Int)= -1:=by decide
    rw[ei];clear ei;go_upto_region 7 with(fail)
    refine bC (n:=77) aQ aQ aQ rfl
     (fun ii vv _=>(match ii with | 0=>vv=.int .i64 (-1) | 1 | 2 | 15 | 16=>vv=.bool false | 3 | 4 | 5 | 6 | 7 | 8 | 9 | 10 | 11 | 12 | 13 | 14=>vv=undef | _=>True))
     (fun w w'=>Below w.heap.size w w') (fun _ _ h=>h) (fun _ _ _ _ h _=>h) ?_ ?_
    ·refine dG ?_;refine⟨?_,?_,?_,?_,?_,?_,?_,?_,?_,?_,?_,?_,?_,?_,?_,?_,?_,trivial⟩
     ·intro a w2 hB hF hd;exact aN <| aG _ (.inl rfl) aR (hF.same 12 rfl)
     ·intro a w2 hB hF hd;exact aN <| aW (Go.bI.QL rfl (hd 0 _ rfl (aj rfl)) rfl) (congrArg Value.bool aM)
     ·intro a w2 hB hF hd;exact aN <| aG _ (.inl rfl) aR (hd 1 _ rfl (aj rfl))
     ·intro a w2 hB hF hd;rw[if_neg (by rw[dz rfl rfl (hd 2 _ rfl (aj rfl))];decide)];exact rfl
     ·intro a w2 hB hF hd;rw[if_neg (by rw[dz rfl rfl (hd 2 _ rfl (aj rfl))];decide)];exact rfl
     ·intro a w2 hB hF hd;rw[if_neg (by rw[dz rfl rfl (hd 2 _ rfl (aj rfl))];decide)];exact rfl
     ·intro a w2 hB hF hd;rw[if_neg (by rw[dz rfl rfl (hd 2 _ rfl (aj rfl))];decide)];exact rfl
     ·intro a w2 hB hF hd;rw[if_neg (by rw[dz rfl rfl (hd 2 _ rfl (aj rfl))];decide)];exact rfl
     ·intro a w2 hB hF hd;rw[if_neg (by rw[dz rfl rfl (hd 2 _ rfl (aj rfl))];decide)];exact rfl
     ·intro a w2 hB hF hd;rw[if_neg (by rw[dz rfl rfl (hd 2 _ rfl (aj rfl))];decide)];exact rfl
     ·intro a w2 hB hF hd;rw[if_neg (by rw[dz rfl rfl (hd 2 _ rfl (aj rfl))];decide)];exact rfl
     ·intro a w2 hB hF hd;rw[if_neg (by rw[dz rfl rfl (hd 2 _ rfl (aj rfl))];decide)];exact rfl
     ·intro a w2 hB hF hd;rw[if_neg (by rw[dz rfl rfl (hd 2 _ rfl (aj rfl))];decide)];exact rfl
     ·intro a w2 hB hF hd;rw[if_neg (by rw[dz rfl rfl (hd 2 _ rfl (aj rfl))];decide)];exact rfl
     ·intro a w2 hB hF hd;rw[if_neg (by rw[dz rfl rfl (hd 2 _ rfl (aj rfl))];decide)];exact rfl
     ·intro a w2 hB hF hd;exact aN <| aW (jN rfl (hd 2 _ rfl (aj rfl))) (rfl)
     ·intro a w2 hB hF hd;exact aN <| aG _ (.inr rfl) aR (hd 15 _ rfl (aj rfl))
    ·intro a w7 hB hF hS;have ha:=aO rfl rfl hF [_,_,_,_,_,_,_,_,_,_,_,_,_,_,_,_,_] rfl ⟨hS 0 _ rfl,hS 1 _ rfl,hS 2 _ rfl,hS 3 _ rfl,hS 4 _ rfl,hS 5 _ rfl,hS 6 _ rfl,hS 7 _ rfl,hS 8 _ rfl,hS 9 _ rfl,hS 10 _ rfl,hS 11 _ rfl,hS 12 _ rfl,hS 13 _ rfl,hS 14 _ rfl,hS 15 _ rfl,hS 16 _ rfl,trivial⟩;simp only[puts,Act.put,fB,fD,fF] at ha;subst ha;clear hS hF;replace qV:=qV.kept hB;replace pU:=pU.kept hB;replace tT:=tT.kept hB;replace kG:=kG.kept hB;replace hV:=hV.kept hB;replace hN:=hN.kept hB;replace hZ:=hZ.kept hB;replace aD:=aD.trans (hB.mono aD.size);clear hB;obtain⟨bb,hbb⟩:∃bb:Bool,bb=false:=⟨_,rfl⟩
     obtain⟨pq,hpq⟩:∃pq,pq=(bb !=q):=⟨_,rfl⟩
     have HPQ:=ay hpq;clear hpq;have yJ:=ay hbb;clear hbb;go_upto_region 8 with(fail);have aax:Hid (∀p w,p=(bb !=q)->Calls Tryz.prog 201 #[.agg (arr .i64 16 f7),.agg (arr .i64 16 f9),.bool p] w fun e w'=>e=.returned (.tuple #[.agg (arr .i64 16 (bA pq f7 f9)),.agg (arr .i64 16 (bA pq f9 f7))])/\Below w.heap.size w w'):=by
      rintro p w rfl;rw[HPQ.out];exact jT _ f7 f9 _ _ hR.out.1 hR.out.2.2.1 w
     go_wp2_with (first | (refine bJ rfl 191 _ rfl .i64 x7 16 f7 dB rfl bP rfl qV ?_) | (refine bJ rfl 191 _ rfl .i64 x9 16 f9 dB rfl bP rfl tT ?_));refine(aax.out _ _ (by first | rfl | (rw[yJ.out];cases q<;> rfl) | (cases q<;> cases bb<;> rfl))).mono ?_;rintro e wq0 ⟨rfl,hbq⟩;replace qV:=qV.kept hbq;replace tT:=tT.kept hbq;replace pU:=pU.kept hbq;replace kG:=kG.kept hbq;replace hV:=hV.kept hbq;replace hN:=hN.kept hbq;replace hZ:=hZ.kept hbq;replace aD:=aD.trans (hbq.mono aD.size);have s2:=tT.aC x7 aH (arr .i64 16 (bA pq f7 f9));clear aax hbq;go_upto_region 9 with(first | (refine aL rfl 191 _ _ rfl .i64 x7 16 f7 (bA pq f7 f9) bP rfl rfl qV ?_) | (refine aL rfl 191 _ _ rfl .i64 x9 16 f9 (bA pq f9 f7) bP rfl rfl s2 ?_))
     refine aJ (fun wq=>aK .i64 wq x7 16 (bA pq f7 f9)/\aK .i64 wq x9 16 (bA pq f9 f7)/\aK .i64 wq x8 16 f8/\aK .i64 wq x10 16 f10/\aK .i64 wq bu 16 fu/\aK .u8 wq bn 32 (dg 256 N)/\aK .u8 wq (w.heap.size+2) 32 (fun _=>0)/\Below w.heap.size w wq)
      ⟨(qV.setRow _ _).aC _ aH _,s2.setRow _ _,(pU.aC _ aH _).aC _ aH _,(kG.aC _ aH _).aC _ aH _,(hV.aC _ aH _).aC _ aH _,(hN.aC _ aH _).aC _ aH _,(hZ.aC _ aH _).aC _ aH _,aB (aB aD aH _) aH _⟩ ?_
     clear s2 qV tT pU kG hV hN hZ aD;rintro wq ⟨qV,tT,pU,kG,hV,hN,hZ,aD⟩
     try simp only[Act.put,fB,fD,fF]
     have aaw:Hid (∀p w,p=(bb !=q)->Calls Tryz.prog 201 #[.agg (arr .i64 16 f8),.agg (arr .i64 16 f10),.bool p] w fun e w'=>e=.returned (.tuple #[.agg (arr .i64 16 (bA pq f8 f10)),.agg (arr .i64 16 (bA pq f10 f8))])/\Below w.heap.size w w'):=by
      rintro p w rfl;rw[HPQ.out];exact jT _ f8 f10 _ _ hR.out.2.1 hR.out.2.2.2 w
     go_wp2_with (first | (refine bJ rfl 191 _ rfl .i64 x8 16 f8 dB rfl bP rfl pU ?_) | (refine bJ rfl 191 _ rfl .i64 x10 16 f10 dB rfl bP rfl kG ?_));refine(aaw.out _ _ (by first | rfl | (rw[yJ.out];cases q<;> rfl) | (cases q<;> cases bb<;> rfl))).mono ?_;rintro e wp0 ⟨rfl,hbq⟩;replace pU:=pU.kept hbq;replace kG:=kG.kept hbq;replace qV:=qV.kept hbq;replace tT:=tT.kept hbq;replace hV:=hV.kept hbq;replace hN:=hN.kept hbq;replace hZ:=hZ.kept hbq;replace aD:=aD.trans (hbq.mono aD.size);have s2:=kG.aC x8 aH (arr .i64 16 (bA pq f8 f10));clear aaw hbq;go_upto_region 10 with(first | (refine aL rfl 191 _ _ rfl .i64 x8 16 f8 (bA pq f8 f10) bP rfl rfl pU ?_) | (refine aL rfl 191 _ _ rfl .i64 x10 16 f10 (bA pq f10 f8) bP rfl rfl s2 ?_))
     refine aJ (fun wp=>aK .i64 wp x8 16 (bA pq f8 f10)/\aK .i64 wp x10 16 (bA pq f10 f8)/\aK .i64 wp x7 16 (bA pq f7 f9)/\aK .i64 wp x9 16 (bA pq f9 f7)/\aK .i64 wp bu 16 fu/\aK .u8 wp bn 32 (dg 256 N)/\aK .u8 wp (w.heap.size+2) 32 (fun _=>0)/\Below w.heap.size w wp)
      ⟨(pU.setRow _ _).aC _ aH _,s2.setRow _ _,(qV.aC _ aH _).aC _ aH _,(tT.aC _ aH _).aC _ aH _,(hV.aC _ aH _).aC _ aH _,(hN.aC _ aH _).aC _ aH _,(hZ.aC _ aH _).aC _ aH _,aB (aB aD aH _) aH _⟩ ?_
     clear s2 pU kG qV tT hV hN hZ aD;rintro wp ⟨pU,kG,qV,tT,hV,hN,hZ,aD⟩
     try simp only[Act.put,fB,fD,fF]
     replace hR:Hid (Fe4 (bA pq f7 f9) (bA pq f8 f10) (bA pq f9 f7) (bA pq f10 f8) ((uZ N UN 255).flip bb)):=by have h:=hR.out.flip pq;rwa [show ((uZ N UN 255).flip q).flip pq=(uZ N UN 255).flip bb by rw[HPQ.out,Two.flip_flip]] at h
     obtain⟨g7,hg7⟩:∃g,g=bA pq f7 f9:=⟨_,rfl⟩
     obtain⟨g8,hg8⟩:∃g,g=bA pq f8 f10:=⟨_,rfl⟩
     obtain⟨g9,hg9⟩:∃g,g=bA pq f9 f7:=⟨_,rfl⟩
     obtain⟨g10,YJ⟩:∃g,g=bA pq f10 f8:=⟨_,rfl⟩
     rw[<-hg7] at qV hR;rw[<-hg8] at pU hR;rw[<-hg9] at tT hR;rw[<-YJ] at kG hR;clear hg7 hg8 hg9 YJ;have HBY:Hid (∀w,Calls Tryz.prog 205 #[El (aS g7 (kC g8))] w fun e w'=>e=.returned (.agg (arr .u8 32 (dg 256 (jI N UN % Pr))))/\Below w.heap.size w w'):=fun w=>by
      have hr:=hR.out;rw[yJ.out] at hr;exact nD _ (jI N UN) (hr.1.aS (kR hr.2.1)) w
     go_upto_region 13 with(fail)
     refine dJ (n:=77) (fun i=>i==5) aQ aQ aQ aQ rfl
      (fun ii vv _=>(match ii with | 0=>vv=.agg (arr .i64 16 (g7)) | 1=>vv=.agg (arr .i64 16 (g8)) | 2=>vv=.agg (arr .i64 16 (kC g8)) | 3=>vv=.agg (arr .i64 16 (aS g7 (kC g8))) | 4=>vv=.agg (arr .u8 32 (dg 256 (jI N UN % Pr))) | _=>True))
      (fun w w'=>Below w.heap.size w w') (fun _ _ h=>h) (fun _ _ _ _ h _=>h)
      (fun _=>(w.heap.size+2)) (fun _=>(arr .u8 32 (fun _=>0))) (fun _=>(arr .u8 32 (dg 256 (jI N UN % Pr))))
      (by intro i j _ _ dD jJ gW;simp only[beq_iff_eq] at dD jJ;omega)
      (by intro i _ dD;exact(hZ).row)
      ?_ ?_ ?_
     ·refine dG ?_;refine⟨?_,?_,?_,?_,?_,(aP),trivial⟩
      ·intro _ a w2 hB hF hd;exact aN <| aW (aF rfl dB rfl bP (hF.same 7 rfl) (qV.below hB qV.lt)) rfl
      ·intro _ a w2 hB hF hd;exact aN <| aW (aF rfl dB rfl bP (hF.same 8 rfl) (pU.below hB pU.lt)) rfl
      ·intro _ a w2 hB hF hd;refine aN <| aI _ _ _ rfl Tryz.call204 _ (args1 (hd 1 _ rfl rfl (aj rfl))) aR ((kL g8 _ hR.out.2.1 w2).mono ?_);rintro e w3 ⟨rfl,hb⟩;exact⟨_,rfl,rfl,hb⟩
      ·intro _ a w2 hB hF hd;refine aN <| aI _ _ _ rfl Tryz.call203 _ (args2 (hd 0 _ rfl rfl (aj rfl)) (hd 2 _ rfl rfl (aj rfl))) aR ((bZ _ _ _ _ hR.out.1 (kR hR.out.2.1) w2).mono ?_);rintro e w3 ⟨rfl,hb⟩;exact⟨_,rfl,rfl,hb⟩
      ·intro _ a w2 hB hF hd;refine aN <| aI _ _ _ rfl Tryz.call205 _ (args1 (hd 3 _ rfl rfl (aj rfl))) aR ((HBY.out w2).mono ?_);rintro e w3 ⟨rfl,hb⟩;exact⟨_,rfl,rfl,hb⟩
     ·refine dG ?_;refine⟨(aP),(aP),(aP),(aP),(aP),?_,trivial⟩
      ·intro _ a w1 w2 K hB hF hS hr hK;exact bG 22 _ _ rfl .u8 ((w.heap.size+2)) 32 (fun _=>0) (dg 256 (jI N UN % Pr)) fZ (hF.same 4 rfl) (hS 4 _ rfl rfl) hr hK
     ·intro a wf w9 hB hF hS hfil;have other:∀{k:IntKind} {qb n:Nat} {f:Nat->Int},qb≠(w.heap.size+2)->aK k wf qb n f->aK k w9 qb n f:=fun {k qb n f} e0 hA=>hfil.arr (by intro i _ dD;simp only[kZ,beq_iff_eq] at dD;subst dD<;> ((try simp only[]);(try dsimp only);omega)) hA;have dU:∀{B:Nat} {w0:World},B<=(w.heap.size+2)->Below B w0 wf->Below B w0 w9:=fun {B w0} e0 hA=>hfil.below (by intro i _ dD;simp only[kZ,beq_iff_eq] at dD;subst dD<;> ((try simp only[]);(try dsimp only);omega)) hA;have V5:aK .u8 w9 ((w.heap.size+2)) 32 (dg 256 (jI N UN % Pr)):=hfil.at 5 aM rfl;have tO:=hfil.size;clear hfil;have ha:=aO rfl rfl hF [_,_,_,_,_,undef] rfl ⟨hS 0 _ rfl rfl,hS 1 _ rfl rfl,hS 2 _ rfl rfl,hS 3 _ rfl rfl,hS 4 _ rfl rfl,trivial,trivial⟩;simp only[puts,Act.put,fB,fD,fF] at ha;subst ha;clear hS hF;have hb:=dU aH (aD.trans (hB.mono aD.size));go_wp2;rw[Exit.noGoto_ret];exact bodyPost_ret (bV rfl _ _ .u8 (w.heap.size+2) 32 _ 5 rfl V5 iL fZ) rfl ⟨rfl,hb⟩
   ·obtain⟨m,hm⟩:∃m,m=254 - k:=⟨_,rfl⟩
    have ei:(254:Int) - (k:Int)=(m:Int):=by omega
    have HKM:Hid ((m:Int)=254 - (k:Int)):=ei.symm;have HKL:=ay hlt;have akC:m<=254:=by omega
    rw[ei];have hm9:m % 8<8:=Nat.mod_lt _ aM;have hq:IntKind.i64.wrap (Int.tdiv (m:Int) 8)=((m / 8:Nat):Int):=by rw[Zqg aH,jq] <;> omega
    have hr:Int.tmod (m:Int) 8=((m % 8:Nat):Int):=by rw[Int.tmod_eq_emod_of_nonneg aH];omega
    have hc:IntKind.u64.wrap ((m % 8:Nat):Int)=((m % 8:Nat):Int):=sG aH aH;obtain⟨d0,d1⟩:=bR (by decide:(0:Int)<256) N (m / 8);have hsh:=Dr (x:=dg 256 N (m / 8)) (m % 8) hm9;have hand:bits .and .u8 (dg 256 N (m / 8) / 2 ^ (m % 8)) 1=N / 2 ^ m % 2:=by
     rw[yE (Int.ediv_nonneg d0 (EM (iH aM _))) (Int.lt_of_le_of_lt (Int.ediv_le_self _ d0) d1),Qd N m]
    have hpl:((m / 8:Nat):Int).toNat=m / 8:=MZ _;have hm8:m / 8<32:=by omega
    have hce:=hN.cell (m / 8) hm8;have hBl:=hN.lt;obtain⟨bb,hbb⟩:∃bb,bb=(N / 2 ^ m % 2==1):=⟨_,rfl⟩
    obtain⟨pq,hpq⟩:∃pq,pq=(bb !=q):=⟨_,rfl⟩
    have HPQ:=ay hpq;clear hpq;go_upto_region 7 with(fail)
    refine bC (n:=77) aQ aQ aQ rfl
     (fun ii vv _=>(match ii with | 0 | 3 | 4 | 8 | 9=>vv=.int .i64 ((m:Int)) | 1 | 2=>vv=.bool true | 5=>vv=.int .i64 ((m / 8:Nat)) | 6=>vv=.pointer (some ⟨bn,(m / 8),none⟩) | 7=>vv=.int .u8 (dg 256 N (m / 8)) | 10=>vv=.int .i64 ((m % 8:Nat)) | 11=>vv=.int .u64 ((m % 8:Nat)) | 12=>vv=.int .u8 (dg 256 N (m / 8) / 2 ^ (m % 8)) | 13=>vv=.int .u8 (N / 2 ^ m % 2) | 14 | 15 | 16=>vv=.bool bb | _=>True))
     (fun w w'=>Below w.heap.size w w') (fun _ _ h=>h) (fun _ _ _ _ h _=>h) ?_ ?_
    ·refine dG ?_;refine⟨?_,?_,?_,?_,?_,?_,?_,?_,?_,?_,?_,?_,?_,?_,?_,?_,?_,trivial⟩
     ·intro a w2 hB hF hd;exact aN <| aG _ (.inl rfl) aR (hF.same 12 rfl)
     ·intro a w2 hB hF hd;exact aN <| aW (Go.bI.QL rfl (hd 0 _ rfl (aj rfl)) rfl) (congrArg Value.bool (decide_eq_true aH))
     ·intro a w2 hB hF hd;exact aN <| aG _ (.inl rfl) aR (hd 1 _ rfl (aj rfl))
     ·intro a w2 hB hF hd;refine aT (aX rfl rfl (hd 2 _ rfl (aj rfl)) rfl) ?_;exact aG _ (.inl rfl) aR (hF.same 12 rfl)
     ·intro a w2 hB hF hd;refine aT (aX rfl rfl (hd 2 _ rfl (aj rfl)) rfl) ?_;exact aW (Ko rfl (hd 3 _ rfl (aj rfl)) rfl aH) rfl
     ·intro a w2 hB hF hd;refine aT (aX rfl rfl (hd 2 _ rfl (aj rfl)) rfl) ?_;exact aW (Go.bI.GU rfl (hd 4 _ rfl (aj rfl)) rfl aM) (congrArg (Value.int .i64) (hq))
     ·intro a w2 hB hF hd;refine aT (aX rfl rfl (hd 2 _ rfl (aj rfl)) rfl) ?_;exact aW (aU rfl (hF.same 5 rfl) (hd 5 _ rfl (aj rfl)) iL aQ aH aH) (congrArg (fun z=>Value.pointer (some ⟨bn,z,none⟩)) hpl)
     ·intro a w2 hB hF hd;refine aT (aX rfl rfl (hd 2 _ rfl (aj rfl)) rfl) ?_;exact aW (bg rfl (hd 6 _ rfl (aj rfl)) Tryz.underlying5 ((hB.cell (p:=⟨bn,m / 8,none⟩) hBl).trans hce)) rfl
     ·intro a w2 hB hF hd;refine aT (aX rfl rfl (hd 2 _ rfl (aj rfl)) rfl) ?_;exact aG _ (.inl rfl) aR (hF.same 12 rfl)
     ·intro a w2 hB hF hd;refine aT (aX rfl rfl (hd 2 _ rfl (aj rfl)) rfl) ?_;exact aW (Ko rfl (hd 8 _ rfl (aj rfl)) rfl aH) rfl
     ·intro a w2 hB hF hd;refine aT (aX rfl rfl (hd 2 _ rfl (aj rfl)) rfl) ?_;exact aW (Go.bI.xA rfl (hd 9 _ rfl (aj rfl)) rfl aM) (congrArg (Value.int .i64) (hr))
     ·intro a w2 hB hF hd;refine aT (aX rfl rfl (hd 2 _ rfl (aj rfl)) rfl) ?_;exact aW (sV rfl (hd 10 _ rfl (aj rfl)) Tryz.underlying3 Tryz.underlying212) (congrArg (Value.int .u64) (hc))
     ·intro a w2 hB hF hd;refine aT (aX rfl rfl (hd 2 _ rfl (aj rfl)) rfl) ?_;exact aW (Go.bI.uH rfl (hd 7 _ rfl (aj rfl)) (hd 11 _ rfl (aj rfl)) aH) (congrArg (Value.int .u8) (hsh))
     ·intro a w2 hB hF hd;refine aT (aX rfl rfl (hd 2 _ rfl (aj rfl)) rfl) ?_;exact aW (Go.bI.nT rfl (hd 12 _ rfl (aj rfl)) rfl) (congrArg (Value.int .u8) (hand))
     ·intro a w2 hB hF hd;refine aT (aX rfl rfl (hd 2 _ rfl (aj rfl)) rfl) ?_;refine aW (Go.bI.mZ rfl (hd 13 _ rfl (aj rfl)) rfl) ?_;exact congrArg Value.bool hbb.symm
     ·intro a w2 hB hF hd;exact aN <| aW (jN rfl (hd 2 _ rfl (aj rfl))) ((hd 14 _ rfl (aj rfl)))
     ·intro a w2 hB hF hd;exact aN <| aG _ (.inr rfl) aR (hd 15 _ rfl (aj rfl))
    ·intro a w7 hB hF hS;have ha:=aO rfl rfl hF [_,_,_,_,_,_,_,_,_,_,_,_,_,_,_,_,_] rfl ⟨hS 0 _ rfl,hS 1 _ rfl,hS 2 _ rfl,hS 3 _ rfl,hS 4 _ rfl,hS 5 _ rfl,hS 6 _ rfl,hS 7 _ rfl,hS 8 _ rfl,hS 9 _ rfl,hS 10 _ rfl,hS 11 _ rfl,hS 12 _ rfl,hS 13 _ rfl,hS 14 _ rfl,hS 15 _ rfl,hS 16 _ rfl,trivial⟩;simp only[puts,Act.put,fB,fD,fF] at ha;subst ha;clear hS hF;replace qV:=qV.kept hB;replace pU:=pU.kept hB;replace tT:=tT.kept hB;replace kG:=kG.kept hB;replace hV:=hV.kept hB;replace hN:=hN.kept hB;replace hZ:=hZ.kept hB;replace aD:=aD.trans (hB.mono aD.size);have yJ:=ay hbb;have HM:=ay hm;clear hB hq hr hc hsh hand hce hpl hbb hm hm8 hm9 hBl d0 d1;go_upto_region 8 with(fail);have aax:Hid (∀p w,p=(bb !=q)->Calls Tryz.prog 201 #[.agg (arr .i64 16 f7),.agg (arr .i64 16 f9),.bool p] w fun e w'=>e=.returned (.tuple #[.agg (arr .i64 16 (bA pq f7 f9)),.agg (arr .i64 16 (bA pq f9 f7))])/\Below w.heap.size w w'):=by
      rintro p w rfl;rw[HPQ.out];exact jT _ f7 f9 _ _ hR.out.1 hR.out.2.2.1 w
     go_wp2_with (first | (refine bJ rfl 191 _ rfl .i64 x7 16 f7 dB rfl bP rfl qV ?_) | (refine bJ rfl 191 _ rfl .i64 x9 16 f9 dB rfl bP rfl tT ?_));refine(aax.out _ _ (by first | rfl | (rw[yJ.out];cases q<;> rfl) | (cases q<;> cases bb<;> rfl))).mono ?_;rintro e wq0 ⟨rfl,hbq⟩;replace qV:=qV.kept hbq;replace tT:=tT.kept hbq;replace pU:=pU.kept hbq;replace kG:=kG.kept hbq;replace hV:=hV.kept hbq;replace hN:=hN.kept hbq;replace hZ:=hZ.kept hbq;replace aD:=aD.trans (hbq.mono aD.size);have s2:=tT.aC x7 aH (arr .i64 16 (bA pq f7 f9));clear aax hbq;go_upto_region 9 with(first | (refine aL rfl 191 _ _ rfl .i64 x7 16 f7 (bA pq f7 f9) bP rfl rfl qV ?_) | (refine aL rfl 191 _ _ rfl .i64 x9 16 f9 (bA pq f9 f7) bP rfl rfl s2 ?_))
     refine aJ (fun wq=>aK .i64 wq x7 16 (bA pq f7 f9)/\aK .i64 wq x9 16 (bA pq f9 f7)/\aK .i64 wq x8 16 f8/\aK .i64 wq x10 16 f10/\aK .i64 wq bu 16 fu/\aK .u8 wq bn 32 (dg 256 N)/\aK .u8 wq (w.heap.size+2) 32 (fun _=>0)/\Below w.heap.size w wq)
      ⟨(qV.setRow _ _).aC _ aH _,s2.setRow _ _,(pU.aC _ aH _).aC _ aH _,(kG.aC _ aH _).aC _ aH _,(hV.aC _ aH _).aC _ aH _,(hN.aC _ aH _).aC _ aH _,(hZ.aC _ aH _).aC _ aH _,aB (aB aD aH _) aH _⟩ ?_
     clear s2 qV tT pU kG hV hN hZ aD;rintro wq ⟨qV,tT,pU,kG,hV,hN,hZ,aD⟩
     try simp only[Act.put,fB,fD,fF]
     have aaw:Hid (∀p w,p=(bb !=q)->Calls Tryz.prog 201 #[.agg (arr .i64 16 f8),.agg (arr .i64 16 f10),.bool p] w fun e w'=>e=.returned (.tuple #[.agg (arr .i64 16 (bA pq f8 f10)),.agg (arr .i64 16 (bA pq f10 f8))])/\Below w.heap.size w w'):=by
      rintro p w rfl;rw[HPQ.out];exact jT _ f8 f10 _ _ hR.out.2.1 hR.out.2.2.2 w
     go_wp2_with (first | (refine bJ rfl 191 _ rfl .i64 x8 16 f8 dB rfl bP rfl pU ?_) | (refine bJ rfl 191 _ rfl .i64 x10 16 f10 dB rfl bP rfl kG ?_));refine(aaw.out _ _ (by first | rfl | (rw[yJ.out];cases q<;> rfl) | (cases q<;> cases bb<;> rfl))).mono ?_;rintro e wp0 ⟨rfl,hbq⟩;replace pU:=pU.kept hbq;replace kG:=kG.kept hbq;replace qV:=qV.kept hbq;replace tT:=tT.kept hbq;replace hV:=hV.kept hbq;replace hN:=hN.kept hbq;replace hZ:=hZ.kept hbq;replace aD:=aD.trans (hbq.mono aD.size);have s2:=kG.aC x8 aH (arr .i64 16 (bA pq f8 f10));clear aaw hbq;go_upto_region 10 with(first | (refine aL rfl 191 _ _ rfl .i64 x8 16 f8 (bA pq f8 f10) bP rfl rfl pU ?_) | (refine aL rfl 191 _ _ rfl .i64 x10 16 f10 (bA pq f10 f8) bP rfl rfl s2 ?_))
     refine aJ (fun wp=>aK .i64 wp x8 16 (bA pq f8 f10)/\aK .i64 wp x10 16 (bA pq f10 f8)/\aK .i64 wp x7 16 (bA pq f7 f9)/\aK .i64 wp x9 16 (bA pq f9 f7)/\aK .i64 wp bu 16 fu/\aK .u8 wp bn 32 (dg 256 N)/\aK .u8 wp (w.heap.size+2) 32 (fun _=>0)/\Below w.heap.size w wp)
      ⟨(pU.setRow _ _).aC _ aH _,s2.setRow _ _,(qV.aC _ aH _).aC _ aH _,(tT.aC _ aH _).aC _ aH _,(hV.aC _ aH _).aC _ aH _,(hN.aC _ aH _).aC _ aH _,(hZ.aC _ aH _).aC _ aH _,aB (aB aD aH _) aH _⟩ ?_
     clear s2 pU kG qV tT hV hN hZ aD;rintro wp ⟨pU,kG,qV,tT,hV,hN,hZ,aD⟩
     try simp only[Act.put,fB,fD,fF]
     replace hR:Hid (Fe4 (bA pq f7 f9) (bA pq f8 f10) (bA pq f9 f7) (bA pq f10 f8) ((uZ N UN k).flip bb)):=by have h:=hR.out.flip pq;rwa [show ((uZ N UN k).flip q).flip pq=(uZ N UN k).flip bb by rw[HPQ.out,Two.flip_flip]] at h
     obtain⟨g7,hg7⟩:∃g,g=bA pq f7 f9:=⟨_,rfl⟩
     obtain⟨g8,hg8⟩:∃g,g=bA pq f8 f10:=⟨_,rfl⟩
     obtain⟨g9,hg9⟩:∃g,g=bA pq f9 f7:=⟨_,rfl⟩
     obtain⟨g10,YJ⟩:∃g,g=bA pq f10 f8:=⟨_,rfl⟩
     rw[<-hg7] at qV hR;rw[<-hg8] at pU hR;rw[<-hg9] at tT hR;rw[<-YJ] at kG hR;clear hg7 hg8 hg9 YJ;have HRU:=ay (fun w=>OO g7 g8 g9 g10 fu _ _ _ _ _ hR.out.1 hR.out.2.1 hR.out.2.2.1 hR.out.2.2.2 HFU.out w);unfold El at HRU;go_wp2_with (first | (refine bJ rfl 191 _ rfl .i64 x7 16 g7 dB rfl bP rfl qV ?_) | (refine bJ rfl 191 _ rfl .i64 x8 16 g8 dB rfl bP rfl pU ?_) | (refine bJ rfl 191 _ rfl .i64 x9 16 g9 dB rfl bP rfl tT ?_) | (refine bJ rfl 191 _ rfl .i64 x10 16 g10 dB rfl bP rfl kG ?_) | (refine bJ rfl 191 _ rfl .i64 bu 16 fu dB rfl bP rfl hV ?_));refine(HRU.out _).mono ?_;rintro e wc ⟨a,b,c,d,rfl,hF4,hbc⟩;replace qV:=qV.kept hbc;replace pU:=pU.kept hbc;replace tT:=tT.kept hbc;replace kG:=kG.kept hbc;replace hV:=hV.kept hbc;replace hN:=hN.kept hbc;replace hZ:=hZ.kept hbc;replace aD:=aD.trans (hbc.mono aD.size);clear HRU hbc;have s8:=pU.aC x7 aH (arr .i64 16 a);have s9:=(tT.aC x7 aH (arr .i64 16 a)).aC x8 aH (arr .i64 16 b);have s10:=((kG.aC x7 aH (arr .i64 16 a)).aC x8 aH (arr .i64 16 b)).aC x9 aH (arr .i64 16 c);have e7:=(((qV.setRow 16 a).aC x8 aH (arr .i64 16 b)).aC x9 aH (arr .i64 16 c)).aC x10 aH (arr .i64 16 d);have e8:=((s8.setRow 16 b).aC x9 aH (arr .i64 16 c)).aC x10 aH (arr .i64 16 d);have e9:=(s9.setRow 16 c).aC x10 aH (arr .i64 16 d);have e10:=s10.setRow 16 d;have hVe:=(((hV.aC x7 aH (arr .i64 16 a)).aC x8 aH (arr .i64 16 b)).aC x9 aH (arr .i64 16 c)).aC x10 aH (arr .i64 16 d);have hNe:=(((hN.aC x7 aH (arr .i64 16 a)).aC x8 aH (arr .i64 16 b)).aC x9 aH (arr .i64 16 c)).aC x10 aH (arr .i64 16 d);have hZe:=(((hZ.aC x7 aH (arr .i64 16 a)).aC x8 aH (arr .i64 16 b)).aC x9 aH (arr .i64 16 c)).aC x10 aH (arr .i64 16 d);have hbe:=aB (aB (aB (aB aD (by omega:w.heap.size<=x7) (arr .i64 16 a)) (by omega:w.heap.size<=x8) (arr .i64 16 b)) (by omega:w.heap.size<=x9) (arr .i64 16 c)) (by omega:w.heap.size<=x10) (arr .i64 16 d);have HA7:=ay qV;have S8:=ay s8;have S9:=ay s9;have S10:=ay s10;have iN:uZ N UN (k+1)=(uZ N UN k).rung UN (N / 2 ^ m % 2):=by rw[HM.out];rfl
     have hfl:=Two.SQ UN (N / 2 ^ m % 2) aH (uZ N UN k);rw[<-iN,←yJ.out] at hfl;have HFL:Hid (Fe4 a b c d ((uZ N UN (k+1)).flip bb)):=by rw[<-hfl];exact hF4
     clear qV pU tT kG hV hN hZ aD s8 s9 s10 iN hfl hF4 hR ei;go_wp2_with (first | (refine aL rfl 191 _ _ rfl .i64 x7 16 g7 a bP rfl rfl HA7.out ?_) | (refine aL rfl 191 _ _ rfl .i64 x8 16 g8 b bP rfl rfl S8.out ?_) | (refine aL rfl 191 _ _ rfl .i64 x9 16 g9 c bP rfl rfl S9.out ?_) | (refine aL rfl 191 _ _ rfl .i64 x10 16 g10 d bP rfl rfl S10.out ?_));go_roundw
     case rel=>exact⟨k+1,bb,a,b,c,d,by have:=HKL.out;omega,congrArg (Value.int .i64) (by have:=HKM.out;omega),rfl,HFL,⟨e7,e8,e9,e10⟩,⟨hVe,hNe,hZe⟩,hbe⟩
     case measure=>simp[intOf] <;> (have:=HKM.out;omega)
abbrev mulN (S U:Int):Int:=jI (fq S) (U % 2 ^ 255) % Pr
theorem UJ {a:Act} (w:World):(Instr.build 22 ((#[] :Array (Nat × Operand)).map fun(i,x)=>(i,a.eval x))).run Tryz.prog w=.ok (.agg (arr .u8 32 (dg 256 0))) w:=UL (a:=a) w
theorem rJ (S:Int) (w:World):
  Calls Tryz.prog 90 #[.agg (arr .u8 32 (dg 256 S))] w fun e w'=>e=.returned (.agg (arr .u8 32 (dg 256 (mulN S 9))))/\Below w.heap.size w w':=by
 have HM:=ay (fun w=>FM S 9 w);unfold mulN;obtain⟨X,hX⟩:∃X,X=jI (fq S) (9 % 2 ^ 255) % Pr:=⟨_,rfl⟩
 rw[<-hX] at HM ⊢;clear hX
 go_enter Tryz.func90,Tryz.ntmps90
 go_upto_region 1 with(fail);refine aJ (fun w1=>aK .u8 w1 w.heap.size 32 (dg 256 S)/\aK .u8 w1 (w.heap.size+1) 32 (fun _=>0)/\Below w.heap.size w w1) ⟨.alloc (cB rfl rfl) _,cB dO (by rfl),((bT _ _).alloc (bH _) _).alloc dO _⟩ ?_;rintro w1 ⟨hA,hZ,aD⟩
 refine dJ (n:=6) (fun i=>i==3) aQ aQ aQ aQ rfl
  (fun ii vv _=>(match ii with | 0=>vv=.agg (arr .u8 32 (dg 256 S)) | 1=>vv=.agg (arr .u8 32 (dg 256 9)) | 2=>vv=.agg (arr .u8 32 (dg 256 X)) | _=>True))
  (fun w w'=>Below w.heap.size w w') (fun _ _ h=>h) (fun _ _ _ _ h _=>h)
  (fun _=>(w.heap.size+1)) (fun _=>(arr .u8 32 (fun _=>0))) (fun _=>(arr .u8 32 (dg 256 X)))
  (by intro i j _ _ dD jJ gW;simp only[beq_iff_eq] at dD jJ;omega)
  (by intro i _ dD;exact(hZ).row)
  ?_ ?_ ?_
 ·refine dG ?_;refine⟨?_,?_,?_,(aP),trivial⟩
  ·intro _ a w2 hB hF hd;exact aN <| aW (aF rfl iL rfl fZ (hF.same 1 rfl) (hA.below hB hA.lt)) rfl
  ·intro _ a w2 hB hF hd;refine aN <| aI _ _ _ rfl Tryz.call142 _ Ak aR ((OP w2).mono ?_);rintro e w3 ⟨rfl,hb⟩;exact⟨_,rfl,rfl,hb⟩
  ·intro _ a w2 hB hF hd;refine aN <| aI _ _ _ rfl Tryz.call141 _ (args2 (hd 0 _ rfl rfl (aj rfl)) (hd 1 _ rfl rfl (aj rfl))) aR ((HM.out w2).mono ?_);rintro e w3 ⟨rfl,hb⟩;exact⟨_,rfl,rfl,hb⟩
 ·refine dG ?_;refine⟨(aP),(aP),(aP),?_,trivial⟩
  ·intro _ a w1 w2 K hB hF hS hr hK;exact bG 22 _ _ rfl .u8 ((w.heap.size+1)) 32 (fun _=>0) (dg 256 X) fZ (hF.same 2 rfl) (hS 2 _ rfl rfl) hr hK
 ·intro a wf w3 hB hF hS hfil;have other:∀{k:IntKind} {qb n:Nat} {f:Nat->Int},qb≠(w.heap.size+1)->aK k wf qb n f->aK k w3 qb n f:=fun {k qb n f} e0 hA=>hfil.arr (by intro i _ dD;simp only[kZ,beq_iff_eq] at dD;subst dD<;> ((try simp only[]);(try dsimp only);omega)) hA;have dU:∀{B:Nat} {w0:World},B<=(w.heap.size+1)->Below B w0 wf->Below B w0 w3:=fun {B w0} e0 hA=>hfil.below (by intro i _ dD;simp only[kZ,beq_iff_eq] at dD;subst dD<;> ((try simp only[]);(try dsimp only);omega)) hA;have V3:aK .u8 w3 ((w.heap.size+1)) 32 (dg 256 X):=hfil.at 3 aM rfl;have tO:=hfil.size;clear hfil;have ha:=aO rfl rfl hF [_,_,_,undef] rfl ⟨hS 0 _ rfl rfl,hS 1 _ rfl rfl,hS 2 _ rfl rfl,trivial,trivial⟩;simp only[puts,Act.put,fB,fD,fF] at ha;subst ha;clear hS hF;have hb:=dU aH (aD.trans (hB.mono aD.size));go_wp2;exact bodyPost_ret (bV rfl _ _ .u8 (w.heap.size+1) 32 _ 5 rfl V3 iL fZ) rfl ⟨rfl,hb⟩
theorem TL (S U:Int):mY 32 (dg 256 (mulN S U)) (dg 256 0)=decide (mulN S U=0):=by
 have h:=Cm (jI (fq S) (U % 2 ^ 255)) 0;rw[show (0:Int) % Pr=0 by decide] at h;rw[h];unfold eqP mulN;rw[show (0:Int) % Pr=0 by decide]
theorem Ij (S U:Int) (w:World):
  Calls Tryz.prog 172 #[.agg (arr .u8 32 (dg 256 S)),.agg (arr .u8 32 (dg 256 U))] w fun e w'=>e=.returned (.tuple #[.agg (arr .u8 32 (dg 256 (mulN S U))),.int .i64 (qP (mulN S U))])/\Below w.heap.size w w':=by
 have HM:Hid (∀w,Calls Tryz.prog 141 #[.agg (arr .u8 32 (dg 256 S)),.agg (arr .u8 32 (dg 256 U))] w fun e w'=>e=.returned (.agg (arr .u8 32 (dg 256 (mulN S U))))/\Below w.heap.size w w'):=fun w=>FM S U w;have HZ:=ay (TL S U);have HE:Hid (qP (mulN S U)=if mulN S U=0 then 21 else 0):=rfl;have HB:=ay (fun(a:Act) w=>UJ (a:=a) w);obtain⟨X,hX⟩:∃X,X=mulN S U:=⟨_,rfl⟩
 rw[<-hX] at HM HZ HE ⊢;obtain⟨er,her⟩:∃er,er=qP X:=⟨_,rfl⟩
 rw[<-her] at HE ⊢;clear hX her
 go_enter Tryz.func172,Tryz.ntmps172
 go_upto_region 1 with(fail);refine aJ (fun w1=>aK .u8 w1 w.heap.size 32 (dg 256 S)/\aK .u8 w1 (w.heap.size+1) 32 (dg 256 U)/\aK .u8 w1 (w.heap.size+2) 32 (fun _=>0)/\Below w.heap.size w w1) ⟨.alloc (.alloc (cB rfl rfl) _) _,.alloc (cB dO rfl) _,cB dO (by rfl),(((bT _ _).alloc (bH _) _).alloc dO _).alloc dO _⟩ ?_;rintro w1 ⟨hA,hP,hZ,aD⟩
 go_wp2_with (first
  | (refine aZ rfl 22 _ rfl .u8 w.heap.size 32 (dg 256 S) 5 iL fZ rfl hA ?_)
  | (refine aZ rfl 22 _ rfl .u8 (w.heap.size+1) 32 (dg 256 U) 5 iL fZ rfl hP ?_))
 refine(HM.out _).mono ?_;rintro e w2 ⟨rfl,fO⟩;have jG:=hZ.kept fO;have dV:=aD.trans (fO.mono aD.size);have hl2:=jG.lt;clear hA hP hZ aD fO;go_upto_region 2 with(refine aL rfl 22 _ _ rfl .u8 w2.heap.size 32 (fun _=>0) (dg 256 X) fZ rfl rfl (cB rfl (by rfl)) ?_)
 refine aJ (fun w3=>aK .u8 w3 w2.heap.size 32 (dg 256 X)/\aK .u8 w3 (w.heap.size+2) 32 (fun _=>0)/\Below w.heap.size w w3)
  ⟨(cB rfl (by rfl):aK .u8 _ _ 32 (fun _=>0)).setRow _ _,aK.aC (aK.alloc jG _) _ aH _,aB (dV.alloc dV.size _) dV.size _⟩ ?_
 rintro w3 ⟨hX,lZ,eU⟩;obtain⟨bx,hbx⟩:∃bx,bx=w2.heap.size:=⟨_,rfl⟩
 rw[<-hbx] at hX hl2 ⊢;clear hbx jG dV
 try simp only[Act.put,fB,fD,fF]
 by_cases h0:X=0
 case pos=>
  have h1:er=21:=by rw[HE.out,if_pos h0]
  have HQ:Hid (mY 32 (dg 256 X) (dg 256 0)=true):=by rw[HZ.out];exact decide_eq_true h0
  have H1:=ay h1;clear h0 h1 HE HZ
  refine bC (n:=15) aQ aQ aQ rfl
   (fun ii vv _=>(match ii with | 0=>vv=.agg (arr .u8 32 (dg 256 X)) | 1=>vv=.agg (arr .u8 32 (dg 256 0)) | 2=>vv=.bool true | _=>True))
   (fun w w'=>Below w.heap.size w w') (fun _ _ h=>h) (fun _ _ _ _ h _=>h) ?_ ?_
  ·refine dG ?_;refine⟨?_,?_,?_,trivial⟩
   ·intro a w2 hB hF hd;exact aN <| aW (aF rfl iL rfl fZ (hF.same 6 rfl) (hX.below hB hX.lt)) rfl
   ·intro a w2 hB hF hd;exact aN <| aW (fK rfl (HB.out _ _)) rfl
   ·intro a w2 hB hF hd;exact aN <| aW (sS true rfl (hd 0 _ rfl (aj rfl)) (hd 1 _ rfl (aj rfl)) iL aQ aQ aQ aQ aQ HQ.out) rfl
  ·intro a w4 hB hF hS;have ha:=aO rfl rfl hF [_,_,_] rfl ⟨hS 0 _ rfl,hS 1 _ rfl,hS 2 _ rfl,trivial⟩;simp only[puts,Act.put,fB,fD,fF] at ha;subst ha;clear hS hF;have hX4:=hX.kept hB;have qX:=lZ.kept hB;have jF:=eU.trans (hB.mono eU.size);clear hX lZ eU hB HQ
   go_wp2_with (first
    | (refine aZ rfl 22 _ rfl .u8 bx 32 (dg 256 X) 5 iL fZ rfl hX4 ?_)
    | (refine aL rfl 22 _ _ rfl .u8 (w.heap.size+2) 32 (fun _=>0) (dg 256 X) fZ rfl rfl qX ?_))
   exact bodyPost_ret (gZ rfl _ _ .u8 (w.heap.size+2) 32 _ 5 rfl (qX.setRow 32 (dg 256 X)) iL fZ) rfl ⟨by rw[H1.out];rfl,aB jF aH _⟩
 case neg=>
  have h1:er=0:=by rw[HE.out,if_neg h0]
  have HQ:Hid (mY 32 (dg 256 X) (dg 256 0)=false):=by rw[HZ.out];exact decide_eq_false h0
  have H1:=ay h1;clear h0 h1 HE HZ
  refine bC (n:=15) aQ aQ aQ rfl
   (fun ii vv _=>(match ii with | 0=>vv=.agg (arr .u8 32 (dg 256 X)) | 1=>vv=.agg (arr .u8 32 (dg 256 0)) | 2=>vv=.bool false | _=>True))
   (fun w w'=>Below w.heap.size w w') (fun _ _ h=>h) (fun _ _ _ _ h _=>h) ?_ ?_
  ·refine dG ?_;refine⟨?_,?_,?_,trivial⟩
   ·intro a w2 hB hF hd;exact aN <| aW (aF rfl iL rfl fZ (hF.same 6 rfl) (hX.below hB hX.lt)) rfl
   ·intro a w2 hB hF hd;exact aN <| aW (fK rfl (HB.out _ _)) rfl
   ·intro a w2 hB hF hd;exact aN <| aW (sS false rfl (hd 0 _ rfl (aj rfl)) (hd 1 _ rfl (aj rfl)) iL aQ aQ aQ aQ aQ HQ.out) rfl
  ·intro a w4 hB hF hS;have ha:=aO rfl rfl hF [_,_,_] rfl ⟨hS 0 _ rfl,hS 1 _ rfl,hS 2 _ rfl,trivial⟩;simp only[puts,Act.put,fB,fD,fF] at ha;subst ha;clear hS hF;have hX4:=hX.kept hB;have qX:=lZ.kept hB;have jF:=eU.trans (hB.mono eU.size);clear hX lZ eU hB HQ
   go_wp2_with (first
    | (refine aZ rfl 22 _ rfl .u8 bx 32 (dg 256 X) 5 iL fZ rfl hX4 ?_)
    | (refine aL rfl 22 _ _ rfl .u8 (w.heap.size+2) 32 (fun _=>0) (dg 256 X) fZ rfl rfl qX ?_))
   exact bodyPost_ret (gZ rfl _ _ .u8 (w.heap.size+2) 32 _ 5 rfl (qX.setRow 32 (dg 256 X)) iL fZ) rfl ⟨by rw[H1.out];rfl,aB jF aH _⟩
end Go.Proofs.YtpcjekgfnfjbpaaGreat
