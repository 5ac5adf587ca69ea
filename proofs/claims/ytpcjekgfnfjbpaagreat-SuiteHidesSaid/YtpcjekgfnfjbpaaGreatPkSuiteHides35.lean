/-
  Part 35 of SuiteHides. Conditions: named in each theorem.
-/
import Derived.Test.YtpcjekgfnfjbpaaGreatPkSuiteHides34
import Derived.Test.YtpcjekgfnfjbpaaGreatPkSuiteHides14
import Derived.WalkMore
set_option linter.unusedVariables false
set_option linter.unusedSimpArgs false
set_option maxRecDepth 100000
set_option maxHeartbeats 6400000
namespace Go.aQ
open Go.RowKit
theorem Two.acD (p:Bool) (s:Two):(s.flip p).a=if p then s.c else s.a:=by cases p<;> rfl
theorem Two.acC (p:Bool) (s:Two):(s.flip p).b=if p then s.d else s.b:=by cases p<;> rfl
theorem Two.acB (p:Bool) (s:Two):(s.flip p).c=if p then s.a else s.c:=by cases p<;> rfl
theorem Two.acA (p:Bool) (s:Two):(s.flip p).d=if p then s.b else s.d:=by cases p<;> rfl
theorem Two.flip_flip (p q:Bool) (s:Two):(s.flip q).flip (p !=q)=s.flip p:=by cases p<;> cases q<;> rfl
def Fe4 (f g h e:Nat->Int) (s:Two):Prop:=Fe f s.a/\Fe g s.b/\Fe h s.c/\Fe e s.d
theorem Fe4.flip {f g h e:Nat->Int} {s:Two} (p:Bool) (H:Fe4 f g h e s):Fe4 (cB p f h) (cB p g e) (cB p h f) (cB p e g) (s.flip p):=
 ⟨by rw [Two.acD];exact yE H.1 H.2.2.1,by rw [Two.acC];exact yE H.2.1 H.2.2.2,by rw [Two.acB];exact yE H.2.2.1 H.1,by rw [Two.acA];exact yE H.2.2.2 H.2.1⟩
def oK (X:Int):Int:=if X=0 then 21 else 0
end Go.aQ
namespace Go.Proofs.YtpcjekgfnfjbpaaGreat
open Go.RowKit Go.aQ Go.ChangeShapes
attribute [local go_sem ↓] Go.wp_at_zero Go.wp_at_succ
theorem CW (S U:Int) (w:World):
  Calls Tryz.prog 141 #[.agg (arr .u8 32 (dg 256 S)),.agg (arr .u8 32 (dg 256 U))] w fun e w'=> e=.returned (.agg (arr .u8 32 (dg 256 (iq (dx S) (U % 2 ^ 255) % Pr))))/\Below w.heap.size w w':=by
 have yI:=ak (fun w=> Iu S w);have MZ:=ak (fun w=> Jc U w);have HFU:=ak (NZ U);have FN:Hid (∀w,Calls Tryz.prog 200 #[.int .i64 1] w fun e w'=> e=.returned (.agg (arr .i64 16 (mK 1)))/\Below w.heap.size w w'):=fun w=> qZ 1 w;have Zf:Hid (∀w,Calls Tryz.prog 200 #[.int .i64 0] w fun e w'=> e=.returned (.agg (arr .i64 16 (mK 0)))/\Below w.heap.size w w'):=fun w=> qZ 0 w;have Wo:Hid (Fe (mK 1) 1):=by have h:=rQ 1;rwa [show vQ 1=1 by decide] at h
 have Wp:Hid (Fe (mK 0) 0):=by have h:=rQ 0;rwa [show vQ 0=0 by decide] at h
 obtain ⟨UN,hUN⟩:∃UN,UN=U % 2 ^ 255:=⟨_,rfl⟩
 rw [<-hUN] at HFU MZ ⊢;obtain ⟨N,hN⟩:∃N,N=dx S:=⟨_,rfl⟩
 rw [<-hN] at yI ⊢;unfold El at MZ;obtain ⟨fu,hfu⟩:∃fu,fu=dg 65536 UN:=⟨_,rfl⟩
 rw [<-hfu] at HFU MZ;clear hUN hfu hN;obtain ⟨g1,hg1⟩:∃g1,g1=mK 1:=⟨_,rfl⟩
 obtain ⟨g0,hg0⟩:∃g0,g0=mK 0:=⟨_,rfl⟩
 rw [<-hg1] at FN Wo;rw [<-hg0] at Zf Wp;clear hg1 hg0
 go_enter Tryz.func141,Tryz.ntmps141
 go_upto_region 1 with (fail)
 refine aC (fun w1=> aD .u8 w1 w.heap.size 32 (dg 256 S)/\aD .u8 w1 (w.heap.size+1) 32 (dg 256 U)/\aD .u8 w1 (w.heap.size+2) 32 (fun _=> 0)/\Below w.heap.size w w1)
  ⟨.alloc (.alloc (bg rfl rfl) _) _,.alloc (bg (by first | omega | (simp<;> omega)) rfl) _,bg (by first | omega | (simp<;> omega)) (by rfl),(((bA _ _).alloc (aP _) _).alloc (by first | omega | (simp<;> omega)) _).alloc (by first | omega | (simp<;> omega)) _⟩ ?_
 rintro w1 ⟨hA,hP,hZ,hbel⟩;refine wp_scope_straight ?_;go_wp2_with (refine aM rfl 22 _ rfl .u8 w.heap.size 32 (dg 256 S) 5 dB bZ rfl hA ?_);refine (yI.out _).mono ?_;rintro e w2 ⟨rfl,hb2⟩;have hP2:=hP.kept hb2;have hZ2:=hZ.kept hb2;have bq:=hbel.trans (hb2.mono hbel.size);have hl2:=hZ2.lt;clear hA hP hZ hbel hb2;go_upto_region 2 with (refine aH rfl 22 _ _ rfl .u8 w2.heap.size 32 (fun _=> 0) (dg 256 N) bZ rfl rfl (bg rfl (by rfl)) ?_)
 refine aC (fun w3=> aD .u8 w3 w2.heap.size 32 (dg 256 N)/\aD .u8 w3 (w.heap.size+1) 32 (dg 256 U)/\aD .u8 w3 (w.heap.size+2) 32 (fun _=> 0)/\Below w.heap.size w w3)
  ⟨(bg rfl (by rfl):aD .u8 _ _ 32 (fun _=> 0)).setRow _ _,aD.aA (aD.alloc hP2 _) _ (by omega) _,aD.aA (aD.alloc hZ2 _) _ (by omega) _,ay (bq.alloc bq.size _) bq.size _⟩ ?_
 rintro w3 ⟨hN,hP3,hZ3,bH⟩;obtain ⟨bn,hbn⟩:∃bn,bn=w2.heap.size:=⟨_,rfl⟩
 rw [<-hbn] at hN hl2 ⊢;clear hbn hP2 hZ2 bq
 try simp only [Act.put,dS,dU,dV]
 go_wp2_with (refine aM rfl 22 _ rfl .u8 (w.heap.size+1) 32 (dg 256 U) 5 dB bZ rfl hP3 ?_);refine (MZ.out _).mono ?_;rintro e w4 ⟨rfl,hb4⟩;have Yv:=hN.kept hb4;have pV:=hZ3.kept hb4;have bQ:=bH.trans (hb4.mono bH.size);have hl4:=Yv.lt;clear hN hP3 hZ3 bH hb4;go_upto_region 3 with (refine aH rfl 191 _ _ rfl .i64 w4.heap.size 16 (fun _=> 0) fu dz rfl rfl (bg rfl (by rfl)) ?_)
 refine aC (fun w5=> aD .i64 w5 w4.heap.size 16 fu/\aD .u8 w5 bn 32 (dg 256 N)/\aD .u8 w5 (w.heap.size+2) 32 (fun _=> 0)/\Below w.heap.size w w5)
  ⟨(bg rfl (by rfl):aD .i64 _ _ 16 (fun _=> 0)).setRow _ _,aD.aA (aD.alloc Yv _) _ (by omega) _,aD.aA (aD.alloc pV _) _ (by omega) _,ay (bQ.alloc bQ.size _) bQ.size _⟩ ?_
 rintro w5 ⟨hV,hN5,nC,dA⟩;obtain ⟨bu,hbu⟩:∃bu,bu=w4.heap.size:=⟨_,rfl⟩
 rw [<-hbu] at hV hl4 ⊢;clear hbu Yv pV bQ
 try simp only [Act.put,dS,dU,dV]
 have hlu:=hV.lt
 refine bT (n:=77) (by kernel_rfl) (by kernel_rfl) (by kernel_rfl) rfl
  (mU [(8,4),(9,5),(10,6),(11,7)]) (iO [(8,4),(9,5),(10,6),(11,7)]) (fun _=> arr .i64 16 (fun _=> 0)) (fun i=> match i with | 4=> (arr .i64 16 (g1)) | 5=> (arr .i64 16 (g0)) | 6=> (arr .i64 16 (fu)) | 7=> (arr .i64 16 (g1)) | _=> #[]) (fun _=> 191) (fun i=> match i with | 4=> 7 | 5=> 8 | 6=> 9 | 7=> 10 | _=> 0)
  (fun ii vv _=> (match ii with | 0 | 3=> vv=.agg (arr .i64 16 (g1)) | 1=> vv=.agg (arr .i64 16 (g0)) | 2=> vv=.agg (arr .i64 16 (fu)) | _=> True)) (fun _ _=> True) (fun _ _ _=> trivial) (fun _ _ _ _ _ _ _=> trivial) (fun _ _ _ _ h _=> h)
  (jL rfl) (iC rfl) ?_ ?_ ?_ ?_
 ·refine dD ?_;refine ⟨?_,?_,?_,?_,(fun h=> by cases h),(fun h=> by cases h),(fun h=> by cases h),(fun h=> by cases h),(fun _ h=> by cases h),(fun _ h=> by cases h),(fun _ h=> by cases h),(fun _ h=> by cases h),trivial⟩
  ·intro _ _ a w2 hB hF hd;refine aG <| aI _ _ _ rfl Tryz.call200 _ (args1 rfl) (by simp) ((FN.out w2).mono ?_);rintro e w3 ⟨rfl,hb⟩;exact ⟨_,rfl,rfl,hb⟩
  ·intro _ _ a w2 hB hF hd;refine aG <| aI _ _ _ rfl Tryz.call200 _ (args1 rfl) (by simp) ((Zf.out w2).mono ?_);rintro e w3 ⟨rfl,hb⟩;exact ⟨_,rfl,rfl,hb⟩
  ·intro _ _ a w2 hB hF hd;exact aG <| aO (aB rfl fZ rfl dz (hF.same 6 rfl) (hV.below hB hV.lt)) rfl
  ·intro _ _ a w2 hB hF hd;refine aG <| aI _ _ _ rfl Tryz.call200 _ (args1 rfl) (by simp) ((FN.out w2).mono ?_);rintro e w3 ⟨rfl,hb⟩;exact ⟨_,rfl,rfl,hb⟩
 ·refine dD ?_;refine ⟨(fun h=> by cases h),(fun h=> by cases h),(fun h=> by cases h),(fun h=> by cases h),?_,?_,?_,?_,(fun h=> by cases h),(fun h=> by cases h),(fun h=> by cases h),(fun h=> by cases h),trivial⟩
  ·exact fun _=> ⟨rfl,rfl,fun a w2 K h=> bE rfl rfl Tryz.zeroValue191 (by simp) h⟩
  ·exact fun _=> ⟨rfl,rfl,fun a w2 K h=> bE rfl rfl Tryz.zeroValue191 (by simp) h⟩
  ·exact fun _=> ⟨rfl,rfl,fun a w2 K h=> bE rfl rfl Tryz.zeroValue191 (by simp) h⟩
  ·exact fun _=> ⟨rfl,rfl,fun a w2 K h=> bE rfl rfl Tryz.zeroValue191 (by simp) h⟩
 ·refine dD ?_;refine ⟨(fun _ h=> by cases h),(fun _ h=> by cases h),(fun _ h=> by cases h),(fun _ h=> by cases h),(fun _ h=> by cases h),(fun _ h=> by cases h),(fun _ h=> by cases h),(fun _ h=> by cases h),?_,?_,?_,?_,trivial⟩
  ·intro p hp;obtain rfl:4=p:=iV hp;exact ⟨rfl,rfl,⟨_,rfl⟩,aj rfl,fun a w2 b K hB hF hd hx hb h=> cK rfl rfl dz hx (hd 0 _ rfl rfl rfl (aj rfl)) hb h⟩
  ·intro p hp;obtain rfl:5=p:=iV hp;exact ⟨rfl,rfl,⟨_,rfl⟩,aj rfl,fun a w2 b K hB hF hd hx hb h=> cK rfl rfl dz hx (hd 1 _ rfl rfl rfl (aj rfl)) hb h⟩
  ·intro p hp;obtain rfl:6=p:=iV hp;exact ⟨rfl,rfl,⟨_,rfl⟩,aj rfl,fun a w2 b K hB hF hd hx hb h=> cK rfl rfl dz hx (hd 2 _ rfl rfl rfl (aj rfl)) hb h⟩
  ·intro p hp;obtain rfl:7=p:=iV hp;exact ⟨rfl,rfl,⟨_,rfl⟩,aj rfl,fun a w2 b K hB hF hd hx hb h=> cK rfl rfl dz hx (hd 3 _ rfl rfl rfl (aj rfl)) hb h⟩
 ·intro a w6 blk hB hF hS hv hfin fG;obtain ⟨v4,v4l,v4u⟩:=hv 4 _ rfl rfl;obtain ⟨v5,v5l,v5u⟩:=hv 5 _ rfl rfl;obtain ⟨v6,Nb,v6u⟩:=hv 6 _ rfl rfl;obtain ⟨v7,Ka,WW⟩:=hv 7 _ rfl rfl;have ha:=aK rfl rfl hF [_,_,_,_,_,_,_,_,undef,undef,undef,undef] rfl ⟨hS 0 _ rfl rfl rfl,hS 1 _ rfl rfl rfl,hS 2 _ rfl rfl rfl,hS 3 _ rfl rfl rfl,v4,v5,v6,v7,trivial,trivial,trivial,trivial,trivial⟩;have f4:=hfin 8 _ 4 rfl rfl;have f5:=hfin 9 _ 5 rfl rfl;have f6:=hfin 10 _ 6 rfl rfl;have f7:=hfin 11 _ 7 rfl rfl;have agt:=fG 4 5 _ _ rfl rfl rfl rfl (by decide);have ags:=fG 4 6 _ _ rfl rfl rfl rfl (by decide);have agr:=fG 4 7 _ _ rfl rfl rfl rfl (by decide);have agq:=fG 5 6 _ _ rfl rfl rfl rfl (by decide);have agp:=fG 5 7 _ _ rfl rfl rfl rfl (by decide);have Vb:=fG 6 7 _ _ rfl rfl rfl rfl (by decide);simp only [puts,Act.put,dS,dU,dV] at ha;subst ha;have V4:aD .i64 w6 (blk 4) 16 (g1):=⟨_,f4⟩
  have V5:aD .i64 w6 (blk 5) 16 (g0):=⟨_,f5⟩
  have V6:aD .i64 w6 (blk 6) 16 (fu):=⟨_,f6⟩
  have V7:aD .i64 w6 (blk 7) 16 (g1):=⟨_,f7⟩
  clear hS hv hfin fG hF v4 v5 v6 v7 f4 f5 f6 f7;have Yu:=hV.kept hB;have hN6:=hN5.kept hB;have sG:=nC.kept hB;have dI:=dA.trans (hB.mono dA.size);clear hV hN5 nC dA hB;obtain ⟨x7,e7⟩:∃x,x=blk 4:=⟨_,rfl⟩
  obtain ⟨x8,e8⟩:∃x,x=blk 5:=⟨_,rfl⟩
  obtain ⟨x9,e9⟩:∃x,x=blk 6:=⟨_,rfl⟩
  obtain ⟨x10,e10⟩:∃x,x=blk 7:=⟨_,rfl⟩
  rw [<-e7] at V4 agt ags agr v4l ⊢;rw [<-e8] at V5 agt agq agp v5l ⊢;rw [<-e9] at V6 ags agq Vb Nb ⊢;rw [<-e10] at V7 agr agp Vb Ka ⊢;clear e7 e8 e9 e10;have l7:bu<x7:=by omega
  have l8:bu<x8:=by omega
  have l9:bu<x9:=by omega
  have l10:bu<x10:=by omega
  clear v4l v5l Nb Ka v4u v5u v6u WW hlu;have ZP:Hid (Fe4 g1 g0 fu g1 ((ow N UN 0).flip false)):=⟨Wo.out,Wp.out,HFU.out,Wo.out⟩
  go_wp2;refine wp_label ?_;go_wp2
  go_loopw [11,12] (fun sw i wr=> ∃(k:Nat) (q:Bool) (f7 f8 f9 f10:Nat->Int),k<=255/\i=.int .i64 (254 - (k:Int))/\sw=.bool q/\Hid (Fe4 f7 f8 f9 f10 ((ow N UN k).flip q))/\(aD .i64 wr x7 16 f7/\aD .i64 wr x8 16 f8/\aD .i64 wr x9 16 f9/\aD .i64 wr x10 16 f10)/\(aD .i64 wr bu 16 fu/\aD .u8 wr bn 32 (dg 256 N)/\aD .u8 wr (w.heap.size+2) 32 (fun _=> 0))/\Below w.heap.size w wr) (fun _ i _=> (intOf i+1).toNat)
  case atStart=> exact ⟨0,false,_,_,_,_,dR _,rfl,rfl,ZP,⟨V4,V5,V6,V7⟩,⟨Yu,hN6,sG⟩,dI⟩
  case round=>
   clear V4 V5 V6 V7 Yu hN6 sG dI ZP;obtain ⟨k,q,f7,f8,f9,f10,hk,rfl,rfl,hR,⟨oN,nU,qY,jv⟩,⟨hV,hN,hZ⟩,hbel⟩:=hrel
   rename_i wr
   obtain rfl | hlt:=(by omega:k=255\/k<255)
   ·have ei:(254:Int) - ((255:Nat):Int)= -1:=by decide
    rw [ei];clear ei;go_upto_region 7 with (fail)
    refine aT (n:=77) (by kernel_rfl) (by kernel_rfl) (by kernel_rfl) rfl
     (fun ii vv _=> (match ii with | 0=> vv=.int .i64 (-1) | 1 | 2 | 15 | 16=> vv=.bool false | 3 | 4 | 5 | 6 | 7 | 8 | 9 | 10 | 11 | 12 | 13 | 14=> vv=undef | _=> True))
     (fun w w'=> Below w.heap.size w w') (fun _ _ h=> h) (fun _ _ _ _ h _=> h) ?_ ?_
    ·refine dD ?_;refine ⟨?_,?_,?_,?_,?_,?_,?_,?_,?_,?_,?_,?_,?_,?_,?_,?_,?_,trivial⟩
     ·intro a w2 hB hF hd;exact aG <| bJ rfl (hF.same 12 rfl)
     ·intro a w2 hB hF hd;exact aG <| aO (Go.aQ.Nk rfl (hd 0 _ rfl (aj rfl)) rfl) (congrArg Value.bool (by decide))
     ·intro a w2 hB hF hd;exact aG <| bJ rfl (hd 1 _ rfl (aj rfl))
     ·intro a w2 hB hF hd;rw [if_neg (by rw [dH rfl rfl (hd 2 _ rfl (aj rfl))];decide)];exact rfl
     ·intro a w2 hB hF hd;rw [if_neg (by rw [dH rfl rfl (hd 2 _ rfl (aj rfl))];decide)];exact rfl
     ·intro a w2 hB hF hd;rw [if_neg (by rw [dH rfl rfl (hd 2 _ rfl (aj rfl))];decide)];exact rfl
     ·intro a w2 hB hF hd;rw [if_neg (by rw [dH rfl rfl (hd 2 _ rfl (aj rfl))];decide)];exact rfl
     ·intro a w2 hB hF hd;rw [if_neg (by rw [dH rfl rfl (hd 2 _ rfl (aj rfl))];decide)];exact rfl
     ·intro a w2 hB hF hd;rw [if_neg (by rw [dH rfl rfl (hd 2 _ rfl (aj rfl))];decide)];exact rfl
     ·intro a w2 hB hF hd;rw [if_neg (by rw [dH rfl rfl (hd 2 _ rfl (aj rfl))];decide)];exact rfl
     ·intro a w2 hB hF hd;rw [if_neg (by rw [dH rfl rfl (hd 2 _ rfl (aj rfl))];decide)];exact rfl
     ·intro a w2 hB hF hd;rw [if_neg (by rw [dH rfl rfl (hd 2 _ rfl (aj rfl))];decide)];exact rfl
     ·intro a w2 hB hF hd;rw [if_neg (by rw [dH rfl rfl (hd 2 _ rfl (aj rfl))];decide)];exact rfl
     ·intro a w2 hB hF hd;rw [if_neg (by rw [dH rfl rfl (hd 2 _ rfl (aj rfl))];decide)];exact rfl
     ·intro a w2 hB hF hd;rw [if_neg (by rw [dH rfl rfl (hd 2 _ rfl (aj rfl))];decide)];exact rfl
     ·intro a w2 hB hF hd;exact aG <| aO (jQ rfl (hd 2 _ rfl (aj rfl))) (rfl)
     ·intro a w2 hB hF hd;exact aG <| lS rfl (hd 15 _ rfl (aj rfl))
    ·intro a w7 hB hF hS;have ha:=aK rfl rfl hF [_,_,_,_,_,_,_,_,_,_,_,_,_,_,_,_,_] rfl ⟨hS 0 _ rfl,hS 1 _ rfl,hS 2 _ rfl,hS 3 _ rfl,hS 4 _ rfl,hS 5 _ rfl,hS 6 _ rfl,hS 7 _ rfl,hS 8 _ rfl,hS 9 _ rfl,hS 10 _ rfl,hS 11 _ rfl,hS 12 _ rfl,hS 13 _ rfl,hS 14 _ rfl,hS 15 _ rfl,hS 16 _ rfl,trivial⟩;simp only [puts,Act.put,dS,dU,dV] at ha;subst ha;clear hS hF;replace oN:=oN.kept hB;replace nU:=nU.kept hB;replace qY:=qY.kept hB;replace jv:=jv.kept hB;replace hV:=hV.kept hB;replace hN:=hN.kept hB;replace hZ:=hZ.kept hB;replace hbel:=hbel.trans (hB.mono hbel.size);clear hB;obtain ⟨bb,hbb⟩:∃bb:Bool,bb=false:=⟨_,rfl⟩
     obtain ⟨pq,hpq⟩:∃pq,pq=(bb !=q):=⟨_,rfl⟩
     have HPQ:=ak hpq;clear hpq;have DF:=ak hbb;clear hbb;go_upto_region 8 with (fail);have VY:Hid (∀p w,p=(bb !=q)->Calls Tryz.prog 201 #[.agg (arr .i64 16 f7),.agg (arr .i64 16 f9),.bool p] w fun e w'=> e=.returned (.tuple #[.agg (arr .i64 16 (cB pq f7 f9)),.agg (arr .i64 16 (cB pq f9 f7))])/\Below w.heap.size w w'):=by
      rintro p w rfl;rw [HPQ.out];exact pX _ f7 f9 _ _ hR.out.1 hR.out.2.2.1 w
     go_wp2_with (first | (refine bN rfl 191 _ rfl .i64 x7 16 f7 fZ rfl dz rfl oN ?_) | (refine bN rfl 191 _ rfl .i64 x9 16 f9 fZ rfl dz rfl qY ?_));refine (VY.out _ _ (by first | rfl | (rw [DF.out];cases q<;> rfl) | (cases q<;> cases bb<;> rfl))).mono ?_;rintro e wq0 ⟨rfl,hbq⟩;replace oN:=oN.kept hbq;replace qY:=qY.kept hbq;replace nU:=nU.kept hbq;replace jv:=jv.kept hbq;replace hV:=hV.kept hbq;replace hN:=hN.kept hbq;replace hZ:=hZ.kept hbq;replace hbel:=hbel.trans (hbq.mono hbel.size);have s2:=qY.aA x7 (by omega) (arr .i64 16 (cB pq f7 f9));clear VY hbq;go_upto_region 9 with (first | (refine aH rfl 191 _ _ rfl .i64 x7 16 f7 (cB pq f7 f9) dz rfl rfl oN ?_) | (refine aH rfl 191 _ _ rfl .i64 x9 16 f9 (cB pq f9 f7) dz rfl rfl s2 ?_))
     refine aC (fun wq=> aD .i64 wq x7 16 (cB pq f7 f9)/\aD .i64 wq x9 16 (cB pq f9 f7)/\aD .i64 wq x8 16 f8/\aD .i64 wq x10 16 f10/\aD .i64 wq bu 16 fu/\aD .u8 wq bn 32 (dg 256 N)/\aD .u8 wq (w.heap.size+2) 32 (fun _=> 0)/\Below w.heap.size w wq)
      ⟨(oN.setRow _ _).aA _ (by omega) _,s2.setRow _ _,(nU.aA _ (by omega) _).aA _ (by omega) _,(jv.aA _ (by omega) _).aA _ (by omega) _,(hV.aA _ (by omega) _).aA _ (by omega) _,(hN.aA _ (by omega) _).aA _ (by omega) _,(hZ.aA _ (by omega) _).aA _ (by omega) _,ay (ay hbel (by omega) _) (by omega) _⟩ ?_
     clear s2 oN qY nU jv hV hN hZ hbel;rintro wq ⟨oN,qY,nU,jv,hV,hN,hZ,hbel⟩
     try simp only [Act.put,dS,dU,dV]
     have VX:Hid (∀p w,p=(bb !=q)->Calls Tryz.prog 201 #[.agg (arr .i64 16 f8),.agg (arr .i64 16 f10),.bool p] w fun e w'=> e=.returned (.tuple #[.agg (arr .i64 16 (cB pq f8 f10)),.agg (arr .i64 16 (cB pq f10 f8))])/\Below w.heap.size w w'):=by
      rintro p w rfl;rw [HPQ.out];exact pX _ f8 f10 _ _ hR.out.2.1 hR.out.2.2.2 w
     go_wp2_with (first | (refine bN rfl 191 _ rfl .i64 x8 16 f8 fZ rfl dz rfl nU ?_) | (refine bN rfl 191 _ rfl .i64 x10 16 f10 fZ rfl dz rfl jv ?_));refine (VX.out _ _ (by first | rfl | (rw [DF.out];cases q<;> rfl) | (cases q<;> cases bb<;> rfl))).mono ?_;rintro e wp0 ⟨rfl,hbq⟩;replace nU:=nU.kept hbq;replace jv:=jv.kept hbq;replace oN:=oN.kept hbq;replace qY:=qY.kept hbq;replace hV:=hV.kept hbq;replace hN:=hN.kept hbq;replace hZ:=hZ.kept hbq;replace hbel:=hbel.trans (hbq.mono hbel.size);have s2:=jv.aA x8 (by omega) (arr .i64 16 (cB pq f8 f10));clear VX hbq;go_upto_region 10 with (first | (refine aH rfl 191 _ _ rfl .i64 x8 16 f8 (cB pq f8 f10) dz rfl rfl nU ?_) | (refine aH rfl 191 _ _ rfl .i64 x10 16 f10 (cB pq f10 f8) dz rfl rfl s2 ?_))
     refine aC (fun wp=> aD .i64 wp x8 16 (cB pq f8 f10)/\aD .i64 wp x10 16 (cB pq f10 f8)/\aD .i64 wp x7 16 (cB pq f7 f9)/\aD .i64 wp x9 16 (cB pq f9 f7)/\aD .i64 wp bu 16 fu/\aD .u8 wp bn 32 (dg 256 N)/\aD .u8 wp (w.heap.size+2) 32 (fun _=> 0)/\Below w.heap.size w wp)
      ⟨(nU.setRow _ _).aA _ (by omega) _,s2.setRow _ _,(oN.aA _ (by omega) _).aA _ (by omega) _,(qY.aA _ (by omega) _).aA _ (by omega) _,(hV.aA _ (by omega) _).aA _ (by omega) _,(hN.aA _ (by omega) _).aA _ (by omega) _,(hZ.aA _ (by omega) _).aA _ (by omega) _,ay (ay hbel (by omega) _) (by omega) _⟩ ?_
     clear s2 nU jv oN qY hV hN hZ hbel;rintro wp ⟨nU,jv,oN,qY,hV,hN,hZ,hbel⟩
     try simp only [Act.put,dS,dU,dV]
     replace hR:Hid (Fe4 (cB pq f7 f9) (cB pq f8 f10) (cB pq f9 f7) (cB pq f10 f8) ((ow N UN 255).flip bb)):=by have h:=hR.out.flip pq;rwa [show ((ow N UN 255).flip q).flip pq=(ow N UN 255).flip bb by rw [HPQ.out,Two.flip_flip]] at h
     obtain ⟨g7,Ra⟩:∃g,g=cB pq f7 f9:=⟨_,rfl⟩
     obtain ⟨g8,Yp⟩:∃g,g=cB pq f8 f10:=⟨_,rfl⟩
     obtain ⟨g9,hg9⟩:∃g,g=cB pq f9 f7:=⟨_,rfl⟩
     obtain ⟨g10,Uo⟩:∃g,g=cB pq f10 f8:=⟨_,rfl⟩
     rw [<-Ra] at oN hR;rw [<-Yp] at nU hR;rw [<-hg9] at qY hR;rw [<-Uo] at jv hR;clear Ra Yp hg9 Uo;have HBY:Hid (∀w,Calls Tryz.prog 205 #[El (dn g7 (EK g8))] w fun e w'=> e=.returned (.agg (arr .u8 32 (dg 256 (iq N UN % Pr))))/\Below w.heap.size w w'):=fun w=> by
      have hr:=hR.out;rw [DF.out] at hr;exact Jd _ (iq N UN) (hr.1.dn (UJ hr.2.1)) w
     go_upto_region 13 with (fail)
     refine eD (n:=77) (fun i=> i==5) (by kernel_rfl) (by kernel_rfl) (by kernel_rfl) (by kernel_rfl) rfl
      (fun ii vv _=> (match ii with | 0=> vv=.agg (arr .i64 16 (g7)) | 1=> vv=.agg (arr .i64 16 (g8)) | 2=> vv=.agg (arr .i64 16 (EK g8)) | 3=> vv=.agg (arr .i64 16 (dn g7 (EK g8))) | 4=> vv=.agg (arr .u8 32 (dg 256 (iq N UN % Pr))) | _=> True))
      (fun w w'=> Below w.heap.size w w') (fun _ _ h=> h) (fun _ _ _ _ h _=> h)
      (fun _=> (w.heap.size+2)) (fun _=> (arr .u8 32 (fun _=> 0))) (fun _=> (arr .u8 32 (dg 256 (iq N UN % Pr))))
      (by intro i j _ _ hpi ko hne;simp only [beq_iff_eq] at hpi ko;omega)
      (by intro i _ hpi;exact (hZ).row)
      ?_ ?_ ?_
     ·refine dD ?_;refine ⟨?_,?_,?_,?_,?_,(aF),trivial⟩
      ·intro _ a w2 hB hF hd;exact aG <| aO (aB rfl fZ rfl dz (hF.same 7 rfl) (oN.below hB oN.lt)) rfl
      ·intro _ a w2 hB hF hd;exact aG <| aO (aB rfl fZ rfl dz (hF.same 8 rfl) (nU.below hB nU.lt)) rfl
      ·intro _ a w2 hB hF hd;refine aG <| aI _ _ _ rfl Tryz.call204 _ (args1 (hd 1 _ rfl rfl (aj rfl))) (by simp) ((BK g8 _ hR.out.2.1 w2).mono ?_);rintro e w3 ⟨rfl,hb⟩;exact ⟨_,rfl,rfl,hb⟩
      ·intro _ a w2 hB hF hd;refine aG <| aI _ _ _ rfl Tryz.call203 _ (args2 (hd 0 _ rfl rfl (aj rfl)) (hd 2 _ rfl rfl (aj rfl))) (by simp) ((fI _ _ _ _ hR.out.1 (UJ hR.out.2.1) w2).mono ?_);rintro e w3 ⟨rfl,hb⟩;exact ⟨_,rfl,rfl,hb⟩
      ·intro _ a w2 hB hF hd;refine aG <| aI _ _ _ rfl Tryz.call205 _ (args1 (hd 3 _ rfl rfl (aj rfl))) (by simp) ((HBY.out w2).mono ?_);rintro e w3 ⟨rfl,hb⟩;exact ⟨_,rfl,rfl,hb⟩
     ·refine dD ?_;refine ⟨(aF),(aF),(aF),(aF),(aF),?_,trivial⟩
      ·intro _ a w1 w2 K hB hF hS hr hK;exact bB 22 _ _ rfl .u8 ((w.heap.size+2)) 32 (fun _=> 0) (dg 256 (iq N UN % Pr)) bZ (hF.same 4 rfl) (hS 4 _ rfl rfl) hr hK
     ·intro a wf w9 hB hF hS hfil;have other:∀{k:IntKind} {qb n:Nat} {f:Nat->Int},qb≠(w.heap.size+2)->aD k wf qb n f->aD k w9 qb n f:=fun {k qb n f} e0 hA=> hfil.arr (by intro i _ hpi;simp only [oP,beq_iff_eq] at hpi;subst hpi<;> ((try simp only []);(try dsimp only);omega)) hA;have fP:∀{B:Nat} {w0:World},B<=(w.heap.size+2)->Below B w0 wf->Below B w0 w9:=fun {B w0} e0 hA=> hfil.below (by intro i _ hpi;simp only [oP,beq_iff_eq] at hpi;subst hpi<;> ((try simp only []);(try dsimp only);omega)) hA;have V5:aD .u8 w9 ((w.heap.size+2)) 32 (dg 256 (iq N UN % Pr)):=hfil.at 5 (by decide) rfl;have EP:=hfil.size;clear hfil;have ha:=aK rfl rfl hF [_,_,_,_,_,undef] rfl ⟨hS 0 _ rfl rfl,hS 1 _ rfl rfl,hS 2 _ rfl rfl,hS 3 _ rfl rfl,hS 4 _ rfl rfl,trivial,trivial⟩;simp only [puts,Act.put,dS,dU,dV] at ha;subst ha;clear hS hF;have hb:=fP (by omega) (hbel.trans (hB.mono hbel.size));go_wp2;rw [Exit.noGoto_ret];exact bodyPost_ret (aV rfl _ _ .u8 (w.heap.size+2) 32 _ 5 rfl V5 dB bZ) rfl ⟨rfl,hb⟩
   ·obtain ⟨m,hm⟩:∃m,m=254 - k:=⟨_,rfl⟩
    have ei:(254:Int) - (k:Int)=(m:Int):=by omega
    have HKM:Hid ((m:Int)=254 - (k:Int)):=ei.symm;have HKL:=ak hlt;have afl:m<=254:=by omega
    rw [ei];have hm9:m % 8<8:=Nat.mod_lt _ (by decide);have hq:IntKind.i64.wrap (Int.tdiv (m:Int) 8)=((m / 8:Nat):Int):=by rw [Int.tdiv_eq_ediv_of_nonneg (by omega),aR] <;> omega
    have hr:Int.tmod (m:Int) 8=((m % 8:Nat):Int):=by rw [Int.tmod_eq_emod_of_nonneg (by omega)];omega
    have hc:IntKind.u64.wrap ((m % 8:Nat):Int)=((m % 8:Nat):Int):=qz (by omega) (by omega);obtain ⟨d0,d1⟩:=aN (by decide:(0:Int)<256) N (m / 8);have hsh:=Jy (x:=dg 256 N (m / 8)) (m % 8) hm9;have hand:bits .and .u8 (dg 256 N (m / 8) / 2 ^ (m % 8)) 1=N / 2 ^ m % 2:=by
     rw [JE (Int.ediv_nonneg d0 (Int.le_of_lt (cZ (by decide) _))) (Int.lt_of_le_of_lt (Int.ediv_le_self _ d0) d1),Fw N m]
    have hpl:((m / 8:Nat):Int).toNat=m / 8:=FU _;have Zu:m / 8<32:=by omega
    have hce:=hN.cell (m / 8) Zu;have hBl:=hN.lt;obtain ⟨bb,hbb⟩:∃bb,bb=(N / 2 ^ m % 2==1):=⟨_,rfl⟩
    obtain ⟨pq,hpq⟩:∃pq,pq=(bb !=q):=⟨_,rfl⟩
    have HPQ:=ak hpq;clear hpq;go_upto_region 7 with (fail)
    refine aT (n:=77) (by kernel_rfl) (by kernel_rfl) (by kernel_rfl) rfl
     (fun ii vv _=> (match ii with | 0 | 3 | 4 | 8 | 9=> vv=.int .i64 ((m:Int)) | 1 | 2=> vv=.bool true | 5=> vv=.int .i64 ((m / 8:Nat)) | 6=> vv=.pointer (some ⟨bn,(m / 8),none⟩) | 7=> vv=.int .u8 (dg 256 N (m / 8)) | 10=> vv=.int .i64 ((m % 8:Nat)) | 11=> vv=.int .u64 ((m % 8:Nat)) | 12=> vv=.int .u8 (dg 256 N (m / 8) / 2 ^ (m % 8)) | 13=> vv=.int .u8 (N / 2 ^ m % 2) | 14 | 15 | 16=> vv=.bool bb | _=> True))
     (fun w w'=> Below w.heap.size w w') (fun _ _ h=> h) (fun _ _ _ _ h _=> h) ?_ ?_
    ·refine dD ?_;refine ⟨?_,?_,?_,?_,?_,?_,?_,?_,?_,?_,?_,?_,?_,?_,?_,?_,?_,trivial⟩
     ·intro a w2 hB hF hd;exact aG <| bJ rfl (hF.same 12 rfl)
     ·intro a w2 hB hF hd;exact aG <| aO (Go.aQ.Nk rfl (hd 0 _ rfl (aj rfl)) rfl) (congrArg Value.bool (decide_eq_true (by omega)))
     ·intro a w2 hB hF hd;exact aG <| bJ rfl (hd 1 _ rfl (aj rfl))
     ·intro a w2 hB hF hd;refine aS (aX rfl rfl (hd 2 _ rfl (aj rfl)) rfl) ?_;exact bJ rfl (hF.same 12 rfl)
     ·intro a w2 hB hF hd;refine aS (aX rfl rfl (hd 2 _ rfl (aj rfl)) rfl) ?_;exact aO (Gz rfl (hd 3 _ rfl (aj rfl)) rfl (by omega)) rfl
     ·intro a w2 hB hF hd;refine aS (aX rfl rfl (hd 2 _ rfl (aj rfl)) rfl) ?_;exact aO (Go.aQ.uE rfl (hd 4 _ rfl (aj rfl)) rfl (by decide)) (congrArg (Value.int .i64) (hq))
     ·intro a w2 hB hF hd;refine aS (aX rfl rfl (hd 2 _ rfl (aj rfl)) rfl) ?_;exact aO (aL rfl (hF.same 5 rfl) (hd 5 _ rfl (aj rfl)) dB (by kernel_rfl) (by omega) (by omega)) (congrArg (fun z=> Value.pointer (some ⟨bn,z,none⟩)) hpl)
     ·intro a w2 hB hF hd;refine aS (aX rfl rfl (hd 2 _ rfl (aj rfl)) rfl) ?_;exact aO (aJ rfl (hd 6 _ rfl (aj rfl)) FD ((hB.cell (p:=⟨bn,m / 8,none⟩) hBl).trans hce)) rfl
     ·intro a w2 hB hF hd;refine aS (aX rfl rfl (hd 2 _ rfl (aj rfl)) rfl) ?_;exact bJ rfl (hF.same 12 rfl)
     ·intro a w2 hB hF hd;refine aS (aX rfl rfl (hd 2 _ rfl (aj rfl)) rfl) ?_;exact aO (Gz rfl (hd 8 _ rfl (aj rfl)) rfl (by omega)) rfl
     ·intro a w2 hB hF hd;refine aS (aX rfl rfl (hd 2 _ rfl (aj rfl)) rfl) ?_;exact aO (Go.aQ.DZ rfl (hd 9 _ rfl (aj rfl)) rfl (by decide)) (congrArg (Value.int .i64) (hr))
     ·intro a w2 hB hF hd;refine aS (aX rfl rfl (hd 2 _ rfl (aj rfl)) rfl) ?_;exact aO (qN rfl (hd 10 _ rfl (aj rfl)) Tryz.underlying3 Tryz.underlying212) (congrArg (Value.int .u64) (hc))
     ·intro a w2 hB hF hd;refine aS (aX rfl rfl (hd 2 _ rfl (aj rfl)) rfl) ?_;exact aO (Go.aQ.uD rfl (hd 7 _ rfl (aj rfl)) (hd 11 _ rfl (aj rfl)) (by omega)) (congrArg (Value.int .u8) (hsh))
     ·intro a w2 hB hF hd;refine aS (aX rfl rfl (hd 2 _ rfl (aj rfl)) rfl) ?_;exact aO (Go.aQ.jo rfl (hd 12 _ rfl (aj rfl)) rfl) (congrArg (Value.int .u8) (hand))
     ·intro a w2 hB hF hd;refine aS (aX rfl rfl (hd 2 _ rfl (aj rfl)) rfl) ?_;refine aO (Go.aQ.wY rfl (hd 13 _ rfl (aj rfl)) rfl) ?_;exact congrArg Value.bool hbb.symm
     ·intro a w2 hB hF hd;exact aG <| aO (jQ rfl (hd 2 _ rfl (aj rfl))) ((hd 14 _ rfl (aj rfl)))
     ·intro a w2 hB hF hd;exact aG <| lS rfl (hd 15 _ rfl (aj rfl))
    ·intro a w7 hB hF hS;have ha:=aK rfl rfl hF [_,_,_,_,_,_,_,_,_,_,_,_,_,_,_,_,_] rfl ⟨hS 0 _ rfl,hS 1 _ rfl,hS 2 _ rfl,hS 3 _ rfl,hS 4 _ rfl,hS 5 _ rfl,hS 6 _ rfl,hS 7 _ rfl,hS 8 _ rfl,hS 9 _ rfl,hS 10 _ rfl,hS 11 _ rfl,hS 12 _ rfl,hS 13 _ rfl,hS 14 _ rfl,hS 15 _ rfl,hS 16 _ rfl,trivial⟩;simp only [puts,Act.put,dS,dU,dV] at ha;subst ha;clear hS hF;replace oN:=oN.kept hB;replace nU:=nU.kept hB;replace qY:=qY.kept hB;replace jv:=jv.kept hB;replace hV:=hV.kept hB;replace hN:=hN.kept hB;replace hZ:=hZ.kept hB;replace hbel:=hbel.trans (hB.mono hbel.size);have DF:=ak hbb;have HM:=ak hm;clear hB hq hr hc hsh hand hce hpl hbb hm Zu hm9 hBl d0 d1;go_upto_region 8 with (fail);have VY:Hid (∀p w,p=(bb !=q)->Calls Tryz.prog 201 #[.agg (arr .i64 16 f7),.agg (arr .i64 16 f9),.bool p] w fun e w'=> e=.returned (.tuple #[.agg (arr .i64 16 (cB pq f7 f9)),.agg (arr .i64 16 (cB pq f9 f7))])/\Below w.heap.size w w'):=by
      rintro p w rfl;rw [HPQ.out];exact pX _ f7 f9 _ _ hR.out.1 hR.out.2.2.1 w
     go_wp2_with (first | (refine bN rfl 191 _ rfl .i64 x7 16 f7 fZ rfl dz rfl oN ?_) | (refine bN rfl 191 _ rfl .i64 x9 16 f9 fZ rfl dz rfl qY ?_));refine (VY.out _ _ (by first | rfl | (rw [DF.out];cases q<;> rfl) | (cases q<;> cases bb<;> rfl))).mono ?_;rintro e wq0 ⟨rfl,hbq⟩;replace oN:=oN.kept hbq;replace qY:=qY.kept hbq;replace nU:=nU.kept hbq;replace jv:=jv.kept hbq;replace hV:=hV.kept hbq;replace hN:=hN.kept hbq;replace hZ:=hZ.kept hbq;replace hbel:=hbel.trans (hbq.mono hbel.size);have s2:=qY.aA x7 (by omega) (arr .i64 16 (cB pq f7 f9));clear VY hbq;go_upto_region 9 with (first | (refine aH rfl 191 _ _ rfl .i64 x7 16 f7 (cB pq f7 f9) dz rfl rfl oN ?_) | (refine aH rfl 191 _ _ rfl .i64 x9 16 f9 (cB pq f9 f7) dz rfl rfl s2 ?_))
     refine aC (fun wq=> aD .i64 wq x7 16 (cB pq f7 f9)/\aD .i64 wq x9 16 (cB pq f9 f7)/\aD .i64 wq x8 16 f8/\aD .i64 wq x10 16 f10/\aD .i64 wq bu 16 fu/\aD .u8 wq bn 32 (dg 256 N)/\aD .u8 wq (w.heap.size+2) 32 (fun _=> 0)/\Below w.heap.size w wq)
      ⟨(oN.setRow _ _).aA _ (by omega) _,s2.setRow _ _,(nU.aA _ (by omega) _).aA _ (by omega) _,(jv.aA _ (by omega) _).aA _ (by omega) _,(hV.aA _ (by omega) _).aA _ (by omega) _,(hN.aA _ (by omega) _).aA _ (by omega) _,(hZ.aA _ (by omega) _).aA _ (by omega) _,ay (ay hbel (by omega) _) (by omega) _⟩ ?_
     clear s2 oN qY nU jv hV hN hZ hbel;rintro wq ⟨oN,qY,nU,jv,hV,hN,hZ,hbel⟩
     try simp only [Act.put,dS,dU,dV]
     have VX:Hid (∀p w,p=(bb !=q)->Calls Tryz.prog 201 #[.agg (arr .i64 16 f8),.agg (arr .i64 16 f10),.bool p] w fun e w'=> e=.returned (.tuple #[.agg (arr .i64 16 (cB pq f8 f10)),.agg (arr .i64 16 (cB pq f10 f8))])/\Below w.heap.size w w'):=by
      rintro p w rfl;rw [HPQ.out];exact pX _ f8 f10 _ _ hR.out.2.1 hR.out.2.2.2 w
     go_wp2_with (first | (refine bN rfl 191 _ rfl .i64 x8 16 f8 fZ rfl dz rfl nU ?_) | (refine bN rfl 191 _ rfl .i64 x10 16 f10 fZ rfl dz rfl jv ?_));refine (VX.out _ _ (by first | rfl | (rw [DF.out];cases q<;> rfl) | (cases q<;> cases bb<;> rfl))).mono ?_;rintro e wp0 ⟨rfl,hbq⟩;replace nU:=nU.kept hbq;replace jv:=jv.kept hbq;replace oN:=oN.kept hbq;replace qY:=qY.kept hbq;replace hV:=hV.kept hbq;replace hN:=hN.kept hbq;replace hZ:=hZ.kept hbq;replace hbel:=hbel.trans (hbq.mono hbel.size);have s2:=jv.aA x8 (by omega) (arr .i64 16 (cB pq f8 f10));clear VX hbq;go_upto_region 10 with (first | (refine aH rfl 191 _ _ rfl .i64 x8 16 f8 (cB pq f8 f10) dz rfl rfl nU ?_) | (refine aH rfl 191 _ _ rfl .i64 x10 16 f10 (cB pq f10 f8) dz rfl rfl s2 ?_))
     refine aC (fun wp=> aD .i64 wp x8 16 (cB pq f8 f10)/\aD .i64 wp x10 16 (cB pq f10 f8)/\aD .i64 wp x7 16 (cB pq f7 f9)/\aD .i64 wp x9 16 (cB pq f9 f7)/\aD .i64 wp bu 16 fu/\aD .u8 wp bn 32 (dg 256 N)/\aD .u8 wp (w.heap.size+2) 32 (fun _=> 0)/\Below w.heap.size w wp)
      ⟨(nU.setRow _ _).aA _ (by omega) _,s2.setRow _ _,(oN.aA _ (by omega) _).aA _ (by omega) _,(qY.aA _ (by omega) _).aA _ (by omega) _,(hV.aA _ (by omega) _).aA _ (by omega) _,(hN.aA _ (by omega) _).aA _ (by omega) _,(hZ.aA _ (by omega) _).aA _ (by omega) _,ay (ay hbel (by omega) _) (by omega) _⟩ ?_
     clear s2 nU jv oN qY hV hN hZ hbel;rintro wp ⟨nU,jv,oN,qY,hV,hN,hZ,hbel⟩
     try simp only [Act.put,dS,dU,dV]
     replace hR:Hid (Fe4 (cB pq f7 f9) (cB pq f8 f10) (cB pq f9 f7) (cB pq f10 f8) ((ow N UN k).flip bb)):=by have h:=hR.out.flip pq;rwa [show ((ow N UN k).flip q).flip pq=(ow N UN k).flip bb by rw [HPQ.out,Two.flip_flip]] at h
     obtain ⟨g7,Ra⟩:∃g,g=cB pq f7 f9:=⟨_,rfl⟩
     obtain ⟨g8,Yp⟩:∃g,g=cB pq f8 f10:=⟨_,rfl⟩
     obtain ⟨g9,hg9⟩:∃g,g=cB pq f9 f7:=⟨_,rfl⟩
     obtain ⟨g10,Uo⟩:∃g,g=cB pq f10 f8:=⟨_,rfl⟩
     rw [<-Ra] at oN hR;rw [<-Yp] at nU hR;rw [<-hg9] at qY hR;rw [<-Uo] at jv hR;clear Ra Yp hg9 Uo;have Oq:=ak (fun w=> LB g7 g8 g9 g10 fu _ _ _ _ _ hR.out.1 hR.out.2.1 hR.out.2.2.1 hR.out.2.2.2 HFU.out w);unfold El at Oq;go_wp2_with (first | (refine bN rfl 191 _ rfl .i64 x7 16 g7 fZ rfl dz rfl oN ?_) | (refine bN rfl 191 _ rfl .i64 x8 16 g8 fZ rfl dz rfl nU ?_) | (refine bN rfl 191 _ rfl .i64 x9 16 g9 fZ rfl dz rfl qY ?_) | (refine bN rfl 191 _ rfl .i64 x10 16 g10 fZ rfl dz rfl jv ?_) | (refine bN rfl 191 _ rfl .i64 bu 16 fu fZ rfl dz rfl hV ?_));refine (Oq.out _).mono ?_;rintro e wc ⟨a,b,c,d,rfl,hF4,hbc⟩;replace oN:=oN.kept hbc;replace nU:=nU.kept hbc;replace qY:=qY.kept hbc;replace jv:=jv.kept hbc;replace hV:=hV.kept hbc;replace hN:=hN.kept hbc;replace hZ:=hZ.kept hbc;replace hbel:=hbel.trans (hbc.mono hbel.size);clear Oq hbc;have s8:=nU.aA x7 (by omega) (arr .i64 16 a);have s9:=(qY.aA x7 (by omega) (arr .i64 16 a)).aA x8 (by omega) (arr .i64 16 b);have s10:=((jv.aA x7 (by omega) (arr .i64 16 a)).aA x8 (by omega) (arr .i64 16 b)).aA x9 (by omega) (arr .i64 16 c);have e7:=(((oN.setRow 16 a).aA x8 (by omega) (arr .i64 16 b)).aA x9 (by omega) (arr .i64 16 c)).aA x10 (by omega) (arr .i64 16 d);have e8:=((s8.setRow 16 b).aA x9 (by omega) (arr .i64 16 c)).aA x10 (by omega) (arr .i64 16 d);have e9:=(s9.setRow 16 c).aA x10 (by omega) (arr .i64 16 d);have e10:=s10.setRow 16 d;have hVe:=(((hV.aA x7 (by omega) (arr .i64 16 a)).aA x8 (by omega) (arr .i64 16 b)).aA x9 (by omega) (arr .i64 16 c)).aA x10 (by omega) (arr .i64 16 d);have hNe:=(((hN.aA x7 (by omega) (arr .i64 16 a)).aA x8 (by omega) (arr .i64 16 b)).aA x9 (by omega) (arr .i64 16 c)).aA x10 (by omega) (arr .i64 16 d);have hZe:=(((hZ.aA x7 (by omega) (arr .i64 16 a)).aA x8 (by omega) (arr .i64 16 b)).aA x9 (by omega) (arr .i64 16 c)).aA x10 (by omega) (arr .i64 16 d);have hbe:=ay (ay (ay (ay hbel (by omega:w.heap.size<=x7) (arr .i64 16 a)) (by omega:w.heap.size<=x8) (arr .i64 16 b)) (by omega:w.heap.size<=x9) (arr .i64 16 c)) (by omega:w.heap.size<=x10) (arr .i64 16 d);have HA7:=ak oN;have S8:=ak s8;have S9:=ak s9;have S10:=ak s10;have hst:ow N UN (k+1)=(ow N UN k).rung UN (N / 2 ^ m % 2):=by rw [HM.out];rfl
     have hfl:=Two.OT UN (N / 2 ^ m % 2) (by omega) (ow N UN k);rw [<-hst,←DF.out] at hfl;have HFL:Hid (Fe4 a b c d ((ow N UN (k+1)).flip bb)):=by rw [<-hfl];exact hF4
     clear oN nU qY jv hV hN hZ hbel s8 s9 s10 hst hfl hF4 hR ei;go_wp2_with (first | (refine aH rfl 191 _ _ rfl .i64 x7 16 g7 a dz rfl rfl HA7.out ?_) | (refine aH rfl 191 _ _ rfl .i64 x8 16 g8 b dz rfl rfl S8.out ?_) | (refine aH rfl 191 _ _ rfl .i64 x9 16 g9 c dz rfl rfl S9.out ?_) | (refine aH rfl 191 _ _ rfl .i64 x10 16 g10 d dz rfl rfl S10.out ?_));go_roundw
     case rel=> exact ⟨k+1,bb,a,b,c,d,by have:=HKL.out;omega,congrArg (Value.int .i64) (by have:=HKM.out;omega),rfl,HFL,⟨e7,e8,e9,e10⟩,⟨hVe,hNe,hZe⟩,hbe⟩
     case measure=> simp [intOf] <;> (have:=HKM.out;omega)
abbrev mulN (S U:Int):Int:=iq (dx S) (U % 2 ^ 255) % Pr
theorem Qx {a:Act} (w:World):(Instr.build 22 ((#[] :Array (Nat × Operand)).map fun (i,x)=> (i,a.eval x))).run Tryz.prog w=.ok (.agg (arr .u8 32 (dg 256 0))) w:=Qz (a:=a) w
theorem uS (S:Int) (w:World):
  Calls Tryz.prog 90 #[.agg (arr .u8 32 (dg 256 S))] w fun e w'=> e=.returned (.agg (arr .u8 32 (dg 256 (mulN S 9))))/\Below w.heap.size w w':=by
 have HM:=ak (fun w=> CW S 9 w);unfold mulN;obtain ⟨X,hX⟩:∃X,X=iq (dx S) (9 % 2 ^ 255) % Pr:=⟨_,rfl⟩
 rw [<-hX] at HM ⊢;clear hX
 go_enter Tryz.func90,Tryz.ntmps90
 go_upto_region 1 with (fail);refine aC (fun w1=> aD .u8 w1 w.heap.size 32 (dg 256 S)/\aD .u8 w1 (w.heap.size+1) 32 (fun _=> 0)/\Below w.heap.size w w1) ⟨.alloc (bg rfl rfl) _,bg (by first | omega | (simp<;> omega)) (by rfl),((bA _ _).alloc (aP _) _).alloc (by first | omega | (simp<;> omega)) _⟩ ?_;rintro w1 ⟨hA,hZ,hbel⟩
 refine eD (n:=6) (fun i=> i==3) (by kernel_rfl) (by kernel_rfl) (by kernel_rfl) (by kernel_rfl) rfl
  (fun ii vv _=> (match ii with | 0=> vv=.agg (arr .u8 32 (dg 256 S)) | 1=> vv=.agg (arr .u8 32 (dg 256 9)) | 2=> vv=.agg (arr .u8 32 (dg 256 X)) | _=> True))
  (fun w w'=> Below w.heap.size w w') (fun _ _ h=> h) (fun _ _ _ _ h _=> h)
  (fun _=> (w.heap.size+1)) (fun _=> (arr .u8 32 (fun _=> 0))) (fun _=> (arr .u8 32 (dg 256 X)))
  (by intro i j _ _ hpi ko hne;simp only [beq_iff_eq] at hpi ko;omega)
  (by intro i _ hpi;exact (hZ).row)
  ?_ ?_ ?_
 ·refine dD ?_;refine ⟨?_,?_,?_,(aF),trivial⟩
  ·intro _ a w2 hB hF hd;exact aG <| aO (aB rfl dB rfl bZ (hF.same 1 rfl) (hA.below hB hA.lt)) rfl
  ·intro _ a w2 hB hF hd;refine aG <| aI _ _ _ rfl Tryz.call142 _ JC (by simp) ((LC w2).mono ?_);rintro e w3 ⟨rfl,hb⟩;exact ⟨_,rfl,rfl,hb⟩
  ·intro _ a w2 hB hF hd;refine aG <| aI _ _ _ rfl Tryz.call141 _ (args2 (hd 0 _ rfl rfl (aj rfl)) (hd 1 _ rfl rfl (aj rfl))) (by simp) ((HM.out w2).mono ?_);rintro e w3 ⟨rfl,hb⟩;exact ⟨_,rfl,rfl,hb⟩
 ·refine dD ?_;refine ⟨(aF),(aF),(aF),?_,trivial⟩
  ·intro _ a w1 w2 K hB hF hS hr hK;exact bB 22 _ _ rfl .u8 ((w.heap.size+1)) 32 (fun _=> 0) (dg 256 X) bZ (hF.same 2 rfl) (hS 2 _ rfl rfl) hr hK
 ·intro a wf w3 hB hF hS hfil;have other:∀{k:IntKind} {qb n:Nat} {f:Nat->Int},qb≠(w.heap.size+1)->aD k wf qb n f->aD k w3 qb n f:=fun {k qb n f} e0 hA=> hfil.arr (by intro i _ hpi;simp only [oP,beq_iff_eq] at hpi;subst hpi<;> ((try simp only []);(try dsimp only);omega)) hA;have fP:∀{B:Nat} {w0:World},B<=(w.heap.size+1)->Below B w0 wf->Below B w0 w3:=fun {B w0} e0 hA=> hfil.below (by intro i _ hpi;simp only [oP,beq_iff_eq] at hpi;subst hpi<;> ((try simp only []);(try dsimp only);omega)) hA;have V3:aD .u8 w3 ((w.heap.size+1)) 32 (dg 256 X):=hfil.at 3 (by decide) rfl;have EP:=hfil.size;clear hfil;have ha:=aK rfl rfl hF [_,_,_,undef] rfl ⟨hS 0 _ rfl rfl,hS 1 _ rfl rfl,hS 2 _ rfl rfl,trivial,trivial⟩;simp only [puts,Act.put,dS,dU,dV] at ha;subst ha;clear hS hF;have hb:=fP (by omega) (hbel.trans (hB.mono hbel.size));go_wp2;exact bodyPost_ret (aV rfl _ _ .u8 (w.heap.size+1) 32 _ 5 rfl V3 dB bZ) rfl ⟨rfl,hb⟩
theorem CP (S U:Int):jq 32 (dg 256 (mulN S U)) (dg 256 0)=decide (mulN S U=0):=by
 have h:=KM (iq (dx S) (U % 2 ^ 255)) 0;rw [show (0:Int) % Pr=0 by decide] at h;rw [h];unfold eqP mulN;rw [show (0:Int) % Pr=0 by decide]
theorem EG (S U:Int) (w:World):
  Calls Tryz.prog 172 #[.agg (arr .u8 32 (dg 256 S)),.agg (arr .u8 32 (dg 256 U))] w fun e w'=> e=.returned (.tuple #[.agg (arr .u8 32 (dg 256 (mulN S U))),.int .i64 (oK (mulN S U))])/\Below w.heap.size w w':=by
 have HM:Hid (∀w,Calls Tryz.prog 141 #[.agg (arr .u8 32 (dg 256 S)),.agg (arr .u8 32 (dg 256 U))] w fun e w'=> e=.returned (.agg (arr .u8 32 (dg 256 (mulN S U))))/\Below w.heap.size w w'):=fun w=> CW S U w;have HZ:=ak (CP S U);have HE:Hid (oK (mulN S U)=if mulN S U=0 then 21 else 0):=rfl;have HB:=ak (fun (a:Act) w=> Qx (a:=a) w);obtain ⟨X,hX⟩:∃X,X=mulN S U:=⟨_,rfl⟩
 rw [<-hX] at HM HZ HE ⊢;obtain ⟨er,her⟩:∃er,er=oK X:=⟨_,rfl⟩
 rw [<-her] at HE ⊢;clear hX her
 go_enter Tryz.func172,Tryz.ntmps172
 go_upto_region 1 with (fail);refine aC (fun w1=> aD .u8 w1 w.heap.size 32 (dg 256 S)/\aD .u8 w1 (w.heap.size+1) 32 (dg 256 U)/\aD .u8 w1 (w.heap.size+2) 32 (fun _=> 0)/\Below w.heap.size w w1) ⟨.alloc (.alloc (bg rfl rfl) _) _,.alloc (bg (by first | omega | (simp<;> omega)) rfl) _,bg (by first | omega | (simp<;> omega)) (by rfl),(((bA _ _).alloc (aP _) _).alloc (by first | omega | (simp<;> omega)) _).alloc (by first | omega | (simp<;> omega)) _⟩ ?_;rintro w1 ⟨hA,hP,hZ,hbel⟩
 go_wp2_with (first
  | (refine aM rfl 22 _ rfl .u8 w.heap.size 32 (dg 256 S) 5 dB bZ rfl hA ?_)
  | (refine aM rfl 22 _ rfl .u8 (w.heap.size+1) 32 (dg 256 U) 5 dB bZ rfl hP ?_))
 refine (HM.out _).mono ?_;rintro e w2 ⟨rfl,hb2⟩;have hZ2:=hZ.kept hb2;have bq:=hbel.trans (hb2.mono hbel.size);have hl2:=hZ2.lt;clear hA hP hZ hbel hb2;go_upto_region 2 with (refine aH rfl 22 _ _ rfl .u8 w2.heap.size 32 (fun _=> 0) (dg 256 X) bZ rfl rfl (bg rfl (by rfl)) ?_)
 refine aC (fun w3=> aD .u8 w3 w2.heap.size 32 (dg 256 X)/\aD .u8 w3 (w.heap.size+2) 32 (fun _=> 0)/\Below w.heap.size w w3)
  ⟨(bg rfl (by rfl):aD .u8 _ _ 32 (fun _=> 0)).setRow _ _,aD.aA (aD.alloc hZ2 _) _ (by omega) _,ay (bq.alloc bq.size _) bq.size _⟩ ?_
 rintro w3 ⟨hX,hZ3,bH⟩;obtain ⟨bx,hbx⟩:∃bx,bx=w2.heap.size:=⟨_,rfl⟩
 rw [<-hbx] at hX hl2 ⊢;clear hbx hZ2 bq
 try simp only [Act.put,dS,dU,dV]
 by_cases h0:X=0
 case pos=>
  have h1:er=21:=by rw [HE.out,if_pos h0]
  have HQ:Hid (jq 32 (dg 256 X) (dg 256 0)=true):=by rw [HZ.out];exact decide_eq_true h0
  have H1:=ak h1;clear h0 h1 HE HZ
  refine aT (n:=15) (by kernel_rfl) (by kernel_rfl) (by kernel_rfl) rfl
   (fun ii vv _=> (match ii with | 0=> vv=.agg (arr .u8 32 (dg 256 X)) | 1=> vv=.agg (arr .u8 32 (dg 256 0)) | 2=> vv=.bool true | _=> True))
   (fun w w'=> Below w.heap.size w w') (fun _ _ h=> h) (fun _ _ _ _ h _=> h) ?_ ?_
  ·refine dD ?_;refine ⟨?_,?_,?_,trivial⟩
   ·intro a w2 hB hF hd;exact aG <| aO (aB rfl dB rfl bZ (hF.same 6 rfl) (hX.below hB hX.lt)) rfl
   ·intro a w2 hB hF hd;exact aG <| aO (fF rfl (HB.out _ _)) rfl
   ·intro a w2 hB hF hd;exact aG <| aO (nN true rfl (hd 0 _ rfl (aj rfl)) (hd 1 _ rfl (aj rfl)) dB (by kernel_rfl) (by kernel_rfl) (by kernel_rfl) (by kernel_rfl) (by kernel_rfl) HQ.out) rfl
  ·intro a w4 hB hF hS;have ha:=aK rfl rfl hF [_,_,_] rfl ⟨hS 0 _ rfl,hS 1 _ rfl,hS 2 _ rfl,trivial⟩;simp only [puts,Act.put,dS,dU,dV] at ha;subst ha;clear hS hF;have hX4:=hX.kept hB;have pV:=hZ3.kept hB;have hb4:=bH.trans (hB.mono bH.size);clear hX hZ3 bH hB HQ
   go_wp2_with (first
    | (refine aM rfl 22 _ rfl .u8 bx 32 (dg 256 X) 5 dB bZ rfl hX4 ?_)
    | (refine aH rfl 22 _ _ rfl .u8 (w.heap.size+2) 32 (fun _=> 0) (dg 256 X) bZ rfl rfl pV ?_))
   exact bodyPost_ret (dM rfl _ _ .u8 (w.heap.size+2) 32 _ 5 rfl (pV.setRow 32 (dg 256 X)) dB bZ) rfl ⟨by rw [H1.out];rfl,ay hb4 (by omega) _⟩
 case neg=>
  have h1:er=0:=by rw [HE.out,if_neg h0]
  have HQ:Hid (jq 32 (dg 256 X) (dg 256 0)=false):=by rw [HZ.out];exact decide_eq_false h0
  have H1:=ak h1;clear h0 h1 HE HZ
  refine aT (n:=15) (by kernel_rfl) (by kernel_rfl) (by kernel_rfl) rfl
   (fun ii vv _=> (match ii with | 0=> vv=.agg (arr .u8 32 (dg 256 X)) | 1=> vv=.agg (arr .u8 32 (dg 256 0)) | 2=> vv=.bool false | _=> True))
   (fun w w'=> Below w.heap.size w w') (fun _ _ h=> h) (fun _ _ _ _ h _=> h) ?_ ?_
  ·refine dD ?_;refine ⟨?_,?_,?_,trivial⟩
   ·intro a w2 hB hF hd;exact aG <| aO (aB rfl dB rfl bZ (hF.same 6 rfl) (hX.below hB hX.lt)) rfl
   ·intro a w2 hB hF hd;exact aG <| aO (fF rfl (HB.out _ _)) rfl
   ·intro a w2 hB hF hd;exact aG <| aO (nN false rfl (hd 0 _ rfl (aj rfl)) (hd 1 _ rfl (aj rfl)) dB (by kernel_rfl) (by kernel_rfl) (by kernel_rfl) (by kernel_rfl) (by kernel_rfl) HQ.out) rfl
  ·intro a w4 hB hF hS;have ha:=aK rfl rfl hF [_,_,_] rfl ⟨hS 0 _ rfl,hS 1 _ rfl,hS 2 _ rfl,trivial⟩;simp only [puts,Act.put,dS,dU,dV] at ha;subst ha;clear hS hF;have hX4:=hX.kept hB;have pV:=hZ3.kept hB;have hb4:=bH.trans (hB.mono bH.size);clear hX hZ3 bH hB HQ
   go_wp2_with (first
    | (refine aM rfl 22 _ rfl .u8 bx 32 (dg 256 X) 5 dB bZ rfl hX4 ?_)
    | (refine aH rfl 22 _ _ rfl .u8 (w.heap.size+2) 32 (fun _=> 0) (dg 256 X) bZ rfl rfl pV ?_))
   exact bodyPost_ret (dM rfl _ _ .u8 (w.heap.size+2) 32 _ 5 rfl (pV.setRow 32 (dg 256 X)) dB bZ) rfl ⟨by rw [H1.out];rfl,ay hb4 (by omega) _⟩
end Go.Proofs.YtpcjekgfnfjbpaaGreat
