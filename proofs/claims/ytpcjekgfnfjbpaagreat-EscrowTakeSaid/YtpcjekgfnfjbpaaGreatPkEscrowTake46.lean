/-
  Part 46 of EscrowTake. Conditions: named in each theorem.
-/
import Derived.Test.YtpcjekgfnfjbpaaGreatPkEscrowTake45
import Derived.Test.YtpcjekgfnfjbpaaGreatPkEscrowTake18
import Derived.WalkMore
set_option linter.unusedVariables false
set_option linter.unusedSimpArgs false
set_option maxRecDepth 100000
set_option maxHeartbeats 6400000
namespace Go.aZ
open Go.RowKit
theorem Two.acG (p:Bool) (s:Two):(s.flip p).a=if p then s.c else s.a:=by cases p<;> rfl
theorem Two.acF (p:Bool) (s:Two):(s.flip p).b=if p then s.d else s.b:=by cases p<;> rfl
theorem Two.acE (p:Bool) (s:Two):(s.flip p).c=if p then s.a else s.c:=by cases p<;> rfl
theorem Two.acD (p:Bool) (s:Two):(s.flip p).d=if p then s.b else s.d:=by cases p<;> rfl
theorem Two.flip_flip (p q:Bool) (s:Two):(s.flip q).flip (p !=q)=s.flip p:=by cases p<;> cases q<;> rfl
def Fe4 (f g h e:Nat->Int) (s:Two):Prop:=Fe f s.a/\Fe g s.b/\Fe h s.c/\Fe e s.d
theorem Fe4.flip {f g h e:Nat->Int} {s:Two} (p:Bool) (H:Fe4 f g h e s):Fe4 (aS p f h) (aS p g e) (aS p h f) (aS p e g) (s.flip p):=
 ⟨by rw [Two.acG];exact yC H.1 H.2.2.1,by rw [Two.acF];exact yC H.2.1 H.2.2.2,by rw [Two.acE];exact yC H.2.2.1 H.1,by rw [Two.acD];exact yC H.2.2.2 H.2.1⟩
def ow (X:Int):Int:=if X=0 then 21 else 0
end Go.aZ
namespace Go.Proofs.YtpcjekgfnfjbpaaGreat
open Go.RowKit Go.aZ Go.ChangeShapes
attribute [local go_sem ↓] Go.wp_at_zero Go.wp_at_succ
theorem Ct (S U:Int) (w:World):
  Calls Tryz.prog 141 #[.agg (arr .u8 32 (dg 256 S)),.agg (arr .u8 32 (dg 256 U))] w fun e w'=> e=.returned (.agg (arr .u8 32 (dg 256 (iH (dP S) (U % 2 ^ 255) % Pr))))/\Below w.heap.size w w':=by
 have AJ:=ak (fun w=> wZ S w);have QJ:=ak (fun w=> IE U w);have HFU:=ak (Nv U);have Jz:Hid (∀w,Calls Tryz.prog 200 #[.int .i64 1] w fun e w'=> e=.returned (.agg (arr .i64 16 (aN 1)))/\Below w.heap.size w w'):=fun w=> dW 1 w;have Ww:Hid (∀w,Calls Tryz.prog 200 #[.int .i64 0] w fun e w'=> e=.returned (.agg (arr .i64 16 (aN 0)))/\Below w.heap.size w w'):=fun w=> dW 0 w;have HF1:Hid (Fe (aN 1) 1):=by have h:=mh 1;rwa [show pX 1=1 by decide] at h
 have HF0:Hid (Fe (aN 0) 0):=by have h:=mh 0;rwa [show pX 0=0 by decide] at h
 obtain ⟨UN,hUN⟩:∃UN,UN=U % 2 ^ 255:=⟨_,rfl⟩
 rw [<-hUN] at HFU QJ ⊢;obtain ⟨N,hN⟩:∃N,N=dP S:=⟨_,rfl⟩
 rw [<-hN] at AJ ⊢;unfold El at QJ;obtain ⟨fu,hfu⟩:∃fu,fu=dg 65536 UN:=⟨_,rfl⟩
 rw [<-hfu] at HFU QJ;clear hUN hfu hN;obtain ⟨g1,hg1⟩:∃g1,g1=aN 1:=⟨_,rfl⟩
 obtain ⟨g0,hg0⟩:∃g0,g0=aN 0:=⟨_,rfl⟩
 rw [<-hg1] at Jz HF1;rw [<-hg0] at Ww HF0;clear hg1 hg0
 go_enter Tryz.func141,Tryz.ntmps141
 go_upto_region 1 with (fail)
 refine aD (fun w1=> aF .u8 w1 w.heap.size 32 (dg 256 S)/\aF .u8 w1 (w.heap.size+1) 32 (dg 256 U)/\aF .u8 w1 (w.heap.size+2) 32 (fun _=> 0)/\Below w.heap.size w w1)
  ⟨.alloc (.alloc (bM rfl rfl) _) _,.alloc (bM (by first | omega | (simp<;> omega)) rfl) _,bM (by first | omega | (simp<;> omega)) (by rfl),(((bN _ _).alloc (bA _) _).alloc (by first | omega | (simp<;> omega)) _).alloc (by first | omega | (simp<;> omega)) _⟩ ?_
 rintro w1 ⟨hA,hP,hZ,hbel⟩;refine wp_scope_straight ?_;go_wp2_with (refine aQ rfl 22 _ rfl .u8 w.heap.size 32 (dg 256 S) 5 gH eT rfl hA ?_);refine (AJ.out _).mono ?_;rintro e w2 ⟨rfl,hb2⟩;have hP2:=hP.kept hb2;have hZ2:=hZ.kept hb2;have dG:=hbel.trans (hb2.mono hbel.size);have hl2:=hZ2.lt;clear hA hP hZ hbel hb2;go_upto_region 2 with (refine aG rfl 22 _ _ rfl .u8 w2.heap.size 32 (fun _=> 0) (dg 256 N) eT rfl rfl (bM rfl (by rfl)) ?_)
 refine aD (fun w3=> aF .u8 w3 w2.heap.size 32 (dg 256 N)/\aF .u8 w3 (w.heap.size+1) 32 (dg 256 U)/\aF .u8 w3 (w.heap.size+2) 32 (fun _=> 0)/\Below w.heap.size w w3)
  ⟨(bM rfl (by rfl):aF .u8 _ _ 32 (fun _=> 0)).setRow _ _,aF.aA (aF.alloc hP2 _) _ (by omega) _,aF.aA (aF.alloc hZ2 _) _ (by omega) _,ay (dG.alloc dG.size _) dG.size _⟩ ?_
 rintro w3 ⟨hN,hP3,hZ3,dL⟩;obtain ⟨bn,hbn⟩:∃bn,bn=w2.heap.size:=⟨_,rfl⟩
 rw [<-hbn] at hN hl2 ⊢;clear hbn hP2 hZ2 dG
 try simp only [Act.put,dQ,dR,dS]
 go_wp2_with (refine aQ rfl 22 _ rfl .u8 (w.heap.size+1) 32 (dg 256 U) 5 gH eT rfl hP3 ?_);refine (QJ.out _).mono ?_;rintro e w4 ⟨rfl,hb4⟩;have hN4:=hN.kept hb4;have oH:=hZ3.kept hb4;have eP:=dL.trans (hb4.mono dL.size);have hl4:=hN4.lt;clear hN hP3 hZ3 dL hb4;go_upto_region 3 with (refine aG rfl 191 _ _ rfl .i64 w4.heap.size 16 (fun _=> 0) fu bC rfl rfl (bM rfl (by rfl)) ?_)
 refine aD (fun w5=> aF .i64 w5 w4.heap.size 16 fu/\aF .u8 w5 bn 32 (dg 256 N)/\aF .u8 w5 (w.heap.size+2) 32 (fun _=> 0)/\Below w.heap.size w w5)
  ⟨(bM rfl (by rfl):aF .i64 _ _ 16 (fun _=> 0)).setRow _ _,aF.aA (aF.alloc hN4 _) _ (by omega) _,aF.aA (aF.alloc oH _) _ (by omega) _,ay (eP.alloc eP.size _) eP.size _⟩ ?_
 rintro w5 ⟨hV,hN5,nV,fM⟩;obtain ⟨bu,hbu⟩:∃bu,bu=w4.heap.size:=⟨_,rfl⟩
 rw [<-hbu] at hV hl4 ⊢;clear hbu hN4 oH eP
 try simp only [Act.put,dQ,dR,dS]
 have hlu:=hV.lt
 refine bB (n:=77) (by kernel_rfl) (by kernel_rfl) (by kernel_rfl) rfl
  (jh [(8,4),(9,5),(10,6),(11,7)]) (fJ [(8,4),(9,5),(10,6),(11,7)]) (fun _=> arr .i64 16 (fun _=> 0)) (fun i=> match i with | 4=> (arr .i64 16 (g1)) | 5=> (arr .i64 16 (g0)) | 6=> (arr .i64 16 (fu)) | 7=> (arr .i64 16 (g1)) | _=> #[]) (fun _=> 191) (fun i=> match i with | 4=> 7 | 5=> 8 | 6=> 9 | 7=> 10 | _=> 0)
  (fun ii vv _=> (match ii with | 0 | 3=> vv=.agg (arr .i64 16 (g1)) | 1=> vv=.agg (arr .i64 16 (g0)) | 2=> vv=.agg (arr .i64 16 (fu)) | _=> True)) (fun _ _=> True) (fun _ _ _=> trivial) (fun _ _ _ _ _ _ _=> trivial) (fun _ _ _ _ h _=> h)
  (gF rfl) (eG rfl) ?_ ?_ ?_ ?_
 ·refine cO ?_;refine ⟨?_,?_,?_,?_,(fun h=> by cases h),(fun h=> by cases h),(fun h=> by cases h),(fun h=> by cases h),(fun _ h=> by cases h),(fun _ h=> by cases h),(fun _ h=> by cases h),(fun _ h=> by cases h),trivial⟩
  ·intro _ _ a w2 hB hF hd;refine aH <| aC _ _ _ rfl Tryz.call200 _ (args1 rfl) (by simp) ((Jz.out w2).mono ?_);rintro e w3 ⟨rfl,hb⟩;exact ⟨_,rfl,rfl,hb⟩
  ·intro _ _ a w2 hB hF hd;refine aH <| aC _ _ _ rfl Tryz.call200 _ (args1 rfl) (by simp) ((Ww.out w2).mono ?_);rintro e w3 ⟨rfl,hb⟩;exact ⟨_,rfl,rfl,hb⟩
  ·intro _ _ a w2 hB hF hd;exact aH <| aP (aB rfl bZ rfl bC (hF.same 6 rfl) (hV.below hB hV.lt)) rfl
  ·intro _ _ a w2 hB hF hd;refine aH <| aC _ _ _ rfl Tryz.call200 _ (args1 rfl) (by simp) ((Jz.out w2).mono ?_);rintro e w3 ⟨rfl,hb⟩;exact ⟨_,rfl,rfl,hb⟩
 ·refine cO ?_;refine ⟨(fun h=> by cases h),(fun h=> by cases h),(fun h=> by cases h),(fun h=> by cases h),?_,?_,?_,?_,(fun h=> by cases h),(fun h=> by cases h),(fun h=> by cases h),(fun h=> by cases h),trivial⟩
  ·exact fun _=> ⟨rfl,rfl,fun a w2 K h=> aU rfl rfl Tryz.zeroValue191 (by simp) h⟩
  ·exact fun _=> ⟨rfl,rfl,fun a w2 K h=> aU rfl rfl Tryz.zeroValue191 (by simp) h⟩
  ·exact fun _=> ⟨rfl,rfl,fun a w2 K h=> aU rfl rfl Tryz.zeroValue191 (by simp) h⟩
  ·exact fun _=> ⟨rfl,rfl,fun a w2 K h=> aU rfl rfl Tryz.zeroValue191 (by simp) h⟩
 ·refine cO ?_;refine ⟨(fun _ h=> by cases h),(fun _ h=> by cases h),(fun _ h=> by cases h),(fun _ h=> by cases h),(fun _ h=> by cases h),(fun _ h=> by cases h),(fun _ h=> by cases h),(fun _ h=> by cases h),?_,?_,?_,?_,trivial⟩
  ·intro p hp;obtain rfl:4=p:=fO hp;exact ⟨rfl,rfl,⟨_,rfl⟩,aj rfl,fun a w2 b K hB hF hd hx hb h=> bD rfl rfl bC hx (hd 0 _ rfl rfl rfl (aj rfl)) hb h⟩
  ·intro p hp;obtain rfl:5=p:=fO hp;exact ⟨rfl,rfl,⟨_,rfl⟩,aj rfl,fun a w2 b K hB hF hd hx hb h=> bD rfl rfl bC hx (hd 1 _ rfl rfl rfl (aj rfl)) hb h⟩
  ·intro p hp;obtain rfl:6=p:=fO hp;exact ⟨rfl,rfl,⟨_,rfl⟩,aj rfl,fun a w2 b K hB hF hd hx hb h=> bD rfl rfl bC hx (hd 2 _ rfl rfl rfl (aj rfl)) hb h⟩
  ·intro p hp;obtain rfl:7=p:=fO hp;exact ⟨rfl,rfl,⟨_,rfl⟩,aj rfl,fun a w2 b K hB hF hd hx hb h=> bD rfl rfl bC hx (hd 3 _ rfl rfl rfl (aj rfl)) hb h⟩
 ·intro a w6 blk hB hF hS hv hfin dD;obtain ⟨v4,QU,WG⟩:=hv 4 _ rfl rfl;obtain ⟨v5,Fu,Wq⟩:=hv 5 _ rfl rfl;obtain ⟨v6,Ml,v6u⟩:=hv 6 _ rfl rfl;obtain ⟨v7,Dm,Wp⟩:=hv 7 _ rfl rfl;have ha:=aI rfl rfl hF [_,_,_,_,_,_,_,_,undef,undef,undef,undef] rfl ⟨hS 0 _ rfl rfl rfl,hS 1 _ rfl rfl rfl,hS 2 _ rfl rfl rfl,hS 3 _ rfl rfl rfl,v4,v5,v6,v7,trivial,trivial,trivial,trivial,trivial⟩;have f4:=hfin 8 _ 4 rfl rfl;have f5:=hfin 9 _ 5 rfl rfl;have f6:=hfin 10 _ 6 rfl rfl;have f7:=hfin 11 _ 7 rfl rfl;have acQ:=dD 4 5 _ _ rfl rfl rfl rfl (by decide);have agp:=dD 4 6 _ _ rfl rfl rfl rfl (by decide);have agn:=dD 4 7 _ _ rfl rfl rfl rfl (by decide);have agm:=dD 5 6 _ _ rfl rfl rfl rfl (by decide);have agl:=dD 5 7 _ _ rfl rfl rfl rfl (by decide);have UY:=dD 6 7 _ _ rfl rfl rfl rfl (by decide);simp only [puts,Act.put,dQ,dR,dS] at ha;subst ha;have V4:aF .i64 w6 (blk 4) 16 (g1):=⟨_,f4⟩
  have V5:aF .i64 w6 (blk 5) 16 (g0):=⟨_,f5⟩
  have V6:aF .i64 w6 (blk 6) 16 (fu):=⟨_,f6⟩
  have V7:aF .i64 w6 (blk 7) 16 (g1):=⟨_,f7⟩
  clear hS hv hfin dD hF v4 v5 v6 v7 f4 f5 f6 f7;have Yj:=hV.kept hB;have hN6:=hN5.kept hB;have vT:=nV.kept hB;have iO:=fM.trans (hB.mono fM.size);clear hV hN5 nV fM hB;obtain ⟨x7,e7⟩:∃x,x=blk 4:=⟨_,rfl⟩
  obtain ⟨x8,e8⟩:∃x,x=blk 5:=⟨_,rfl⟩
  obtain ⟨x9,e9⟩:∃x,x=blk 6:=⟨_,rfl⟩
  obtain ⟨x10,e10⟩:∃x,x=blk 7:=⟨_,rfl⟩
  rw [<-e7] at V4 acQ agp agn QU ⊢;rw [<-e8] at V5 acQ agm agl Fu ⊢;rw [<-e9] at V6 agp agm UY Ml ⊢;rw [<-e10] at V7 agn agl UY Dm ⊢;clear e7 e8 e9 e10;have l7:bu<x7:=by omega
  have l8:bu<x8:=by omega
  have l9:bu<x9:=by omega
  have l10:bu<x10:=by omega
  clear QU Fu Ml Dm WG Wq v6u Wp hlu;have HR0:Hid (Fe4 g1 g0 fu g1 ((rJ N UN 0).flip false)):=⟨HF1.out,HF0.out,HFU.out,HF1.out⟩
  go_wp2;refine wp_label ?_;go_wp2
  go_loopw [11,12] (fun sw i wr=> ∃(k:Nat) (q:Bool) (f7 f8 f9 f10:Nat->Int),k<=255/\i=.int .i64 (254 - (k:Int))/\sw=.bool q/\Hid (Fe4 f7 f8 f9 f10 ((rJ N UN k).flip q))/\(aF .i64 wr x7 16 f7/\aF .i64 wr x8 16 f8/\aF .i64 wr x9 16 f9/\aF .i64 wr x10 16 f10)/\(aF .i64 wr bu 16 fu/\aF .u8 wr bn 32 (dg 256 N)/\aF .u8 wr (w.heap.size+2) 32 (fun _=> 0))/\Below w.heap.size w wr) (fun _ i _=> (intOf i+1).toNat)
  case atStart=> exact ⟨0,false,_,_,_,_,iY _,rfl,rfl,HR0,⟨V4,V5,V6,V7⟩,⟨Yj,hN6,vT⟩,iO⟩
  case round=>
   clear V4 V5 V6 V7 Yj hN6 vT iO HR0;obtain ⟨k,q,f7,f8,f9,f10,hk,rfl,rfl,hR,⟨oD,nD,qE,jo⟩,⟨hV,hN,hZ⟩,hbel⟩:=hrel
   rename_i wr
   obtain rfl | hlt:=(by omega:k=255\/k<255)
   ·have ei:(254:Int) - ((255:Nat):Int)= -1:=by decide
    rw [ei];clear ei;go_upto_region 7 with (fail)
    refine aT (n:=77) (by kernel_rfl) (by kernel_rfl) (by kernel_rfl) rfl
     (fun ii vv _=> (match ii with | 0=> vv=.int .i64 (-1) | 1 | 2 | 15 | 16=> vv=.bool false | 3 | 4 | 5 | 6 | 7 | 8 | 9 | 10 | 11 | 12 | 13 | 14=> vv=undef | _=> True))
     (fun w w'=> Below w.heap.size w w') (fun _ _ h=> h) (fun _ _ _ _ h _=> h) ?_ ?_
    ·refine cO ?_;refine ⟨?_,?_,?_,?_,?_,?_,?_,?_,?_,?_,?_,?_,?_,?_,?_,?_,?_,trivial⟩
     ·intro a w2 hB hF hd;exact aH <| dJ rfl (hF.same 12 rfl)
     ·intro a w2 hB hF hd;exact aH <| aP (Go.aZ.MG rfl (hd 0 _ rfl (aj rfl)) rfl) (congrArg Value.bool (by decide))
     ·intro a w2 hB hF hd;exact aH <| dJ rfl (hd 1 _ rfl (aj rfl))
     ·intro a w2 hB hF hd;rw [if_neg (by rw [bT rfl rfl (hd 2 _ rfl (aj rfl))];decide)];exact rfl
     ·intro a w2 hB hF hd;rw [if_neg (by rw [bT rfl rfl (hd 2 _ rfl (aj rfl))];decide)];exact rfl
     ·intro a w2 hB hF hd;rw [if_neg (by rw [bT rfl rfl (hd 2 _ rfl (aj rfl))];decide)];exact rfl
     ·intro a w2 hB hF hd;rw [if_neg (by rw [bT rfl rfl (hd 2 _ rfl (aj rfl))];decide)];exact rfl
     ·intro a w2 hB hF hd;rw [if_neg (by rw [bT rfl rfl (hd 2 _ rfl (aj rfl))];decide)];exact rfl
     ·intro a w2 hB hF hd;rw [if_neg (by rw [bT rfl rfl (hd 2 _ rfl (aj rfl))];decide)];exact rfl
     ·intro a w2 hB hF hd;rw [if_neg (by rw [bT rfl rfl (hd 2 _ rfl (aj rfl))];decide)];exact rfl
     ·intro a w2 hB hF hd;rw [if_neg (by rw [bT rfl rfl (hd 2 _ rfl (aj rfl))];decide)];exact rfl
     ·intro a w2 hB hF hd;rw [if_neg (by rw [bT rfl rfl (hd 2 _ rfl (aj rfl))];decide)];exact rfl
     ·intro a w2 hB hF hd;rw [if_neg (by rw [bT rfl rfl (hd 2 _ rfl (aj rfl))];decide)];exact rfl
     ·intro a w2 hB hF hd;rw [if_neg (by rw [bT rfl rfl (hd 2 _ rfl (aj rfl))];decide)];exact rfl
     ·intro a w2 hB hF hd;rw [if_neg (by rw [bT rfl rfl (hd 2 _ rfl (aj rfl))];decide)];exact rfl
     ·intro a w2 hB hF hd;exact aH <| aP (eZ rfl (hd 2 _ rfl (aj rfl))) (rfl)
     ·intro a w2 hB hF hd;exact aH <| mH rfl (hd 15 _ rfl (aj rfl))
    ·intro a w7 hB hF hS;have ha:=aI rfl rfl hF [_,_,_,_,_,_,_,_,_,_,_,_,_,_,_,_,_] rfl ⟨hS 0 _ rfl,hS 1 _ rfl,hS 2 _ rfl,hS 3 _ rfl,hS 4 _ rfl,hS 5 _ rfl,hS 6 _ rfl,hS 7 _ rfl,hS 8 _ rfl,hS 9 _ rfl,hS 10 _ rfl,hS 11 _ rfl,hS 12 _ rfl,hS 13 _ rfl,hS 14 _ rfl,hS 15 _ rfl,hS 16 _ rfl,trivial⟩;simp only [puts,Act.put,dQ,dR,dS] at ha;subst ha;clear hS hF;replace oD:=oD.kept hB;replace nD:=nD.kept hB;replace qE:=qE.kept hB;replace jo:=jo.kept hB;replace hV:=hV.kept hB;replace hN:=hN.kept hB;replace hZ:=hZ.kept hB;replace hbel:=hbel.trans (hB.mono hbel.size);clear hB;obtain ⟨bb,hbb⟩:∃bb:Bool,bb=false:=⟨_,rfl⟩
     obtain ⟨pq,hpq⟩:∃pq,pq=(bb !=q):=⟨_,rfl⟩
     have HPQ:=ak hpq;clear hpq;have Di:=ak hbb;clear hbb;go_upto_region 8 with (fail);have VZ:Hid (∀p w,p=(bb !=q)->Calls Tryz.prog 201 #[.agg (arr .i64 16 f7),.agg (arr .i64 16 f9),.bool p] w fun e w'=> e=.returned (.tuple #[.agg (arr .i64 16 (aS pq f7 f9)),.agg (arr .i64 16 (aS pq f9 f7))])/\Below w.heap.size w w'):=by
      rintro p w rfl;rw [HPQ.out];exact iU _ f7 f9 _ _ hR.out.1 hR.out.2.2.1 w
     go_wp2_with (first | (refine aY rfl 191 _ rfl .i64 x7 16 f7 bZ rfl bC rfl oD ?_) | (refine aY rfl 191 _ rfl .i64 x9 16 f9 bZ rfl bC rfl qE ?_));refine (VZ.out _ _ (by first | rfl | (rw [Di.out];cases q<;> rfl) | (cases q<;> cases bb<;> rfl))).mono ?_;rintro e wq0 ⟨rfl,hbq⟩;replace oD:=oD.kept hbq;replace qE:=qE.kept hbq;replace nD:=nD.kept hbq;replace jo:=jo.kept hbq;replace hV:=hV.kept hbq;replace hN:=hN.kept hbq;replace hZ:=hZ.kept hbq;replace hbel:=hbel.trans (hbq.mono hbel.size);have s2:=qE.aA x7 (by omega) (arr .i64 16 (aS pq f7 f9));clear VZ hbq;go_upto_region 9 with (first | (refine aG rfl 191 _ _ rfl .i64 x7 16 f7 (aS pq f7 f9) bC rfl rfl oD ?_) | (refine aG rfl 191 _ _ rfl .i64 x9 16 f9 (aS pq f9 f7) bC rfl rfl s2 ?_))
     refine aD (fun wq=> aF .i64 wq x7 16 (aS pq f7 f9)/\aF .i64 wq x9 16 (aS pq f9 f7)/\aF .i64 wq x8 16 f8/\aF .i64 wq x10 16 f10/\aF .i64 wq bu 16 fu/\aF .u8 wq bn 32 (dg 256 N)/\aF .u8 wq (w.heap.size+2) 32 (fun _=> 0)/\Below w.heap.size w wq)
      ⟨(oD.setRow _ _).aA _ (by omega) _,s2.setRow _ _,(nD.aA _ (by omega) _).aA _ (by omega) _,(jo.aA _ (by omega) _).aA _ (by omega) _,(hV.aA _ (by omega) _).aA _ (by omega) _,(hN.aA _ (by omega) _).aA _ (by omega) _,(hZ.aA _ (by omega) _).aA _ (by omega) _,ay (ay hbel (by omega) _) (by omega) _⟩ ?_
     clear s2 oD qE nD jo hV hN hZ hbel;rintro wq ⟨oD,qE,nD,jo,hV,hN,hZ,hbel⟩
     try simp only [Act.put,dQ,dR,dS]
     have VW:Hid (∀p w,p=(bb !=q)->Calls Tryz.prog 201 #[.agg (arr .i64 16 f8),.agg (arr .i64 16 f10),.bool p] w fun e w'=> e=.returned (.tuple #[.agg (arr .i64 16 (aS pq f8 f10)),.agg (arr .i64 16 (aS pq f10 f8))])/\Below w.heap.size w w'):=by
      rintro p w rfl;rw [HPQ.out];exact iU _ f8 f10 _ _ hR.out.2.1 hR.out.2.2.2 w
     go_wp2_with (first | (refine aY rfl 191 _ rfl .i64 x8 16 f8 bZ rfl bC rfl nD ?_) | (refine aY rfl 191 _ rfl .i64 x10 16 f10 bZ rfl bC rfl jo ?_));refine (VW.out _ _ (by first | rfl | (rw [Di.out];cases q<;> rfl) | (cases q<;> cases bb<;> rfl))).mono ?_;rintro e wp0 ⟨rfl,hbq⟩;replace nD:=nD.kept hbq;replace jo:=jo.kept hbq;replace oD:=oD.kept hbq;replace qE:=qE.kept hbq;replace hV:=hV.kept hbq;replace hN:=hN.kept hbq;replace hZ:=hZ.kept hbq;replace hbel:=hbel.trans (hbq.mono hbel.size);have s2:=jo.aA x8 (by omega) (arr .i64 16 (aS pq f8 f10));clear VW hbq;go_upto_region 10 with (first | (refine aG rfl 191 _ _ rfl .i64 x8 16 f8 (aS pq f8 f10) bC rfl rfl nD ?_) | (refine aG rfl 191 _ _ rfl .i64 x10 16 f10 (aS pq f10 f8) bC rfl rfl s2 ?_))
     refine aD (fun wp=> aF .i64 wp x8 16 (aS pq f8 f10)/\aF .i64 wp x10 16 (aS pq f10 f8)/\aF .i64 wp x7 16 (aS pq f7 f9)/\aF .i64 wp x9 16 (aS pq f9 f7)/\aF .i64 wp bu 16 fu/\aF .u8 wp bn 32 (dg 256 N)/\aF .u8 wp (w.heap.size+2) 32 (fun _=> 0)/\Below w.heap.size w wp)
      ⟨(nD.setRow _ _).aA _ (by omega) _,s2.setRow _ _,(oD.aA _ (by omega) _).aA _ (by omega) _,(qE.aA _ (by omega) _).aA _ (by omega) _,(hV.aA _ (by omega) _).aA _ (by omega) _,(hN.aA _ (by omega) _).aA _ (by omega) _,(hZ.aA _ (by omega) _).aA _ (by omega) _,ay (ay hbel (by omega) _) (by omega) _⟩ ?_
     clear s2 nD jo oD qE hV hN hZ hbel;rintro wp ⟨nD,jo,oD,qE,hV,hN,hZ,hbel⟩
     try simp only [Act.put,dQ,dR,dS]
     replace hR:Hid (Fe4 (aS pq f7 f9) (aS pq f8 f10) (aS pq f9 f7) (aS pq f10 f8) ((rJ N UN 255).flip bb)):=by have h:=hR.out.flip pq;rwa [show ((rJ N UN 255).flip q).flip pq=(rJ N UN 255).flip bb by rw [HPQ.out,Two.flip_flip]] at h
     obtain ⟨g7,hg7⟩:∃g,g=aS pq f7 f9:=⟨_,rfl⟩
     obtain ⟨g8,hg8⟩:∃g,g=aS pq f8 f10:=⟨_,rfl⟩
     obtain ⟨g9,hg9⟩:∃g,g=aS pq f9 f7:=⟨_,rfl⟩
     obtain ⟨g10,TU⟩:∃g,g=aS pq f10 f8:=⟨_,rfl⟩
     rw [<-hg7] at oD hR;rw [<-hg8] at nD hR;rw [<-hg9] at qE hR;rw [<-TU] at jo hR;clear hg7 hg8 hg9 TU;have HBY:Hid (∀w,Calls Tryz.prog 205 #[El (aM g7 (ji g8))] w fun e w'=> e=.returned (.agg (arr .u8 32 (dg 256 (iH N UN % Pr))))/\Below w.heap.size w w'):=fun w=> by
      have hr:=hR.out;rw [Di.out] at hr;exact lg _ (iH N UN) (hr.1.aM (jB hr.2.1)) w
     go_upto_region 13 with (fail)
     refine dw (n:=77) (fun i=> i==5) (by kernel_rfl) (by kernel_rfl) (by kernel_rfl) (by kernel_rfl) rfl
      (fun ii vv _=> (match ii with | 0=> vv=.agg (arr .i64 16 (g7)) | 1=> vv=.agg (arr .i64 16 (g8)) | 2=> vv=.agg (arr .i64 16 (ji g8)) | 3=> vv=.agg (arr .i64 16 (aM g7 (ji g8))) | 4=> vv=.agg (arr .u8 32 (dg 256 (iH N UN % Pr))) | _=> True))
      (fun w w'=> Below w.heap.size w w') (fun _ _ h=> h) (fun _ _ _ _ h _=> h)
      (fun _=> (w.heap.size+2)) (fun _=> (arr .u8 32 (fun _=> 0))) (fun _=> (arr .u8 32 (dg 256 (iH N UN % Pr))))
      (by intro i j _ _ hpi iI hne;simp only [beq_iff_eq] at hpi iI;omega)
      (by intro i _ hpi;exact (hZ).row)
      ?_ ?_ ?_
     ·refine cO ?_;refine ⟨?_,?_,?_,?_,?_,(aJ),trivial⟩
      ·intro _ a w2 hB hF hd;exact aH <| aP (aB rfl bZ rfl bC (hF.same 7 rfl) (oD.below hB oD.lt)) rfl
      ·intro _ a w2 hB hF hd;exact aH <| aP (aB rfl bZ rfl bC (hF.same 8 rfl) (nD.below hB nD.lt)) rfl
      ·intro _ a w2 hB hF hd;refine aH <| aC _ _ _ rfl Tryz.call204 _ (args1 (hd 1 _ rfl rfl (aj rfl))) (by simp) ((jw g8 _ hR.out.2.1 w2).mono ?_);rintro e w3 ⟨rfl,hb⟩;exact ⟨_,rfl,rfl,hb⟩
      ·intro _ a w2 hB hF hd;refine aH <| aC _ _ _ rfl Tryz.call203 _ (args2 (hd 0 _ rfl rfl (aj rfl)) (hd 2 _ rfl rfl (aj rfl))) (by simp) ((bI _ _ _ _ hR.out.1 (jB hR.out.2.1) w2).mono ?_);rintro e w3 ⟨rfl,hb⟩;exact ⟨_,rfl,rfl,hb⟩
      ·intro _ a w2 hB hF hd;refine aH <| aC _ _ _ rfl Tryz.call205 _ (args1 (hd 3 _ rfl rfl (aj rfl))) (by simp) ((HBY.out w2).mono ?_);rintro e w3 ⟨rfl,hb⟩;exact ⟨_,rfl,rfl,hb⟩
     ·refine cO ?_;refine ⟨(aJ),(aJ),(aJ),(aJ),(aJ),?_,trivial⟩
      ·intro _ a w1 w2 K hB hF hS hr hK;exact aX 22 _ _ rfl .u8 ((w.heap.size+2)) 32 (fun _=> 0) (dg 256 (iH N UN % Pr)) eT (hF.same 4 rfl) (hS 4 _ rfl rfl) hr hK
     ·intro a wf w9 hB hF hS hfil;have other:∀{k:IntKind} {qb n:Nat} {f:Nat->Int},qb≠(w.heap.size+2)->aF k wf qb n f->aF k w9 qb n f:=fun {k qb n f} e0 hA=> hfil.arr (by intro i _ hpi;simp only [jG,beq_iff_eq] at hpi;subst hpi<;> ((try simp only []);(try dsimp only);omega)) hA;have dF:∀{B:Nat} {w0:World},B<=(w.heap.size+2)->Below B w0 wf->Below B w0 w9:=fun {B w0} e0 hA=> hfil.below (by intro i _ hpi;simp only [jG,beq_iff_eq] at hpi;subst hpi<;> ((try simp only []);(try dsimp only);omega)) hA;have V5:aF .u8 w9 ((w.heap.size+2)) 32 (dg 256 (iH N UN % Pr)):=hfil.at 5 (by decide) rfl;have qz:=hfil.size;clear hfil;have ha:=aI rfl rfl hF [_,_,_,_,_,undef] rfl ⟨hS 0 _ rfl rfl,hS 1 _ rfl rfl,hS 2 _ rfl rfl,hS 3 _ rfl rfl,hS 4 _ rfl rfl,trivial,trivial⟩;simp only [puts,Act.put,dQ,dR,dS] at ha;subst ha;clear hS hF;have hb:=dF (by omega) (hbel.trans (hB.mono hbel.size));go_wp2;rw [Exit.noGoto_ret];exact bodyPost_ret (bG rfl _ _ .u8 (w.heap.size+2) 32 _ 5 rfl V5 gH eT) rfl ⟨rfl,hb⟩
   ·obtain ⟨m,hm⟩:∃m,m=254 - k:=⟨_,rfl⟩
    have ei:(254:Int) - (k:Int)=(m:Int):=by omega
    have HKM:Hid ((m:Int)=254 - (k:Int)):=ei.symm;have HKL:=ak hlt;have afv:m<=254:=by omega
    rw [ei];have hm9:m % 8<8:=Nat.mod_lt _ (by decide);have hq:IntKind.i64.wrap (Int.tdiv (m:Int) 8)=((m / 8:Nat):Int):=by rw [Int.tdiv_eq_ediv_of_nonneg (by omega),jC] <;> omega
    have hr:Int.tmod (m:Int) 8=((m % 8:Nat):Int):=by rw [Int.tmod_eq_emod_of_nonneg (by omega)];omega
    have hc:IntKind.u64.wrap ((m % 8:Nat):Int)=((m % 8:Nat):Int):=pR (by omega) (by omega);obtain ⟨d0,d1⟩:=bE (by decide:(0:Int)<256) N (m / 8);have hsh:=Af (x:=dg 256 N (m / 8)) (m % 8) hm9;have hand:bits .and .u8 (dg 256 N (m / 8) / 2 ^ (m % 8)) 1=N / 2 ^ m % 2:=by
     rw [uY (Int.ediv_nonneg d0 (Int.le_of_lt (gB (by decide) _))) (Int.lt_of_le_of_lt (Int.ediv_le_self _ d0) d1),LV N m]
    have hpl:((m / 8:Nat):Int).toNat=m / 8:=Jt _;have Zu:m / 8<32:=by omega
    have hce:=hN.cell (m / 8) Zu;have hBl:=hN.lt;obtain ⟨bb,hbb⟩:∃bb,bb=(N / 2 ^ m % 2==1):=⟨_,rfl⟩
    obtain ⟨pq,hpq⟩:∃pq,pq=(bb !=q):=⟨_,rfl⟩
    have HPQ:=ak hpq;clear hpq;go_upto_region 7 with (fail)
    refine aT (n:=77) (by kernel_rfl) (by kernel_rfl) (by kernel_rfl) rfl
     (fun ii vv _=> (match ii with | 0 | 3 | 4 | 8 | 9=> vv=.int .i64 ((m:Int)) | 1 | 2=> vv=.bool true | 5=> vv=.int .i64 ((m / 8:Nat)) | 6=> vv=.pointer (some ⟨bn,(m / 8),none⟩) | 7=> vv=.int .u8 (dg 256 N (m / 8)) | 10=> vv=.int .i64 ((m % 8:Nat)) | 11=> vv=.int .u64 ((m % 8:Nat)) | 12=> vv=.int .u8 (dg 256 N (m / 8) / 2 ^ (m % 8)) | 13=> vv=.int .u8 (N / 2 ^ m % 2) | 14 | 15 | 16=> vv=.bool bb | _=> True))
     (fun w w'=> Below w.heap.size w w') (fun _ _ h=> h) (fun _ _ _ _ h _=> h) ?_ ?_
    ·refine cO ?_;refine ⟨?_,?_,?_,?_,?_,?_,?_,?_,?_,?_,?_,?_,?_,?_,?_,?_,?_,trivial⟩
     ·intro a w2 hB hF hd;exact aH <| dJ rfl (hF.same 12 rfl)
     ·intro a w2 hB hF hd;exact aH <| aP (Go.aZ.MG rfl (hd 0 _ rfl (aj rfl)) rfl) (congrArg Value.bool (decide_eq_true (by omega)))
     ·intro a w2 hB hF hd;exact aH <| dJ rfl (hd 1 _ rfl (aj rfl))
     ·intro a w2 hB hF hd;refine aK (aL rfl rfl (hd 2 _ rfl (aj rfl)) rfl) ?_;exact dJ rfl (hF.same 12 rfl)
     ·intro a w2 hB hF hd;refine aK (aL rfl rfl (hd 2 _ rfl (aj rfl)) rfl) ?_;exact aP (Gi rfl (hd 3 _ rfl (aj rfl)) rfl (by omega)) rfl
     ·intro a w2 hB hF hd;refine aK (aL rfl rfl (hd 2 _ rfl (aj rfl)) rfl) ?_;exact aP (Go.aZ.DI rfl (hd 4 _ rfl (aj rfl)) rfl (by decide)) (congrArg (Value.int .i64) (hq))
     ·intro a w2 hB hF hd;refine aK (aL rfl rfl (hd 2 _ rfl (aj rfl)) rfl) ?_;exact aP (aO rfl (hF.same 5 rfl) (hd 5 _ rfl (aj rfl)) gH (by kernel_rfl) (by omega) (by omega)) (congrArg (fun z=> Value.pointer (some ⟨bn,z,none⟩)) hpl)
     ·intro a w2 hB hF hd;refine aK (aL rfl rfl (hd 2 _ rfl (aj rfl)) rfl) ?_;exact aP (aR rfl (hd 6 _ rfl (aj rfl)) Tryz.underlying5 ((hB.cell (p:=⟨bn,m / 8,none⟩) hBl).trans hce)) rfl
     ·intro a w2 hB hF hd;refine aK (aL rfl rfl (hd 2 _ rfl (aj rfl)) rfl) ?_;exact dJ rfl (hF.same 12 rfl)
     ·intro a w2 hB hF hd;refine aK (aL rfl rfl (hd 2 _ rfl (aj rfl)) rfl) ?_;exact aP (Gi rfl (hd 8 _ rfl (aj rfl)) rfl (by omega)) rfl
     ·intro a w2 hB hF hd;refine aK (aL rfl rfl (hd 2 _ rfl (aj rfl)) rfl) ?_;exact aP (Go.aZ.oM rfl (hd 9 _ rfl (aj rfl)) rfl (by decide)) (congrArg (Value.int .i64) (hr))
     ·intro a w2 hB hF hd;refine aK (aL rfl rfl (hd 2 _ rfl (aj rfl)) rfl) ?_;exact aP (qh rfl (hd 10 _ rfl (aj rfl)) Tryz.underlying3 Tryz.underlying212) (congrArg (Value.int .u64) (hc))
     ·intro a w2 hB hF hd;refine aK (aL rfl rfl (hd 2 _ rfl (aj rfl)) rfl) ?_;exact aP (Go.aZ.qU rfl (hd 7 _ rfl (aj rfl)) (hd 11 _ rfl (aj rfl)) (by omega)) (congrArg (Value.int .u8) (hsh))
     ·intro a w2 hB hF hd;refine aK (aL rfl rfl (hd 2 _ rfl (aj rfl)) rfl) ?_;exact aP (Go.aZ.lK rfl (hd 12 _ rfl (aj rfl)) rfl) (congrArg (Value.int .u8) (hand))
     ·intro a w2 hB hF hd;refine aK (aL rfl rfl (hd 2 _ rfl (aj rfl)) rfl) ?_;refine aP (Go.aZ.fI rfl (hd 13 _ rfl (aj rfl)) rfl) ?_;exact congrArg Value.bool hbb.symm
     ·intro a w2 hB hF hd;exact aH <| aP (eZ rfl (hd 2 _ rfl (aj rfl))) ((hd 14 _ rfl (aj rfl)))
     ·intro a w2 hB hF hd;exact aH <| mH rfl (hd 15 _ rfl (aj rfl))
    ·intro a w7 hB hF hS;have ha:=aI rfl rfl hF [_,_,_,_,_,_,_,_,_,_,_,_,_,_,_,_,_] rfl ⟨hS 0 _ rfl,hS 1 _ rfl,hS 2 _ rfl,hS 3 _ rfl,hS 4 _ rfl,hS 5 _ rfl,hS 6 _ rfl,hS 7 _ rfl,hS 8 _ rfl,hS 9 _ rfl,hS 10 _ rfl,hS 11 _ rfl,hS 12 _ rfl,hS 13 _ rfl,hS 14 _ rfl,hS 15 _ rfl,hS 16 _ rfl,trivial⟩;simp only [puts,Act.put,dQ,dR,dS] at ha;subst ha;clear hS hF;replace oD:=oD.kept hB;replace nD:=nD.kept hB;replace qE:=qE.kept hB;replace jo:=jo.kept hB;replace hV:=hV.kept hB;replace hN:=hN.kept hB;replace hZ:=hZ.kept hB;replace hbel:=hbel.trans (hB.mono hbel.size);have Di:=ak hbb;have HM:=ak hm;clear hB hq hr hc hsh hand hce hpl hbb hm Zu hm9 hBl d0 d1;go_upto_region 8 with (fail);have VZ:Hid (∀p w,p=(bb !=q)->Calls Tryz.prog 201 #[.agg (arr .i64 16 f7),.agg (arr .i64 16 f9),.bool p] w fun e w'=> e=.returned (.tuple #[.agg (arr .i64 16 (aS pq f7 f9)),.agg (arr .i64 16 (aS pq f9 f7))])/\Below w.heap.size w w'):=by
      rintro p w rfl;rw [HPQ.out];exact iU _ f7 f9 _ _ hR.out.1 hR.out.2.2.1 w
     go_wp2_with (first | (refine aY rfl 191 _ rfl .i64 x7 16 f7 bZ rfl bC rfl oD ?_) | (refine aY rfl 191 _ rfl .i64 x9 16 f9 bZ rfl bC rfl qE ?_));refine (VZ.out _ _ (by first | rfl | (rw [Di.out];cases q<;> rfl) | (cases q<;> cases bb<;> rfl))).mono ?_;rintro e wq0 ⟨rfl,hbq⟩;replace oD:=oD.kept hbq;replace qE:=qE.kept hbq;replace nD:=nD.kept hbq;replace jo:=jo.kept hbq;replace hV:=hV.kept hbq;replace hN:=hN.kept hbq;replace hZ:=hZ.kept hbq;replace hbel:=hbel.trans (hbq.mono hbel.size);have s2:=qE.aA x7 (by omega) (arr .i64 16 (aS pq f7 f9));clear VZ hbq;go_upto_region 9 with (first | (refine aG rfl 191 _ _ rfl .i64 x7 16 f7 (aS pq f7 f9) bC rfl rfl oD ?_) | (refine aG rfl 191 _ _ rfl .i64 x9 16 f9 (aS pq f9 f7) bC rfl rfl s2 ?_))
     refine aD (fun wq=> aF .i64 wq x7 16 (aS pq f7 f9)/\aF .i64 wq x9 16 (aS pq f9 f7)/\aF .i64 wq x8 16 f8/\aF .i64 wq x10 16 f10/\aF .i64 wq bu 16 fu/\aF .u8 wq bn 32 (dg 256 N)/\aF .u8 wq (w.heap.size+2) 32 (fun _=> 0)/\Below w.heap.size w wq)
      ⟨(oD.setRow _ _).aA _ (by omega) _,s2.setRow _ _,(nD.aA _ (by omega) _).aA _ (by omega) _,(jo.aA _ (by omega) _).aA _ (by omega) _,(hV.aA _ (by omega) _).aA _ (by omega) _,(hN.aA _ (by omega) _).aA _ (by omega) _,(hZ.aA _ (by omega) _).aA _ (by omega) _,ay (ay hbel (by omega) _) (by omega) _⟩ ?_
     clear s2 oD qE nD jo hV hN hZ hbel;rintro wq ⟨oD,qE,nD,jo,hV,hN,hZ,hbel⟩
     try simp only [Act.put,dQ,dR,dS]
     have VW:Hid (∀p w,p=(bb !=q)->Calls Tryz.prog 201 #[.agg (arr .i64 16 f8),.agg (arr .i64 16 f10),.bool p] w fun e w'=> e=.returned (.tuple #[.agg (arr .i64 16 (aS pq f8 f10)),.agg (arr .i64 16 (aS pq f10 f8))])/\Below w.heap.size w w'):=by
      rintro p w rfl;rw [HPQ.out];exact iU _ f8 f10 _ _ hR.out.2.1 hR.out.2.2.2 w
     go_wp2_with (first | (refine aY rfl 191 _ rfl .i64 x8 16 f8 bZ rfl bC rfl nD ?_) | (refine aY rfl 191 _ rfl .i64 x10 16 f10 bZ rfl bC rfl jo ?_));refine (VW.out _ _ (by first | rfl | (rw [Di.out];cases q<;> rfl) | (cases q<;> cases bb<;> rfl))).mono ?_;rintro e wp0 ⟨rfl,hbq⟩;replace nD:=nD.kept hbq;replace jo:=jo.kept hbq;replace oD:=oD.kept hbq;replace qE:=qE.kept hbq;replace hV:=hV.kept hbq;replace hN:=hN.kept hbq;replace hZ:=hZ.kept hbq;replace hbel:=hbel.trans (hbq.mono hbel.size);have s2:=jo.aA x8 (by omega) (arr .i64 16 (aS pq f8 f10));clear VW hbq;go_upto_region 10 with (first | (refine aG rfl 191 _ _ rfl .i64 x8 16 f8 (aS pq f8 f10) bC rfl rfl nD ?_) | (refine aG rfl 191 _ _ rfl .i64 x10 16 f10 (aS pq f10 f8) bC rfl rfl s2 ?_))
     refine aD (fun wp=> aF .i64 wp x8 16 (aS pq f8 f10)/\aF .i64 wp x10 16 (aS pq f10 f8)/\aF .i64 wp x7 16 (aS pq f7 f9)/\aF .i64 wp x9 16 (aS pq f9 f7)/\aF .i64 wp bu 16 fu/\aF .u8 wp bn 32 (dg 256 N)/\aF .u8 wp (w.heap.size+2) 32 (fun _=> 0)/\Below w.heap.size w wp)
      ⟨(nD.setRow _ _).aA _ (by omega) _,s2.setRow _ _,(oD.aA _ (by omega) _).aA _ (by omega) _,(qE.aA _ (by omega) _).aA _ (by omega) _,(hV.aA _ (by omega) _).aA _ (by omega) _,(hN.aA _ (by omega) _).aA _ (by omega) _,(hZ.aA _ (by omega) _).aA _ (by omega) _,ay (ay hbel (by omega) _) (by omega) _⟩ ?_
     clear s2 nD jo oD qE hV hN hZ hbel;rintro wp ⟨nD,jo,oD,qE,hV,hN,hZ,hbel⟩
     try simp only [Act.put,dQ,dR,dS]
     replace hR:Hid (Fe4 (aS pq f7 f9) (aS pq f8 f10) (aS pq f9 f7) (aS pq f10 f8) ((rJ N UN k).flip bb)):=by have h:=hR.out.flip pq;rwa [show ((rJ N UN k).flip q).flip pq=(rJ N UN k).flip bb by rw [HPQ.out,Two.flip_flip]] at h
     obtain ⟨g7,hg7⟩:∃g,g=aS pq f7 f9:=⟨_,rfl⟩
     obtain ⟨g8,hg8⟩:∃g,g=aS pq f8 f10:=⟨_,rfl⟩
     obtain ⟨g9,hg9⟩:∃g,g=aS pq f9 f7:=⟨_,rfl⟩
     obtain ⟨g10,TU⟩:∃g,g=aS pq f10 f8:=⟨_,rfl⟩
     rw [<-hg7] at oD hR;rw [<-hg8] at nD hR;rw [<-hg9] at qE hR;rw [<-TU] at jo hR;clear hg7 hg8 hg9 TU;have Wh:=ak (fun w=> KS g7 g8 g9 g10 fu _ _ _ _ _ hR.out.1 hR.out.2.1 hR.out.2.2.1 hR.out.2.2.2 HFU.out w);unfold El at Wh;go_wp2_with (first | (refine aY rfl 191 _ rfl .i64 x7 16 g7 bZ rfl bC rfl oD ?_) | (refine aY rfl 191 _ rfl .i64 x8 16 g8 bZ rfl bC rfl nD ?_) | (refine aY rfl 191 _ rfl .i64 x9 16 g9 bZ rfl bC rfl qE ?_) | (refine aY rfl 191 _ rfl .i64 x10 16 g10 bZ rfl bC rfl jo ?_) | (refine aY rfl 191 _ rfl .i64 bu 16 fu bZ rfl bC rfl hV ?_));refine (Wh.out _).mono ?_;rintro e wc ⟨a,b,c,d,rfl,hF4,hbc⟩;replace oD:=oD.kept hbc;replace nD:=nD.kept hbc;replace qE:=qE.kept hbc;replace jo:=jo.kept hbc;replace hV:=hV.kept hbc;replace hN:=hN.kept hbc;replace hZ:=hZ.kept hbc;replace hbel:=hbel.trans (hbc.mono hbel.size);clear Wh hbc;have s8:=nD.aA x7 (by omega) (arr .i64 16 a);have s9:=(qE.aA x7 (by omega) (arr .i64 16 a)).aA x8 (by omega) (arr .i64 16 b);have s10:=((jo.aA x7 (by omega) (arr .i64 16 a)).aA x8 (by omega) (arr .i64 16 b)).aA x9 (by omega) (arr .i64 16 c);have e7:=(((oD.setRow 16 a).aA x8 (by omega) (arr .i64 16 b)).aA x9 (by omega) (arr .i64 16 c)).aA x10 (by omega) (arr .i64 16 d);have e8:=((s8.setRow 16 b).aA x9 (by omega) (arr .i64 16 c)).aA x10 (by omega) (arr .i64 16 d);have e9:=(s9.setRow 16 c).aA x10 (by omega) (arr .i64 16 d);have e10:=s10.setRow 16 d;have hVe:=(((hV.aA x7 (by omega) (arr .i64 16 a)).aA x8 (by omega) (arr .i64 16 b)).aA x9 (by omega) (arr .i64 16 c)).aA x10 (by omega) (arr .i64 16 d);have hNe:=(((hN.aA x7 (by omega) (arr .i64 16 a)).aA x8 (by omega) (arr .i64 16 b)).aA x9 (by omega) (arr .i64 16 c)).aA x10 (by omega) (arr .i64 16 d);have hZe:=(((hZ.aA x7 (by omega) (arr .i64 16 a)).aA x8 (by omega) (arr .i64 16 b)).aA x9 (by omega) (arr .i64 16 c)).aA x10 (by omega) (arr .i64 16 d);have hbe:=ay (ay (ay (ay hbel (by omega:w.heap.size<=x7) (arr .i64 16 a)) (by omega:w.heap.size<=x8) (arr .i64 16 b)) (by omega:w.heap.size<=x9) (arr .i64 16 c)) (by omega:w.heap.size<=x10) (arr .i64 16 d);have HA7:=ak oD;have S8:=ak s8;have S9:=ak s9;have S10:=ak s10;have hst:rJ N UN (k+1)=(rJ N UN k).rung UN (N / 2 ^ m % 2):=by rw [HM.out];rfl
     have hfl:=Two.Ol UN (N / 2 ^ m % 2) (by omega) (rJ N UN k);rw [<-hst,←Di.out] at hfl;have HFL:Hid (Fe4 a b c d ((rJ N UN (k+1)).flip bb)):=by rw [<-hfl];exact hF4
     clear oD nD qE jo hV hN hZ hbel s8 s9 s10 hst hfl hF4 hR ei;go_wp2_with (first | (refine aG rfl 191 _ _ rfl .i64 x7 16 g7 a bC rfl rfl HA7.out ?_) | (refine aG rfl 191 _ _ rfl .i64 x8 16 g8 b bC rfl rfl S8.out ?_) | (refine aG rfl 191 _ _ rfl .i64 x9 16 g9 c bC rfl rfl S9.out ?_) | (refine aG rfl 191 _ _ rfl .i64 x10 16 g10 d bC rfl rfl S10.out ?_));go_roundw
     case rel=> exact ⟨k+1,bb,a,b,c,d,by have:=HKL.out;omega,congrArg (Value.int .i64) (by have:=HKM.out;omega),rfl,HFL,⟨e7,e8,e9,e10⟩,⟨hVe,hNe,hZe⟩,hbe⟩
     case measure=> simp [intOf] <;> (have:=HKM.out;omega)
abbrev mulN (S U:Int):Int:=iH (dP S) (U % 2 ^ 255) % Pr
theorem PY {a:Act} (w:World):(Instr.build 22 ((#[] :Array (Nat × Operand)).map fun (i,x)=> (i,a.eval x))).run Tryz.prog w=.ok (.agg (arr .u8 32 (dg 256 0))) w:=Qa (a:=a) w
theorem oQ (S:Int) (w:World):
  Calls Tryz.prog 90 #[.agg (arr .u8 32 (dg 256 S))] w fun e w'=> e=.returned (.agg (arr .u8 32 (dg 256 (mulN S 9))))/\Below w.heap.size w w':=by
 have HM:=ak (fun w=> Ct S 9 w);unfold mulN;obtain ⟨X,hX⟩:∃X,X=iH (dP S) (9 % 2 ^ 255) % Pr:=⟨_,rfl⟩
 rw [<-hX] at HM ⊢;clear hX
 go_enter Tryz.func90,Tryz.ntmps90
 go_upto_region 1 with (fail);refine aD (fun w1=> aF .u8 w1 w.heap.size 32 (dg 256 S)/\aF .u8 w1 (w.heap.size+1) 32 (fun _=> 0)/\Below w.heap.size w w1) ⟨.alloc (bM rfl rfl) _,bM (by first | omega | (simp<;> omega)) (by rfl),((bN _ _).alloc (bA _) _).alloc (by first | omega | (simp<;> omega)) _⟩ ?_;rintro w1 ⟨hA,hZ,hbel⟩
 refine dw (n:=6) (fun i=> i==3) (by kernel_rfl) (by kernel_rfl) (by kernel_rfl) (by kernel_rfl) rfl
  (fun ii vv _=> (match ii with | 0=> vv=.agg (arr .u8 32 (dg 256 S)) | 1=> vv=.agg (arr .u8 32 (dg 256 9)) | 2=> vv=.agg (arr .u8 32 (dg 256 X)) | _=> True))
  (fun w w'=> Below w.heap.size w w') (fun _ _ h=> h) (fun _ _ _ _ h _=> h)
  (fun _=> (w.heap.size+1)) (fun _=> (arr .u8 32 (fun _=> 0))) (fun _=> (arr .u8 32 (dg 256 X)))
  (by intro i j _ _ hpi iI hne;simp only [beq_iff_eq] at hpi iI;omega)
  (by intro i _ hpi;exact (hZ).row)
  ?_ ?_ ?_
 ·refine cO ?_;refine ⟨?_,?_,?_,(aJ),trivial⟩
  ·intro _ a w2 hB hF hd;exact aH <| aP (aB rfl gH rfl eT (hF.same 1 rfl) (hA.below hB hA.lt)) rfl
  ·intro _ a w2 hB hF hd;refine aH <| aC _ _ _ rfl Tryz.call142 _ xH (by simp) ((KU w2).mono ?_);rintro e w3 ⟨rfl,hb⟩;exact ⟨_,rfl,rfl,hb⟩
  ·intro _ a w2 hB hF hd;refine aH <| aC _ _ _ rfl Tryz.call141 _ (args2 (hd 0 _ rfl rfl (aj rfl)) (hd 1 _ rfl rfl (aj rfl))) (by simp) ((HM.out w2).mono ?_);rintro e w3 ⟨rfl,hb⟩;exact ⟨_,rfl,rfl,hb⟩
 ·refine cO ?_;refine ⟨(aJ),(aJ),(aJ),?_,trivial⟩
  ·intro _ a w1 w2 K hB hF hS hr hK;exact aX 22 _ _ rfl .u8 ((w.heap.size+1)) 32 (fun _=> 0) (dg 256 X) eT (hF.same 2 rfl) (hS 2 _ rfl rfl) hr hK
 ·intro a wf w3 hB hF hS hfil;have other:∀{k:IntKind} {qb n:Nat} {f:Nat->Int},qb≠(w.heap.size+1)->aF k wf qb n f->aF k w3 qb n f:=fun {k qb n f} e0 hA=> hfil.arr (by intro i _ hpi;simp only [jG,beq_iff_eq] at hpi;subst hpi<;> ((try simp only []);(try dsimp only);omega)) hA;have dF:∀{B:Nat} {w0:World},B<=(w.heap.size+1)->Below B w0 wf->Below B w0 w3:=fun {B w0} e0 hA=> hfil.below (by intro i _ hpi;simp only [jG,beq_iff_eq] at hpi;subst hpi<;> ((try simp only []);(try dsimp only);omega)) hA;have V3:aF .u8 w3 ((w.heap.size+1)) 32 (dg 256 X):=hfil.at 3 (by decide) rfl;have qz:=hfil.size;clear hfil;have ha:=aI rfl rfl hF [_,_,_,undef] rfl ⟨hS 0 _ rfl rfl,hS 1 _ rfl rfl,hS 2 _ rfl rfl,trivial,trivial⟩;simp only [puts,Act.put,dQ,dR,dS] at ha;subst ha;clear hS hF;have hb:=dF (by omega) (hbel.trans (hB.mono hbel.size));go_wp2;exact bodyPost_ret (bG rfl _ _ .u8 (w.heap.size+1) 32 _ 5 rfl V3 gH eT) rfl ⟨rfl,hb⟩
theorem OU (S U:Int):kX 32 (dg 256 (mulN S U)) (dg 256 0)=decide (mulN S U=0):=by
 have h:=zk (iH (dP S) (U % 2 ^ 255)) 0;rw [show (0:Int) % Pr=0 by decide] at h;rw [h];unfold ZG mulN;rw [show (0:Int) % Pr=0 by decide]
theorem Eo (S U:Int) (w:World):
  Calls Tryz.prog 172 #[.agg (arr .u8 32 (dg 256 S)),.agg (arr .u8 32 (dg 256 U))] w fun e w'=> e=.returned (.tuple #[.agg (arr .u8 32 (dg 256 (mulN S U))),.int .i64 (ow (mulN S U))])/\Below w.heap.size w w':=by
 have HM:Hid (∀w,Calls Tryz.prog 141 #[.agg (arr .u8 32 (dg 256 S)),.agg (arr .u8 32 (dg 256 U))] w fun e w'=> e=.returned (.agg (arr .u8 32 (dg 256 (mulN S U))))/\Below w.heap.size w w'):=fun w=> Ct S U w;have HZ:=ak (OU S U);have HE:Hid (ow (mulN S U)=if mulN S U=0 then 21 else 0):=rfl;have HB:=ak (fun (a:Act) w=> PY (a:=a) w);obtain ⟨X,hX⟩:∃X,X=mulN S U:=⟨_,rfl⟩
 rw [<-hX] at HM HZ HE ⊢;obtain ⟨er,her⟩:∃er,er=ow X:=⟨_,rfl⟩
 rw [<-her] at HE ⊢;clear hX her
 go_enter Tryz.func172,Tryz.ntmps172
 go_upto_region 1 with (fail);refine aD (fun w1=> aF .u8 w1 w.heap.size 32 (dg 256 S)/\aF .u8 w1 (w.heap.size+1) 32 (dg 256 U)/\aF .u8 w1 (w.heap.size+2) 32 (fun _=> 0)/\Below w.heap.size w w1) ⟨.alloc (.alloc (bM rfl rfl) _) _,.alloc (bM (by first | omega | (simp<;> omega)) rfl) _,bM (by first | omega | (simp<;> omega)) (by rfl),(((bN _ _).alloc (bA _) _).alloc (by first | omega | (simp<;> omega)) _).alloc (by first | omega | (simp<;> omega)) _⟩ ?_;rintro w1 ⟨hA,hP,hZ,hbel⟩
 go_wp2_with (first
  | (refine aQ rfl 22 _ rfl .u8 w.heap.size 32 (dg 256 S) 5 gH eT rfl hA ?_)
  | (refine aQ rfl 22 _ rfl .u8 (w.heap.size+1) 32 (dg 256 U) 5 gH eT rfl hP ?_))
 refine (HM.out _).mono ?_;rintro e w2 ⟨rfl,hb2⟩;have hZ2:=hZ.kept hb2;have dG:=hbel.trans (hb2.mono hbel.size);have hl2:=hZ2.lt;clear hA hP hZ hbel hb2;go_upto_region 2 with (refine aG rfl 22 _ _ rfl .u8 w2.heap.size 32 (fun _=> 0) (dg 256 X) eT rfl rfl (bM rfl (by rfl)) ?_)
 refine aD (fun w3=> aF .u8 w3 w2.heap.size 32 (dg 256 X)/\aF .u8 w3 (w.heap.size+2) 32 (fun _=> 0)/\Below w.heap.size w w3)
  ⟨(bM rfl (by rfl):aF .u8 _ _ 32 (fun _=> 0)).setRow _ _,aF.aA (aF.alloc hZ2 _) _ (by omega) _,ay (dG.alloc dG.size _) dG.size _⟩ ?_
 rintro w3 ⟨hX,hZ3,dL⟩;obtain ⟨bx,hbx⟩:∃bx,bx=w2.heap.size:=⟨_,rfl⟩
 rw [<-hbx] at hX hl2 ⊢;clear hbx hZ2 dG
 try simp only [Act.put,dQ,dR,dS]
 by_cases h0:X=0
 case pos=>
  have h1:er=21:=by rw [HE.out,if_pos h0]
  have HQ:Hid (kX 32 (dg 256 X) (dg 256 0)=true):=by rw [HZ.out];exact decide_eq_true h0
  have H1:=ak h1;clear h0 h1 HE HZ
  refine aT (n:=15) (by kernel_rfl) (by kernel_rfl) (by kernel_rfl) rfl
   (fun ii vv _=> (match ii with | 0=> vv=.agg (arr .u8 32 (dg 256 X)) | 1=> vv=.agg (arr .u8 32 (dg 256 0)) | 2=> vv=.bool true | _=> True))
   (fun w w'=> Below w.heap.size w w') (fun _ _ h=> h) (fun _ _ _ _ h _=> h) ?_ ?_
  ·refine cO ?_;refine ⟨?_,?_,?_,trivial⟩
   ·intro a w2 hB hF hd;exact aH <| aP (aB rfl gH rfl eT (hF.same 6 rfl) (hX.below hB hX.lt)) rfl
   ·intro a w2 hB hF hd;exact aH <| aP (eD rfl (HB.out _ _)) rfl
   ·intro a w2 hB hF hd;exact aH <| aP (qg true rfl (hd 0 _ rfl (aj rfl)) (hd 1 _ rfl (aj rfl)) gH (by kernel_rfl) (by kernel_rfl) (by kernel_rfl) (by kernel_rfl) (by kernel_rfl) HQ.out) rfl
  ·intro a w4 hB hF hS;have ha:=aI rfl rfl hF [_,_,_] rfl ⟨hS 0 _ rfl,hS 1 _ rfl,hS 2 _ rfl,trivial⟩;simp only [puts,Act.put,dQ,dR,dS] at ha;subst ha;clear hS hF;have hX4:=hX.kept hB;have oH:=hZ3.kept hB;have hb4:=dL.trans (hB.mono dL.size);clear hX hZ3 dL hB HQ
   go_wp2_with (first
    | (refine aQ rfl 22 _ rfl .u8 bx 32 (dg 256 X) 5 gH eT rfl hX4 ?_)
    | (refine aG rfl 22 _ _ rfl .u8 (w.heap.size+2) 32 (fun _=> 0) (dg 256 X) eT rfl rfl oH ?_))
   exact bodyPost_ret (fT rfl _ _ .u8 (w.heap.size+2) 32 _ 5 rfl (oH.setRow 32 (dg 256 X)) gH eT) rfl ⟨by rw [H1.out];rfl,ay hb4 (by omega) _⟩
 case neg=>
  have h1:er=0:=by rw [HE.out,if_neg h0]
  have HQ:Hid (kX 32 (dg 256 X) (dg 256 0)=false):=by rw [HZ.out];exact decide_eq_false h0
  have H1:=ak h1;clear h0 h1 HE HZ
  refine aT (n:=15) (by kernel_rfl) (by kernel_rfl) (by kernel_rfl) rfl
   (fun ii vv _=> (match ii with | 0=> vv=.agg (arr .u8 32 (dg 256 X)) | 1=> vv=.agg (arr .u8 32 (dg 256 0)) | 2=> vv=.bool false | _=> True))
   (fun w w'=> Below w.heap.size w w') (fun _ _ h=> h) (fun _ _ _ _ h _=> h) ?_ ?_
  ·refine cO ?_;refine ⟨?_,?_,?_,trivial⟩
   ·intro a w2 hB hF hd;exact aH <| aP (aB rfl gH rfl eT (hF.same 6 rfl) (hX.below hB hX.lt)) rfl
   ·intro a w2 hB hF hd;exact aH <| aP (eD rfl (HB.out _ _)) rfl
   ·intro a w2 hB hF hd;exact aH <| aP (qg false rfl (hd 0 _ rfl (aj rfl)) (hd 1 _ rfl (aj rfl)) gH (by kernel_rfl) (by kernel_rfl) (by kernel_rfl) (by kernel_rfl) (by kernel_rfl) HQ.out) rfl
  ·intro a w4 hB hF hS;have ha:=aI rfl rfl hF [_,_,_] rfl ⟨hS 0 _ rfl,hS 1 _ rfl,hS 2 _ rfl,trivial⟩;simp only [puts,Act.put,dQ,dR,dS] at ha;subst ha;clear hS hF;have hX4:=hX.kept hB;have oH:=hZ3.kept hB;have hb4:=dL.trans (hB.mono dL.size);clear hX hZ3 dL hB HQ
   go_wp2_with (first
    | (refine aQ rfl 22 _ rfl .u8 bx 32 (dg 256 X) 5 gH eT rfl hX4 ?_)
    | (refine aG rfl 22 _ _ rfl .u8 (w.heap.size+2) 32 (fun _=> 0) (dg 256 X) eT rfl rfl oH ?_))
   exact bodyPost_ret (fT rfl _ _ .u8 (w.heap.size+2) 32 _ 5 rfl (oH.setRow 32 (dg 256 X)) gH eT) rfl ⟨by rw [H1.out];rfl,ay hb4 (by omega) _⟩
end Go.Proofs.YtpcjekgfnfjbpaaGreat
