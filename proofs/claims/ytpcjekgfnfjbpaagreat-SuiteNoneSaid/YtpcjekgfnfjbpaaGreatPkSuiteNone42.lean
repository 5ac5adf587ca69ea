/-
  Part 42 of SuiteNone. Conditions: named in each theorem.
-/
import Derived.Test.YtpcjekgfnfjbpaaGreatPkSuiteNone41
import Derived.Test.YtpcjekgfnfjbpaaGreatPkSuiteNone14
import Derived.WalkMore
set_option linter.unusedVariables false
set_option linter.unusedSimpArgs false
set_option maxRecDepth 100000
set_option maxHeartbeats 6400000
namespace Go.bI
open Go.RowKit
theorem Two.adu (p:Bool) (s:Two):(s.flip p).a=if p then s.c else s.a:=by cases p<;> rfl
theorem Two.adt (p:Bool) (s:Two):(s.flip p).b=if p then s.d else s.b:=by cases p<;> rfl
theorem Two.ads (p:Bool) (s:Two):(s.flip p).c=if p then s.a else s.c:=by cases p<;> rfl
theorem Two.adr (p:Bool) (s:Two):(s.flip p).d=if p then s.b else s.d:=by cases p<;> rfl
theorem Two.flip_flip (p q:Bool) (s:Two):(s.flip q).flip (p !=q)=s.flip p:=by cases p<;> cases q<;> rfl
def Fe4 (f g h e:Nat->Int) (s:Two):Prop:=Fe f s.a/\Fe g s.b/\Fe h s.c/\Fe e s.d
theorem Fe4.flip {f g h e:Nat->Int} {s:Two} (p:Bool) (H:Fe4 f g h e s):Fe4 (aV p f h) (aV p g e) (aV p h f) (aV p e g) (s.flip p):=
 ⟨by rw [Two.adu];exact zD H.1 H.2.2.1,by rw [Two.adt];exact zD H.2.1 H.2.2.2,by rw [Two.ads];exact zD H.2.2.1 H.1,by rw [Two.adr];exact zD H.2.2.2 H.2.1⟩
def oI (X:Int):Int:=if X=0 then 21 else 0
end Go.bI
namespace Go.Proofs.YtpcjekgfnfjbpaaGreat
open Go.RowKit Go.bI Go.ChangeShapes
attribute [local go_sem ↓] Go.wp_at_zero Go.wp_at_succ
theorem Em (S U:Int) (w:World):
  Calls Tryz.prog 141 #[.agg (arr .u8 32 (dg 256 S)),.agg (arr .u8 32 (dg 256 U))] w fun e w'=> e=.returned (.agg (arr .u8 32 (dg 256 (iX (eD S) (U % 2 ^ 255) % Pr))))/\Below w.heap.size w w':=by
 have Sv:=ak (fun w=> yC S w);have Lc:=ak (fun w=> AX U w);have HFU:=ak (Gw U);have HS1:Hid (∀w,Calls Tryz.prog 200 #[.int .i64 1] w fun e w'=> e=.returned (.agg (arr .i64 16 (aN 1)))/\Below w.heap.size w w'):=fun w=> dR 1 w;have HS0:Hid (∀w,Calls Tryz.prog 200 #[.int .i64 0] w fun e w'=> e=.returned (.agg (arr .i64 16 (aN 0)))/\Below w.heap.size w w'):=fun w=> dR 0 w;have HF1:Hid (Fe (aN 1) 1):=by have h:=mG 1;rwa [show qM 1=1 by decide] at h
 have HF0:Hid (Fe (aN 0) 0):=by have h:=mG 0;rwa [show qM 0=0 by decide] at h
 obtain ⟨UN,hUN⟩:∃UN,UN=U % 2 ^ 255:=⟨_,rfl⟩
 rw [<-hUN] at HFU Lc ⊢;obtain ⟨N,hN⟩:∃N,N=eD S:=⟨_,rfl⟩
 rw [<-hN] at Sv ⊢;unfold El at Lc;obtain ⟨fu,hfu⟩:∃fu,fu=dg 65536 UN:=⟨_,rfl⟩
 rw [<-hfu] at HFU Lc;clear hUN hfu hN;obtain ⟨g1,hg1⟩:∃g1,g1=aN 1:=⟨_,rfl⟩
 obtain ⟨g0,hg0⟩:∃g0,g0=aN 0:=⟨_,rfl⟩
 rw [<-hg1] at HS1 HF1;rw [<-hg0] at HS0 HF0;clear hg1 hg0
 go_enter Tryz.func141,Tryz.ntmps141
 go_upto_region 1 with (fail)
 refine aG (fun w1=> aH .u8 w1 w.heap.size 32 (dg 256 S)/\aH .u8 w1 (w.heap.size+1) 32 (dg 256 U)/\aH .u8 w1 (w.heap.size+2) 32 (fun _=> 0)/\Below w.heap.size w w1)
  ⟨.alloc (.alloc (bG rfl rfl) _) _,.alloc (bG (by first | omega | (simp<;> omega)) rfl) _,bG (by first | omega | (simp<;> omega)) (by rfl),(((bM _ _).alloc (bB _) _).alloc (by first | omega | (simp<;> omega)) _).alloc (by first | omega | (simp<;> omega)) _⟩ ?_
 rintro w1 ⟨hA,hP,hZ,hbel⟩;refine wp_scope_straight ?_;go_wp2_with (refine aM rfl 22 _ rfl .u8 w.heap.size 32 (dg 256 S) 5 dU dz rfl hA ?_);refine (Sv.out _).mono ?_;rintro e w2 ⟨rfl,hb2⟩;have hP2:=hP.kept hb2;have hZ2:=hZ.kept hb2;have dG:=hbel.trans (hb2.mono hbel.size);have hl2:=hZ2.lt;clear hA hP hZ hbel hb2;go_upto_region 2 with (refine aF rfl 22 _ _ rfl .u8 w2.heap.size 32 (fun _=> 0) (dg 256 N) dz rfl rfl (bG rfl (by rfl)) ?_)
 refine aG (fun w3=> aH .u8 w3 w2.heap.size 32 (dg 256 N)/\aH .u8 w3 (w.heap.size+1) 32 (dg 256 U)/\aH .u8 w3 (w.heap.size+2) 32 (fun _=> 0)/\Below w.heap.size w w3)
  ⟨(bG rfl (by rfl):aH .u8 _ _ 32 (fun _=> 0)).setRow _ _,aH.aC (aH.alloc hP2 _) _ (by omega) _,aH.aC (aH.alloc hZ2 _) _ (by omega) _,aA (dG.alloc dG.size _) dG.size _⟩ ?_
 rintro w3 ⟨hN,hP3,hZ3,dQ⟩;obtain ⟨bn,hbn⟩:∃bn,bn=w2.heap.size:=⟨_,rfl⟩
 rw [<-hbn] at hN hl2 ⊢;clear hbn hP2 hZ2 dG
 try simp only [Act.put,dH,dI,dJ]
 go_wp2_with (refine aM rfl 22 _ rfl .u8 (w.heap.size+1) 32 (dg 256 U) 5 dU dz rfl hP3 ?_);refine (Lc.out _).mono ?_;rintro e w4 ⟨rfl,hb4⟩;have hN4:=hN.kept hb4;have ny:=hZ3.kept hb4;have fC:=dQ.trans (hb4.mono dQ.size);have hl4:=hN4.lt;clear hN hP3 hZ3 dQ hb4;go_upto_region 3 with (refine aF rfl 191 _ _ rfl .i64 w4.heap.size 16 (fun _=> 0) fu bE rfl rfl (bG rfl (by rfl)) ?_)
 refine aG (fun w5=> aH .i64 w5 w4.heap.size 16 fu/\aH .u8 w5 bn 32 (dg 256 N)/\aH .u8 w5 (w.heap.size+2) 32 (fun _=> 0)/\Below w.heap.size w w5)
  ⟨(bG rfl (by rfl):aH .i64 _ _ 16 (fun _=> 0)).setRow _ _,aH.aC (aH.alloc hN4 _) _ (by omega) _,aH.aC (aH.alloc ny _) _ (by omega) _,aA (fC.alloc fC.size _) fC.size _⟩ ?_
 rintro w5 ⟨hV,hN5,nG,fV⟩;obtain ⟨bu,hbu⟩:∃bu,bu=w4.heap.size:=⟨_,rfl⟩
 rw [<-hbu] at hV hl4 ⊢;clear hbu hN4 ny fC
 try simp only [Act.put,dH,dI,dJ]
 have hlu:=hV.lt
 refine aT (n:=77) (by kernel_rfl) (by kernel_rfl) (by kernel_rfl) rfl
  (gJ [(8,4),(9,5),(10,6),(11,7)]) (dS [(8,4),(9,5),(10,6),(11,7)]) (fun _=> arr .i64 16 (fun _=> 0)) (fun i=> match i with | 4=> (arr .i64 16 (g1)) | 5=> (arr .i64 16 (g0)) | 6=> (arr .i64 16 (fu)) | 7=> (arr .i64 16 (g1)) | _=> #[]) (fun _=> 191) (fun i=> match i with | 4=> 7 | 5=> 8 | 6=> 9 | 7=> 10 | _=> 0)
  (fun ii vv _=> (match ii with | 0 | 3=> vv=.agg (arr .i64 16 (g1)) | 1=> vv=.agg (arr .i64 16 (g0)) | 2=> vv=.agg (arr .i64 16 (fu)) | _=> True)) (fun _ _=> True) (fun _ _ _=> trivial) (fun _ _ _ _ _ _ _=> trivial) (fun _ _ _ _ h _=> h)
  (eT rfl) (dA rfl) ?_ ?_ ?_ ?_
 ·refine bQ ?_;refine ⟨?_,?_,?_,?_,(fun h=> by cases h),(fun h=> by cases h),(fun h=> by cases h),(fun h=> by cases h),(fun _ h=> by cases h),(fun _ h=> by cases h),(fun _ h=> by cases h),(fun _ h=> by cases h),trivial⟩
  ·intro _ _ a w2 hB hF hd;refine aJ <| aD _ _ _ rfl Tryz.call200 _ (args1 rfl) (by simp) ((HS1.out w2).mono ?_);rintro e w3 ⟨rfl,hb⟩;exact ⟨_,rfl,rfl,hb⟩
  ·intro _ _ a w2 hB hF hd;refine aJ <| aD _ _ _ rfl Tryz.call200 _ (args1 rfl) (by simp) ((HS0.out w2).mono ?_);rintro e w3 ⟨rfl,hb⟩;exact ⟨_,rfl,rfl,hb⟩
  ·intro _ _ a w2 hB hF hd;exact aJ <| aO (aB rfl bT rfl bE (hF.same 6 rfl) (hV.below hB hV.lt)) rfl
  ·intro _ _ a w2 hB hF hd;refine aJ <| aD _ _ _ rfl Tryz.call200 _ (args1 rfl) (by simp) ((HS1.out w2).mono ?_);rintro e w3 ⟨rfl,hb⟩;exact ⟨_,rfl,rfl,hb⟩
 ·refine bQ ?_;refine ⟨(fun h=> by cases h),(fun h=> by cases h),(fun h=> by cases h),(fun h=> by cases h),?_,?_,?_,?_,(fun h=> by cases h),(fun h=> by cases h),(fun h=> by cases h),(fun h=> by cases h),trivial⟩
  ·exact fun _=> ⟨rfl,rfl,fun a w2 K h=> aP rfl rfl Tryz.zeroValue191 (by simp) h⟩
  ·exact fun _=> ⟨rfl,rfl,fun a w2 K h=> aP rfl rfl Tryz.zeroValue191 (by simp) h⟩
  ·exact fun _=> ⟨rfl,rfl,fun a w2 K h=> aP rfl rfl Tryz.zeroValue191 (by simp) h⟩
  ·exact fun _=> ⟨rfl,rfl,fun a w2 K h=> aP rfl rfl Tryz.zeroValue191 (by simp) h⟩
 ·refine bQ ?_;refine ⟨(fun _ h=> by cases h),(fun _ h=> by cases h),(fun _ h=> by cases h),(fun _ h=> by cases h),(fun _ h=> by cases h),(fun _ h=> by cases h),(fun _ h=> by cases h),(fun _ h=> by cases h),?_,?_,?_,?_,trivial⟩
  ·intro p hp;obtain rfl:4=p:=fT hp;exact ⟨rfl,rfl,⟨_,rfl⟩,aj rfl,fun a w2 b K hB hF hd hx hb h=> aY rfl rfl bE hx (hd 0 _ rfl rfl rfl (aj rfl)) hb h⟩
  ·intro p hp;obtain rfl:5=p:=fT hp;exact ⟨rfl,rfl,⟨_,rfl⟩,aj rfl,fun a w2 b K hB hF hd hx hb h=> aY rfl rfl bE hx (hd 1 _ rfl rfl rfl (aj rfl)) hb h⟩
  ·intro p hp;obtain rfl:6=p:=fT hp;exact ⟨rfl,rfl,⟨_,rfl⟩,aj rfl,fun a w2 b K hB hF hd hx hb h=> aY rfl rfl bE hx (hd 2 _ rfl rfl rfl (aj rfl)) hb h⟩
  ·intro p hp;obtain rfl:7=p:=fT hp;exact ⟨rfl,rfl,⟨_,rfl⟩,aj rfl,fun a w2 b K hB hF hd hx hb h=> aY rfl rfl bE hx (hd 3 _ rfl rfl rfl (aj rfl)) hb h⟩
 ·intro a w6 blk hB hF hS hv hfin bU;obtain ⟨v4,Hq,LA⟩:=hv 4 _ rfl rfl;obtain ⟨v5,uU,Dl⟩:=hv 5 _ rfl rfl;obtain ⟨v6,NU,v6u⟩:=hv 6 _ rfl rfl;obtain ⟨v7,BQ,Sc⟩:=hv 7 _ rfl rfl;have ha:=aI rfl rfl hF [_,_,_,_,_,_,_,_,undef,undef,undef,undef] rfl ⟨hS 0 _ rfl rfl rfl,hS 1 _ rfl rfl rfl,hS 2 _ rfl rfl rfl,hS 3 _ rfl rfl rfl,v4,v5,v6,v7,trivial,trivial,trivial,trivial,trivial⟩;have f4:=hfin 8 _ 4 rfl rfl;have f5:=hfin 9 _ 5 rfl rfl;have f6:=hfin 10 _ 6 rfl rfl;have f7:=hfin 11 _ 7 rfl rfl;have Bc:=bU 4 5 _ _ rfl rfl rfl rfl (by decide);have agV:=bU 4 6 _ _ rfl rfl rfl rfl (by decide);have agU:=bU 4 7 _ _ rfl rfl rfl rfl (by decide);have agT:=bU 5 6 _ _ rfl rfl rfl rfl (by decide);have agS:=bU 5 7 _ _ rfl rfl rfl rfl (by decide);have Wv:=bU 6 7 _ _ rfl rfl rfl rfl (by decide);simp only [puts,Act.put,dH,dI,dJ] at ha;subst ha;have V4:aH .i64 w6 (blk 4) 16 (g1):=⟨_,f4⟩
  have V5:aH .i64 w6 (blk 5) 16 (g0):=⟨_,f5⟩
  have V6:aH .i64 w6 (blk 6) 16 (fu):=⟨_,f6⟩
  have V7:aH .i64 w6 (blk 7) 16 (g1):=⟨_,f7⟩
  clear hS hv hfin bU hF v4 v5 v6 v7 f4 f5 f6 f7;have Zo:=hV.kept hB;have hN6:=hN5.kept hB;have xu:=nG.kept hB;have jo:=fV.trans (hB.mono fV.size);clear hV hN5 nG fV hB;obtain ⟨x7,e7⟩:∃x,x=blk 4:=⟨_,rfl⟩
  obtain ⟨x8,e8⟩:∃x,x=blk 5:=⟨_,rfl⟩
  obtain ⟨x9,e9⟩:∃x,x=blk 6:=⟨_,rfl⟩
  obtain ⟨x10,e10⟩:∃x,x=blk 7:=⟨_,rfl⟩
  rw [<-e7] at V4 Bc agV agU Hq ⊢;rw [<-e8] at V5 Bc agT agS uU ⊢;rw [<-e9] at V6 agV agT Wv NU ⊢;rw [<-e10] at V7 agU agS Wv BQ ⊢;clear e7 e8 e9 e10;have l7:bu<x7:=by omega
  have l8:bu<x8:=by omega
  have l9:bu<x9:=by omega
  have l10:bu<x10:=by omega
  clear Hq uU NU BQ LA Dl v6u Sc hlu;have HR0:Hid (Fe4 g1 g0 fu g1 ((sO N UN 0).flip false)):=⟨HF1.out,HF0.out,HFU.out,HF1.out⟩
  go_wp2;refine wp_label ?_;go_wp2
  go_loopw [11,12] (fun sw i wr=> ∃(k:Nat) (q:Bool) (f7 f8 f9 f10:Nat->Int),k<=255/\i=.int .i64 (254 - (k:Int))/\sw=.bool q/\Hid (Fe4 f7 f8 f9 f10 ((sO N UN k).flip q))/\(aH .i64 wr x7 16 f7/\aH .i64 wr x8 16 f8/\aH .i64 wr x9 16 f9/\aH .i64 wr x10 16 f10)/\(aH .i64 wr bu 16 fu/\aH .u8 wr bn 32 (dg 256 N)/\aH .u8 wr (w.heap.size+2) 32 (fun _=> 0))/\Below w.heap.size w wr) (fun _ i _=> (intOf i+1).toNat)
  case atStart=> exact ⟨0,false,_,_,_,_,je _,rfl,rfl,HR0,⟨V4,V5,V6,V7⟩,⟨Zo,hN6,xu⟩,jo⟩
  case round=>
   clear V4 V5 V6 V7 Zo hN6 xu jo HR0;obtain ⟨k,q,f7,f8,f9,f10,hk,rfl,rfl,hR,⟨oO,nT,rA,jH⟩,⟨hV,hN,hZ⟩,hbel⟩:=hrel
   rename_i wr
   obtain rfl | hlt:=(by omega:k=255\/k<255)
   ·have ei:(254:Int) - ((255:Nat):Int)= -1:=by decide
    rw [ei];clear ei;go_upto_region 7 with (fail)
    refine aR (n:=77) (by kernel_rfl) (by kernel_rfl) (by kernel_rfl) rfl
     (fun ii vv _=> (match ii with | 0=> vv=.int .i64 (-1) | 1 | 2 | 15 | 16=> vv=.bool false | 3 | 4 | 5 | 6 | 7 | 8 | 9 | 10 | 11 | 12 | 13 | 14=> vv=undef | _=> True))
     (fun w w'=> Below w.heap.size w w') (fun _ _ h=> h) (fun _ _ _ _ h _=> h) ?_ ?_
    ·refine bQ ?_;refine ⟨?_,?_,?_,?_,?_,?_,?_,?_,?_,?_,?_,?_,?_,?_,?_,?_,?_,trivial⟩
     ·intro a w2 hB hF hd;exact aJ <| fq rfl (hF.same 12 rfl)
     ·intro a w2 hB hF hd;exact aJ <| aO (Go.bI.Oe rfl (hd 0 _ rfl (aj rfl)) rfl) (congrArg Value.bool (by decide))
     ·intro a w2 hB hF hd;exact aJ <| fq rfl (hd 1 _ rfl (aj rfl))
     ·intro a w2 hB hF hd;rw [if_neg (by rw [bR rfl rfl (hd 2 _ rfl (aj rfl))];decide)];exact rfl
     ·intro a w2 hB hF hd;rw [if_neg (by rw [bR rfl rfl (hd 2 _ rfl (aj rfl))];decide)];exact rfl
     ·intro a w2 hB hF hd;rw [if_neg (by rw [bR rfl rfl (hd 2 _ rfl (aj rfl))];decide)];exact rfl
     ·intro a w2 hB hF hd;rw [if_neg (by rw [bR rfl rfl (hd 2 _ rfl (aj rfl))];decide)];exact rfl
     ·intro a w2 hB hF hd;rw [if_neg (by rw [bR rfl rfl (hd 2 _ rfl (aj rfl))];decide)];exact rfl
     ·intro a w2 hB hF hd;rw [if_neg (by rw [bR rfl rfl (hd 2 _ rfl (aj rfl))];decide)];exact rfl
     ·intro a w2 hB hF hd;rw [if_neg (by rw [bR rfl rfl (hd 2 _ rfl (aj rfl))];decide)];exact rfl
     ·intro a w2 hB hF hd;rw [if_neg (by rw [bR rfl rfl (hd 2 _ rfl (aj rfl))];decide)];exact rfl
     ·intro a w2 hB hF hd;rw [if_neg (by rw [bR rfl rfl (hd 2 _ rfl (aj rfl))];decide)];exact rfl
     ·intro a w2 hB hF hd;rw [if_neg (by rw [bR rfl rfl (hd 2 _ rfl (aj rfl))];decide)];exact rfl
     ·intro a w2 hB hF hd;rw [if_neg (by rw [bR rfl rfl (hd 2 _ rfl (aj rfl))];decide)];exact rfl
     ·intro a w2 hB hF hd;rw [if_neg (by rw [bR rfl rfl (hd 2 _ rfl (aj rfl))];decide)];exact rfl
     ·intro a w2 hB hF hd;exact aJ <| aO (fO rfl (hd 2 _ rfl (aj rfl))) (rfl)
     ·intro a w2 hB hF hd;exact aJ <| pE rfl (hd 15 _ rfl (aj rfl))
    ·intro a w7 hB hF hS;have ha:=aI rfl rfl hF [_,_,_,_,_,_,_,_,_,_,_,_,_,_,_,_,_] rfl ⟨hS 0 _ rfl,hS 1 _ rfl,hS 2 _ rfl,hS 3 _ rfl,hS 4 _ rfl,hS 5 _ rfl,hS 6 _ rfl,hS 7 _ rfl,hS 8 _ rfl,hS 9 _ rfl,hS 10 _ rfl,hS 11 _ rfl,hS 12 _ rfl,hS 13 _ rfl,hS 14 _ rfl,hS 15 _ rfl,hS 16 _ rfl,trivial⟩;simp only [puts,Act.put,dH,dI,dJ] at ha;subst ha;clear hS hF;replace oO:=oO.kept hB;replace nT:=nT.kept hB;replace rA:=rA.kept hB;replace jH:=jH.kept hB;replace hV:=hV.kept hB;replace hN:=hN.kept hB;replace hZ:=hZ.kept hB;replace hbel:=hbel.trans (hB.mono hbel.size);clear hB;obtain ⟨bb,hbb⟩:∃bb:Bool,bb=false:=⟨_,rfl⟩
     obtain ⟨pq,hpq⟩:∃pq,pq=(bb !=q):=⟨_,rfl⟩
     have HPQ:=ak hpq;clear hpq;have zk:=ak hbb;clear hbb;go_upto_region 8 with (fail);have Xr:Hid (∀p w,p=(bb !=q)->Calls Tryz.prog 201 #[.agg (arr .i64 16 f7),.agg (arr .i64 16 f9),.bool p] w fun e w'=> e=.returned (.tuple #[.agg (arr .i64 16 (aV pq f7 f9)),.agg (arr .i64 16 (aV pq f9 f7))])/\Below w.heap.size w w'):=by
      rintro p w rfl;rw [HPQ.out];exact jv _ f7 f9 _ _ hR.out.1 hR.out.2.2.1 w
     go_wp2_with (first | (refine bA rfl 191 _ rfl .i64 x7 16 f7 bT rfl bE rfl oO ?_) | (refine bA rfl 191 _ rfl .i64 x9 16 f9 bT rfl bE rfl rA ?_));refine (Xr.out _ _ (by first | rfl | (rw [zk.out];cases q<;> rfl) | (cases q<;> cases bb<;> rfl))).mono ?_;rintro e wq0 ⟨rfl,hbq⟩;replace oO:=oO.kept hbq;replace rA:=rA.kept hbq;replace nT:=nT.kept hbq;replace jH:=jH.kept hbq;replace hV:=hV.kept hbq;replace hN:=hN.kept hbq;replace hZ:=hZ.kept hbq;replace hbel:=hbel.trans (hbq.mono hbel.size);have s2:=rA.aC x7 (by omega) (arr .i64 16 (aV pq f7 f9));clear Xr hbq;go_upto_region 9 with (first | (refine aF rfl 191 _ _ rfl .i64 x7 16 f7 (aV pq f7 f9) bE rfl rfl oO ?_) | (refine aF rfl 191 _ _ rfl .i64 x9 16 f9 (aV pq f9 f7) bE rfl rfl s2 ?_))
     refine aG (fun wq=> aH .i64 wq x7 16 (aV pq f7 f9)/\aH .i64 wq x9 16 (aV pq f9 f7)/\aH .i64 wq x8 16 f8/\aH .i64 wq x10 16 f10/\aH .i64 wq bu 16 fu/\aH .u8 wq bn 32 (dg 256 N)/\aH .u8 wq (w.heap.size+2) 32 (fun _=> 0)/\Below w.heap.size w wq)
      ⟨(oO.setRow _ _).aC _ (by omega) _,s2.setRow _ _,(nT.aC _ (by omega) _).aC _ (by omega) _,(jH.aC _ (by omega) _).aC _ (by omega) _,(hV.aC _ (by omega) _).aC _ (by omega) _,(hN.aC _ (by omega) _).aC _ (by omega) _,(hZ.aC _ (by omega) _).aC _ (by omega) _,aA (aA hbel (by omega) _) (by omega) _⟩ ?_
     clear s2 oO rA nT jH hV hN hZ hbel;rintro wq ⟨oO,rA,nT,jH,hV,hN,hZ,hbel⟩
     try simp only [Act.put,dH,dI,dJ]
     have Xq:Hid (∀p w,p=(bb !=q)->Calls Tryz.prog 201 #[.agg (arr .i64 16 f8),.agg (arr .i64 16 f10),.bool p] w fun e w'=> e=.returned (.tuple #[.agg (arr .i64 16 (aV pq f8 f10)),.agg (arr .i64 16 (aV pq f10 f8))])/\Below w.heap.size w w'):=by
      rintro p w rfl;rw [HPQ.out];exact jv _ f8 f10 _ _ hR.out.2.1 hR.out.2.2.2 w
     go_wp2_with (first | (refine bA rfl 191 _ rfl .i64 x8 16 f8 bT rfl bE rfl nT ?_) | (refine bA rfl 191 _ rfl .i64 x10 16 f10 bT rfl bE rfl jH ?_));refine (Xq.out _ _ (by first | rfl | (rw [zk.out];cases q<;> rfl) | (cases q<;> cases bb<;> rfl))).mono ?_;rintro e wp0 ⟨rfl,hbq⟩;replace nT:=nT.kept hbq;replace jH:=jH.kept hbq;replace oO:=oO.kept hbq;replace rA:=rA.kept hbq;replace hV:=hV.kept hbq;replace hN:=hN.kept hbq;replace hZ:=hZ.kept hbq;replace hbel:=hbel.trans (hbq.mono hbel.size);have s2:=jH.aC x8 (by omega) (arr .i64 16 (aV pq f8 f10));clear Xq hbq;go_upto_region 10 with (first | (refine aF rfl 191 _ _ rfl .i64 x8 16 f8 (aV pq f8 f10) bE rfl rfl nT ?_) | (refine aF rfl 191 _ _ rfl .i64 x10 16 f10 (aV pq f10 f8) bE rfl rfl s2 ?_))
     refine aG (fun wp=> aH .i64 wp x8 16 (aV pq f8 f10)/\aH .i64 wp x10 16 (aV pq f10 f8)/\aH .i64 wp x7 16 (aV pq f7 f9)/\aH .i64 wp x9 16 (aV pq f9 f7)/\aH .i64 wp bu 16 fu/\aH .u8 wp bn 32 (dg 256 N)/\aH .u8 wp (w.heap.size+2) 32 (fun _=> 0)/\Below w.heap.size w wp)
      ⟨(nT.setRow _ _).aC _ (by omega) _,s2.setRow _ _,(oO.aC _ (by omega) _).aC _ (by omega) _,(rA.aC _ (by omega) _).aC _ (by omega) _,(hV.aC _ (by omega) _).aC _ (by omega) _,(hN.aC _ (by omega) _).aC _ (by omega) _,(hZ.aC _ (by omega) _).aC _ (by omega) _,aA (aA hbel (by omega) _) (by omega) _⟩ ?_
     clear s2 nT jH oO rA hV hN hZ hbel;rintro wp ⟨nT,jH,oO,rA,hV,hN,hZ,hbel⟩
     try simp only [Act.put,dH,dI,dJ]
     replace hR:Hid (Fe4 (aV pq f7 f9) (aV pq f8 f10) (aV pq f9 f7) (aV pq f10 f8) ((sO N UN 255).flip bb)):=by have h:=hR.out.flip pq;rwa [show ((sO N UN 255).flip q).flip pq=(sO N UN 255).flip bb by rw [HPQ.out,Two.flip_flip]] at h
     obtain ⟨g7,hg7⟩:∃g,g=aV pq f7 f9:=⟨_,rfl⟩
     obtain ⟨g8,hg8⟩:∃g,g=aV pq f8 f10:=⟨_,rfl⟩
     obtain ⟨g9,hg9⟩:∃g,g=aV pq f9 f7:=⟨_,rfl⟩
     obtain ⟨g10,Vz⟩:∃g,g=aV pq f10 f8:=⟨_,rfl⟩
     rw [<-hg7] at oO hR;rw [<-hg8] at nT hR;rw [<-hg9] at rA hR;rw [<-Vz] at jH hR;clear hg7 hg8 hg9 Vz;have HBY:Hid (∀w,Calls Tryz.prog 205 #[El (aL g7 (jD g8))] w fun e w'=> e=.returned (.agg (arr .u8 32 (dg 256 (iX N UN % Pr))))/\Below w.heap.size w w'):=fun w=> by
      have hr:=hR.out;rw [zk.out] at hr;exact iq _ (iX N UN) (hr.1.aL (jR hr.2.1)) w
     go_upto_region 13 with (fail)
     refine bV (n:=77) (fun i=> i==5) (by kernel_rfl) (by kernel_rfl) (by kernel_rfl) (by kernel_rfl) rfl
      (fun ii vv _=> (match ii with | 0=> vv=.agg (arr .i64 16 (g7)) | 1=> vv=.agg (arr .i64 16 (g8)) | 2=> vv=.agg (arr .i64 16 (jD g8)) | 3=> vv=.agg (arr .i64 16 (aL g7 (jD g8))) | 4=> vv=.agg (arr .u8 32 (dg 256 (iX N UN % Pr))) | _=> True))
      (fun w w'=> Below w.heap.size w w') (fun _ _ h=> h) (fun _ _ _ _ h _=> h)
      (fun _=> (w.heap.size+2)) (fun _=> (arr .u8 32 (fun _=> 0))) (fun _=> (arr .u8 32 (dg 256 (iX N UN % Pr))))
      (by intro i j _ _ hpi iL hne;simp only [beq_iff_eq] at hpi iL;omega)
      (by intro i _ hpi;exact (hZ).row)
      ?_ ?_ ?_
     ·refine bQ ?_;refine ⟨?_,?_,?_,?_,?_,(aK),trivial⟩
      ·intro _ a w2 hB hF hd;exact aJ <| aO (aB rfl bT rfl bE (hF.same 7 rfl) (oO.below hB oO.lt)) rfl
      ·intro _ a w2 hB hF hd;exact aJ <| aO (aB rfl bT rfl bE (hF.same 8 rfl) (nT.below hB nT.lt)) rfl
      ·intro _ a w2 hB hF hd;refine aJ <| aD _ _ _ rfl Tryz.call204 _ (args1 (hd 1 _ rfl rfl (aj rfl))) (by simp) ((jL g8 _ hR.out.2.1 w2).mono ?_);rintro e w3 ⟨rfl,hb⟩;exact ⟨_,rfl,rfl,hb⟩
      ·intro _ a w2 hB hF hd;refine aJ <| aD _ _ _ rfl Tryz.call203 _ (args2 (hd 0 _ rfl rfl (aj rfl)) (hd 2 _ rfl rfl (aj rfl))) (by simp) ((bJ _ _ _ _ hR.out.1 (jR hR.out.2.1) w2).mono ?_);rintro e w3 ⟨rfl,hb⟩;exact ⟨_,rfl,rfl,hb⟩
      ·intro _ a w2 hB hF hd;refine aJ <| aD _ _ _ rfl Tryz.call205 _ (args1 (hd 3 _ rfl rfl (aj rfl))) (by simp) ((HBY.out w2).mono ?_);rintro e w3 ⟨rfl,hb⟩;exact ⟨_,rfl,rfl,hb⟩
     ·refine bQ ?_;refine ⟨(aK),(aK),(aK),(aK),(aK),?_,trivial⟩
      ·intro _ a w1 w2 K hB hF hS hr hK;exact aW 22 _ _ rfl .u8 ((w.heap.size+2)) 32 (fun _=> 0) (dg 256 (iX N UN % Pr)) dz (hF.same 4 rfl) (hS 4 _ rfl rfl) hr hK
     ·intro a wf w9 hB hF hS hfil;have other:∀{k:IntKind} {qb n:Nat} {f:Nat->Int},qb≠(w.heap.size+2)->aH k wf qb n f->aH k w9 qb n f:=fun {k qb n f} e0 hA=> hfil.arr (by intro i _ hpi;simp only [jY,beq_iff_eq] at hpi;subst hpi<;> ((try simp only []);(try dsimp only);omega)) hA;have dx:∀{B:Nat} {w0:World},B<=(w.heap.size+2)->Below B w0 wf->Below B w0 w9:=fun {B w0} e0 hA=> hfil.below (by intro i _ hpi;simp only [jY,beq_iff_eq] at hpi;subst hpi<;> ((try simp only []);(try dsimp only);omega)) hA;have V5:aH .u8 w9 ((w.heap.size+2)) 32 (dg 256 (iX N UN % Pr)):=hfil.at 5 (by decide) rfl;have oL:=hfil.size;clear hfil;have ha:=aI rfl rfl hF [_,_,_,_,_,undef] rfl ⟨hS 0 _ rfl rfl,hS 1 _ rfl rfl,hS 2 _ rfl rfl,hS 3 _ rfl rfl,hS 4 _ rfl rfl,trivial,trivial⟩;simp only [puts,Act.put,dH,dI,dJ] at ha;subst ha;clear hS hF;have hb:=dx (by omega) (hbel.trans (hB.mono hbel.size));go_wp2;rw [Exit.noGoto_ret];exact bodyPost_ret (aZ rfl _ _ .u8 (w.heap.size+2) 32 _ 5 rfl V5 dU dz) rfl ⟨rfl,hb⟩
   ·obtain ⟨m,hm⟩:∃m,m=254 - k:=⟨_,rfl⟩
    have ei:(254:Int) - (k:Int)=(m:Int):=by omega
    have HKM:Hid ((m:Int)=254 - (k:Int)):=ei.symm;have HKL:=ak hlt;have afV:m<=254:=by omega
    rw [ei];have Zl:m % 8<8:=Nat.mod_lt _ (by decide);have hq:IntKind.i64.wrap (Int.tdiv (m:Int) 8)=((m / 8:Nat):Int):=by rw [Int.tdiv_eq_ediv_of_nonneg (by omega),gU] <;> omega
    have hr:Int.tmod (m:Int) 8=((m % 8:Nat):Int):=by rw [Int.tmod_eq_emod_of_nonneg (by omega)];omega
    have hc:IntKind.u64.wrap ((m % 8:Nat):Int)=((m % 8:Nat):Int):=jf (by omega) (by omega);obtain ⟨d0,d1⟩:=aX (by decide:(0:Int)<256) N (m / 8);have hsh:=wh (x:=dg 256 N (m / 8)) (m % 8) Zl;have hand:bits .and .u8 (dg 256 N (m / 8) / 2 ^ (m % 8)) 1=N / 2 ^ m % 2:=by
     rw [rM (Int.ediv_nonneg d0 (Int.le_of_lt (gD (by decide) _))) (Int.lt_of_le_of_lt (Int.ediv_le_self _ d0) d1),GQ N m]
    have hpl:((m / 8:Nat):Int).toNat=m / 8:=EM _;have Si:m / 8<32:=by omega
    have hce:=hN.cell (m / 8) Si;have hBl:=hN.lt;obtain ⟨bb,hbb⟩:∃bb,bb=(N / 2 ^ m % 2==1):=⟨_,rfl⟩
    obtain ⟨pq,hpq⟩:∃pq,pq=(bb !=q):=⟨_,rfl⟩
    have HPQ:=ak hpq;clear hpq;go_upto_region 7 with (fail)
    refine aR (n:=77) (by kernel_rfl) (by kernel_rfl) (by kernel_rfl) rfl
     (fun ii vv _=> (match ii with | 0 | 3 | 4 | 8 | 9=> vv=.int .i64 ((m:Int)) | 1 | 2=> vv=.bool true | 5=> vv=.int .i64 ((m / 8:Nat)) | 6=> vv=.pointer (some ⟨bn,(m / 8),none⟩) | 7=> vv=.int .u8 (dg 256 N (m / 8)) | 10=> vv=.int .i64 ((m % 8:Nat)) | 11=> vv=.int .u64 ((m % 8:Nat)) | 12=> vv=.int .u8 (dg 256 N (m / 8) / 2 ^ (m % 8)) | 13=> vv=.int .u8 (N / 2 ^ m % 2) | 14 | 15 | 16=> vv=.bool bb | _=> True))
     (fun w w'=> Below w.heap.size w w') (fun _ _ h=> h) (fun _ _ _ _ h _=> h) ?_ ?_
    ·refine bQ ?_;refine ⟨?_,?_,?_,?_,?_,?_,?_,?_,?_,?_,?_,?_,?_,?_,?_,?_,?_,trivial⟩
     ·intro a w2 hB hF hd;exact aJ <| fq rfl (hF.same 12 rfl)
     ·intro a w2 hB hF hd;exact aJ <| aO (Go.bI.Oe rfl (hd 0 _ rfl (aj rfl)) rfl) (congrArg Value.bool (decide_eq_true (by omega)))
     ·intro a w2 hB hF hd;exact aJ <| fq rfl (hd 1 _ rfl (aj rfl))
     ·intro a w2 hB hF hd;refine aS (bg rfl rfl (hd 2 _ rfl (aj rfl)) rfl) ?_;exact fq rfl (hF.same 12 rfl)
     ·intro a w2 hB hF hd;refine aS (bg rfl rfl (hd 2 _ rfl (aj rfl)) rfl) ?_;exact aO (IW rfl (hd 3 _ rfl (aj rfl)) rfl (by omega)) rfl
     ·intro a w2 hB hF hd;refine aS (bg rfl rfl (hd 2 _ rfl (aj rfl)) rfl) ?_;exact aO (Go.bI.zw rfl (hd 4 _ rfl (aj rfl)) rfl (by decide)) (congrArg (Value.int .i64) (hq))
     ·intro a w2 hB hF hd;refine aS (bg rfl rfl (hd 2 _ rfl (aj rfl)) rfl) ?_;exact aO (aQ rfl (hF.same 5 rfl) (hd 5 _ rfl (aj rfl)) dU (by kernel_rfl) (by omega) (by omega)) (congrArg (fun z=> Value.pointer (some ⟨bn,z,none⟩)) hpl)
     ·intro a w2 hB hF hd;refine aS (bg rfl rfl (hd 2 _ rfl (aj rfl)) rfl) ?_;exact aO (aU rfl (hd 6 _ rfl (aj rfl)) Tryz.underlying5 ((hB.cell (p:=⟨bn,m / 8,none⟩) hBl).trans hce)) rfl
     ·intro a w2 hB hF hd;refine aS (bg rfl rfl (hd 2 _ rfl (aj rfl)) rfl) ?_;exact fq rfl (hF.same 12 rfl)
     ·intro a w2 hB hF hd;refine aS (bg rfl rfl (hd 2 _ rfl (aj rfl)) rfl) ?_;exact aO (IW rfl (hd 8 _ rfl (aj rfl)) rfl (by omega)) rfl
     ·intro a w2 hB hF hd;refine aS (bg rfl rfl (hd 2 _ rfl (aj rfl)) rfl) ?_;exact aO (Go.bI.zu rfl (hd 9 _ rfl (aj rfl)) rfl (by decide)) (congrArg (Value.int .i64) (hr))
     ·intro a w2 hB hF hd;refine aS (bg rfl rfl (hd 2 _ rfl (aj rfl)) rfl) ?_;exact aO (mP rfl (hd 10 _ rfl (aj rfl)) Tryz.underlying3 Tryz.underlying212) (congrArg (Value.int .u64) (hc))
     ·intro a w2 hB hF hd;refine aS (bg rfl rfl (hd 2 _ rfl (aj rfl)) rfl) ?_;exact aO (Go.bI.pQ rfl (hd 7 _ rfl (aj rfl)) (hd 11 _ rfl (aj rfl)) (by omega)) (congrArg (Value.int .u8) (hsh))
     ·intro a w2 hB hF hd;refine aS (bg rfl rfl (hd 2 _ rfl (aj rfl)) rfl) ?_;exact aO (Go.bI.kr rfl (hd 12 _ rfl (aj rfl)) rfl) (congrArg (Value.int .u8) (hand))
     ·intro a w2 hB hF hd;refine aS (bg rfl rfl (hd 2 _ rfl (aj rfl)) rfl) ?_;refine aO (Go.bI.qQ rfl (hd 13 _ rfl (aj rfl)) rfl) ?_;exact congrArg Value.bool hbb.symm
     ·intro a w2 hB hF hd;exact aJ <| aO (fO rfl (hd 2 _ rfl (aj rfl))) ((hd 14 _ rfl (aj rfl)))
     ·intro a w2 hB hF hd;exact aJ <| pE rfl (hd 15 _ rfl (aj rfl))
    ·intro a w7 hB hF hS;have ha:=aI rfl rfl hF [_,_,_,_,_,_,_,_,_,_,_,_,_,_,_,_,_] rfl ⟨hS 0 _ rfl,hS 1 _ rfl,hS 2 _ rfl,hS 3 _ rfl,hS 4 _ rfl,hS 5 _ rfl,hS 6 _ rfl,hS 7 _ rfl,hS 8 _ rfl,hS 9 _ rfl,hS 10 _ rfl,hS 11 _ rfl,hS 12 _ rfl,hS 13 _ rfl,hS 14 _ rfl,hS 15 _ rfl,hS 16 _ rfl,trivial⟩;simp only [puts,Act.put,dH,dI,dJ] at ha;subst ha;clear hS hF;replace oO:=oO.kept hB;replace nT:=nT.kept hB;replace rA:=rA.kept hB;replace jH:=jH.kept hB;replace hV:=hV.kept hB;replace hN:=hN.kept hB;replace hZ:=hZ.kept hB;replace hbel:=hbel.trans (hB.mono hbel.size);have zk:=ak hbb;have HM:=ak hm;clear hB hq hr hc hsh hand hce hpl hbb hm Si Zl hBl d0 d1;go_upto_region 8 with (fail);have Xr:Hid (∀p w,p=(bb !=q)->Calls Tryz.prog 201 #[.agg (arr .i64 16 f7),.agg (arr .i64 16 f9),.bool p] w fun e w'=> e=.returned (.tuple #[.agg (arr .i64 16 (aV pq f7 f9)),.agg (arr .i64 16 (aV pq f9 f7))])/\Below w.heap.size w w'):=by
      rintro p w rfl;rw [HPQ.out];exact jv _ f7 f9 _ _ hR.out.1 hR.out.2.2.1 w
     go_wp2_with (first | (refine bA rfl 191 _ rfl .i64 x7 16 f7 bT rfl bE rfl oO ?_) | (refine bA rfl 191 _ rfl .i64 x9 16 f9 bT rfl bE rfl rA ?_));refine (Xr.out _ _ (by first | rfl | (rw [zk.out];cases q<;> rfl) | (cases q<;> cases bb<;> rfl))).mono ?_;rintro e wq0 ⟨rfl,hbq⟩;replace oO:=oO.kept hbq;replace rA:=rA.kept hbq;replace nT:=nT.kept hbq;replace jH:=jH.kept hbq;replace hV:=hV.kept hbq;replace hN:=hN.kept hbq;replace hZ:=hZ.kept hbq;replace hbel:=hbel.trans (hbq.mono hbel.size);have s2:=rA.aC x7 (by omega) (arr .i64 16 (aV pq f7 f9));clear Xr hbq;go_upto_region 9 with (first | (refine aF rfl 191 _ _ rfl .i64 x7 16 f7 (aV pq f7 f9) bE rfl rfl oO ?_) | (refine aF rfl 191 _ _ rfl .i64 x9 16 f9 (aV pq f9 f7) bE rfl rfl s2 ?_))
     refine aG (fun wq=> aH .i64 wq x7 16 (aV pq f7 f9)/\aH .i64 wq x9 16 (aV pq f9 f7)/\aH .i64 wq x8 16 f8/\aH .i64 wq x10 16 f10/\aH .i64 wq bu 16 fu/\aH .u8 wq bn 32 (dg 256 N)/\aH .u8 wq (w.heap.size+2) 32 (fun _=> 0)/\Below w.heap.size w wq)
      ⟨(oO.setRow _ _).aC _ (by omega) _,s2.setRow _ _,(nT.aC _ (by omega) _).aC _ (by omega) _,(jH.aC _ (by omega) _).aC _ (by omega) _,(hV.aC _ (by omega) _).aC _ (by omega) _,(hN.aC _ (by omega) _).aC _ (by omega) _,(hZ.aC _ (by omega) _).aC _ (by omega) _,aA (aA hbel (by omega) _) (by omega) _⟩ ?_
     clear s2 oO rA nT jH hV hN hZ hbel;rintro wq ⟨oO,rA,nT,jH,hV,hN,hZ,hbel⟩
     try simp only [Act.put,dH,dI,dJ]
     have Xq:Hid (∀p w,p=(bb !=q)->Calls Tryz.prog 201 #[.agg (arr .i64 16 f8),.agg (arr .i64 16 f10),.bool p] w fun e w'=> e=.returned (.tuple #[.agg (arr .i64 16 (aV pq f8 f10)),.agg (arr .i64 16 (aV pq f10 f8))])/\Below w.heap.size w w'):=by
      rintro p w rfl;rw [HPQ.out];exact jv _ f8 f10 _ _ hR.out.2.1 hR.out.2.2.2 w
     go_wp2_with (first | (refine bA rfl 191 _ rfl .i64 x8 16 f8 bT rfl bE rfl nT ?_) | (refine bA rfl 191 _ rfl .i64 x10 16 f10 bT rfl bE rfl jH ?_));refine (Xq.out _ _ (by first | rfl | (rw [zk.out];cases q<;> rfl) | (cases q<;> cases bb<;> rfl))).mono ?_;rintro e wp0 ⟨rfl,hbq⟩;replace nT:=nT.kept hbq;replace jH:=jH.kept hbq;replace oO:=oO.kept hbq;replace rA:=rA.kept hbq;replace hV:=hV.kept hbq;replace hN:=hN.kept hbq;replace hZ:=hZ.kept hbq;replace hbel:=hbel.trans (hbq.mono hbel.size);have s2:=jH.aC x8 (by omega) (arr .i64 16 (aV pq f8 f10));clear Xq hbq;go_upto_region 10 with (first | (refine aF rfl 191 _ _ rfl .i64 x8 16 f8 (aV pq f8 f10) bE rfl rfl nT ?_) | (refine aF rfl 191 _ _ rfl .i64 x10 16 f10 (aV pq f10 f8) bE rfl rfl s2 ?_))
     refine aG (fun wp=> aH .i64 wp x8 16 (aV pq f8 f10)/\aH .i64 wp x10 16 (aV pq f10 f8)/\aH .i64 wp x7 16 (aV pq f7 f9)/\aH .i64 wp x9 16 (aV pq f9 f7)/\aH .i64 wp bu 16 fu/\aH .u8 wp bn 32 (dg 256 N)/\aH .u8 wp (w.heap.size+2) 32 (fun _=> 0)/\Below w.heap.size w wp)
      ⟨(nT.setRow _ _).aC _ (by omega) _,s2.setRow _ _,(oO.aC _ (by omega) _).aC _ (by omega) _,(rA.aC _ (by omega) _).aC _ (by omega) _,(hV.aC _ (by omega) _).aC _ (by omega) _,(hN.aC _ (by omega) _).aC _ (by omega) _,(hZ.aC _ (by omega) _).aC _ (by omega) _,aA (aA hbel (by omega) _) (by omega) _⟩ ?_
     clear s2 nT jH oO rA hV hN hZ hbel;rintro wp ⟨nT,jH,oO,rA,hV,hN,hZ,hbel⟩
     try simp only [Act.put,dH,dI,dJ]
     replace hR:Hid (Fe4 (aV pq f7 f9) (aV pq f8 f10) (aV pq f9 f7) (aV pq f10 f8) ((sO N UN k).flip bb)):=by have h:=hR.out.flip pq;rwa [show ((sO N UN k).flip q).flip pq=(sO N UN k).flip bb by rw [HPQ.out,Two.flip_flip]] at h
     obtain ⟨g7,hg7⟩:∃g,g=aV pq f7 f9:=⟨_,rfl⟩
     obtain ⟨g8,hg8⟩:∃g,g=aV pq f8 f10:=⟨_,rfl⟩
     obtain ⟨g9,hg9⟩:∃g,g=aV pq f9 f7:=⟨_,rfl⟩
     obtain ⟨g10,Vz⟩:∃g,g=aV pq f10 f8:=⟨_,rfl⟩
     rw [<-hg7] at oO hR;rw [<-hg8] at nT hR;rw [<-hg9] at rA hR;rw [<-Vz] at jH hR;clear hg7 hg8 hg9 Vz;have Xu:=ak (fun w=> MN g7 g8 g9 g10 fu _ _ _ _ _ hR.out.1 hR.out.2.1 hR.out.2.2.1 hR.out.2.2.2 HFU.out w);unfold El at Xu;go_wp2_with (first | (refine bA rfl 191 _ rfl .i64 x7 16 g7 bT rfl bE rfl oO ?_) | (refine bA rfl 191 _ rfl .i64 x8 16 g8 bT rfl bE rfl nT ?_) | (refine bA rfl 191 _ rfl .i64 x9 16 g9 bT rfl bE rfl rA ?_) | (refine bA rfl 191 _ rfl .i64 x10 16 g10 bT rfl bE rfl jH ?_) | (refine bA rfl 191 _ rfl .i64 bu 16 fu bT rfl bE rfl hV ?_));refine (Xu.out _).mono ?_;rintro e wc ⟨a,b,c,d,rfl,hF4,hbc⟩;replace oO:=oO.kept hbc;replace nT:=nT.kept hbc;replace rA:=rA.kept hbc;replace jH:=jH.kept hbc;replace hV:=hV.kept hbc;replace hN:=hN.kept hbc;replace hZ:=hZ.kept hbc;replace hbel:=hbel.trans (hbc.mono hbel.size);clear Xu hbc;have s8:=nT.aC x7 (by omega) (arr .i64 16 a);have s9:=(rA.aC x7 (by omega) (arr .i64 16 a)).aC x8 (by omega) (arr .i64 16 b);have s10:=((jH.aC x7 (by omega) (arr .i64 16 a)).aC x8 (by omega) (arr .i64 16 b)).aC x9 (by omega) (arr .i64 16 c);have e7:=(((oO.setRow 16 a).aC x8 (by omega) (arr .i64 16 b)).aC x9 (by omega) (arr .i64 16 c)).aC x10 (by omega) (arr .i64 16 d);have e8:=((s8.setRow 16 b).aC x9 (by omega) (arr .i64 16 c)).aC x10 (by omega) (arr .i64 16 d);have e9:=(s9.setRow 16 c).aC x10 (by omega) (arr .i64 16 d);have e10:=s10.setRow 16 d;have hVe:=(((hV.aC x7 (by omega) (arr .i64 16 a)).aC x8 (by omega) (arr .i64 16 b)).aC x9 (by omega) (arr .i64 16 c)).aC x10 (by omega) (arr .i64 16 d);have hNe:=(((hN.aC x7 (by omega) (arr .i64 16 a)).aC x8 (by omega) (arr .i64 16 b)).aC x9 (by omega) (arr .i64 16 c)).aC x10 (by omega) (arr .i64 16 d);have hZe:=(((hZ.aC x7 (by omega) (arr .i64 16 a)).aC x8 (by omega) (arr .i64 16 b)).aC x9 (by omega) (arr .i64 16 c)).aC x10 (by omega) (arr .i64 16 d);have hbe:=aA (aA (aA (aA hbel (by omega:w.heap.size<=x7) (arr .i64 16 a)) (by omega:w.heap.size<=x8) (arr .i64 16 b)) (by omega:w.heap.size<=x9) (arr .i64 16 c)) (by omega:w.heap.size<=x10) (arr .i64 16 d);have HA7:=ak oO;have S8:=ak s8;have S9:=ak s9;have S10:=ak s10;have hst:sO N UN (k+1)=(sO N UN k).rung UN (N / 2 ^ m % 2):=by rw [HM.out];rfl
     have hfl:=Two.PV UN (N / 2 ^ m % 2) (by omega) (sO N UN k);rw [<-hst,←zk.out] at hfl;have HFL:Hid (Fe4 a b c d ((sO N UN (k+1)).flip bb)):=by rw [<-hfl];exact hF4
     clear oO nT rA jH hV hN hZ hbel s8 s9 s10 hst hfl hF4 hR ei;go_wp2_with (first | (refine aF rfl 191 _ _ rfl .i64 x7 16 g7 a bE rfl rfl HA7.out ?_) | (refine aF rfl 191 _ _ rfl .i64 x8 16 g8 b bE rfl rfl S8.out ?_) | (refine aF rfl 191 _ _ rfl .i64 x9 16 g9 c bE rfl rfl S9.out ?_) | (refine aF rfl 191 _ _ rfl .i64 x10 16 g10 d bE rfl rfl S10.out ?_));go_roundw
     case rel=> exact ⟨k+1,bb,a,b,c,d,by have:=HKL.out;omega,congrArg (Value.int .i64) (by have:=HKM.out;omega),rfl,HFL,⟨e7,e8,e9,e10⟩,⟨hVe,hNe,hZe⟩,hbe⟩
     case measure=> simp [intOf] <;> (have:=HKM.out;omega)
abbrev mulN (S U:Int):Int:=iX (eD S) (U % 2 ^ 255) % Pr
theorem Rp {a:Act} (w:World):(Instr.build 22 ((#[] :Array (Nat × Operand)).map fun (i,x)=> (i,a.eval x))).run Tryz.prog w=.ok (.agg (arr .u8 32 (dg 256 0))) w:=Rs (a:=a) w
theorem pW (S:Int) (w:World):
  Calls Tryz.prog 90 #[.agg (arr .u8 32 (dg 256 S))] w fun e w'=> e=.returned (.agg (arr .u8 32 (dg 256 (mulN S 9))))/\Below w.heap.size w w':=by
 have HM:=ak (fun w=> Em S 9 w);unfold mulN;obtain ⟨X,hX⟩:∃X,X=iX (eD S) (9 % 2 ^ 255) % Pr:=⟨_,rfl⟩
 rw [<-hX] at HM ⊢;clear hX
 go_enter Tryz.func90,Tryz.ntmps90
 go_upto_region 1 with (fail);refine aG (fun w1=> aH .u8 w1 w.heap.size 32 (dg 256 S)/\aH .u8 w1 (w.heap.size+1) 32 (fun _=> 0)/\Below w.heap.size w w1) ⟨.alloc (bG rfl rfl) _,bG (by first | omega | (simp<;> omega)) (by rfl),((bM _ _).alloc (bB _) _).alloc (by first | omega | (simp<;> omega)) _⟩ ?_;rintro w1 ⟨hA,hZ,hbel⟩
 refine bV (n:=6) (fun i=> i==3) (by kernel_rfl) (by kernel_rfl) (by kernel_rfl) (by kernel_rfl) rfl
  (fun ii vv _=> (match ii with | 0=> vv=.agg (arr .u8 32 (dg 256 S)) | 1=> vv=.agg (arr .u8 32 (dg 256 9)) | 2=> vv=.agg (arr .u8 32 (dg 256 X)) | _=> True))
  (fun w w'=> Below w.heap.size w w') (fun _ _ h=> h) (fun _ _ _ _ h _=> h)
  (fun _=> (w.heap.size+1)) (fun _=> (arr .u8 32 (fun _=> 0))) (fun _=> (arr .u8 32 (dg 256 X)))
  (by intro i j _ _ hpi iL hne;simp only [beq_iff_eq] at hpi iL;omega)
  (by intro i _ hpi;exact (hZ).row)
  ?_ ?_ ?_
 ·refine bQ ?_;refine ⟨?_,?_,?_,(aK),trivial⟩
  ·intro _ a w2 hB hF hd;exact aJ <| aO (aB rfl dU rfl dz (hF.same 1 rfl) (hA.below hB hA.lt)) rfl
  ·intro _ a w2 hB hF hd;refine aJ <| aD _ _ _ rfl Tryz.call142 _ pz (by simp) ((MO w2).mono ?_);rintro e w3 ⟨rfl,hb⟩;exact ⟨_,rfl,rfl,hb⟩
  ·intro _ a w2 hB hF hd;refine aJ <| aD _ _ _ rfl Tryz.call141 _ (args2 (hd 0 _ rfl rfl (aj rfl)) (hd 1 _ rfl rfl (aj rfl))) (by simp) ((HM.out w2).mono ?_);rintro e w3 ⟨rfl,hb⟩;exact ⟨_,rfl,rfl,hb⟩
 ·refine bQ ?_;refine ⟨(aK),(aK),(aK),?_,trivial⟩
  ·intro _ a w1 w2 K hB hF hS hr hK;exact aW 22 _ _ rfl .u8 ((w.heap.size+1)) 32 (fun _=> 0) (dg 256 X) dz (hF.same 2 rfl) (hS 2 _ rfl rfl) hr hK
 ·intro a wf w3 hB hF hS hfil;have other:∀{k:IntKind} {qb n:Nat} {f:Nat->Int},qb≠(w.heap.size+1)->aH k wf qb n f->aH k w3 qb n f:=fun {k qb n f} e0 hA=> hfil.arr (by intro i _ hpi;simp only [jY,beq_iff_eq] at hpi;subst hpi<;> ((try simp only []);(try dsimp only);omega)) hA;have dx:∀{B:Nat} {w0:World},B<=(w.heap.size+1)->Below B w0 wf->Below B w0 w3:=fun {B w0} e0 hA=> hfil.below (by intro i _ hpi;simp only [jY,beq_iff_eq] at hpi;subst hpi<;> ((try simp only []);(try dsimp only);omega)) hA;have V3:aH .u8 w3 ((w.heap.size+1)) 32 (dg 256 X):=hfil.at 3 (by decide) rfl;have oL:=hfil.size;clear hfil;have ha:=aI rfl rfl hF [_,_,_,undef] rfl ⟨hS 0 _ rfl rfl,hS 1 _ rfl rfl,hS 2 _ rfl rfl,trivial,trivial⟩;simp only [puts,Act.put,dH,dI,dJ] at ha;subst ha;clear hS hF;have hb:=dx (by omega) (hbel.trans (hB.mono hbel.size));go_wp2;exact bodyPost_ret (aZ rfl _ _ .u8 (w.heap.size+1) 32 _ 5 rfl V3 dU dz) rfl ⟨rfl,hb⟩
theorem Qu (S U:Int):jk 32 (dg 256 (mulN S U)) (dg 256 0)=decide (mulN S U=0):=by
 have h:=Ae (iX (eD S) (U % 2 ^ 255)) 0;rw [show (0:Int) % Pr=0 by decide] at h;rw [h];unfold XE mulN;rw [show (0:Int) % Pr=0 by decide]
theorem Gb (S U:Int) (w:World):
  Calls Tryz.prog 172 #[.agg (arr .u8 32 (dg 256 S)),.agg (arr .u8 32 (dg 256 U))] w fun e w'=> e=.returned (.tuple #[.agg (arr .u8 32 (dg 256 (mulN S U))),.int .i64 (oI (mulN S U))])/\Below w.heap.size w w':=by
 have HM:Hid (∀w,Calls Tryz.prog 141 #[.agg (arr .u8 32 (dg 256 S)),.agg (arr .u8 32 (dg 256 U))] w fun e w'=> e=.returned (.agg (arr .u8 32 (dg 256 (mulN S U))))/\Below w.heap.size w w'):=fun w=> Em S U w;have HZ:=ak (Qu S U);have HE:Hid (oI (mulN S U)=if mulN S U=0 then 21 else 0):=rfl;have HB:=ak (fun (a:Act) w=> Rp (a:=a) w);obtain ⟨X,hX⟩:∃X,X=mulN S U:=⟨_,rfl⟩
 rw [<-hX] at HM HZ HE ⊢;obtain ⟨er,her⟩:∃er,er=oI X:=⟨_,rfl⟩
 rw [<-her] at HE ⊢;clear hX her
 go_enter Tryz.func172,Tryz.ntmps172
 go_upto_region 1 with (fail);refine aG (fun w1=> aH .u8 w1 w.heap.size 32 (dg 256 S)/\aH .u8 w1 (w.heap.size+1) 32 (dg 256 U)/\aH .u8 w1 (w.heap.size+2) 32 (fun _=> 0)/\Below w.heap.size w w1) ⟨.alloc (.alloc (bG rfl rfl) _) _,.alloc (bG (by first | omega | (simp<;> omega)) rfl) _,bG (by first | omega | (simp<;> omega)) (by rfl),(((bM _ _).alloc (bB _) _).alloc (by first | omega | (simp<;> omega)) _).alloc (by first | omega | (simp<;> omega)) _⟩ ?_;rintro w1 ⟨hA,hP,hZ,hbel⟩
 go_wp2_with (first
  | (refine aM rfl 22 _ rfl .u8 w.heap.size 32 (dg 256 S) 5 dU dz rfl hA ?_)
  | (refine aM rfl 22 _ rfl .u8 (w.heap.size+1) 32 (dg 256 U) 5 dU dz rfl hP ?_))
 refine (HM.out _).mono ?_;rintro e w2 ⟨rfl,hb2⟩;have hZ2:=hZ.kept hb2;have dG:=hbel.trans (hb2.mono hbel.size);have hl2:=hZ2.lt;clear hA hP hZ hbel hb2;go_upto_region 2 with (refine aF rfl 22 _ _ rfl .u8 w2.heap.size 32 (fun _=> 0) (dg 256 X) dz rfl rfl (bG rfl (by rfl)) ?_)
 refine aG (fun w3=> aH .u8 w3 w2.heap.size 32 (dg 256 X)/\aH .u8 w3 (w.heap.size+2) 32 (fun _=> 0)/\Below w.heap.size w w3)
  ⟨(bG rfl (by rfl):aH .u8 _ _ 32 (fun _=> 0)).setRow _ _,aH.aC (aH.alloc hZ2 _) _ (by omega) _,aA (dG.alloc dG.size _) dG.size _⟩ ?_
 rintro w3 ⟨hX,hZ3,dQ⟩;obtain ⟨bx,hbx⟩:∃bx,bx=w2.heap.size:=⟨_,rfl⟩
 rw [<-hbx] at hX hl2 ⊢;clear hbx hZ2 dG
 try simp only [Act.put,dH,dI,dJ]
 by_cases h0:X=0
 case pos=>
  have h1:er=21:=by rw [HE.out,if_pos h0]
  have HQ:Hid (jk 32 (dg 256 X) (dg 256 0)=true):=by rw [HZ.out];exact decide_eq_true h0
  have H1:=ak h1;clear h0 h1 HE HZ
  refine aR (n:=15) (by kernel_rfl) (by kernel_rfl) (by kernel_rfl) rfl
   (fun ii vv _=> (match ii with | 0=> vv=.agg (arr .u8 32 (dg 256 X)) | 1=> vv=.agg (arr .u8 32 (dg 256 0)) | 2=> vv=.bool true | _=> True))
   (fun w w'=> Below w.heap.size w w') (fun _ _ h=> h) (fun _ _ _ _ h _=> h) ?_ ?_
  ·refine bQ ?_;refine ⟨?_,?_,?_,trivial⟩
   ·intro a w2 hB hF hd;exact aJ <| aO (aB rfl dU rfl dz (hF.same 6 rfl) (hX.below hB hX.lt)) rfl
   ·intro a w2 hB hF hd;exact aJ <| aO (dL rfl (HB.out _ _)) rfl
   ·intro a w2 hB hF hd;exact aJ <| aO (qR true rfl (hd 0 _ rfl (aj rfl)) (hd 1 _ rfl (aj rfl)) dU (by kernel_rfl) (by kernel_rfl) (by kernel_rfl) (by kernel_rfl) (by kernel_rfl) HQ.out) rfl
  ·intro a w4 hB hF hS;have ha:=aI rfl rfl hF [_,_,_] rfl ⟨hS 0 _ rfl,hS 1 _ rfl,hS 2 _ rfl,trivial⟩;simp only [puts,Act.put,dH,dI,dJ] at ha;subst ha;clear hS hF;have hX4:=hX.kept hB;have ny:=hZ3.kept hB;have hb4:=dQ.trans (hB.mono dQ.size);clear hX hZ3 dQ hB HQ
   go_wp2_with (first
    | (refine aM rfl 22 _ rfl .u8 bx 32 (dg 256 X) 5 dU dz rfl hX4 ?_)
    | (refine aF rfl 22 _ _ rfl .u8 (w.heap.size+2) 32 (fun _=> 0) (dg 256 X) dz rfl rfl ny ?_))
   exact bodyPost_ret (eY rfl _ _ .u8 (w.heap.size+2) 32 _ 5 rfl (ny.setRow 32 (dg 256 X)) dU dz) rfl ⟨by rw [H1.out];rfl,aA hb4 (by omega) _⟩
 case neg=>
  have h1:er=0:=by rw [HE.out,if_neg h0]
  have HQ:Hid (jk 32 (dg 256 X) (dg 256 0)=false):=by rw [HZ.out];exact decide_eq_false h0
  have H1:=ak h1;clear h0 h1 HE HZ
  refine aR (n:=15) (by kernel_rfl) (by kernel_rfl) (by kernel_rfl) rfl
   (fun ii vv _=> (match ii with | 0=> vv=.agg (arr .u8 32 (dg 256 X)) | 1=> vv=.agg (arr .u8 32 (dg 256 0)) | 2=> vv=.bool false | _=> True))
   (fun w w'=> Below w.heap.size w w') (fun _ _ h=> h) (fun _ _ _ _ h _=> h) ?_ ?_
  ·refine bQ ?_;refine ⟨?_,?_,?_,trivial⟩
   ·intro a w2 hB hF hd;exact aJ <| aO (aB rfl dU rfl dz (hF.same 6 rfl) (hX.below hB hX.lt)) rfl
   ·intro a w2 hB hF hd;exact aJ <| aO (dL rfl (HB.out _ _)) rfl
   ·intro a w2 hB hF hd;exact aJ <| aO (qR false rfl (hd 0 _ rfl (aj rfl)) (hd 1 _ rfl (aj rfl)) dU (by kernel_rfl) (by kernel_rfl) (by kernel_rfl) (by kernel_rfl) (by kernel_rfl) HQ.out) rfl
  ·intro a w4 hB hF hS;have ha:=aI rfl rfl hF [_,_,_] rfl ⟨hS 0 _ rfl,hS 1 _ rfl,hS 2 _ rfl,trivial⟩;simp only [puts,Act.put,dH,dI,dJ] at ha;subst ha;clear hS hF;have hX4:=hX.kept hB;have ny:=hZ3.kept hB;have hb4:=dQ.trans (hB.mono dQ.size);clear hX hZ3 dQ hB HQ
   go_wp2_with (first
    | (refine aM rfl 22 _ rfl .u8 bx 32 (dg 256 X) 5 dU dz rfl hX4 ?_)
    | (refine aF rfl 22 _ _ rfl .u8 (w.heap.size+2) 32 (fun _=> 0) (dg 256 X) dz rfl rfl ny ?_))
   exact bodyPost_ret (eY rfl _ _ .u8 (w.heap.size+2) 32 _ 5 rfl (ny.setRow 32 (dg 256 X)) dU dz) rfl ⟨by rw [H1.out];rfl,aA hb4 (by omega) _⟩
end Go.Proofs.YtpcjekgfnfjbpaaGreat
