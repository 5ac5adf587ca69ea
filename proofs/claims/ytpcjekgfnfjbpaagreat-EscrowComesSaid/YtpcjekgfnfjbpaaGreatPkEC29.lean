/- Part 29 of EscrowComes; conditions: in each theorem. -/
import Derived.Test.YtpcjekgfnfjbpaaGreatPkEC26
import Derived.Test.YtpcjekgfnfjbpaaGreatPkEC6
set_option linter.unusedVariables false
set_option linter.unusedSimpArgs false
set_option maxRecDepth 100000
set_option maxHeartbeats 12800000
namespace Go.bI
theorem aas {R:Int} {F:Nat->Int} {N j:Nat} {f:Nat->Int} {b:Int} (h:sm 256 f 17 % PP=zG R F N j) (hb:b=mM F N j) (hb0:0<=b/\b<256 ^ 17) (hR:0<=R/\R<256 ^ 17):
  sm 256 (pd (iY (sm 256 (fun i=>iG (fun i=>f i+dg 256 b i) (dg 256 R) i 17) 17))) 17 % PP=zG R F N (j+1):=by
 have e:sm 256 (fun i=>f i+dg 256 b i) 17=sm 256 f 17+b:=by
  have:=vY 256 f (dg 256 b) 1 1 17;simp only[Int.one_mul] at this;rw[this,qH aM,Nb hb0.1 hb0.2]
 rw[Xt,e,La R hR,zG,←h,hb,Int.mul_emod,←Int.emod_add_emod,←Int.mul_emod]
theorem MQ {F:Nat->Int} {N:Nat} (hF:∀i,i<N->0<=F i/\F i<256) (j:Nat) (h:16 * j<N):0<=mM F N j/\mM F N j<256 ^ 17:=by
 unfold mM;have hm:min 16 (N - 16 * j)<=16:=by omega
 have h1:=qI (B:=256) aM (f:=fun i=>F (16 * j+i)) (n:=min 16 (N - 16 * j)) (fun i hi=>hF _ aH);have h2:(256:Int) ^ min 16 (N - 16 * j)<=256 ^ 16:=Cv 256 aM _ _ hm;have h3:(256:Int) ^ 17=256 * 256 ^ 16:=by decide
 have h4:(0:Int)<256 ^ 16:=by decide
 generalize (256:Int) ^ min 16 (N - 16 * j)=p at *
 generalize (256:Int) ^ 16=q at *
 omega
def Sw (K:Int) (F:Nat->Int) (N:Nat):Int:=zG (sm 256 (mI (dg 256 K)) 16 % PP) F N ((N+15) / 16)+K / 256 ^ 16
theorem aag {N j n0 L:Nat} (hL:L=N - 16 * j) (hn:n0=min 16 L) (h:16 * j<N):L - n0=N - 16 * (j+1):=by omega
theorem ahO {N j i n0 L:Nat} (hL:L=N - 16 * j) (hn:n0<=L) (h:i<n0):16 * j+i<N:=by omega
end Go.bI
namespace Go.Proofs.YtpcjekgfnfjbpaaGreat
open Go.RowKit Go.bI
attribute [local go_sem ↓] Go.wp_at_zero Go.wp_at_succ
def aoS:Value->Nat
 | .slice _ n _=>n
 | _=>0
theorem abr (K:Int) (hK:0<=K/\K<256 ^ 32) (v:Value) (m:Nat) (lens:Nat->Nat) (g:Nat->Nat->Int) (F:Nat->Int) (N:Nat) (w:World) (hv:uq w v m lens g) (hg:∀j,j<m->∀i,i<lens j->F (dQ lens j+i)=g j i)
  (hN:dQ lens m=N) (Rx:N<=1000000) (hF:∀i,i<N->0<=F i/\F i<256):
  Calls Tryz.prog 182 #[.agg (arr .u8 32 (dg 256 K)),v] w fun e w'=>e=.returned (.agg (arr .u8 16 (dg 256 (Sw K F N))))/\Below w.heap.size w w':=by
 have HT:=ay hv;obtain⟨ta,tc,rfl,t1,t2,t3⟩:=hv;have HT3:=ay t3;have HG:=ay hg;have HN:=ay hN;have HF:=ay hF;have HO:∀j,j<=m->dQ lens j<=N:=fun j hj=>by rw[<-hN];exact qN lens hj
 have VU:=ay HO;clear t3 hg hN hF HO;obtain⟨R,hR⟩:∃R,R=sm 256 (mI (dg 256 K)) 16 % PP:=⟨_,rfl⟩
 have cb:∀i,i<16->0<=mI (dg 256 K) i/\mI (dg 256 K) i<256:=fun i _=>by
  have:=bR (by decide:(0:Int)<256) K i;unfold mI
  split
  ·omega
  ·split<;> omega
 have Jy:Hid (∀(v:Value) (w:World),Rd .u8 w v 16 (mI (dg 256 K))->Calls Tryz.prog 232 #[v] w fun e w'=>e=.returned (.tuple #[.agg (arr .u8 17 (dg 256 R)),.int .i64 0])/\Below w.heap.size w w'):=by
  intro v w hv;rw[hR];exact KM v 16 _ w hv cb aM
 have Ni:Hid (∀(v:Value) (w:World),Rd .u8 w v 16 (fun i=>dg 256 K (16+i))->Calls Tryz.prog 232 #[v] w fun e w'=>e=.returned (.tuple #[.agg (arr .u8 17 (dg 256 (K / 256 ^ 16))),.int .i64 0])/\Below w.heap.size w w'):=by
  intro v w hv;rw[<-agJ hK];exact KM v 16 _ w hv (fun i _=>bR aM _ _) aM
 have HC:Hid (∀w:World,Calls Tryz.prog 233 #[.agg (arr .u8 32 (dg 256 K))] w fun e w'=> ∃v,e=.returned v/\Rd .u8 w' v 16 (mI (dg 256 K))/\Below w.heap.size w w'):=fun w=>MB _ (fun i _=>bR aM _ _) w;obtain⟨S,hS⟩:∃S,S=K / 256 ^ 16:=⟨_,rfl⟩
 have HTN:Hid (Sw K F N=zG R F N ((N+15) / 16)+S):=by rw[hR,hS];rfl
 rw[<-hS] at Ni;obtain⟨cf,hcf⟩:∃cf,cf=mI (dg 256 K):=⟨_,rfl⟩
 have HRB:Hid (0<=R/\R<256 ^ 17):=by rw[hR];exact akd _
 rw[<-hcf] at Jy HC;clear hR cb hS hcf hK;obtain⟨TN,hTN⟩:∃TN,TN=Sw K F N:=⟨_,rfl⟩
 rw[<-hTN] at HTN ⊢;clear hTN
 go_enter Tryz.func182,Tryz.ntmps182
 go_upto_region 2 with(fail)
 refine aJ (fun w1=>aK .u8 w1 w.heap.size 32 (dg 256 K)/\aK .u8 w1 (w.heap.size+1) 16 (fun _=>0)/\Below w.heap.size w w1/\w1.heap.size=w.heap.size+2)
  ⟨aK.alloc (cB rfl rfl) _,cB aR (by rfl),((bT _ _).alloc (bH _) _).alloc aR _,by simp⟩ ?_
 rintro w1 ⟨hA,hZ,aD,gP⟩;have zI:=ay gP;clear gP;go_wp2
 go_loopw [5,21] (fun v i wr=> ∃j:Nat,j<=m/\i=.int .i64 j/\Own .u8 5 (w.heap.size+2) wr v (dQ lens j) F/\aK .u8 wr w.heap.size 32 (dg 256 K)/\aK .u8 wr (w.heap.size+1) 16 (fun _=>0)/\Below w.heap.size w wr/\w.heap.size+2<=wr.heap.size) (fun _ i _=>m - (intOf i).toNat)
 case atStart=>exact⟨0,jm _,rfl,Own.nil _ _ _ _ _,hA,hZ,aD,by have:=zI.out;omega⟩
 case round=>
  clear hA hZ aD;obtain⟨j,hj,rfl,ho,hA,hZ,aD,hs2⟩:=hrel;have HO:=ay ho;clear ho;by_cases hlt:j<m
  ·obtain⟨tb,to,rfl,tlt,sJ⟩:=HT3.out aH;obtain⟨u,hu,Uh⟩:=sJ j hlt;have e1:=(aD.cell (p:=⟨tb,to+j,none⟩) tlt).trans hu;obtain⟨ua,uc,rfl,u1,u2,u3,u4⟩:=id Uh;have HRU:=ay (Uh.below aD);have HNB:Hid (dQ lens j+lens j<=N):=VU.out (j+1) aH;have hne0:=HO.out.far (show w.heap.size<w.heap.size+2 by omega);have hne1:=HO.out.far (show w.heap.size+1<w.heap.size+2 by omega);clear sJ hu Uh u3 u4;go_wp2_with (at_builtin;refine jE rfl _ _ 23 rfl (w.heap.size+2) 5 .u8 1 mo yL _ (dQ lens j) F HO.out rfl _ (lens j) (g j) HRU.out rfl (HG.out j hlt) (by have:=HNB.out;omega) (by have:=HNB.out;omega) hs2 ?_;intro v' w3 cK dL);go_roundw
   case rel=>exact⟨j+1,by omega,by go_num,cK,hA.grown dL hne0,hZ.grown dL hne1,below_grown aD dL HO.out aD.size aH,by have:=dL.size;omega⟩
   case measure=>simp[intOf] <;> omega
  ·obtain rfl:j=m:=by omega
   have hall:=HO.out.rd;rw[HN.out] at hall;have adS:=ay hall;clear HO hall;obtain⟨W0,hW0⟩:∃W0,W0=wr:=⟨_,rfl⟩
   subst hW0;have hbelW:=aD;have hZW:=hZ;have HBW:=ay hbelW;have HZW:=ay hZW;replace aD:=bT W0.heap.size W0;clear hbelW hZW;have s0:=aD.size;have l0:=hZ.lt;go_wp2_with (refine aZ rfl 22 _ rfl .u8 w.heap.size 32 _ 5 iL fZ rfl (aK.alloc hA _) ?_);refine(HC.out _).mono ?_;rintro e w2 ⟨v,rfl,hv,fO⟩;have jv:=(aK.alloc hA _).kept fO;have jG:=(aK.alloc hZ _).kept fO;have dV:=(aD.alloc s0 _).trans (fO.mono aR);have hE:=(Own.new .u8 5 W0 #[] 0 cf (bH _) aH rfl (fun i hi=>by omega)).below fO;have s2:W0.heap.size<=w2.heap.size:=by have:=fO.size;simp at this;omega
   have HV:=ay hv;clear hA hZ aD fO hv;go_wp2_with (at_builtin;refine jE rfl _ _ 23 rfl W0.heap.size 5 .u8 1 mo yL _ 0 cf hE rfl _ 16 cf HV.out rfl (fun i _=>by rw[qY]) aH aH s2 ?_;intro v3 w3 cK dL);refine(Jy.out _ _ (by rw[qY] at cK;exact cK.rd)).mono ?_;rintro e w4 ⟨rfl,jF⟩;have zn:=(jv.grown dL (hE.far aH)).kept jF;have qX:=(jG.grown dL (hE.far aH)).kept jF;have eU:=below_grown dV dL hE aH s0;have fU:=eU.trans (jF.mono eU.size);have s4:=fU.size;have l4:=qX.lt;have k4:=zn.lt;clear jv jG dV hE cK dL jF eU HV;go_upto_region 8 with(refine aL rfl 268 _ _ rfl .u8 w4.heap.size 17 (fun _=>0) _ Tryz.size268 rfl rfl (cB rfl rfl) ?_)
   refine aJ (fun w5=>aK .u8 w5 w4.heap.size 17 (dg 256 R)/\aK .u8 w5 w.heap.size 32 (dg 256 K)/\aK .u8 w5 (w.heap.size+1) 16 (fun _=>0)/\Below W0.heap.size W0 w5)
    ⟨aK.setRow (cB (n:=17) (f:=fun _=>0) rfl rfl) _ _,aK.aC (aK.alloc zn _) _ aH _,aK.aC (aK.alloc qX _) _ aH _,aB (fU.alloc s4 _) s4 _⟩ ?_
   rintro w5 ⟨hR5,wF,qF,gQ⟩;clear zn qX fU;have hRd:Rd .u8 w5 (.slice (some ⟨w.heap.size,16,none⟩) 16 16) 16 (fun i=>dg 256 K (16+i)):=⟨_,_,rfl,by decide,by decide,(fun h=>by cases h),fun _=>⟨_,16,rfl,wF.lt,fun i hi=>wF.cell (16+i) aH⟩⟩
   have HRd:=ay hRd;clear hRd wF;go_wp2_with fail;refine(Ni.out _ _ HRd.out).mono ?_;rintro e w6 ⟨rfl,tQ⟩;have hR6:=hR5.kept tQ;have zm:=qF.kept tQ;have jR:=gQ.trans (tQ.mono gQ.size);have s6:=jR.size;have l6:=zm.lt;have r6:=hR6.lt;clear hR5 qF gQ tQ HRd;go_upto_region 9 with(refine aL rfl 268 _ _ rfl .u8 w6.heap.size 17 (fun _=>0) _ Tryz.size268 rfl rfl (cB rfl rfl) ?_)
   refine aJ (fun w7=>aK .u8 w7 w6.heap.size 17 (dg 256 S)/\aK .u8 w7 w4.heap.size 17 (dg 256 R)/\aK .u8 w7 (w.heap.size+1) 16 (fun _=>0)/\Below W0.heap.size W0 w7)
    ⟨aK.setRow (cB (n:=17) (f:=fun _=>0) rfl rfl) _ _,aK.aC (aK.alloc hR6 _) _ aH _,aK.aC (aK.alloc zm _) _ aH _,aB (jR.alloc s6 _) s6 _⟩ ?_
   rintro w7 ⟨hS7,hR7,Rv,pR⟩;clear hR6 zm jR
   go_wp2_with (first
    | (refine aZ rfl 268 _ rfl .u8 w4.heap.size 17 _ 5 Tryz.underlying268 Tryz.size268 rfl hR7 ?_)
    | (refine fC rfl (fK rfl (MO _)) ?_))
   refine(wS R _).mono ?_;rintro e w8 ⟨rfl,Ru⟩;have hS8:=hS7.kept Ru;have VN:=Rv.kept Ru;have qU:=pR.trans (Ru.mono pR.size);have s8:=qU.size;have l8:=VN.lt;have r8:=hS8.lt;clear hS7 hR7 Rv pR Ru;obtain⟨p,hp⟩:∃p,p=w6.heap.size:=⟨_,rfl⟩
   rw[<-hp] at hS8 r8 ⊢;clear hp s6 l6 r6
   go_wp2_with (first
    | (refine aL rfl 271 _ _ rfl .u32 w8.heap.size 17 (fun _=>0) _ Tryz.size271 rfl rfl (aK.alloc (cB aR (by rfl)) _) ?_)
    | (refine aL rfl 271 _ _ rfl .u32 (w8.heap.size+1) 17 (fun _=>0) _ Tryz.size271 rfl rfl (aK.aC (cB aR (by rfl)) _ aH _) ?_))
   refine aJ (fun wq=>aK .u32 wq w8.heap.size 17 (dg 256 0)/\aK .u32 wq (w8.heap.size+1) 17 (dg 256 R)/\aK .u8 wq p 17 (dg 256 S)/\aK .u8 wq (w.heap.size+1) 16 (fun _=>0)/\Below W0.heap.size W0 wq) ⟨?_,?_,?_,?_,?_⟩ ?_
   ·refine aK.aC (aK.congr (f:=fun _=>0) (aK.setRow (aK.alloc (cB (f:=fun _=>0) (n:=17) aR (by rfl)) _) _ _) fun i _=>by simp[dg]) _ aH _
   ·exact aK.setRow (aK.aC (cB (n:=17) (f:=fun _=>0) aR (by rfl)) _ aH _) _ _
   ·exact aK.aC (aK.aC (aK.alloc (aK.alloc hS8 _) _) _ aH _) _ aH _
   ·exact aK.aC (aK.aC (aK.alloc (aK.alloc VN _) _) _ aH _) _ aH _
   ·exact aB (aB ((qU.alloc s8 _).alloc iU _) s8 _) aH _
   rintro wb ⟨hT8,hY8,hSb,hZb,aep⟩;clear hS8 VN qU;obtain⟨A,hAe⟩:∃A,A=w8.heap.size:=⟨_,rfl⟩
   rw[<-hAe] at hT8 hY8 r8 l8 s8 ⊢;clear hAe hZb;simp only[Act.put]
   go_loopw [5] (fun v wq=> ∃(j:Nat) (f:Nat->Int),j<=(N+15) / 16/\Rd .u8 W0 v (N - 16 * j) (fun i=>F (16 * j+i))/\(∀i,i<17->0<=f i/\f i<=300)/\sm 256 f 17 % PP=zG R F N j/\aK .u32 wq A 17 f/\aK .u32 wq (A+1) 17 (dg 256 R)/\aK .u8 wq p 17 (dg 256 S)/\Below W0.heap.size W0 wq) (fun v _=>aoS v)
   case atStart=>exact⟨0,dg 256 0,jm _,by rw[Nat.mul_zero,Nat.sub_zero];exact adS.out.congr (fun i _=>by rw[qY]),fun i _=>by rw[ahC];decide,by rw[qH aM];rfl,hT8,hY8,hSb,aep⟩
   case round=>
    clear hT8 hY8 hSb aep adS;obtain⟨j,f,hj,hrd,EH,hacc,hX,hY,hP,aD⟩:=hrel;have HFB:=ay EH;have aiC:=ay hacc;have HP:=ay hP;clear EH hacc hP;by_cases hlt:16 * j<N
    ·obtain⟨L,hL⟩:∃L,L=N - 16 * j:=⟨_,rfl⟩
     rw[<-hL] at hrd;have hL0:0<L:=by omega
     obtain⟨la,lc,rfl,d1,d2,d3,d4⟩:=id hrd;obtain⟨n0,hn0⟩:∃n0,n0=min 16 L:=⟨_,rfl⟩
     have hn1:n0<=16/\n0<=L:=by omega
     have hn2:0<n0:=by omega
     have Vr:Hid (n0<L->n0=16):=by unfold Hid;omega
     have hmin:(if 16<(L:Int) then (16:Int) else (L:Int))=(n0:Int):=by split<;> omega
     obtain⟨g1,g2⟩:=Rd.head mo yL la L lc n0 hn1.2 d1;obtain⟨la',k1,k2,k3⟩:=Rd.cut mo yL la L lc n0 L hn1.2 (bH _) d1;have HRH:=ay (g2 _ _ hrd);have HRC:=ay (k3 _ _ hrd).2;have HB1:Hid (sm 256 (fun i=>F (16 * j+i)) n0+256 ^ n0=mM F N j):=by unfold Hid mM;rw[<-hL,←hn0]
     have HB2:Hid (0<=mM F N j/\mM F N j<256 ^ 17):=MQ HF.out j hlt;have HBY:Hid (∀i,i<n0->0<=F (16 * j+i)/\F (16 * j+i)<256):=fun i hi=>HF.out (16 * j+i) (ahO hL hn1.2 hi);have HLL:Hid (L - n0=N - 16 * (j+1)):=aag hL hn0 hlt;have hs:=aD.size;have hXl:=hX.lt;have hYl:=hY.lt;clear d3 d4 g2 k1 k3 hrd hL hn0;have K2:=ay k2;have G1:=ay g1;clear k2 g1;obtain⟨b,hb⟩:∃b,b=mM F N j:=⟨_,rfl⟩
     rw[<-hb] at HB1 HB2;have HBE:=ay hb;clear hb;go_upto_region 13 with(fail)
     refine aJ (fun w2=>aK .u8 w2 wr.heap.size 17 (fun _=>0)/\aK .u32 w2 A 17 f/\aK .u32 w2 (A+1) 17 (dg 256 R)/\aK .u8 w2 p 17 (dg 256 S)/\Below W0.heap.size W0 w2)
      ⟨cB rfl rfl,aK.alloc hX _,aK.alloc hY _,aK.alloc HP.out _,aD.alloc hs _⟩ ?_
     rintro w2 ⟨hQ2,hX2,hY2,hP2,dV⟩;obtain⟨B,Pn⟩:∃B,B=wr.heap.size:=⟨_,rfl⟩
     rw[<-Pn] at hQ2 hXl hYl hs ⊢;clear hX hY HP aD Pn
     refine jZ (n:=87) 4 rfl aM aQ aQ aQ aQ rfl
      (fun ii vv _=>(match ii with | 0=>vv=.slice (some ⟨B,0,none⟩) 17 17 | 1=>vv=.slice la L lc | 2=>vv=.int .i64 ((n0:Int)) | 3=>vv=.slice la n0 lc | _=>True))
      (fun w w'=>Below w.heap.size w w') (fun _ _ h=>h) (fun _ _ _ _ h _=>h) rfl ?_ ?_
     ·refine dG ?_;refine⟨?_,?_,?_,?_,(fun h=>absurd rfl h),trivial⟩
      ·intro _ a w2 hB hF hd;exact aN <| aW (gD rfl (hF.same 15 rfl) Tryz.underlying268 aQ) rfl
      ·intro _ a w2 hB hF hd;exact aN <| aG _ (.inl rfl) aR (hF.same 5 rfl)
      ·intro _ a w2 hB hF hd;exact aN <| aG _ (.inl rfl) aR (hF.same 14 rfl)
      ·intro _ a w2 hB hF hd;exact aN <| aW (dY rfl (hd 1 _ rfl (aj rfl)) (by simp only[Option.map_some,Option.map_none,show a.eval (Operand.tmp 53)=.int .i64 ((n0:Int)) from(hd 2 _ rfl (aj rfl))];exact G1.out _)) rfl
     ·intro a w3 hB hF hS;obtain⟨x55,akh⟩:∃x,x=a.tmps.getD 55 undef:=⟨_,rfl⟩
      have ha:=aO rfl rfl hF [_,_,_,_,x55] rfl ⟨hS 0 _ rfl aM,hS 1 _ rfl aM,hS 2 _ rfl aM,hS 3 _ rfl aM,akh.symm,trivial⟩;simp only[puts,Act.put,fB,fD,fF] at ha;subst ha;clear akh;clear hS hF;have hX3:=hX2.kept hB;have hY3:=hY2.kept hB;have hP3:=hP2.kept hB;have hQ3:=hQ2.kept hB;have eU:=dV.trans (hB.mono dV.size);have HR3:=ay (HRH.out.below eU);clear hX2 hY2 hP2 hQ2 dV hB HRH;refine mX _ _ 23 23 rfl B 0 17 17 17 (fun _=>0) mo Tryz.size5 rfl hQ3 _ n0 (fun i=>F (16 * j+i)) HR3.out rfl aH aH ?_;go_upto_region 14 with(fail)
      refine aJ (fun w4=>aK .u8 w4 B 17 (laid (fun _=>0) 0 n0 (fun i=>F (16 * j+i)))/\aK .u32 w4 A 17 f/\aK .u32 w4 (A+1) 17 (dg 256 R)/\aK .u8 w4 p 17 (dg 256 S)/\Below W0.heap.size W0 w4)
       ⟨hQ3.setRow _ _,hX3.aC _ aH _,hY3.aC _ aH _,hP3.aC _ aH _,aB eU hs _⟩ ?_
      rintro w4 ⟨hQ4,hX4,hY4,hP4,fU⟩;clear hX3 hY3 hP3 hQ3 eU HR3;have e1:=hQ4.cell n0 aH;have f1:=hQ4.free n0;have k2:=K2.out;go_upto_region 15 with(fail)
      refine aJ (fun w5=>aK .u8 w5 B 17 (dg 256 b)/\aK .u32 w5 A 17 f/\aK .u32 w5 (A+1) 17 (dg 256 R)/\aK .u8 w5 p 17 (dg 256 S)/\Below W0.heap.size W0 w5)
       ⟨(hQ4.set n0 1).congr (fun i hi=>by rw[XB (f:=fun i=>F (16 * j+i)) hn1.1 HBY.out i hi,HB1.out]),hX4.other iU _,hY4.other iU _,hP4.other iU _,fU.setCell hs _⟩ ?_
      rintro w5 ⟨hQ5,hX5,hY5,hP5,gQ⟩;clear hQ4 hX4 hY4 hP4 fU e1 f1;go_wp2_with (refine aZ rfl 268 _ rfl .u8 B 17 _ 5 Tryz.underlying268 Tryz.size268 rfl hQ5 ?_);refine(wS b _).mono ?_;rintro e w6 ⟨rfl,tQ⟩;have hX6:=hX5.kept tQ;have hY6:=hY5.kept tQ;have hP6:=hP5.kept tQ;have jR:=gQ.trans (tQ.mono gQ.size);have s6:=jR.size;have x6:=hX6.lt;have y6:=hY6.lt;have p6:=hP6.lt;clear hQ5 hX5 hY5 hP5 gQ tQ k2 K2 G1;go_upto_region 17 with(refine aL rfl 271 _ _ rfl .u32 w6.heap.size 17 (fun _=>0) _ Tryz.size271 rfl rfl (cB aR (by rfl)) ?_)
      refine aJ (fun w7=>aK .u32 w7 w6.heap.size 17 (dg 256 b)/\aK .u32 w7 A 17 f/\aK .u32 w7 (A+1) 17 (dg 256 R)/\aK .u8 w7 p 17 (dg 256 S)/\Below W0.heap.size W0 w7)
       ⟨aK.setRow (cB (n:=17) (f:=fun _=>0) rfl rfl) _ _,aK.aC (aK.alloc hX6 _) _ aH _,aK.aC (aK.alloc hY6 _) _ aH _,aK.aC (aK.alloc hP6 _) _ aH _,aB (jR.alloc s6 _) s6 _⟩ ?_
      rintro w7 ⟨hM7,hX7,hY7,hP7,pR⟩;obtain⟨M,hMe⟩:∃M,M=w6.heap.size:=⟨_,rfl⟩
      rw[<-hMe] at hM7 x6 y6 p6 s6 ⊢;clear hX6 hY6 hP6 jR hMe;simp only[Act.put];go_wp2
      go_loopw [63] (fun i wq=> ∃k:Nat,k<=17/\i=.int .i64 k/\aK .u32 wq A 17 (upto k (fun i=>f i+dg 256 b i) f)/\aK .u32 wq M 17 (dg 256 b)/\aK .u32 wq (A+1) 17 (dg 256 R)/\aK .u8 wq p 17 (dg 256 S)/\Below W0.heap.size W0 wq) (fun i _=>17 - (intOf i).toNat)
      case atStart=>exact⟨0,jm _,rfl,by rw[dR];exact hX7,hM7,hY7,hP7,pR⟩
      case round=>
       clear hM7 hX7 hY7 hP7 pR;obtain⟨k,hk,rfl,hX,hM,hY,hP,aD⟩:=hrel;have HM:=ay hM;have HY:=ay hY;have HPP:=ay hP;by_cases hkt:k<17
       ·have e1:=hX.cell k hkt;rw[upto_at] at e1;have e2:=hM.cell k hkt;have f1:=hX.free k;obtain⟨b0,b1⟩:=Mk b k;obtain⟨b2,b3⟩:=HFB.out k hkt;have HX:=ay hX;clear hX hY hP hM;go_wp2
        go_region
        all_goals
         go_wp2;go_roundw
         case rel=>exact⟨k+1,by omega,by go_num,by rw[<-dh rfl];exact(HX.out.set k _).drew,(HM.out.other iU _).drew,(HY.out.other aR _).drew,(HPP.out.other iU _).drew,(aD.setCell iU _).drew⟩
         case measure=>simp[intOf] <;> omega
       ·obtain rfl:k=17:=by omega
        have hX2:=hX.congr (fJ _ _ (bH _));clear hX hY hP hM;have bf:∀i,i<17->0<=f i+dg 256 b i/\f i+dg 256 b i<=600:=fun i hi=>by have:=Mk b i;have:=HFB.out i hi;omega
        obtain⟨q,hq⟩:∃q,q=pd (iY (sm 256 (fun i=>iG (fun i=>f i+dg 256 b i) (dg 256 R) i 17) 17)):=⟨_,rfl⟩
        have HQC:Hid (∀w:World,Calls Tryz.prog 235 #[.agg (arr .u32 17 (fun i=>f i+dg 256 b i)),.agg (arr .u32 17 (dg 256 R))] w fun e w'=>e=.returned (.agg (arr .u32 17 q))/\Below w.heap.size w w'):=by
         intro w;rw[hq];exact KD _ _ w bf (fun i _=>Mk R i)
        have HQS:Hid (∀i,i<17->0<=q i/\q i<=300):=by rw[hq];exact Om bf (fun i _=>Mk R i)
        have HQA:Hid (sm 256 q 17 % PP=zG R F N (j+1)):=by rw[hq];exact aas aiC.out HBE.out HB2.out HRB.out
        have sw:=aD.size;clear bf hq
        go_wp2_with (first
         | (refine aZ rfl 271 _ rfl .u32 A 17 _ 117 DN Tryz.size271 rfl hX2 ?_)
         | (refine aZ rfl 271 _ rfl .u32 (A+1) 17 _ 117 DN Tryz.size271 rfl HY.out ?_))
        refine(HQC.out _).mono ?_;rintro e w8 ⟨rfl,Ru⟩;have hX8:=hX2.kept Ru;have hY8:=HY.out.kept Ru;have hP8:=HPP.out.kept Ru;have qU:=aD.trans (Ru.mono sw);clear hX2 HY HM HPP aD Ru;go_wp2_with (refine aL rfl 271 _ _ rfl .u32 A 17 _ _ Tryz.size271 rfl rfl hX8 ?_);go_roundw
        case rel=>
         (repeat apply Exists.intro)
         refine⟨?_,rfl⟩;exact⟨j+1,q,by omega,by rw[<-HLL.out];exact HRC.out.congr (fun i hi=>by have:=Vr.out aH;rw[show 16 * (j+1)+i=16 * j+(n0+i) by omega]),HQS.out,HQA.out,hX8.setRow _ _,hY8.aC _ aH _,hP8.aC _ aH _,aB qU aH _⟩
        case measure=>show L - n0<L;omega
    ·obtain⟨L,hL⟩:∃L,L=N - 16 * j:=⟨_,rfl⟩
     rw[<-hL] at hrd;obtain rfl:L=0:=by omega
     obtain rfl:j=(N+15) / 16:=by omega
     obtain⟨la,lc,rfl,d1,d2,d3,d4⟩:=id hrd;clear hrd d3 d4 hL;obtain⟨AC,hAC⟩:∃AC,AC=zG R F N ((N+15) / 16):=⟨_,rfl⟩
     rw[<-hAC] at HTN aiC;have HRC:Hid (∀w,Calls Tryz.prog 236 #[.agg (arr .u32 17 f)] w fun e w'=>e=.returned (.agg (arr .u32 17 (dg 256 AC)))/\Below w.heap.size w w'):=by
      intro w;have h:=zT f w (fun i hi=>by have:=HFB.out i hi;omega)
      rwa [aiC.out] at h
     have s0:=aD.size;clear hAC hY;go_upto_region 23 with(fail)
     refine bN (n:=87) aQ aQ aQ rfl
      (ku [(6,5)]) (gH [(6,5)]) (fun _=>arr .u32 17 (fun _=>0)) (fun _=>(arr .u32 17 (dg 256 (AC+S)))) (fun _=>271) (fun _=>18)
      (fun ii vv _=>(match ii with | 0=>vv=.agg (arr .u32 17 (f)) | 1=>vv=.agg (arr .u32 17 (dg 256 AC)) | 2=>vv=.agg (arr .u8 17 (dg 256 S)) | 3=>vv=.agg (arr .u32 17 (dg 256 S)) | 4=>vv=.agg (arr .u32 17 (dg 256 (AC+S))) | _=>True)) (fun _ _=>True) (fun _ _ _=>trivial) (fun _ _ _ _ _ _ _=>trivial) (fun _ _ _ _ h _=>h)
      (iJ rfl) (fT rfl) ?_ ?_ ?_ ?_
     ·refine dG ?_;refine⟨?_,?_,?_,?_,?_,(fun h=>by cases h),(fun _ h=>by cases h),trivial⟩
      ·intro _ _ a w2 hB hF hd;exact aN <| aW (aF rfl DN rfl Tryz.size271 (hF.same 12 rfl) (hX.below hB hX.lt)) rfl
      ·intro _ _ a w2 hB hF hd;refine aN <| aI _ _ _ rfl Tryz.call236 _ (args1 (hd 0 _ rfl rfl rfl (aj rfl))) aR ((HRC.out w2).mono ?_);rintro e w3 ⟨rfl,hb⟩;exact⟨_,rfl,rfl,hb⟩
      ·intro _ _ a w2 hB hF hd;exact aN <| aW (aF rfl Tryz.underlying268 rfl Tryz.size268 (hF.same 10 rfl) (HP.out.below hB HP.out.lt)) rfl
      ·intro _ _ a w2 hB hF hd;refine aN <| aI _ _ _ rfl Tryz.call234 _ (args1 (hd 2 _ rfl rfl rfl (aj rfl))) aR ((wS S w2).mono ?_);rintro e w3 ⟨rfl,hb⟩;exact⟨_,rfl,rfl,hb⟩
      ·intro _ _ a w2 hB hF hd;refine aN <| aI _ _ _ rfl Tryz.call237 _ (args2 (hd 1 _ rfl rfl rfl (aj rfl)) (hd 3 _ rfl rfl rfl (aj rfl))) aR ((JX AC S w2).mono ?_);rintro e w3 ⟨rfl,hb⟩;exact⟨_,rfl,rfl,hb⟩
     ·refine dG ?_;refine⟨(fun h=>by cases h),(fun h=>by cases h),(fun h=>by cases h),(fun h=>by cases h),(fun h=>by cases h),?_,(fun h=>by cases h),trivial⟩
      ·exact fun _=>⟨rfl,rfl,fun a w2 K h=>bD rfl rfl Tryz.zeroValue271 aR h⟩
     ·refine dG ?_;refine⟨(fun _ h=>by cases h),(fun _ h=>by cases h),(fun _ h=>by cases h),(fun _ h=>by cases h),(fun _ h=>by cases h),(fun _ h=>by cases h),?_,trivial⟩
      ·intro p hp;obtain rfl:5=p:=gJ hp;exact⟨rfl,rfl,⟨_,rfl⟩,aj rfl,fun a w2 b K hB hF hd hx hb h=>bQ rfl rfl Tryz.size271 hx (hd 4 _ rfl rfl rfl (aj rfl)) hb h⟩
     ·intro a w9 blk hB hF hS hv hfin dS;obtain⟨v5,Jt,v5u⟩:=hv 5 _ rfl rfl;have ha:=aO rfl rfl hF [_,_,_,_,_,_,undef] rfl ⟨hS 0 _ rfl rfl rfl,hS 1 _ rfl rfl rfl,hS 2 _ rfl rfl rfl,hS 3 _ rfl rfl rfl,hS 4 _ rfl rfl rfl,v5,trivial,trivial⟩;have f5:=hfin 6 _ 5 rfl rfl;simp only[puts,Act.put,fB,fD,fF] at ha;subst ha;have V5:aK .u32 w9 (blk 5) 17 (dg 256 (AC+S)):=⟨_,f5⟩
      clear hS hv hfin dS hF v5 f5;have Rt:=aD.trans (hB.mono aD.size);have s9:=Rt.size;have hZ9:=(HZW.out.kept Rt)
      have hW9:=HBW.out.trans (Rt.mono HBW.out.size);clear hX HP aD hB;obtain⟨q,hq⟩:∃q,q=blk 5:=⟨_,rfl⟩
      rw[<-hq] at V5 ⊢;clear hq;go_wp2_with (refine aZ rfl 271 _ rfl .u32 q 17 _ 117 DN Tryz.size271 rfl V5 ?_);refine(ML (AC+S) _).mono ?_;rintro e wa ⟨v,rfl,hv,hba⟩;have hZa:=hZ9.kept hba;have akT:=hW9.trans (hba.mono hW9.size);obtain⟨g,c,rfl,q1,q2,q3,q4,hcells,q5⟩:=hv.form aM;have uY:=ay hcells;have hat:=lN (a:=some ⟨g,0,none⟩) (len:=16) (cap:=c) Tryz.underlying118 aM;clear hv hcells q5 hZ9 Rt V5 hba hW9
      go_wp2_with (first
       | (refine oz rfl 118 _ rfl .u8 g 0 16 (dg 256 (AC+S)) 5 Tryz.underlying118 Tryz.size118 rfl (fun i hi=>by rw[qY];exact uY.out i hi) ?_)
       | (refine aL rfl 118 _ _ rfl .u8 (w.heap.size+1) 16 (fun _=>0) _ Tryz.size118 rfl rfl hZa ?_))
      exact bodyPost_ret (bV rfl _ _ .u8 (w.heap.size+1) 16 _ 5 rfl (hZa.setRow _ _) Tryz.underlying118 Tryz.size118) rfl ⟨by rw[HTN.out],aB akT aH _⟩
end Go.Proofs.YtpcjekgfnfjbpaaGreat
